/- Contracts of affine maps of clouds and of the law, part 32; each lemma states its conditions. -/
import Derived.Test.YtjdmodeenbdfpaaGreatW31
set_option linter.unusedSimpArgs false
set_option linter.unusedVariables false
namespace Go.Proofs.YtjdmodeenbdfpaaGreat
open Go Go.Ab List
noncomputable def ac0:Ψ→Option Ψ:=ctr eMp ahL fun _=>[.sc (.bool true)]
theorem aef {c:List (List ByteArray)}(h:cE c=qC (toX c)):c=(toX c).map fun P=>P.map qb:=yk h
theorem aaR (run:aw)(k:Nat)(hk:20≤k)(c:List (List ByteArray))(ms b:List ByteArray)(l:Ω)(hm:ms.length=9)(hl5:l.length=5)(hl:∀ x ∈ l,x<256)(hc:0<c.length)(hck:chk c=0)(hF:uV c)(hs12:∀ p ∈ c,∀ s ∈ p,(bys s).length≤12)(b12:∀ s ∈ b,(bys s).length≤12)(m12:∀ s ∈ ms,(bys s).length≤12)(hnb:c[0].length≤b.length)(hbk:chk [b.take c[0].length]=0)(fr:Ψ)(wr:Ω)(h0:fr.length=282)(h00:nth fr 0=cE c)(h2:nth fr 2=pE b)(h5:nth fr 5 = .ptr 0 0)(h7:nth fr 7 = .ptr 1 0)(h9:nth fr 9=iv c[0].length) :
  ∃ st,af (CC LM) run k (ag 3 mpC) ⟨fr,hp3 b ms l,wr⟩=some (.ret,st)∧bc TT st.fr st.hp Tryz.f9.results.toList=some [.sc (.bool true)]:=by
 have hne:c≠[]:=fun e=>by rw[e] at hc;simp at hc
 obtain⟨q1,q2,q3,q4,q5⟩:=vx hck 12 hs12
 have q3':=q3 hne
 have hcX:=aef q1
 have hh:hdL c=c[0].length:=by
  cases c with
  | nil=>exact absurd rfl hne
  | cons p r=>rfl
 rw[← hh] at hnb hbk h9
 rw[q1] at h00
 generalize hX:toX c=X at *
 generalize hmm:hdL c=m at *
 clear hh
 obtain⟨m1,m3⟩:=q3'
 have hXne:X≠[]:=fun e=>by rw[e] at q5;simp at q5;omega
 have hX64:X.length≤64:=by omega
 have hbt:(b.take m).length=m:=by rw[length_take];omega
 obtain⟨b1,b2⟩:=Ly hbk (n:=12) fun s hs=>b12 s (mem_of_mem_take hs)
 obtain⟨B,hB⟩:∃ B,(b.take m).map rq=B:=⟨_,rfl⟩
 rw[hB] at b1 b2
 have hBl:B.length=m:=by rw[← hB,length_map,hbt]
 have hqB:pE (b.take m)=qL B:=by rw[b1];rfl
 have g4:az LM run 22 [.imm 1 true [pE (b.take m)]] (iv 0):=fun dr hp=>by
  have hFt:Fit [b.take m]:=⟨by simp,fun p hp=>by
   rw[mem_singleton.1 hp,hbt]
   exact⟨by omega,fun s hs=>Nat.le_trans (b12 s (mem_of_mem_take hs)) (by omega)⟩⟩
  have hf:rP [.imm 1 false [pE (b.take m)]]=some [iv 0]:=by
   have:=jf (e:=fun c=>[cE c]) (f:=fun c=>[iv (chk c)]) (fun x y _ _ h=>by rw[jV h]) (x:=[b.take m]) hFt
   rw[hbk] at this
   exact this
  have hs:cU hp 1 [.imm 1 true [pE (b.take m)]] [.imm 1 false [pE (b.take m)]] []:=cU.own (fun _=>rfl) (by simp only[aJ,canon,kA])
  obtain⟨hp',fp,a1,-,-,a4,-⟩:=hs.call (C:=CC LM) (g:=22) (by omega) kH (f:=rP) (fun _=>rfl) hf run dr
  obtain⟨rfl,rfl⟩:=a4 rfl
  exact a1
 obtain⟨fr1,fr2,a1,a2,K2,a10,a11,a12,a13⟩:=ah7 LM run k fr (hp3 b ms l) wr b m hnb g4 h0 h2 h9
 have e0:=K2.len h0
 have e00:=K2.at h00
 have e2:=K2.at h2
 have e5:=K2.at h5
 have e7:=K2.at h7
 have e9:=K2.at h9
 rw[hqB] at a12
 have sp6:ag 6 mpC = .seq (.seq (seq1 (seq1 (ag 6 mpC))) (.block 0 (.loop fl))) (ag 7 mpC):=rfl
 rcases UO run k m ms (l.map u8v) (by omega) hm m12 m3 fr2 (hp3 b ms l) wr e0 e5 e9 a10 a11 a13 rfl rfl (by show 2≤3;omega) with ⟨st,x1,x2⟩| ⟨fr3,hp1,wr1,ps,ids,x1,K3,hJ⟩
 ·refine⟨st,?_,H9 x2⟩
  rw[aQ 3 a1]
  show af (CC LM) run k (ag 6 mpC) _=_
  rw[sp6]
  refine cj ?_
  rw[ar a2];exact x1
 have i0:=K3.len e0
 have i00:=K3.at e00
 have i2:=K3.at e2
 have i5:=K3.at e5
 have i7:=K3.at e7
 have i9:=K3.at e9
 have i12:=K3.at a12
 have hJl:=hJ.l2
 obtain⟨R,hR⟩:∃ R,(List.range m).map (fun i=>(gB ms i m).map rq)=R:=⟨_,rfl⟩
 have hRl:R.length=m:=by rw[← hR];simp
 have hRg:∀ j,j<m→R.getD j []=(gB ms j m).map rq:=fun j hj=>by
  rw[← hR,getD_eq_getElem?_getD,getElem?_map,getElem?_range hj];rfl
 have hrow:∀ j,j<m→gB ms j m=(R.getD j []).map qb∧RbL 13 (R.getD j []):=fun j hj=>by
  rw[hRg j hj]
  exact Ly (hJ.ck j hj) (n:=12) fun s hs=>m12 s (mem_of_mem_drop (mem_of_mem_take hs))
 have hRV:∀ V ∈ R,V.length=m∧RbL 13 V:=fun V hV=>by
  obtain⟨j,hj,rfl⟩:=mem_iff_getElem.1 hV
  have e:=pQ hj
  obtain⟨r1,r2⟩:=hrow j (by omega)
  rw[e] at r1 r2
  refine⟨?_,r2⟩
  have:=np hm (show j<3 by omega) m3
  rw[r1,length_map] at this
  exact this
 obtain⟨ids10,s10,B10⟩:∃ ids10,cU hp1 3 [nth fr3 10] [qC R] ids10∧∀ t ∈ ids10,t<hp1.length:=by
  have h1:=zD hJ.b0 hm m3 m m3
  have e:(List.range m).map (fun i=>pE (gB ms i m))=R.map qL:=by
   rw[← hR,map_map]
   refine map_congr_left fun i hi => ?_
   have hi':i<m:=mem_range.1 hi
   obtain⟨r1,-⟩:=hrow i hi'
   show pE (gB ms i m)=qL ((gB ms i m).map rq)
   rw[← hRg i hi']
   conv=>lhs;rw[r1]
   rfl
  rw[e] at h1
  obtain⟨js,h2,h3⟩:=hJ.r.DH h1 (.inl (hJ.ri _ _ _))
  rw[B3,hRl]
  rw[length_map,length_range] at h2
  exact⟨js,h2,fun t ht=>(h3 t ht).elim (hJ.r.lt t) fun h=>by rw[(mem_replicate.1 h).2];omega⟩
 obtain⟨js11,s11,B11⟩:=hJ.o.DH hJ.os (.inl (hJ.oi _ _ _))
 have hol:(iH m).length=m:=by unfold iH;simp
 rw[show (iH m).take m=iH m by rw[take_of_length_le (by omega)]] at s11
 have s11':cU hp1 3 [nth fr3 11] [qC (iH m)] js11:=by
  rw[hJ.pl] at s11
  rw[B3,hol];exact s11
 obtain⟨fr4,y1,y2⟩:=ae5 LM run k fr3 hp1 wr1 i0
 have K4:=bG _ y1
 have hBg:∀ j (h:j<b.length),j<m→b[j]=qb (B.getD j 0)∧Rb 13 (B.getD j 0):=fun j h hj=>by
  have h1:=Da b1 (j:=j) (by omega)
  rw[getElem_take] at h1
  exact⟨h1,je (k:=12) b2 j⟩
 have hMg:∀ i j (h:j*3+i<ms.length),i<m→j<m→ms[j*3+i]=qb ((R.getD j []).getD i 0)∧Rb 13 ((R.getD j []).getD i 0):=fun i j h hi hj=>by
  obtain⟨r1,r2⟩:=hrow j hj
  have hrl:=np hm (show j<3 by omega) m3
  have h1:=Da r1 (j:=i) (by omega)
  exact⟨by rw[Y6 h hi (by omega)];exact h1,je (k:=12) r2 i⟩
 obtain⟨fr5,hp2,wr2,ids12,z1,K5,z2,z5,z3,z4⟩:=UN run k m b ms B R (by omega) m1 m3 hRl hnb hm hBg hMg fr4 hp1 wr1 (K4.len i0) (K4.at i2) (K4.at i5) (K4.at i9) (K4.at i12) y2 hJ.b0 (by omega)
 have j0:=K5.len (K4.len i0)
 have j00:=K5.at (K4.at i00)
 have j2:=K5.at (K4.at i2)
 have j7:=K5.at (K4.at i7)
 have j9:=K5.at (K4.at i9)
 have j10:=K5.at (K4.at (t:=10) rfl (by kernel_rfl))
 have j11:=K5.at (K4.at (t:=11) rfl (by kernel_rfl))
 obtain⟨fr6,fr7,w1,w2,w3,w4,w5⟩:=ae1 LM run k fr5 hp2 wr2 j0
 have K6:=bG _ w1
 have K7:=bG _ w2
 have hCl:dy (qC X)=some X.length:=xE X
 have hXn0:X.length≠0:=fun e=>hXne (eq_nil_of_length_eq_zero e)
 obtain⟨fr8,hp4,wr4,ids18,ids19,v1,K8,v2,v3,v4,v5⟩:=UL run k m X.length l (by omega) m3 hl5 hl hXn0 fr7 hp2 wr2 (qC X) (K7.len (K6.len j0)) (K7.at (K6.at j00)) hCl (K7.at (K6.at j7)) (K7.at (K6.at j9)) w3 w4 w5 (by rw[z4 1 (by omega)];exact hJ.b1) (by omega)
 have KK:=(K6.mono (v:=ct (.seq (seq1 (ag 8 mpC)) (.seq (seq1 (seq1 (ag 9 mpC))) ll))) fun t ht=>by simp only[ct,Bool.or_eq_false_iff] at ht;exact ht.1).trans ((K7.mono (v:=ct (.seq (seq1 (ag 8 mpC)) (.seq (seq1 (seq1 (ag 9 mpC))) ll))) fun t ht=>by simp only[ct,Bool.or_eq_false_iff] at ht;exact ht.2.1).trans (K8.mono (v:=ct (.seq (seq1 (ag 8 mpC)) (.seq (seq1 (seq1 (ag 9 mpC))) ll))) fun t ht=>by simp only[ct,Bool.or_eq_false_iff] at ht;exact ht.2.2))
 have k0:=KK.len j0
 have k00:=KK.at j00
 have k2:=KK.at j2
 have k7:=KK.at j7
 have k9:=KK.at j9
 have k10:=KK.at j10
 have k11:=KK.at j11
 have k12:=KK.at (t:=12) rfl (by kernel_rfl)
 have S10:cU hp4 3 [nth fr8 10] [qC R] ids10:=by
  rw[k10]
  exact s10.agree fun t ht=>nC (by rw[v5 t (by have:=B10 t ht;omega),z4 t (B10 t ht)])
 have S11:cU hp4 3 [nth fr8 11] [qC (iH m)] js11:=by
  rw[k11]
  exact s11'.agree fun t ht=>by
   have:t<hp1.length:=(B11 t ht).elim (hJ.o.lt t) fun h=>(hJ.ol t h).2.1
   exact nC (by rw[v5 t (by omega),z4 t this])
 have S12:cU hp4 3 [nth fr8 12] [qC (eH R B)] ids12:=by
  rw[k12]
  exact z2.agree fun t ht=>nC (v5 t (z5 t ht))
 have S18:=v2.up 1
 have S19:=v3.up 1
 obtain⟨at',hat⟩:∃ at',(l.take (m+1)).map (· % X.length)=at':=⟨_,rfl⟩
 rw[hat] at S18
 have hatl:at'.length=m+1:=by rw[← hat,length_map,length_take];omega
 have hati:∀ i ∈ at',i<X.length:=fun i hi=>by
  rw[← hat] at hi
  obtain⟨z,-,rfl⟩:=mem_map.1 hi
  exact Nat.mod_lt _ (by omega)
 have hql:4<l.length:=by omega
 have hq:l[4] % X.length<X.length:=Nat.mod_lt _ (by omega)
 generalize hqq:l[4] % X.length=q at *
 have hm3:m=1∨m=2∨m=3:=by omega
 have hVl:∀ V ∈ R,V.length=m:=fun V hV=>(hRV V hV).1
 have hB13:RbL 13 B:=b2
 have hXg:∀ i,i<X.length→(X.getD i []).length=m:=fun i hi=>by rw[pQ hi];exact (q2 _ (getElem_mem hi)).1
 have hoV:∀ V ∈ iH m,V.length=m∧RbL 13 V:=fun V hV=>by
  unfold iH at hV
  obtain⟨i,-,rfl⟩:=mem_map.1 hV
  refine⟨by simp,fun x hx => ?_⟩
  obtain⟨k,-,rfl⟩:=mem_map.1 hx
  by_cases hk:k=i
  ·rw[if_pos hk];exact Rb.one 12
  ·rw[if_neg hk];exact Rb.zero 12
 have okR:Z4 (X,R,B):=⟨fun P hP=>⟨by show R.length≤3;omega,by show R.length≠0;omega,by show B.length=R.length;omega,by rw[hRl];exact (q2 P hP).1,hB13.up (by omega),(q2 P hP).2.up (by omega),fun V hV=>⟨by rw[hRl];exact (hRV V hV).1,(hRV V hV).2.up (by omega)⟩⟩,hXne,hX64⟩
 have okO:Z4 (X,iH m,B):=⟨fun P hP=>⟨by show (iH m).length≤3;omega,by show (iH m).length≠0;omega,by show B.length=(iH m).length;omega,by rw[hol];exact (q2 P hP).1,hB13.up (by omega),(q2 P hP).2.up (by omega),fun V hV=>⟨by rw[hol];exact (hoV V hV).1,(hoV V hV).2.up (by omega)⟩⟩,hXne,hX64⟩
 have hD:jj m 94 (X.map (eG R B)):=Pz m3 hRl hRV hB13 q2
 have hFm:X.map (eG (iH m) B)=X.map (List.zipWith (· + ·) B):=map_congr_left fun P hP=>acx hm3 hBl (q2 P hP).1
 have hE27:jj m 27 (X.map (eG (iH m) B)):=fun P hP=>by
  rw[hFm] at hP
  obtain⟨Q,hQ,rfl⟩:=mem_map.1 hP
  obtain⟨q6,q7⟩:=q2 Q hQ
  refine⟨by rw[length_zipWith];omega,fun x hx => ?_⟩
  rw[mem_iff_getElem] at hx
  obtain⟨i,hi,rfl⟩:=hx
  rw[getElem_zipWith]
  exact (hB13 _ (getElem_mem _)).add (q7 _ (getElem_mem _))
 have hU:jj m 27 (eH R B):=fun P hP=>by
  unfold eH at hP
  rcases mem_cons.1 hP with rfl | hP
  ·exact⟨hBl,hB13.up (by omega)⟩
  ·obtain⟨i,-,rfl⟩:=mem_map.1 hP
   refine⟨by simp[hRl],fun x hx => ?_⟩
   obtain⟨k,hk,rfl⟩:=mem_map.1 hx
   have hk':k<m:=by rw[← hRl];exact mem_range.1 hk
   exact (je (k:=12) hB13 k).add (je (k:=12) (hrow k hk').2 i)
 have hUl:(eH R B).length=m+1:=by unfold eH;simp[hRl]
 have dX:=Wr (k:=12) hm3 q2 hati hatl
 have hri:∀ i ∈ List.range (m+1),i<(eH R B).length:=fun i hi=>by rw[hUl];exact mem_range.1 hi
 have dU:=Wr (k:=26) hm3 hU hri (by simp)
 have dD:=ab5 hm3 hRl hVl hBl hXg hati hatl
 have hmv:∀ i j,i<X.length→j<X.length→dS ((X.map (eG (iH m) B)).getD i []) ((X.map (eG (iH m) B)).getD j [])=dS (X.getD i []) (X.getD j []):=fun i j hi hj=>by
  rw[hFm,pQ (by simpa using hi),pQ (by simpa using hj),pQ hi,pQ hj,getElem_map,getElem_map]
  exact y5 (by rw[(q2 _ (getElem_mem hi)).1,hBl]) (by rw[(q2 _ (getElem_mem hj)).1,hBl])
 have dF:mM (dQ (X.map (eG (iH m) B)) at')=mM (dQ X at'):=by
  congr 1
  unfold dQ
  refine map_congr_left fun i hi => ?_
  cases hae:at' with
  | nil=>rw[hae] at hi;simp at hi
  | cons a r =>
   rw[hae] at hi hati
   exact hmv _ _ (hati i (mem_cons_of_mem _ hi)) (hati a mem_cons_self)
 have hsph:=adI m1 m3 (q2.up (k:=1000) (by omega)) (hE27.up (k:=1000) (by omega)) hXne hX64 (by simp) hmv hatl hati hq
 have lD:(X.map (eG R B)).length=X.length:=by simp
 have lF:(X.map (eG (iH m) B)).length=X.length:=by simp
 have nD:X.map (eG R B)≠[]:=fun e=>by rw[e] at lD;simp at lD;omega
 have nF:X.map (eG (iH m) B)≠[]:=fun e=>by rw[e] at lF;simp at lF;omega
 have nU:eH R B≠[]:=fun e=>by rw[e] at hUl;simp at hUl
 generalize hDD:X.map (eG R B)=DD at *
 generalize hFF:X.map (eG (iH m) B)=FF at *
 generalize eH R B=UU at *
 generalize hdx:mM (dQ X at')=x at *
 generalize hdy:mM (dQ UU (List.range (m+1)))=y at *
 have rx:Rb 1000 x:=dX.mono (by omega)
 have ry:Rb 1000 y:=dU.mono (by omega)
 have rz:Rb 1000 (x*y):=(dX.mul dU).mono (by omega)
 obtain⟨p10,t10⟩:∃ p,nth fr8 10=p:=⟨_,rfl⟩
 obtain⟨p11,t11⟩:∃ p,nth fr8 11=p:=⟨_,rfl⟩
 obtain⟨p12,t12⟩:∃ p,nth fr8 12=p:=⟨_,rfl⟩
 obtain⟨p18,t18⟩:∃ p,nth fr8 18=p:=⟨_,rfl⟩
 obtain⟨p19,t19⟩:∃ p,nth fr8 19=p:=⟨_,rfl⟩
 rw[t10] at S10
 rw[t11] at S11
 rw[t12] at S12
 rw[t18] at S18
 rw[t19] at S19
 obtain⟨fr31,c31,d21⟩:=aeZ LM run k fr8 hp4 wr4 l X.length q hql hl hXn0 (by rw[k00];exact hCl) hqq.symm (by rw[v5 1 (by omega),z4 1 (by omega)];exact hJ.b1) k0 k7
 have K31:=bG _ c31
 have aL_31:=K31.len k0
 have a0_31:=K31.at k00
 have a2_31:=K31.at k2
 have a9_31:=K31.at k9
 have a10_31:=K31.at t10
 have a11_31:=K31.at t11
 have a12_31:=K31.at t12
 have a18_31:=K31.at t18
 have a19_31:=K31.at t19
 obtain⟨hp5,fp32,g32,r5⟩:=F0 okR S10 run
 rw[← hqB,hDD] at g32
 obtain⟨fr32,wr32,c32,d22,d23⟩:=aeY LM run k fr31 hp4 wr4 b m hnb (qC X) p10 (qC DD) hp5 fp32 g32 aL_31 a0_31 a2_31 a9_31 a10_31
 have K32:=bG _ c32
 have aL_32:=K32.len aL_31
 have a0_32:=K32.at a0_31
 have a2_32:=K32.at a2_31
 have a9_32:=K32.at a9_31
 have a11_32:=K32.at a11_31
 have a12_32:=K32.at a12_31
 have a18_32:=K32.at a18_31
 have a19_32:=K32.at a19_31
 have a21_32:=K32.at d21
 obtain⟨hp6,fp33,g33,r6⟩:=F0 okO (S11.agree fun t _=>r5 t) run
 rw[← hqB,hFF] at g33
 obtain⟨fr33,wr33,c33,d24,d25⟩:=aeX LM run k fr32 hp5 wr32 b m hnb (qC X) p11 (qC FF) hp6 fp33 g33 aL_32 a0_32 a2_32 a9_32 a11_32
 have K33:=bG _ c33
 have aL_33:=K33.len aL_32
 have a0_33:=K33.at a0_32
 have a12_33:=K33.at a12_32
 have a18_33:=K33.at a18_32
 have a19_33:=K33.at a19_32
 have a21_33:=K33.at a21_32
 have a22_33:=K33.at d22
 have a23_33:=K33.at d23
 have hr6:∀ t,rdB hp6 t=rdB hp4 t:=fun t=>(r6 t).trans (r5 t)
 have T12:=S12.agree (hp':=hp6) fun t _=>hr6 t
 have T18:=S18.agree (hp':=hp6) fun t _=>hr6 t
 have T19:=S19.agree (hp':=hp6) fun t _=>hr6 t
 obtain⟨fp34,g34⟩:=rJ m1 m3 (q2.up (by omega)) hXne hX64 hatl hati (by rw[hdx];exact rx) (sw hp6 X 2) T18 run
 rw[hdx] at g34
 obtain⟨fr34,wr34,c34,d26,d27⟩:=aeW LM run k fr33 hp6 wr33 (qC X) p18 (qt x) hp6 fp34 g34 aL_33 a0_33 a18_33
 have K34:=bG _ c34
 have aL_34:=K34.len aL_33
 have a0_34:=K34.at a0_33
 have a12_34:=K34.at a12_33
 have a18_34:=K34.at a18_33
 have a19_34:=K34.at a19_33
 have a21_34:=K34.at a21_33
 have a22_34:=K34.at a22_33
 have a23_34:=K34.at a23_33
 have a24_34:=K34.at d24
 have a25_34:=K34.at d25
 obtain⟨fp35,g35⟩:=rJ m1 m3 (hU.up (by omega)) nU (by omega) (by simp) hri (by rw[hdy];exact ry) T12 T19 run
 rw[hdy] at g35
 obtain⟨fr35,wr35,c35,d28,d29⟩:=aeV LM run k fr34 hp6 wr34 p12 p19 (qt y) hp6 fp35 g35 aL_34 a12_34 a19_34
 have K35:=bG _ c35
 have aL_35:=K35.len aL_34
 have a0_35:=K35.at a0_34
 have a18_35:=K35.at a18_34
 have a21_35:=K35.at a21_34
 have a22_35:=K35.at a22_34
 have a23_35:=K35.at a23_34
 have a24_35:=K35.at a24_34
 have a25_35:=K35.at a25_34
 have a26_35:=K35.at d26
 have a27_35:=K35.at d27
 obtain⟨fp36,g36⟩:=rJ m1 m3 hD nD (by omega) hatl (fun i hi=>by rw[lD];exact hati i hi) (by rw[dD];exact rz) (sw hp6 DD 2) T18 run
 rw[dD] at g36
 obtain⟨fr36,wr36,c36,d30,d31⟩:=aeU LM run k fr35 hp6 wr35 (qC DD) p18 (qt (x*y)) hp6 fp36 g36 aL_35 a22_35 a18_35
 have K36:=bG _ c36
 have aL_36:=K36.len aL_35
 have a0_36:=K36.at a0_35
 have a18_36:=K36.at a18_35
 have a21_36:=K36.at a21_35
 have a23_36:=K36.at a23_35
 have a24_36:=K36.at a24_35
 have a25_36:=K36.at a25_35
 have a26_36:=K36.at a26_35
 have a27_36:=K36.at a27_35
 have a28_36:=K36.at d28
 have a29_36:=K36.at d29
 obtain⟨fp37,g37⟩:=rJ m1 m3 (hE27.up (by omega)) nF (by omega) hatl (fun i hi=>by rw[lF];exact hati i hi) (by rw[dF];exact rx) (sw hp6 FF 2) T18 run
 rw[dF] at g37
 obtain⟨fr37,wr37,c37,d32,d33⟩:=aeT LM run k fr36 hp6 wr36 (qC FF) p18 (qt x) hp6 fp37 g37 aL_36 a24_36 a18_36
 have K37:=bG _ c37
 have aL_37:=K37.len aL_36
 have a0_37:=K37.at a0_36
 have a18_37:=K37.at a18_36
 have a21_37:=K37.at a21_36
 have a23_37:=K37.at a23_36
 have a24_37:=K37.at a24_36
 have a25_37:=K37.at a25_36
 have a26_37:=K37.at a26_36
 have a27_37:=K37.at a27_36
 have a28_37:=K37.at a28_36
 have a29_37:=K37.at a29_36
 have a30_37:=K37.at d30
 have a31_37:=K37.at d31
 obtain⟨fp38,g38⟩:=Dg m3 (q2.up (by omega)) hX64 hatl (sw hp6 X 2) T18 (q:=q) run
 obtain⟨fr38,wr38,c38,d34,d35⟩:=aeS LM run k fr37 hp6 wr37 (qC X) p18 _ _ (iv q) hp6 fp38 g38 aL_37 a0_37 a18_37 a21_37
 have K38:=bG _ c38
 have aL_38:=K38.len aL_37
 have a18_38:=K38.at a18_37
 have a21_38:=K38.at a21_37
 have a23_38:=K38.at a23_37
 have a24_38:=K38.at a24_37
 have a25_38:=K38.at a25_37
 have a26_38:=K38.at a26_37
 have a27_38:=K38.at a27_37
 have a28_38:=K38.at a28_37
 have a29_38:=K38.at a29_37
 have a30_38:=K38.at a30_37
 have a31_38:=K38.at a31_37
 have a32_38:=K38.at d32
 have a33_38:=K38.at d33
 obtain⟨fp39,g39⟩:=Dg m3 hE27 (by omega) hatl (sw hp6 FF 2) T18 (q:=q) run
 rw[hsph] at g39
 obtain⟨fr39,wr39,c39,d36,d37⟩:=aeR LM run k fr38 hp6 wr38 (qC FF) p18 _ _ (iv q) hp6 fp39 g39 aL_38 a24_38 a18_38 a21_38
 have K39:=bG _ c39
 have aL_39:=K39.len aL_38
 have a23_39:=K39.at a23_38
 have a25_39:=K39.at a25_38
 have a26_39:=K39.at a26_38
 have a27_39:=K39.at a27_38
 have a28_39:=K39.at a28_38
 have a29_39:=K39.at a29_38
 have a30_39:=K39.at a30_38
 have a31_39:=K39.at a31_38
 have a32_39:=K39.at a32_38
 have a33_39:=K39.at a33_38
 have a34_39:=K39.at d34
 have a35_39:=K39.at d35
 have hval:∀ z:Rat,Rb 1000 z→az LM run 23 [.sc (.string (qb z))] (.sc (.bool true)):=fun z hz=>by
  have:=XK (L:=LM) rfl run (qb z) (Nat.le_trans (sN hz) (by omega))
  rw[jd ⟨z,rfl,hz⟩] at this
  exact this
 have gtm:=aj0 (L:=LM) rfl run rx ry (by omega)
 have hez:∀ z:Rat,fc .eql (qb z) (qb z)=some (.bool true):=fun z=>by rw[afY,decide_eq_true rfl]
 obtain⟨st,x1',x2'⟩:=afb LM run k fr39 hp6 wr39 (qb x) (qb y) (qb (x*y)) _ _ (hez _) (hez _) (hval x rx) (hval y ry) gtm aL_39 a23_39 a25_39 a26_39 a27_39 a28_39 a29_39 a30_39 a31_39 a32_39 a33_39 a34_39 a35_39 d36 d37
 refine⟨st,?_,x2'⟩
 have sp7:ag 7 mpC = .seq (.seq (seq1 (seq1 (ag 7 mpC))) (.block 2 (.loop gN))) (ag 8 mpC):=rfl
 have sp8:ag 8 mpC = .seq (seq1 (ag 8 mpC)) (ag 9 mpC):=rfl
 have sp9:ag 9 mpC = .seq (.seq (seq1 (seq1 (ag 9 mpC))) (.block 6 (.loop ll))) (ag 10 mpC):=rfl
 have sp10:ag 10 mpC = .seq (seq1 (ag 10 mpC)) (ag 11 mpC):=rfl
 have sp11:ag 11 mpC = .seq (seq1 (ag 11 mpC)) (ag 12 mpC):=rfl
 have sp12:ag 12 mpC = .seq (seq1 (ag 12 mpC)) (ag 13 mpC):=rfl
 have sp13:ag 13 mpC = .seq (seq1 (ag 13 mpC)) (ag 14 mpC):=rfl
 have sp14:ag 14 mpC = .seq (seq1 (ag 14 mpC)) (ag 15 mpC):=rfl
 have sp15:ag 15 mpC = .seq (seq1 (ag 15 mpC)) (ag 16 mpC):=rfl
 have sp16:ag 16 mpC = .seq (seq1 (ag 16 mpC)) (ag 17 mpC):=rfl
 have sp17:ag 17 mpC = .seq (seq1 (ag 17 mpC)) (ag 18 mpC):=rfl
 have sp18:ag 18 mpC = .seq (seq1 (ag 18 mpC)) (ag 19 mpC):=rfl
 rw[aQ 3 a1]
 show af (CC LM) run k (ag 6 mpC) _=_
 rw[sp6,ar (by rw[ar a2];exact x1),sp7,ar (by rw[ar y1];exact z1),sp8,ar w1,sp9,ar (by rw[ar w2];exact v1),sp10,ar c31,sp11,ar c32,sp12,ar c33,sp13,ar c34,sp14,ar c35,sp15,ar c36,sp16,ar c37,sp17,ar c38,sp18,ar c39]
 exact x1'
theorem Ol:Ab.Spec base.P 9 ac0:=Ab.Spec.bN (C:=CC LM) (cP ai9) fun args rs h=>by
 obtain⟨⟨c,ms,b,l⟩,⟨hB,hBc,hm,hBb,hl5,hl⟩,rfl,rfl⟩:=cV h
 dsimp only at hB hBc hm hBb hl5 hl
 show ∃ k rs1 hp1 wr rs2 ids,runK (CC LM) k 9 [cE c,.agg (ms.flatMap es),pE b,.agg (l.map u8v)] []=_∧_∧WkL rs2 [.sc (.bool true)]
 have fin:∀ {st:St},af (CC LM) (runK (CC LM) 20) 20 mpC ⟨entry 282 [cE c,.agg (ms.flatMap es),pE b,.agg (l.map u8v)],[],[]⟩=some (.ret,st)→bc TT st.fr st.hp Tryz.f9.results.toList=some [.sc (.bool true)]→∃ k rs1 hp1 wr rs2 ids,runK (CC LM) k 9 [cE c,.agg (ms.flatMap es),pE b,.agg (l.map u8v)] []=some (rs1,hp1,wr)∧bj (snap hp1 bp) rs1=some (rs2,ids)∧WkL rs2 [.sc (.bool true)]:=by
  intro st x1 x2
  exact⟨21,_,_,_,_,_,aV CO rfl x1 x2,rfl,Wk.refl rfl,trivial⟩
 have sp0:mpC = .seq (seq1 mpC) (ag 1 mpC):=rfl
 have sp1:ag 1 mpC = .seq (seq1 (ag 1 mpC)) (ag 2 mpC):=rfl
 have sp2:ag 2 mpC = .seq (seq1 (ag 2 mpC)) (ag 3 mpC):=rfl
 have sp3:ag 3 mpC = .seq (seq1 (ag 3 mpC)) (ag 4 mpC):=rfl
 have idU:∀ l:Ω,bd (l.map u8v)=true:=fun l=>by
  induction l with
  | nil=>rfl
  | cons x r ih=>rw[map_cons,bd,ih];rfl
 obtain⟨fr0,wr0,a1,a2,a3,a4,a5,a6⟩:=ah6 LM (runK (CC LM) 20) 20 (cE c) (pE b) (ms.flatMap es) (l.map u8v) (by rw[Cl];exact hm) (by rw[length_map];exact hl5) (uP.toEl.N4 ms) (idU l)
 have g1:=ahb (L:=LM) rfl (runK (CC LM) 20) c hB
 have g2:=agY (L:=LM) rfl (runK (CC LM) 20) c hBc hB
 have g3:=Mg (l:=l) hm hBb (runK (CC LM) 20)
 have g4:uN c=false→az LM (runK (CC LM) 20) 22 [cE c] (iv (chk c)):=fun hf=>ag1 (L:=LM) rfl _ c (E5 hf).fit
 have g5:=acJ (L:=LM) rfl (runK (CC LM) 20)
 obtain⟨fr1,hp1,wr1,b1,b2,b3⟩:=ah5 LM (runK (CC LM) 20) 20 c b ms l hm _ _ _ _ fr0 wr0 g1 g2 g3 g4 g5 a2 a3 a4 a5
 have K1:=bG _ b1
 have d0:=K1.len a2
 cases hE:(uN c || !kf c || !kf (tin ms b) || decide (chk c≠0) || decide (c.length=0)) with
 | true =>
  rw[hE] at b2
  obtain⟨st,x1,x2⟩:=ah4 LM (runK (CC LM) 20) 20 fr1 hp1 wr1 g5 d0 b2
  refine fin (st:=st) ?_ (H9 x2)
  rw[sp0,ar a1,sp1]
  refine cj ?_
  rw[UK,ar b1];exact x1
 | false =>
  rw[hE] at b2
  simp only[Bool.or_eq_false_iff,Bool.not_eq_false',decide_eq_false_iff_not,Classical.not_not] at hE
  obtain⟨⟨⟨⟨e1,e2⟩,e3⟩,e4⟩,e5⟩:=hE
  have hhp:=b3 e1 e2
  subst hhp
  have hc:0<c.length:=by omega
  obtain⟨t1,t2⟩:=adG hm e3
  have d00:=K1.at a3
  have d2:=K1.at a4
  have d5:=K1.at a5
  have d7:=K1.at a6
  have r2:=afa LM (runK (CC LM) 20) 20 fr1 (hp3 b ms l) wr1 b2
  obtain⟨fr3,r3,f9⟩:=ah3 LM (runK (CC LM) 20) 20 fr1 (hp3 b ms l) wr1 c hc d0 d00
  have K3:=bG _ r3
  have f0:=K3.len d0
  have f00:=K3.at d00
  have f2:=K3.at d2
  have f5:=K3.at d5
  have f7:=K3.at d7
  have go:∀ {st:St},af (CC LM) (runK (CC LM) 20) 20 (ag 3 mpC) ⟨fr3,hp3 b ms l,wr1⟩=some (.ret,st)→af (CC LM) (runK (CC LM) 20) 20 mpC ⟨entry 282 [cE c,.agg (ms.flatMap es),pE b,.agg (l.map u8v)],[],[]⟩=some (.ret,st):=fun x=>by
   rw[sp0,ar a1,sp1,ar (by rw[UK,ar b1];exact r2),sp2,ar r3]
   exact x
  by_cases hb:b.length<c[0].length∨chk [b.take c[0].length]≠0
  ·have hg:c[0].length≤b.length→az LM (runK (CC LM) 20) 22 [.imm 1 true [pE (b.take c[0].length)]] (iv (chk [b.take c[0].length])):=fun hle dr hp=>by
    have hm3:=(vx e4 12 (JT e2)).2.2.1 (fun e=>by rw[e] at hc;simp at hc)
    have hh:hdL c=c[0].length:=by
     cases c with
     | nil=>simp at hc
     | cons p r=>rfl
    have hFt:Fit [b.take c[0].length]:=⟨by simp,fun p hp=>by
     rw[mem_singleton.1 hp,length_take]
     exact⟨by omega,fun s hs=>Nat.le_trans (t1 s (mem_of_mem_take hs)) (by omega)⟩⟩
    have hf:rP [.imm 1 false [pE (b.take c[0].length)]]=some [iv (chk [b.take c[0].length])] :=
     jf (e:=fun c=>[cE c]) (f:=fun c=>[iv (chk c)]) (fun x y _ _ h=>by rw[jV h]) (x:=[b.take c[0].length]) hFt
    have hs:cU hp 1 [.imm 1 true [pE (b.take c[0].length)]] [.imm 1 false [pE (b.take c[0].length)]] []:=cU.own (fun _=>rfl) (by simp only[aJ,canon,kA])
    obtain⟨hp',fp,x1,-,-,x4,-⟩:=hs.call (C:=CC LM) (g:=22) (by omega) kH (f:=rP) (fun _=>rfl) hf (runK (CC LM) 20) dr
    obtain⟨rfl,rfl⟩:=x4 rfl
    exact x1
   obtain⟨fr',x1,x2⟩:=Oi LM (runK (CC LM) 20) 20 fr3 (hp3 b ms l) wr1 b _ _ hb hg f0 f2 f9
   refine fin (go (st:=⟨fr',hp3 b ms l,wr1⟩) ?_) (H9 x2)
   rw[sp3]
   exact cj x1
  ·have hb1:c[0].length≤b.length:=by
    rcases Nat.lt_or_ge b.length c[0].length with h | h
    ·exact absurd (.inl h) hb
    ·exact h
   have hb2:chk [b.take c[0].length]=0:=Classical.byContradiction fun h=>hb (.inr h)
   obtain⟨st,x1,x2⟩:=aaR (runK (CC LM) 20) 20 (Nat.le_refl _) c ms b l hm hl5 hl hc e4 (E5 e1) (JT e2) t1 t2 hb1 hb2 fr3 wr1 f0 f00 f2 f5 f7 f9
   exact fin (go x1) x2
theorem aaX (p:MpA)(h:ahL p):ac0 (eMp p)=some [.sc (.bool true)]:=jf (fun _ _ _ _ _=>rfl) h
theorem abn (p:MpA):bM (eMp p)=true:=by
 simp only[eMp,bM,cE,pE,dj,PV.cF,Bool.and_true,Bool.true_and]
 rw[uP.toEl.abm,pP];rfl
end Go.Proofs.YtjdmodeenbdfpaaGreat
