/- Contracts of fractions, clouds and predicates, part 38 of the proof; each lemma states its own conditions. -/
import Derived.Test.YtjdmodeenbdfpaaGreatQ37
set_option linter.unusedSimpArgs false
set_option linter.unusedVariables false
namespace Go.Proofs.YtjdmodeenbdfpaaGreat
open Go Go.Ab
theorem Aj:base.F.get 98=some Tryz.f98:=by kernel_rfl
theorem Wu:base.shared 98=false:=by kernel_rfl
noncomputable def wxC:Code:=Tryz.f98.body.getD .skip
noncomputable def wxO:Code:=(aF (seq1 (ah 3 wxC))).getD .skip
noncomputable def wxI:Code:=(aF wxO).getD .skip
def blk:Code→Code
 | .block _ c=>c
 | c=>c
noncomputable def aa6:Code:=seq1 wxO
noncomputable def aa5:Code:=seq1 (cB wxO)
noncomputable def VS:Code:=seq1 (blk (seq1 (cB (cB wxO))))
noncomputable def VR:Code:=seq1 (cB (blk (seq1 (cB (cB wxO)))))
noncomputable def Ou:Code:=cB (cB (cB wxO))
theorem aa4:wxO = .seq aa6 (.seq aa5 (.seq (.block 1 (.seq VS (.seq VR (.block 2 (.loop wxI))))) Ou)):=rfl
def WF (fr:List PV)(l:List Nat)(i:Nat):Prop:=fr.length=81∧nth fr 1 = .ptr 0 0∧nth fr 19=aL l∧nth fr 20=iv l.length∧nth fr 21=iv i
theorem VT (L:Lst)(run:aq)(k:Nat)(fr:List PV)(hp:List Blk)(wr:List Nat)(l:List Nat)(i:Nat)(h:WF fr l i)(h25:nth fr 25=iv 9) :
  ∃ fr',af (CC L) run k wxI ⟨fr,hp,wr⟩=some (.exit 2,⟨fr',hp,wr⟩)∧WF fr' l i∧nth fr' 3=nth fr 3:=by
 obtain⟨h0,h1,h19,h20,h21⟩:=h
 simp only[iv] at h25
 simp[WF,wxI,wxO,wxC,Tryz.f98,ah,seq1,aF,af,aH,an,ao,aG,ag,ai,aj,ak,aC,az,FP.none,aY,au,bf,av,aa,ae,ab,and_assoc,h0,h1,h19,h20,h21,h25]
set_option maxHeartbeats 1000000 in
theorem KD (L:Lst)(run:aq)(k:Nat)(fr:List PV)(hp:List Blk)(wr:List Nat)(l out:List Nat)(i c x:Nat)(hx:x≤4294967295)(hc:c<9)(h9:out.length<90000000)(h:WF fr l i)(h25:nth fr 25=iv c)(h5:nth fr 5 = .sc (.int .u32 (x:Int)))(hO:dk u8v 1 hp out (nth fr 3)) :
  ∃ fr' hp' wr',af (CC L) run k wxI ⟨fr,hp,wr⟩=some (.normal,⟨fr',hp',wr'⟩)∧WF fr' l i∧nth fr' 25=iv (c+1)∧nth fr' 5 = .sc (.int .u32 ((x / 10:Nat):Int))∧dk u8v 1 hp' (out++[x % 10+48]) (nth fr' 3)∧aZ hp' 0=aZ hp 0:=by
 obtain⟨h0,h1,h19,h20,h21⟩:=h
 obtain⟨d,hd⟩:∃ d,d=x % 10:=⟨_,rfl⟩
 obtain⟨q,hq⟩:∃ q,q=x / 10:=⟨_,rfl⟩
 rw[← hd,← hq]
 have hd9:d<10:=by rw[hd];exact Nat.mod_lt _ (by decide)
 have hq9:q≤4294967295:=by rw[hq];exact Nat.le_trans (Nat.div_le_self _ _) hx
 have hw3:bA .u32 (q:Int)=(q:Int):=ch .u32 q (im hq9)
 clear hx hq9
 obtain⟨b,hb⟩:∃ b,b=d+48:=⟨_,rfl⟩
 have hb9:b≤255:=by clear hd hq;omega
 rw[← hb]
 obtain⟨p',hp',fp,g1,g2,g3⟩:=hO.app b (by clear hd hq;omega)
 have g4:=g3 0 (by decide)
 have hw1:bA .u32 (48+(d:Int))=(b:Int):=by rw[show (48+(d:Int))=(b:Int) by clear hd hq;omega];exact ch .u32 b (im (Nat.le_trans hb9 (by decide)))
 have hw2:bA .u8 (b:Int)=(b:Int):=ch .u8 b hb9
 have hw4:=bJ c (Nat.lt_trans hc (by decide))
 have hc2:(c:Int)<9:=by clear hd hq;omega
 have htm:(x:Int).tmod 10=(d:Int):=by rw[hd];rfl
 have htq:(x:Int) / 10=(q:Int):=by rw[hq];rfl
 clear hd hq
 have hlX:=JF b
 simp only[iv] at h25 ⊢
 simp[WF,wxI,wxO,wxC,Tryz.f98,ah,seq1,aF,af,aH,an,ao,aG,ag,ai,aj,ak,aC,az,FP.none,aY,au,bf,av,aa,ae,ab,bh,and_assoc,bc,kS,h0,h1,h19,h20,h21,h25,h5,hc2,htm,htq,u32,u8T,dy,hw1,hw2,hw3,hw4,hlX,Jc,rI,pc,sU8,bU8,zU8,bZ,g1,g2,g4]
theorem BL (L:Lst)(run:aq)(k:Nat)(l:List Nat)(i:Nat):∀ (n c x:Nat) (fr:List PV) (hp:List Blk) (wr out:List Nat),c+n=9→x≤4294967295→out.length+n<90000000→WF fr l i→nth fr 25=iv c→nth fr 5 = .sc (.int .u32 (x:Int))→dk u8v 1 hp out (nth fr 3) →
  ∃ (fr':List PV) (hp':List Blk) (wr':List Nat),ca (af (CC L) run k wxI) (n+1) ⟨fr,hp,wr⟩=some (.exit 2,⟨fr',hp',wr'⟩)∧WF fr' l i∧dk u8v 1 hp' (out++(T.cX n x).map (· + 48)) (nth fr' 3)∧aZ hp' 0=aZ hp 0
 | 0,c,x,fr,hp,wr,out,hc,hx,h9,h,h25,h5,hO=>by
  have:c=9:=by omega
  subst this
  obtain⟨fr',q1,q2,q3⟩:=VT L run k fr hp wr l i h h25
  refine⟨fr',hp,wr,bz q1,q2,?_,rfl⟩
  rw[q3]
  simpa [T.cX] using hO
 | n+1,c,x,fr,hp,wr,out,hc,hx,h9,h,h25,h5,hO=>by
  obtain⟨fr1,hp1,wr1,q1,q2,q3,q4,q5,q6⟩:=KD L run k fr hp wr l out i c x hx (by omega) (by omega) h h25 h5 hO
  obtain⟨fr',hp',wr',s1,s2,s3,s4⟩:=BL L run k l i n (c+1) (x / 10) fr1 hp1 wr1 _ (by omega) (Nat.le_trans (Nat.div_le_self _ _) hx) (by simp;omega) q2 q3 q4 q5
  refine⟨fr',hp',wr',by rw[bU q1];exact s1,s2,?_,by rw[s4,q6]⟩
  rw[List.append_assoc] at s3
  exact s3
theorem Nu {C:Cfg}{run:aq}{k:Nat}{a b c:Code}{st st':St}(h:af C run k (.seq a b) st=some (.normal,st')):af C run k (.seq a (.seq b c)) st=af C run k c st':=by
 simp only[af] at h ⊢
 cases e:af C run k a st with
 | none=>rw[e] at h;cases h
 | some r =>
  obtain⟨x,s⟩:=r
  rw[e] at h
  cases x with
  | normal=>simp only at h ⊢;rw[h]
  | _=>simp at h
theorem VQ (L:Lst)(run:aq)(k:Nat)(fr:List PV)(hp:List Blk)(wr:List Nat)(l:List Nat)(h:WF fr l l.length) :
  ∃ fr',af (CC L) run k wxO ⟨fr,hp,wr⟩=some (.exit 0,⟨fr',hp,wr⟩)∧WF fr' l l.length∧nth fr' 3=nth fr 3:=by
 obtain⟨h0,h1,h19,h20,h21⟩:=h
 simp only[iv] at h20 h21
 simp[WF,iv,wxO,wxC,Tryz.f98,ah,seq1,aF,af,aH,an,ao,aG,ag,ai,aj,ak,aC,az,FP.none,aY,au,bf,aa,ae,ab,and_assoc,h0,h1,h19,h20,h21]
theorem aev (L:Lst)(run:aq)(k:Nat)(fr:List PV)(hp:List Blk)(wr:List Nat)(l:List Nat)(i:Nat)(hi:i<l.length)(h:WF fr l i) :
  ∃ fr1 fr',af (CC L) run k aa6 ⟨fr,hp,wr⟩=some (.normal,⟨fr1,hp,wr⟩)∧af (CC L) run k aa5 ⟨fr1,hp,wr⟩=some (.normal,⟨fr1,hp,wr⟩)∧af (CC L) run k (.seq VS VR) ⟨fr1,hp,wr⟩=some (.normal,⟨fr',hp,wr⟩)∧WF fr' l i∧nth fr' 25=iv 0∧nth fr' 5 = .sc (.int .u32 (l[i]:Int))∧nth fr' 3=nth fr 3:=by
 obtain⟨h0,h1,h19,h20,h21⟩:=h
 have hd:=eK l i hi
 have e1:aL l = .imm l.length false (l.map dg):=rfl
 have e2:dg l[i] = .sc (.int .u32 (l[i]:Int)):=rfl
 rw[e1] at h19
 rw[e2] at hd
 generalize l[i]=d at *
 simp only[iv] at h20 h21
 refine⟨js fr 22 (.sc (.bool true)),?_⟩
 simp[WF,e1,iv,aa6,aa5,VS,VR,blk,cB,wxO,wxC,Tryz.f98,ah,seq1,aF,af,aH,an,ao,aG,ag,ai,aj,ak,aC,az,FP.none,aY,au,bf,av,bg,bk,partOf,aa,ae,ab,bh,and_assoc,h0,h1,h19,h20,h21,hi,hd,uD,s32,a32,aU]
theorem aeu (L:Lst)(run:aq)(k:Nat)(fr:List PV)(hp:List Blk)(wr:List Nat)(l:List Nat)(i:Nat)(hi:i<1000000)(h:WF fr l i) :
  ∃ fr',af (CC L) run k Ou ⟨fr,hp,wr⟩=some (.normal,⟨fr',hp,wr⟩)∧WF fr' l (i+1)∧nth fr' 3=nth fr 3:=by
 obtain⟨h0,h1,h19,h20,h21⟩:=h
 have hw:=bJ i (by omega)
 simp only[iv] at h20 h21
 simp[WF,iv,Ou,cB,wxO,wxC,Tryz.f98,ah,seq1,aF,af,aH,an,ao,aG,ag,ai,aj,ak,aC,az,FP.none,aY,au,bf,av,aa,ae,ab,and_assoc,h0,h1,h19,h20,h21,hw]
theorem BK (L:Lst)(run:aq)(k:Nat)(hk:10≤k)(l:List Nat)(hl:Dok l)(h9:l.length<1000000):∀ (n i:Nat) (fr:List PV) (hp:List Blk) (wr out:List Nat),i+n=l.length→out.length=9*i→WF fr l i→dk u8v 1 hp out (nth fr 3) →
  ∃ (fr':List PV) (hp':List Blk) (wr':List Nat),ca (af (CC L) run k wxO) (n+1) ⟨fr,hp,wr⟩=some (.exit 0,⟨fr',hp',wr'⟩)∧WF fr' l l.length∧dk u8v 1 hp' (out++((l.drop i).flatMap (T.cX 9)).map (· + 48)) (nth fr' 3)∧aZ hp' 0=aZ hp 0
 | 0,i,fr,hp,wr,out,hin,ho,h,hO=>by
  have:i=l.length:=by omega
  subst this
  obtain⟨fr',q1,q2,q3⟩:=VQ L run k fr hp wr l h
  refine⟨fr',hp,wr,bz q1,q2,?_,rfl⟩
  rw[q3]
  simpa using hO
 | n+1,i,fr,hp,wr,out,hin,ho,h,hO=>by
  have hi:i<l.length:=by omega
  obtain⟨fr1,fr2,a1,a2,a3,a4,a5,a6,a7⟩:=aev L run k fr hp wr l i hi h
  have hd:=hl.get hi
  obtain⟨fr3,hp3,wr3,b1,b2,b3,b4⟩:=BL L run k l i 9 0 l[i] fr2 hp wr out (by omega) (by omega) (by omega) a4 a5 a6 (by rw[a7];exact hO)
  obtain⟨fr4,c1,c2,c3⟩:=aeu L run k fr3 hp3 wr3 l i (by omega) b2
  have hgo:af (CC L) run k wxO ⟨fr,hp,wr⟩=some (.normal,⟨fr4,hp3,wr3⟩):=by
   rw[aa4,aw a1,aw a2]
   have hb1:=bF (i:=2) (bT b1 hk)
   have hb2:af (CC L) run k (.seq VS (.seq VR (.block 2 (.loop wxI)))) ⟨fr1,hp,wr⟩=some (.normal,⟨fr3,hp3,wr3⟩):=by
    rw[Nu a3];exact hb1
   rw[aw (fA hb2)]
   exact c1
  obtain⟨fr',hp',wr',s1,s2,s3,s4⟩:=BK L run k hk l hl h9 n (i+1) fr4 hp3 wr3 (out++(T.cX 9 l[i]).map (· + 48)) (by omega) (by rw[List.length_append,List.length_map,T.di];omega) c2 (by rw[c3];exact b3)
  refine⟨fr',hp',wr',by rw[bU hgo];exact s1,s2,?_,by rw[s4,b4]⟩
  rw[List.append_assoc] at s3
  rw[List.drop_eq_getElem_cons hi,List.flatMap_cons,List.map_append]
  exact s3
noncomputable def wxT:Code:=(aF (seq1 (ah 4 wxC))).getD .skip
theorem tT (l:List Nat)(i:Nat)(h:i<l.length):(br (l.map u8v) i).head?=some (.sc (.int .u8 (at0 l i:Int))):=by
 rw[ku l i h,cY h];rfl
theorem VN (L:Lst)(run:aq)(k:Nat)(fr:List PV)(hp:List Blk)(wr:List Nat)(lz:List Nat)(id n:Nat)(hn:n+1≤lz.length)(hn9:n<100000000)(hz:at0 lz n≠48)(h0:fr.length=81)(h1:nth fr 1 = .ptr 0 0)(h3:nth fr 3 = .own id 1 0 (n+1) false)(hb:aZ hp id=some ⟨.live,lz.map u8v⟩) :
  ∃ fr',af (CC L) run k wxT ⟨fr,hp,wr⟩=some (.exit 4,⟨fr',hp,wr⟩)∧fr'.length=81∧nth fr' 1 = .ptr 0 0∧nth fr' 3 = .own id 1 0 (n+1) false:=by
 have hd:=tT lz n (by omega)
 have hw:bA .i64 (n:Int)=(n:Int):=ch .i64 n (hiI (by omega))
 have hz1:((at0 lz n:Int) == 48)=false:=by rw[beq_eq_false_iff_ne];omega
 generalize at0 lz n=a at *
 have hz2 : ¬ ((a:Int)=48):=by omega
 simp[wxT,wxC,Tryz.f98,ah,seq1,aF,af,aH,an,ao,aG,ag,ai,aj,ak,aC,az,FP.none,aY,au,bf,av,bK,bg,bk,partOf,aa,ae,ab,bh,hD,h0,h1,h3,hb,hd,hw,hz1,pc,sU8,a8,aU]
theorem KA (L:Lst)(run:aq)(k:Nat)(fr:List PV)(hp:List Blk)(wr:List Nat)(lz:List Nat)(id n:Nat)(hn:n+1≤lz.length)(hn9:n<100000000)(hz:at0 lz n=48)(h0:fr.length=81)(h1:nth fr 1 = .ptr 0 0)(h3:nth fr 3 = .own id 1 0 (n+1) false)(hb:aZ hp id=some ⟨.live,lz.map u8v⟩) :
  ∃ fr',af (CC L) run k wxT ⟨fr,hp,wr⟩=some (.normal,⟨fr',hp,wr⟩)∧fr'.length=81∧nth fr' 1 = .ptr 0 0∧nth fr' 3 = .own id 1 0 n false:=by
 have hd:=tT lz n (by omega)
 have hw:bA .i64 (n:Int)=(n:Int):=ch .i64 n (hiI (by omega))
 rw[hz] at hd
 simp[wxT,wxC,Tryz.f98,ah,seq1,aF,af,aH,an,ao,aG,ag,ai,aj,ak,aC,az,FP.none,aY,au,bf,av,bK,bg,bk,partOf,aa,ae,ab,bh,hD,h0,h1,h3,hb,hd,hw,pc,sU8,a8,aU,dC,iJ,bnd,fN,gE]
theorem BI (L:Lst)(run:aq)(k:Nat)(hp:List Blk)(wr:List Nat)(lz:List Nat)(id:Nat)(hb:aZ hp id=some ⟨.live,lz.map u8v⟩):∀ (n:Nat) (fr:List PV),n+1≤lz.length→n<100000000→(∃ m,m<n+1∧at0 lz m≠48)→fr.length=81→nth fr 1 = .ptr 0 0→nth fr 3 = .own id 1 0 (n+1) false →
  ∃ fr' c,ca (af (CC L) run k wxT) (n+1) ⟨fr,hp,wr⟩=some (.exit 4,⟨fr',hp,wr⟩)∧fr'.length=81∧nth fr' 1 = .ptr 0 0∧nth fr' 3 = .own id 1 0 (c+1) false∧c≤n∧at0 lz c≠48∧∀ j,c<j→j<n+1→at0 lz j=48
 | n,fr,hn,hn9,hm,h0,h1,h3=>by
  by_cases hz:at0 lz n=48
  ·obtain⟨m,hm1,hm2⟩:=hm
   cases n with
   | zero =>
    have:m=0:=by omega
    subst this
    exact absurd hz hm2
   | succ n =>
    have hmn:m≠n+1:=fun e=>hm2 (by rw[e];exact hz)
    obtain⟨fr1,q1,q2,q3,q4⟩:=KA L run k fr hp wr lz id (n+1) hn hn9 hz h0 h1 h3 hb
    obtain⟨fr',c,s1,s2,s3,s4,s5,s6,s7⟩:=BI L run k hp wr lz id hb n fr1 (by omega) (by omega) ⟨m,by omega,hm2⟩ q2 q3 q4
    refine⟨fr',c,by rw[bU q1];exact s1,s2,s3,s4,by omega,s6,fun j hj hj2 => ?_⟩
    by_cases e:j=n+1
    ·rw[e];exact hz
    ·exact s7 j hj (by omega)
  ·obtain⟨fr',q1,q2,q3,q4⟩:=VN L run k fr hp wr lz id n hn hn9 hz h0 h1 h3 hb
   exact⟨fr',n,bz q1,q2,q3,q4,Nat.le_refl _,hz,fun j h1 h2=>by omega⟩
noncomputable def wxN:Code:=seq1 (ah 5 wxC)
theorem Ov (L:Lst)(run:aq)(k:Nat)(fr:List PV)(hp:List Blk)(wr:List Nat)(m:Bool)(l dd:List Nat)(h9:l.length<90000000)(h0:fr.length=81)(h1:nth fr 1 = .ptr 0 0)(hb:aZ hp 0=some ⟨.live,[.sc (.bool m),aL dd]⟩)(hO:dk u8v 1 hp l (nth fr 3)) :
  ∃ fr' hp' wr',af (CC L) run k wxN ⟨fr,hp,wr⟩=some (.normal,⟨fr',hp',wr'⟩)∧fr'.length=81∧dk u8v 1 hp' (l++(bif m then [45] else [])) (nth fr' 3):=by
 cases m with
 | false =>
  simp[wxN,wxC,Tryz.f98,ah,seq1,af,aH,an,ao,aG,ag,ai,aj,ak,aC,az,FP.none,bL,partOf,aa,ae,ab,bh,and_assoc,h0,h1,hb,hO,aU,br,uW,wf0,wf1,sB,aB]
 | true =>
  obtain⟨p',hp',fp,g1,g2,g3⟩:=hO.app 45 (by omega)
  have hlX:eY TT 43 1 [(0,.sc (.int .u8 45))]=some (1,[u8v 45]):=JF 45
  simp[wxN,wxC,Tryz.f98,ah,seq1,af,aH,an,ao,aG,ag,ai,aj,ak,aC,az,FP.none,av,bL,partOf,aa,ae,ab,bh,and_assoc,bc,kS,h0,h1,hb,hlX,Jc,rI,pc,sU8,bU8,zU8,bZ,g1,g2,aU,br,uW,wf0,wf1,sB,aB]
noncomputable def wxS:Code:=(aF (seq1 (ah 6 wxC))).getD .skip
noncomputable def KB:Code:=blk (seq1 (cB wxS))
theorem aet:((Region.before (jV KB))[13]?.getD 0).testBit 7=true:=by kernel_rfl
theorem aes:((Region.before (jV KB))[13]?.getD 0).testBit 11=true:=by kernel_rfl
theorem aer:((Region.before (jV KB))[15]?.getD 0).testBit 7=true:=by kernel_rfl
theorem aeq:((Region.before (jV KB))[15]?.getD 0).testBit 11=true:=by kernel_rfl
theorem aep:((Region.before (jV KB))[15]?.getD 0).testBit 13=true:=by kernel_rfl
theorem VO (L:Lst)(run:aq)(k:Nat)(fr:List PV)(hp:List Blk)(wr:List Nat)(i j:Nat)(hij:j≤i+1)(h0:fr.length=81)(h6:nth fr 6=iv i)(h7:nth fr 7 = .sc (.int .i64 ((j:Int) - 1))) :
  ∃ fr',af (CC L) run k wxS ⟨fr,hp,wr⟩=some (.exit 6,⟨fr',hp,wr⟩)∧fr'.length=81∧nth fr' 3=nth fr 3:=by
 have hlt : ¬ ((i:Int)<(j:Int) - 1):=by omega
 simp only[iv] at h6
 simp[wxS,wxC,Tryz.f98,ah,seq1,aF,af,aH,an,ao,aG,ag,ai,aj,ak,aC,az,FP.none,aY,au,bf,aa,ae,ab,h0,h6,h7,hlt]
set_option maxHeartbeats 8000000 in
theorem KC (L:Lst)(run:aq)(k:Nat)(fr:List PV)(hp:List Blk)(wr:List Nat)(lz:List Nat)(id n i j:Nat)(hn9:n<100000000)(hn:n≤lz.length)(hb:aZ hp id=some ⟨.live,lz.map u8v⟩)(hij:i<j)(hj:j<n)(h0:fr.length=81)(h3:nth fr 3 = .own id 1 0 n false)(h6:nth fr 6=iv i)(h7:nth fr 7 = .sc (.int .i64 (j:Int))) :
  ∃ fr' wr',af (CC L) run k wxS ⟨fr,hp,wr⟩=some (.normal,⟨fr',cf (cf hp id ⟨.live,(lz.set i (at0 lz j)).map u8v⟩) id ⟨.live,((lz.set i (at0 lz j)).set j (at0 lz i)).map u8v⟩,wr'⟩)∧fr'.length=81∧nth fr' 3 = .own id 1 0 n false∧nth fr' 6=iv (i+1)∧nth fr' 7 = .sc (.int .i64 ((j:Int) - 1)):=by
 have hin:i<n:=by omega
 have hil:i<lz.length:=by omega
 have hjl:j<lz.length:=by omega
 have hw1:=cK j (Nat.lt_trans (Nat.lt_trans hj hn9) (by decide))
 have hwi:=bJ i (Nat.lt_trans (Nat.lt_trans hin hn9) (by decide))
 have hd1:=tT lz i hil
 have hd2:=tT lz j hjl
 have hov:=lF (e:=u8v) lz i (at0 lz j) hil
 have hov2:=lF (e:=u8v) (lz.set i (at0 lz j)) j (at0 lz i) (by rw[List.length_set];exact hjl)
 have hsb:aZ (cf hp id ⟨.live,(lz.set i (at0 lz j)).map u8v⟩) id=some ⟨.live,(lz.set i (at0 lz j)).map u8v⟩:=by rw[cJ hb,if_pos rfl]
 generalize at0 lz i=a at *
 generalize at0 lz j=c at *
 have hb1:=aet
 have hb2:=aes
 have hb3:=aer
 have hb4:=aeq
 have hb5:=aep
 simp[-Nat.testBit_zero,KB,wxS,wxC,blk,Tryz.f98,ah,aF,seq1,cB,jV] at hb1 hb2 hb3 hb4 hb5
 simp only[iv] at h6 ⊢
 simp[-Nat.testBit_zero,-List.map_set,hb1,hb2,hb3,hb4,hb5,wxS,wxC,Tryz.f98,ah,seq1,aF,af,aH,an,ao,aG,ag,ai,aj,ak,aC,az,FP.none,aY,au,bf,av,bg,bk,partOf,aa,ae,ab,bh,and_assoc,bc,Ew,kS,h0,h3,h6,h7,pc,sU8,a8,aU,hb,hsb,hij,hin,hj,hw1,hwi,hd1,hd2,hov,hov2,aar a,aar c,number,FP.free,cH,FP.apart]
theorem BQ:∀ {ds:List Nat},Dok ds→T.val (ds.flatMap (T.cX 9))=val ds
 | [],_=>rfl
 | a::l,h=>by
  have h1:T.val (T.cX 9 a)=a:=T.fh 9 a (Nat.lt_of_lt_of_le h.head (by decide))
  rw[List.flatMap_cons,T.gX,h1,T.di,BQ h.tail]
  rfl
theorem Js:∀ (ds:List Nat),T.Dok (ds.flatMap (T.cX 9))
 | []=>T.Dok.nil
 | a::l=>by rw[List.flatMap_cons];exact (T.gu 9 a).append (Js l)
theorem ye {F:List Nat}(h:∀ m,m<F.length→at0 F m=0):T.val F=0:=by
 have:F=List.replicate F.length 0:=Bb (by simp) fun m hm=>by rw[h m hm,cY (by simpa using hm)];simp
 rw[this,T.nm]
theorem OG {F:List Nat}(h:T.val F≠0):∃ m,m<F.length∧at0 F m≠0:=by
 apply Classical.byContradiction
 intro hn
 refine h (ye fun m hm => ?_)
 apply Classical.byContradiction
 intro he
 exact hn ⟨m,hm,he⟩
theorem Z9 (F:List Nat)(m:Nat)(h:m<F.length):at0 (F.map (· + 48)) m=at0 F m+48:=by
 rw[cY (by simpa using h),cY h];simp
theorem KL {F:List Nat}(hF:T.Dok F){c:Nat}(hc:c<F.length)(h1:at0 F c≠0)(h2:∀ j,c<j→j<F.length→at0 F j=0):F.take (c+1)=T.aA (T.val F):=by
 have e:=(List.take_append_drop (c+1) F)
 have hz:T.val (F.drop (c+1))=0:=ye fun m hm=>by
  have:at0 (F.drop (c+1)) m=at0 F (c+1+m):=by unfold at0;rw[List.getElem?_drop]
  rw[this]
  rw[List.length_drop] at hm
  exact h2 _ (by omega) (by omega)
 have hv:T.val F=T.val (F.take (c+1)):=by
  conv=>lhs;rw[← e]
  rw[T.gX,hz,Nat.mul_zero,Nat.add_zero]
 rw[hv]
 refine (T.jN (hF.take _) ?_).symm
 intro m a ea
 have hl:=congrArg List.length ea
 rw[List.length_take,Nat.min_eq_left (by omega),List.length_append] at hl
 simp only[List.length_cons,List.length_nil] at hl
 have h3:at0 (F.take (c+1)) c=a:=by
  rw[ea];unfold at0
  rw[List.getElem?_append_right (by omega)]
  have:c - m.length=0:=by omega
  rw[this];rfl
 have h4:at0 (F.take (c+1)) c=at0 F c:=by unfold at0;rw[List.getElem?_take_of_lt (by omega)]
 rw[← h3,h4]
 exact h1
noncomputable def VP:Code:=seq1 (seq1 (ah 3 wxC))
noncomputable def IE:Code:=seq1 (seq1 (ah 6 wxC))
theorem aaZ:ah 3 wxC = .seq (.seq VP (.block 0 (.loop wxO))) (ah 4 wxC):=rfl
theorem aaY:ah 4 wxC = .seq (.block 4 (.loop wxT)) (ah 5 wxC):=rfl
theorem aaX:ah 5 wxC = .seq wxN (ah 6 wxC):=rfl
theorem aaW:ah 6 wxC = .seq (.seq IE (.block 6 (.loop wxS))) (ah 7 wxC):=rfl
theorem VL (L:Lst)(run:aq)(k:Nat)(m:Bool):∃ st,af (CC L) run k wxC ⟨entry 81 [.agg [.sc (.bool m),aL []]],[],[]⟩=some (.ret,st)∧aV TT st.fr st.hp Tryz.f98.results.toList=some [zs 0]:=by
 obtain⟨e1,e2⟩:=cQ 80 (.agg [.sc (.bool m),aL []])
 generalize entry 81 [.agg [.sc (.bool m),aL []]]=fr0 at *
 have hz:zs 0 = .sc (.string { data:=#[48] }):=rfl
 rw[hz]
 simp[wxC,Tryz.f98,e1,e2,af,aH,an,ao,aG,ag,ai,aj,ak,aC,az,FP.none,aY,au,bf,av,bK,bL,partOf,aa,ae,ab,bh,cg,bm,aP,aZ,aU,br,uW,uD,wf0,wf1,sD,aD,aV]
theorem aa2 (L:Lst)(run:aq)(k:Nat)(m:Bool)(l:List Nat)(hl:l≠[]) :
  ∃ fr wr,aX (CC L) run k 2 wxC ⟨entry 81 [.agg [.sc (.bool m),aL l]],[],[]⟩=some ⟨fr,[⟨.live,[.sc (.bool m),aL l]⟩],wr⟩∧fr.length=81∧nth fr 1 = .ptr 0 0:=by
 obtain⟨e1,e2⟩:=cQ 80 (.agg [.sc (.bool m),aL l])
 generalize entry 81 [.agg [.sc (.bool m),aL l]]=fr0 at *
 have hl0:((l.length:Int) == 0)=false:=by
  rw[beq_eq_false_iff_ne]
  have:l.length≠0:=fun e=>hl (List.length_eq_zero_iff.1 e)
  omega
 simp[wxC,Tryz.f98,aX,e1,e2,af,aH,an,ao,aG,ag,ai,aj,ak,aC,az,FP.none,aY,au,bf,av,bK,bL,partOf,aa,ae,ab,bh,and_assoc,cg,bm,aP,aZ,aU,br,uW,uD,wf0,wf1,sD,aD,hl0]
noncomputable def aa3:Code:=seq1 (ah 2 wxC)
theorem aa0:ah 2 wxC = .seq aa3 (ah 3 wxC):=rfl
theorem aeo (L:Lst)(run:aq)(k:Nat)(fr:List PV)(b:Blk)(wr:List Nat)(m:Bool)(l:List Nat)(c:Nat)(hb:b=⟨.live,[.sc (.bool m),aL l]⟩)(hw1:bA .i64 (9*(l.length:Int))=(c:Int))(hw2:bA .i64 ((c:Int)+1)=(c:Int)+1)(hm2:c+1≤cL)(h0:fr.length=81)(h1:nth fr 1 = .ptr 0 0) :
  ∃ fr' wr',af (CC L) run k aa3 ⟨fr,[b],wr⟩=some (.normal,⟨fr',[b,⟨.live,[]⟩],wr'⟩)∧fr'.length=81∧nth fr' 1 = .ptr 0 0∧nth fr' 3 = .own 1 1 0 0 false:=by
 subst hb
 simp[aa3,wxC,seq1,ah,Tryz.f98,h0,h1,af,aH,an,ao,aG,ag,ai,aj,ak,aC,az,FP.none,aY,au,bf,av,bK,bL,jx,iG,partOf,aa,ae,ab,bh,and_assoc,cg,aP,aZ,aU,br,uW,uD,wf0,wf1,sD,aD,hw1,hw2,hm2,pc,sU8,bU8,zU8,bZ,rep]
theorem aen (L:Lst)(run:aq)(k:Nat)(fr:List PV)(hp:List Blk)(wr:List Nat)(m:Bool)(l:List Nat)(h0:fr.length=81)(h1:nth fr 1 = .ptr 0 0)(hb:aZ hp 0=some ⟨.live,[.sc (.bool m),aL l]⟩) :
  ∃ fr',af (CC L) run k VP ⟨fr,hp,wr⟩=some (.normal,⟨fr',hp,wr⟩)∧WF fr' l 0∧nth fr' 3=nth fr 3:=by
 simp[WF,iv,VP,wxC,ah,seq1,Tryz.f98,h0,h1,hb,af,aH,an,ao,aG,ag,ai,aj,ak,aC,az,FP.none,av,bK,bL,partOf,aa,ae,ab,bh,and_assoc,cg,aU,br,uW,uD,wf0,wf1,sD,aD]
theorem aa1 (L:Lst)(run:aq)(k:Nat)(fr:List PV)(hp:List Blk)(wr:List Nat)(n:Nat)(hn9:n<100000000)(h0:fr.length=81)(h3:dQ (nth fr 3)=some n) :
  ∃ fr',af (CC L) run k IE ⟨fr,hp,wr⟩=some (.normal,⟨fr',hp,wr⟩)∧fr'.length=81∧nth fr' 3=nth fr 3∧nth fr' 6=iv 0∧nth fr' 7 = .sc (.int .i64 ((n:Int) - 1)):=by
 have hw:=cK n (by omega)
 simp[iv,IE,wxC,ah,seq1,Tryz.f98,h0,h3,af,aH,an,ao,aG,ag,ai,aj,ak,aC,az,FP.none,aY,au,bf,av,bK,aa,ae,ab,bh,pc,hw]
theorem VM (L:Lst)(run:aq)(k:Nat)(fr:List PV)(hp:List Blk)(wr:List Nat)(l:List Nat)(hl:Bok l)(h0:fr.length=81)(hO:dk u8v 1 hp l (nth fr 3)) :
  ∃ st,af (CC L) run k (ah 7 wxC) ⟨fr,hp,wr⟩=some (.ret,st)∧aV TT st.fr st.hp Tryz.f98.results.toList=some [.sc (.string (tx l))]:=by
 obtain⟨ids,h1⟩:=hO.s.rd
 have h2:=EH hl
 have hcv:dy TT hp 43 94 (nth fr 3)=some (.sc (.string (tx l)),ids):=by
  have h3:tx l=mkStr (l.map UInt8.ofNat):=rfl
  rw[h3]
  obtain⟨-,h⟩:=hO
  rcases h with ⟨rfl,h⟩| ⟨id,m,-,-,h,-⟩
  ·rw[h] at h1 ⊢
   simp only[dy,pc,uAI,u8T,h1,h2]
  ·rw[h] at h1 ⊢
   simp only[dy,pc,uAI,u8T,h1,h2]
 simp[wxC,ah,Tryz.f98,af,aH,an,ao,aG,ag,ai,aj,ak,aC,az,FP.none,aa,ab,bh,h0,hcv,aV]
theorem BJ (L:Lst)(run:aq)(k:Nat)(l z:List Nat)(id n:Nat)(hn9:n<100000000)(hn:l.length=n):∀ (d i:Nat) (fr:List PV) (hp:List Blk) (wr cur:List Nat),i+d=n / 2→cur.length=n→id<hp.length→aZ hp id=some ⟨.live,(cur++z).map u8v⟩ →
  (∀ m,m<n→at0 cur m=if m<i∨n - i≤m then at0 l (n - 1 - m) else at0 l m)→fr.length=81→nth fr 3 = .own id 1 0 n false→nth fr 6=iv i→nth fr 7 = .sc (.int .i64 ((n:Int) - 1 - i)) →
  ∃ (fr':List PV) (hp':List Blk) (wr':List Nat),ca (af (CC L) run k wxS) (d+1) ⟨fr,hp,wr⟩=some (.exit 6,⟨fr',hp',wr'⟩)∧fr'.length=81∧nth fr' 3 = .own id 1 0 n false∧id<hp'.length∧aZ hp' id=some ⟨.live,(l.reverse++z).map u8v⟩
 | 0,i,fr,hp,wr,cur,hd,hc,hid,hb,hI,h0,h3,h6,h7=>by
  obtain⟨fr',g1,g2,g3⟩:=VO L run k fr hp wr i (n - i) (by omega) h0 h6 (by rw[h7];congr 2;omega)
  have e:cur=l.reverse:=Bb (by simp[hc,hn]) fun m hm=>by
   rw[hc] at hm
   rw[hI m hm,J6 l m (by omega),hn]
   by_cases h1:m<i∨n - i≤m
   ·rw[if_pos h1]
   ·rw[if_neg h1]
    congr 1
    omega
  refine⟨fr',hp,wr,bz g1,g2,by rw[g3,h3],hid,?_⟩
  rw[← e];exact hb
 | d+1,i,fr,hp,wr,cur,hd,hc,hid,hb,hI,h0,h3,h6,h7=>by
  obtain⟨j,hj⟩:∃ j,n=i+j+1:=⟨n - i - 1,by omega⟩
  have hij:i<j:=by omega
  obtain⟨fr1,wr1,g1,g2,g3,g4,g5⟩:=KC L run k fr hp wr (cur++z) id n i j hn9 (by simp;omega) hb hij (by omega) h0 h3 h6 (by rw[h7];congr 2;omega)
  have ha:at0 (cur++z) i=at0 cur i:=by unfold at0;rw[List.getElem?_append_left (by omega)]
  have hb':at0 (cur++z) j=at0 cur j:=by unfold at0;rw[List.getElem?_append_left (by omega)]
  have e1:((cur++z).set i (at0 cur j)).set j (at0 cur i)=((cur.set i (at0 cur j)).set j (at0 cur i))++z:=by
   rw[List.set_append_left _ _ (by omega),List.set_append_left _ _ (by rw[List.length_set];omega)]
  rw[ha,hb',e1] at g1
  have hb1:aZ (cf (cf hp id ⟨.live,((cur++z).set i (at0 cur j)).map u8v⟩) id ⟨.live,(((cur.set i (at0 cur j)).set j (at0 cur i))++z).map u8v⟩) id=some ⟨.live,(((cur.set i (at0 cur j)).set j (at0 cur i))++z).map u8v⟩:=by
   rw[cJ (b0:=⟨.live,((cur++z).set i (at0 cur j)).map u8v⟩) (by rw[cJ hb,if_pos rfl]),if_pos rfl]
  have hai:=hI i (by omega)
  have haj:=hI j (by omega)
  rw[if_neg (by omega)] at hai haj
  obtain⟨fr',hp',wr',q1,q2⟩:=BJ L run k l z id n hn9 hn d (i+1) fr1 _ wr1 ((cur.set i (at0 cur j)).set j (at0 cur i)) (by omega) (by simp[hc]) (by rw[bG,bG];exact hid) hb1
   (fun m hm=>by
    rw[lU _ _ _ _ (by rw[List.length_set];omega),lU _ _ _ _ (by omega)]
    by_cases e2:m=j
    ·rw[if_pos e2,hai,if_pos (by omega)]
     congr 1
     omega
    ·rw[if_neg e2]
     by_cases e3:m=i
     ·rw[if_pos e3,haj,if_pos (by omega)]
      congr 1
      omega
     ·rw[if_neg e3,hI m hm]
      by_cases e4:m<i∨n - i≤m
      ·rw[if_pos e4,if_pos (by omega)]
      ·rw[if_neg e4,if_neg (by omega)]) g2 g3 g4 (by rw[g5];congr 2;omega)
  exact⟨fr',hp',wr',by rw[bU g1];exact q1,q2⟩
theorem KK (L:Lst)(run:aq)(k:Nat)(z:Int)(hz:z≠0)(h9:(aA z.natAbs).length<1000000)(hk:9*(aA z.natAbs).length+20≤k) :
  ∃ st,af (CC L) run k wxC ⟨entry 81 [bn z],[],[]⟩=some (.ret,st)∧aV TT st.fr st.hp Tryz.f98.results.toList=some [zs z]:=by
 have hne:aA z.natAbs≠[]:=fun e=>hz (by have:=wY e;omega)
 have hv:val (aA z.natAbs)=z.natAbs:=bQ _
 have hok:=bP z.natAbs
 have hm:∃ m,m=bt z:=⟨_,rfl⟩
 obtain⟨m,hm⟩:=hm
 have hz2:=gY z
 rw[← hm] at hz2
 show ∃ st,af (CC L) run k wxC ⟨entry 81 [.agg [.sc (.bool (bt z)),aL (aA z.natAbs)]],[],[]⟩=some (.ret,st)∧_
 rw[← hm]
 have hz3:z.natAbs≠0:=by omega
 generalize aA z.natAbs=ds at *
 obtain⟨fra,wra,z1,z2,z3⟩:=aa2 L run k m ds hne
 rw[aM 2 z1,aa0]
 obtain⟨fr,wr,a1,a2,a3,a4⟩:=aeo L run k fra _ wra m ds (9*ds.length) rfl (by rw[show 9*(ds.length:Int)=((9*ds.length:Nat):Int) by omega];exact ch .i64 _ (hiI (Nat.le_trans (show 9*ds.length≤9000000 by omega) (by decide)))) (bJ _ (Nat.lt_of_le_of_lt (show 9*ds.length≤9000000 by omega) (by decide))) (Nat.le_trans (show 9*ds.length+1≤9000001 by omega) (by decide)) z2 z3
 rw[aw a1,aaZ]
 obtain⟨fr1,b1,b2,b3⟩:=aen L run k fr [⟨.live,[.sc (.bool m),aL ds]⟩,⟨.live,[]⟩] wr m ds a2 a3 rfl
 have hO:dk u8v 1 [⟨.live,[.sc (.bool m),aL ds]⟩,⟨.live,[]⟩] [] (nth fr1 3):=by
  rw[b3,a4]
  exact⟨by simp,.inr ⟨1,[],by simp,by simp,rfl,rfl⟩⟩
 obtain⟨fr2,hp2,wr2,c1,c2,c3,c4⟩:=BK L run k (by omega) ds hok h9 ds.length 0 fr1 _ wr [] (by omega) rfl b2 hO
 have hgo:=bF (i:=0) (bT c1 (show ds.length+1≤k by omega))
 have hA:af (CC L) run k (.seq VP (.block 0 (.loop wxO))) ⟨fr,[⟨.live,[.sc (.bool m),aL ds]⟩,⟨.live,[]⟩],wr⟩=some (.normal,⟨fr2,hp2,wr2⟩):=by
  rw[aw b1];exact hgo
 rw[aw hA,aaY]
 obtain⟨h0,h1,-⟩:=c2
 rw[List.nil_append,List.drop_zero] at c3
 have hF:=Js ds
 have hFv:=BQ hok
 have hFl:(ds.flatMap (T.cX 9)).length=9*ds.length:=by
  have:=(Sc1.ec iz)
  rw[List.length_flatMap]
  simp only[T.di]
  rw[List.map_const',List.sum_replicate_nat,Nat.mul_comm]
 generalize ds.flatMap (T.cX 9)=F at *
 obtain⟨-,hO2⟩:=c3
 rcases hO2 with ⟨e,-⟩| ⟨id,mm,i1,i2,i3,i4⟩
 ·have:F.length=0:=by have:=congrArg List.length e;simpa using this
  have:ds.length≠0:=fun e=>hne (List.length_eq_zero_iff.1 e)
  omega
 ·have hdl:ds.length≠0:=fun e=>hne (List.length_eq_zero_iff.1 e)
  rw[List.length_map] at i3
  obtain⟨n,hn⟩:∃ n,F.length=n+1:=⟨F.length - 1,by omega⟩
  obtain⟨p,hp1,hp2'⟩:=OG (F:=F) (by rw[hFv,hv];exact hz3)
  have at_lz:∀ j,j<F.length→at0 (F.map (· + 48)++mm) j=at0 F j+48:=fun j hj=>by
   rw[← Z9 F j hj]
   unfold at0
   rw[List.getElem?_append_left (by simpa using hj)]
  rw[hn] at i3
  obtain⟨fr3,c,s1,s2,s3,s4,s5,s6,s7⟩:=BI L run k hp2 wr2 (F.map (· + 48)++mm) id i4 n fr2 (by simp;omega) (by omega) ⟨p,by omega,by rw[at_lz p hp1];omega⟩ h0 h1 i3
  rw[aw (bF (i:=4) (bT s1 (show n+1≤k by omega))),aaX]
  have hcF:c<F.length:=by omega
  have hT:F.take (c+1)=T.aA z.natAbs:=by
   rw[← hv,← hFv]
   refine KL hF hcF ?_ fun j h1 h2 => ?_
   ·rw[at_lz c hcF] at s6;omega
   ·have:=s7 j h1 (by omega)
    rw[at_lz j h2] at this
    omega
  have hO3:dk u8v 1 hp2 ((T.aA z.natAbs).map (· + 48)) (nth fr3 3):=by
   refine⟨by omega,.inr ⟨id,(F.drop (c+1)).map (· + 48)++mm,i1,i2,?_,?_⟩⟩
   ·rw[s4,← hT];simp;omega
   ·rw[i4,← hT,← List.append_assoc,← List.map_append,List.take_append_drop]
  have hlen:(T.aA z.natAbs).length<90000000:=by rw[← hT,List.length_take];omega
  have hb0:aZ hp2 0=some ⟨.live,[.sc (.bool m),aL ds]⟩:=by rw[c4];rfl
  obtain⟨fr4,hp4,wr4,t1,t2,t3⟩:=Ov L run k fr3 hp2 wr2 m _ ds (by simpa using hlen) s2 s3 hb0 hO3
  rw[aw t1,aaW]
  generalize hl:(T.aA z.natAbs).map (· + 48)++(bif m then [45] else [])=l at *
  have hll:l.length≤(T.aA z.natAbs).length+1:=by
   rw[← hl];cases m <;> simp
  have hlk:(T.aA z.natAbs).length≤9*ds.length:=by rw[← hT,List.length_take];omega
  obtain⟨fr5,u1,u2,u3,u4,u5⟩:=aa1 L run k fr4 hp4 wr4 l.length (by omega) t2 t3.s.len
  have hO4:=t3
  obtain⟨-,hO4⟩:=hO4
  rcases hO4 with ⟨e,-⟩| ⟨id',z',j1,j2,j3,j4⟩
  ·have h2:(T.aA z.natAbs).length≤l.length:=by rw[← hl];simp
   rw[e,List.length_nil] at h2
   have:=T.cP.2 hz3
   omega
  ·obtain⟨fr6,hp6,wr6,v1,v2,v3,v4,v5⟩:=BJ L run k l z' id' l.length (by omega) rfl (l.length / 2) 0 fr5 hp4 wr4 l (by omega) rfl j2 j4 (fun m hm=>by rw[if_neg (by omega)]) u2 (by rw[u3,j3]) u4 (by rw[u5];simp)
   have hB:af (CC L) run k (.seq IE (.block 6 (.loop wxS))) ⟨fr4,hp4,wr4⟩=some (.normal,⟨fr6,hp6,wr6⟩):=by
    rw[aw u1];exact bF (i:=6) (bT v1 (show l.length / 2+1≤k by omega))
   rw[aw hB]
   have hr:l.reverse=ztx z:=by
    rw[← hl,List.reverse_append,← List.map_reverse]
    have:ztx z=itx m z.natAbs:=by rw[tS,hz2]
    rw[this,itx,if_neg hz3]
    cases m <;> rfl
   have hO5:dk u8v 1 hp6 (ztx z) (nth fr6 3):=by
    refine⟨by omega,.inr ⟨id',z',j1,v4,?_,?_⟩⟩
    ·rw[v3,← hr,List.length_reverse]
    ·rw[v5,hr]
   exact VM L run k fr6 hp6 wr6 (ztx z) (ki z) v2 hO5
noncomputable def OK:List PV→Option (List PV):=ctr (fun z:Int=>[bn z]) (fun z=>Nb 2000000 z) fun z=>[zs z]
theorem TR {x y:Int}(hx:Sm x)(hy:Sm y)(h:bn x=bn y):x=y:=by
 have h1:=cG hx
 rw[h,cG hy] at h1
 exact (Option.some.inj h1).symm
theorem KJ:Ab.Spec base.P 98 OK:=Ab.Spec.bN (C:=CC []) (cU trivial) fun args rs h=>by
 obtain⟨z,hz,rfl,rfl⟩:=db h
 have h9:(aA z.natAbs).length<400000:=hz.sm (by omega)
 by_cases h0:z=0
 ·subst h0
  obtain⟨st,x1,x2⟩:=VL [] (runK (CC []) 1) 1 false
  exact⟨2,_,_,_,_,_,aQ Aj rfl x1 x2,rfl,Wk.refl rfl,trivial⟩
 ·obtain⟨st,x1,x2⟩:=KK [] (runK (CC []) (9*(aA z.natAbs).length+20)) (9*(aA z.natAbs).length+20) z h0 (by omega) (by omega)
  exact⟨_,_,_,_,_,_,aQ Aj rfl x1 x2,rfl,Wk.refl rfl,trivial⟩
theorem Vu {L:Lst}(hL:bu L 98=fun a=>OK (aJ a))(run:aq)(z:Int){k:Nat}(hz:Nb k z)(hk:k≤2000000):ar L run 98 [bn z] (zs z) :=
 iw Wu hL (fun x y hx hy h=>by
  have h1:bn x=bn y:=by simpa using h
  rw[TR (hx.sm (by omega)) (hy.sm (by omega)) h1]) run z (hz.mono hk) (lV · z) (jv z)
theorem aaD:∀ (k x:Nat),x<10 ^ k→x<10 ^ nd k x
 | 0,x,h=>by simpa [nd] using h
 | k+1,x,h=>by
  by_cases h0:x=0
  ·subst h0;simp[nd]
  ·have:=aaD k (x / 10) (by rw[Nat.pow_succ] at h;omega)
   rw[nd,oW h0,cond_false,Nat.pow_succ]
   omega
theorem aaC:∀ (k x:Nat),x≠0→x<10 ^ k→∃ e,nd k x=e+1∧10 ^ e≤x
 | 0,x,h0,h=>by simp at h;exact absurd h h0
 | k+1,x,h0,h=>by
  rw[nd,oW h0,cond_false]
  by_cases h1:x / 10=0
  ·refine⟨0,?_,by omega⟩
   rw[h1]
   cases k <;> simp[nd]
  ·obtain⟨e,he,hl⟩:=aaC k (x / 10) h1 (by rw[Nat.pow_succ] at h;omega)
   refine⟨e+1,by rw[he],?_⟩
   rw[Nat.pow_succ]
   omega
theorem Ua (m:Nat){j:Nat}(hj:0<j):oO (aA m)≤j ↔ m<10 ^ j:=by
 have hok:=bP m
 have ht:=ja m
 have hv:=bQ m
 unfold oO
 cases hl:(aA m).getLast? with
 | none =>
  have:aA m=[]:=by simpa using hl
  have:=wY this
  subst this
  simp
  exact Nat.pow_pos (by omega)
 | some a =>
  obtain⟨l,e⟩:∃ l,aA m=l++[a]:=⟨(aA m).dropLast,by rw[List.getLast?_eq_some_iff] at hl;obtain⟨ys,h⟩:=hl;rw[h];simp⟩
  rw[e] at hok hv ⊢
  have ha0:=ht l a e
  have ha9:a<10 ^ 9:=Nat.lt_of_lt_of_le (hok a (by simp)) (by decide)
  have h1:=aaD 9 a ha9
  obtain⟨q,h2,h3⟩:=aaC 9 a ha0 ha9
  rw[dz] at hv
  have hvl:=eM hok.left
  have e9:(1000000000:Nat) ^ l.length=10 ^ (9*l.length):=by
   have:(1000000000:Nat)=10 ^ 9:=by decide
   rw[this,← Nat.pow_mul]
  rw[e9] at hv hvl
  have hp:0<10 ^ (9*l.length):=Nat.pow_pos (by omega)
  simp only[List.length_append,List.length_cons,List.length_nil,Nat.zero_add,Nat.add_sub_cancel]
  have hup:m<10 ^ (9*l.length+nd 9 a):=by
   rw[Nat.pow_add,← hv]
   calc val l+10 ^ (9*l.length)*a<10 ^ (9*l.length)+10 ^ (9*l.length)*a:=by omega
    _=10 ^ (9*l.length)*(a+1):=by rw[Nat.mul_succ];omega
    _≤_:=Nat.mul_le_mul_left _ h1
  have hlo:10 ^ (9*l.length+q)≤m:=by
   rw[Nat.pow_add,← hv]
   exact Nat.le_trans (Nat.mul_le_mul_left _ h3) (by omega)
  constructor
  ·intro h
   exact Nat.lt_of_lt_of_le hup (Nat.pow_le_pow_right (by omega) h)
  ·intro h
   have h4:=Nat.lt_of_le_of_lt hlo h
   have:=(Nat.pow_lt_pow_iff_right (by omega:1<10)).1 h4
   omega
theorem Ub (z:Int):decide (1000<oO (aA z.natAbs)) = !pB (Nb 1000 z):=by
 have h:=Ua z.natAbs (j:=1000) (by omega)
 by_cases hn:Nb 1000 z
 ·have:=h.2 hn
  rw[jK hn,decide_eq_false (by omega)];rfl
 ·have : ¬ oO (aA z.natAbs)≤1000:=fun e=>hn (h.1 e)
  rw[jt hn,decide_eq_true (by omega)];rfl
theorem U9 {k:Nat} : Nb (k+1) 1:=Nat.one_lt_pow (by omega) (by omega)
theorem ub {k:Nat} : Nb k 0:=Nat.pow_pos (by omega)
theorem Lt {u:Option Rat}{j:Nat}(hu:Rb j (vv u))(h:j≤1000000):mr [rv u]=some [.sc (.bool (!pB (Rb 1000 (vv u))))]:=by
 obtain⟨b,b1,b2,b3,b4⟩:=ob hu (by omega)
 simp only[mr,b3,Ub]
 have hb:Nb 1000 b ↔ Nb 1000 (vv u).den:=by
  rw[← b2]
  unfold du
  split
  ·rename_i e
   subst e
   exact⟨fun _=>U9,fun _=>ub⟩
  ·exact Iff.rfl
 by_cases h1:Nb 1000 (vv u).num
 ·by_cases h2:Nb 1000 b
  ·rw[jK h1,jK h2,jK ⟨h1,hb.1 h2⟩];rfl
  ·rw[jK h1,jt h2,jt fun e=>h2 (hb.2 e.2)];rfl
 ·have h3 : ¬ Rb 1000 (vv u):=fun e=>h1 e.1
  rw[jt h1,jt h3];simp
theorem qX {s:ByteArray}{z:Int}(h:bys s=ztx z):eW s=z∧ie s=true:=by
 unfold eW ie
 rw[Ge h]
 exact⟨rfl,rfl⟩
theorem ly {s:ByteArray}(h:ie s=true):bys s=ztx (eW s):=by
 unfold ie at h
 cases e:gH s with
 | none=>rw[e] at h;cases h
 | some z=>rw[si e];unfold eW;rw[e]
theorem H9 {l:List Nat}{z:Int}{k:Nat}(h:l=ztx z)(h9:l.length≤k):Nb k z:=by
 rw[h,gk] at h9
 have:=ue z
 unfold Ab.dN at h9 this
 exact (rK (by omega)).1 (by omega)
theorem EP (s:ByteArray){k:Nat}(h9:(bys s).length≤k):Nb k (eW s):=by
 unfold eW
 cases e:gH s with
 | none=>exact ub
 | some z=>exact H9 (si e) h9
theorem Nb.gcd {k:Nat}{d:Int}(h:Nb k d)(n:Int)(h0:d≠0):Nb k (Int.ofNat (Nat.gcd n.natAbs d.natAbs)):=by
 unfold Nb at *
 refine Nat.lt_of_le_of_lt ?_ h
 exact Nat.le_of_dvd (by omega) (Nat.gcd_dvd_right _ _)
theorem Nb.agi {k:Nat}{n:Int}(h:Nb k n)(d:Int)(h0:n≠0):Nb k (Int.ofNat (Nat.gcd n.natAbs d.natAbs)):=by
 unfold Nb at *
 refine Nat.lt_of_le_of_lt ?_ h
 exact Nat.le_of_dvd (by omega) (Nat.gcd_dvd_left _ _)
theorem Nb.agh {k:Nat}{n d:Int}(h:Nb k n)(h':Nb k d):Nb k (Int.ofNat (Nat.gcd n.natAbs d.natAbs)):=by
 by_cases h0:n=0
 ·by_cases h1:d=0
  ·subst h0;subst h1;exact h
  ·exact h'.gcd n h1
 ·exact h.agi d h0
theorem aeG (s:ByteArray)(h9:(bys s).length≤1000000):∃ n d,rrF [.sc (.string s)]=some [bV n d,.sc (.bool (pB (IsQ s)))]∧(∀ x,s=qb x→bV n d=rv (some x))∧Nb 1000000 n∧Nb 1000000 d:=by
 obtain⟨c1,c2,c3,c4⟩:=ZJ s (by omega)
 have hl:=tH (bys s)
 have hb:(bys s).length.blt 3000000=true:=by rw[Nat.blt_eq];omega
 have hnA:Nb 1000000 (eW (jd s)):=EP _ (by rw[c2];omega)
 simp only[rrF,hb,c1,Bool.and_self,cond_true]
 cases hk:ie (jd s) && tB s with
 | false =>
  rw[cond_false]
  refine⟨eW (jd s),1,?_,?_,hnA,(U9 (k:=0)).mono (by omega)⟩
  ·have e:ie (jd s)=pB (IsQ s):=by
    cases hA:ie (jd s) with
    | false =>
     rw[jt]
     rintro⟨x,hx⟩
     have h1:=kl x
     rw[← hx] at h1
     have h2:=(qX (s:=jd s) (z:=x.num) (by rw[c2,h1])).2
     rw[hA] at h2;cases h2
    | true =>
     rw[hA,Bool.true_and] at hk
     rw[jK]
     exact⟨_,JC (by rw[← c3,hk]) (by rw[← c2];exact ly hA)⟩
   rw[e]
  ·intro x hx
   have h1:=kl x
   rw[← hx] at h1
   have h2:=qX (s:=jd s) (z:=x.num) (by rw[c2,h1])
   rw[h2.2,Bool.true_and,c3,h1] at hk
   have h3:(x.den:Int)=1:=by simpa using hk
   rw[h2.1,nD,h3]
 | true =>
  rw[cond_true]
  simp only[Bool.and_eq_true] at hk
  have hB:=c4 hk.2
  have hzA:=ly hk.1
  rw[c2] at hzA
  have hs2:(spl (bys s)).2.2=true:=by rw[← c3];exact hk.2
  have hnB:Nb 1000000 (eW (jc s)):=by
   refine EP _ ?_
   rw[hB]
   unfold spl at hs2 ⊢
   cases e:fI (bys s) with
   | none=>rw[e] at hs2;cases hs2
   | some j=>simp only[List.length_drop];omega
  generalize eW (jd s)=n at *
  unfold abw
  rw[hnA.smB (by omega),hnB.smB (by omega),(hnA.agh hnB).smB (by omega)]
  simp only[Bool.and_self,cond_true]
  cases hbad:uY (ie (jc s)) n.sign (fD (eW (jc s)) 1) (fD (Int.ofNat (Nat.gcd n.natAbs (eW (jc s)).natAbs)) 1) with
  | true =>
   rw[cond_true]
   have hno : ¬ IsQ s:=by
    intro hq
    cases hkB:ie (jc s) with
    | false =>
     obtain⟨x,hx⟩:=hq
     have h1:=kl x
     rw[← hx] at h1
     have:=(qX (s:=jc s) (z:=x.den) (by rw[hB,h1])).2
     rw[hkB] at this;cases this
    | true =>
     have hzB:=ly hkB
     rw[hB] at hzB
     obtain⟨q1,q2,q3⟩:=DL hs2 hzA hzB hq
     rw[hkB,q3] at hbad
     have e1:(n.sign == 0)=false:=by rw[beq_eq_false_iff_ne];exact fun e=>q1 (Int.sign_eq_zero_iff_zero.1 e)
     have e2:decide (fD (eW (jc s)) 1≤0)=false:=by
      rw[decide_eq_false_iff_not]
      unfold fD
      rw[if_neg (by omega),if_neg (by omega)];decide
     unfold uY at hbad
     rw[e1,e2] at hbad
     revert hbad
     decide
   refine⟨0,0,by rw[jt hno],fun x hx=>absurd ⟨x,hx⟩ hno,ub,ub⟩
  | false =>
   rw[cond_false]
   unfold uY at hbad
   simp only[Bool.or_eq_false_iff,Bool.not_eq_false',beq_eq_false_iff_ne,decide_eq_false_iff_not,bne_eq_false_iff_eq] at hbad
   obtain⟨hkB,-,h2,h3⟩:=hbad
   have hzB:=ly hkB
   rw[hB] at hzB
   have hd:2≤eW (jc s):=by
    unfold fD at h2
    by_cases h4:eW (jc s)<1
    ·rw[if_pos h4] at h2;exact absurd (by decide) h2
    ·rw[if_neg h4] at h2
     by_cases h5:eW (jc s)=1
     ·rw[if_pos h5] at h2;exact absurd (by decide) h2
     ·omega
   have hg:Nat.gcd n.natAbs (eW (jc s)).natAbs=1:=by
    unfold fD at h3
    generalize Nat.gcd n.natAbs (eW (jc s)).natAbs=g at *
    by_cases h4:Int.ofNat g<1
    ·rw[if_pos h4] at h3;exact absurd h3 (by decide)
    ·rw[if_neg h4] at h3
     by_cases h5:Int.ofNat g=1
     ·exact Int.ofNat.inj h5
     ·rw[if_neg h5] at h3;exact absurd h3 (by decide)
   obtain⟨x,hx,e1,e2⟩:=DK hs2 hzA hzB hd hg
   refine⟨n,eW (jc s),by rw[jK ⟨x,hx⟩],fun y hy => ?_,hnA,hnB⟩
   have:x=y:=oG (by rw[← hx,← hy])
   subst this
   rw[nD,e1,e2]
end Go.Proofs.YtjdmodeenbdfpaaGreat
