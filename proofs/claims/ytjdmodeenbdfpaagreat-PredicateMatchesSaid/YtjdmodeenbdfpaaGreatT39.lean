/- Contracts of fractions, clouds and predicates, part 39 of the proof; each lemma states its own conditions. -/
import Derived.Test.YtjdmodeenbdfpaaGreatT38
set_option linter.unusedSimpArgs false
set_option linter.unusedVariables false
namespace Go.Proofs.YtjdmodeenbdfpaaGreat
open Go Go.Ab List Tryz
variable(L:Lst)(run:ar)(k:Nat)(fr:List PV)(hp:List Blk)(wr:List Nat)
theorem aiD:(Region.before (fx AP))[6]?.getD 0=63:=by kernel_rfl
theorem aiE:(Region.before (fx AP))[4]?.getD 0=14:=by kernel_rfl
def YF (fr:List PV)(b row n i x:Nat)(neg:Bool):Prop:=XF fr b row n i neg∧nth fr 8=iv i∧nth fr 9 = .ptr x 0
theorem KF (S:List Bool)(i:Nat)(v:Bool)(hi:i<S.length):cq (S.map bl) i [.sc (.bool v)]=some ((S.set i v).map bl):=kA (e:=bl) S i v hi
theorem aiJ(b row n i x:Nat)(neg:Bool)(S:List Bool)(hi:i<n)(hS:S.length=n)(h:YF fr b row n i x neg)(k2:aY hp 2=some ⟨.live,S.map bl⟩)(k3:aY hp 3=some ⟨.live,[.own 2 1 0 n true]⟩) :
  ∃ fr',af (CC L) run k VI ⟨fr,hp,wr⟩=some (.normal,⟨fr',bZ hp 2 ⟨.live,(S.set i true).map bl⟩,aA [2] wr⟩)∧YF fr' b row n i x neg:=by
 obtain⟨⟨h0,h1,h2,h3,h4,h5,h6,h7,h8,h9⟩,h10,h11⟩:=h
 have hx:=Vn n i hi
 have ho:=KF S i true (by omega)
 simp only[iv] at h1 h8 h9 h10
 generalize S.map bl=cs at *
 generalize (S.set i true).map bl=cs' at *
 simp[YF,XF,iv,VI,exT,kI,ot,pr,blk,seq1,cw,exL,exC,f109,aC,af,aH,ao,aq,aG,ag,ai,an,aj,aF,FzZ,az,partOf,aa,ae,ab,bd,and_assoc,kJ,bG,bh,eN,h0,h1,h2,h3,h4,h5,h6,h7,h8,h9,h10,h11,k2,k3,hx,ho,Ce,wF,sB,aV,br]
theorem aiH(b row n i x:Nat)(neg:Bool)(S:List Bool)(hi:i<n)(hS:S.length=n)(h:YF fr b row n i x neg)(k2:aY hp 2=some ⟨.live,S.map bl⟩)(k3:aY hp 3=some ⟨.live,[.own 2 1 0 n true]⟩) :
  ∃ fr',af (CC L) run k VH ⟨fr,hp,wr⟩=some (.normal,⟨fr',bZ hp 2 ⟨.live,(S.set i false).map bl⟩,aA [2] wr⟩)∧YF fr' b row n i x neg:=by
 obtain⟨⟨h0,h1,h2,h3,h4,h5,h6,h7,h8,h9⟩,h10,h11⟩:=h
 have hx:=Vn n i hi
 have ho:=KF S i false (by omega)
 simp only[iv] at h1 h8 h9 h10
 generalize S.map bl=cs at *
 generalize (S.set i false).map bl=cs' at *
 simp[YF,XF,iv,VH,exT,kI,ot,pr,blk,seq1,cw,exL,exC,f109,aC,af,aH,ao,aq,aG,ag,ai,an,aj,aF,FzZ,az,partOf,aa,ae,ab,bd,and_assoc,kJ,bG,bh,eN,h0,h1,h2,h3,h4,h5,h6,h7,h8,h9,h10,h11,k2,k3,hx,ho,Ce,wF,sB,aV,br]
set_option maxHeartbeats 2000000 in
theorem aiI(b row n i x m:Nat)(neg:Bool)(cx cr cp:List PV)(hlx:cx.length=4)(hlp:cp.length=4)(hop:bh cp=true)(h9':row<1000)(hx2:2≠x)(hcall:bX (CC L) run true hp 109 [.sc (.int .i64 ((row:Int)+1)),.ptr 0 0,.ptr 3 0,.ptr 4 0]=some (.agg cr,hp,⟨[],List.replicate m 2,true,true⟩))(g:au L run 56 [.agg cx,.agg cr] (.agg cp))(h:YF fr b row n i x neg)(k4:aY hp 4=some ⟨.live,[fnP]⟩)(kx:aY hp x=some ⟨.live,cx⟩) :
  ∃ fr',af (CC L) run k AP ⟨fr,hp,wr⟩=some (.normal,⟨fr',bZ hp x ⟨.live,cp⟩,aA [x] (aA (List.replicate m 2) wr)⟩)∧YF fr' b row n i x neg:=by
 obtain⟨⟨h0,h1,h2,h3,h4,h5,h6,h7,h8,h9⟩,h10,h11⟩:=h
 have hw:=bH row (by omega)
 have ht:=eo cx hlx
 have ho:=dW cx cp (by omega)
 have hb6:=aiD
 have hb4:=aiE
 simp[AP,exT,kI,ot,pr,blk,seq1,cw,exL,exC,f109,aC,fx] at hb6 hb4
 have t0:Nat.testBit 63 0=true:=by decide
 have t1:Nat.testBit 63 1=true:=by decide
 have t4:Nat.testBit 63 4=true:=by decide
 have t5:Nat.testBit 14 1=true:=by decide
 have t6:Nat.testBit 14 0=false:=by decide
 have hx3 : ¬ (2=x):=hx2
 have hx4 : ¬ (x=2):=fun e=>hx2 e.symm
 unfold au at g
 unfold fnP at k4
 simp only[iv] at h1 h8 h9 h10
 simp[-Nat.testBit_zero,hb6,hb4,t0,t1,t4,t5,t6,YF,XF,iv,AP,exT,kI,ot,pr,blk,seq1,cw,exL,exC,f109,aC,af,aH,ao,aq,aG,ag,ai,aL,an,aj,aF,FzZ,bc,aw,bj,az,partOf,aa,ae,ab,bd,and_assoc,bp,eN,h0,h1,h2,h3,h4,h5,h6,h7,h8,h9,h10,h11,k4,kx,ht,ho,hw,hcall,g,hop,hlp,hx3,aR,sR,sFn,aFn,aV,br,number,FP.free,cH,FP.apart]
theorem agi(b row n i x:Nat)(cx cp:List PV)(hlx:cx.length=4)(hlp:cp.length=4)(hop:bh cp=true)(g:au L run 106 [.agg cx] (.agg cp))(h:YF fr b row n i x true)(kx:aY hp x=some ⟨.live,cx⟩) :
  ∃ fr',af (CC L) run k AO ⟨fr,hp,wr⟩=some (.normal,⟨fr',bZ hp x ⟨.live,cp⟩,aA [x] wr⟩)∧YF fr' b row n i x true:=by
 obtain⟨⟨h0,h1,h2,h3,h4,h5,h6,h7,h8,h9⟩,h10,h11⟩:=h
 have ht:=eo cx hlx
 have ho:=dW cx cp (by omega)
 unfold au at g
 simp only[iv] at h1 h8 h9 h10
 simp[YF,XF,iv,AO,exT,kI,ot,pr,blk,seq1,cw,exL,exC,f109,aC,af,aH,ao,aq,aG,ag,ai,aL,an,aj,aF,FzZ,partOf,aa,ae,ab,bd,and_assoc,bp,eN,h0,h1,h2,h3,h4,h5,h6,h7,h8,h9,h10,h11,kx,ht,ho,g,hop,hlp,aR,sR,aV,br]
theorem agh(b row n i x:Nat)(h:YF fr b row n i x false) :
  ∃ fr',af (CC L) run k AO ⟨fr,hp,wr⟩=some (.normal,⟨fr',hp,wr⟩)∧YF fr' b row n i x false:=by
 obtain⟨⟨h0,h1,h2,h3,h4,h5,h6,h7,h8,h9⟩,h10,h11⟩:=h
 simp only[iv] at h1 h8 h9 h10
 simp[YF,XF,iv,AO,exT,kI,ot,pr,blk,seq1,cw,exL,exC,f109,aC,af,aH,ao,aq,aG,ag,ai,an,aj,aF,FzZ,aa,ae,ab,and_assoc,eN,h0,h1,h2,h3,h4,h5,h6,h7,h8,h9,h10,h11]
theorem aiG(b row n i x:Nat)(neg:Bool)(sc cx cp:List PV)(hls:sc.length=4)(hlx:cx.length=4)(hlp:cp.length=4)(hop:bh cp=true)(g:au L run 87 [.agg sc,.agg cx] (.agg cp))(h:YF fr b row n i x neg)(kx:aY hp x=some ⟨.live,cx⟩)(ks:aY hp (b+1)=some ⟨.live,sc⟩) :
  ∃ fr',af (CC L) run k VG ⟨fr,hp,wr⟩=some (.normal,⟨fr',bZ hp (b+1) ⟨.live,cp⟩,aA [b+1] wr⟩)∧XF fr' b row n i neg:=by
 obtain⟨⟨h0,h1,h2,h3,h4,h5,h6,h7,h8,h9⟩,h10,h11⟩:=h
 have ht:=eo cx hlx
 have hts:=eo sc hls
 have ho:=dW sc cp (by omega)
 unfold au at g
 simp only[iv] at h1 h8 h9 h10
 simp[XF,iv,VG,exT,kI,ot,pr,blk,seq1,cw,exL,exC,f109,aC,af,aH,ao,aq,aG,ag,ai,aL,an,aj,aF,partOf,aa,ae,ab,bd,bp,eN,h0,h1,h2,h3,h4,h5,h6,h7,h8,h9,h11,kx,ks,ht,hts,ho,g,hop,hlp,aR,sR,aV,br]
def XH (hp0 hp:List Blk)(sc:List PV):Prop:=hp0.length+2≤hp.length∧(∀ i,i<hp0.length→aY hp i=aY hp0 i)∧aY hp hp0.length=some ⟨.live,rz⟩∧aY hp (hp0.length+1)=some ⟨.live,sc⟩
def WB (b:Nat)(w:List Nat):Prop:=∀ i ∈ w,i=2∨b≤i
theorem WB.add {b:Nat}{w l:List Nat}(h:WB b w)(h':WB b l):WB b (aA l w):=fun i hi=>by
 rcases jJ hi with hi | hi
 ·exact h' i hi
 ·exact h i hi
theorem WB.one {b x:Nat}(h:x=2∨b≤x):WB b [x]:=fun i hi=>by
 rw[mem_singleton] at hi;subst hi;exact h
theorem WB.rep {b m:Nat} : WB b (List.replicate m 2):=fun i hi=>.inl (mem_replicate.1 hi).2
theorem jS {hp:List Blk}{i j:Nat}{b b0:Blk}(h:aY hp i=some b0)(hij:j≠i):aY (bZ hp i b) j=aY hp j:=by rw[cT h,if_neg hij]
theorem kp {hp:List Blk}{i:Nat}{b b0:Blk}(h:aY hp i=some b0):aY (bZ hp i b) i=some b:=by rw[cT h,if_pos rfl]
theorem RO (S:List Bool)(i:Nat)(hi:i<S.length)(h:S.getD i false=false):(S.set i true).set i false=S:=by
 rw[set_set]
 have:S[i]=false:=by rw[← h,getD_eq_getElem?_getD,getElem?_eq_getElem hi];rfl
 rw[← this,set_getElem_self]
theorem acf (L:Lst)(run:ar)(k:Nat)(gm:bu L 56=fun a=>kS (aJ a))(ga:bu L 87=fun a=>jb (aJ a))(gn:bu L 106=fun a=>kr (aJ a))(hp0 hp:List Blk)(fr:List PV)(wr:List Nat)(row n i x:Nat)(neg:Bool)(M:List (List Rat))(S:List Bool)(sc:List PV)(u:Option Rat)(e f:Rat)(cr:List PV)(uf:Option Rat){j k1 k2:Nat}
  (hi:i<n) (hS:S.length=n) (h9':row<1000) (hSi:S.getD i false=false) (h5:5≤hp0.length) (hH:H0 hp0 M n S) (hX:XH hp0 hp sc) (hx:hp0.length+2≤x) (hx':x<hp.length) (kx:aY hp x=some ⟨.live,rcs e⟩) (hY:YF fr hp0.length row n i x neg) (hc:Rc sc u) (hcr:Rc cr uf) (hf:vv uf=f)
  (hb1:Rb j (vv u)) (hb2:Rb k1 e) (hb3:Rb k2 f) (h6:j+k1+k2≤1000000) (hw:WB hp0.length wr)
  (hcall:∀ hp1:List Blk,hp0.length≤hp1.length→(∀ i,i<hp0.length→i≠2→aY hp1 i=aY hp0 i)→aY hp1 2=some ⟨.live,(S.set i true).map bl⟩→∃ m,bX (CC L) run true hp1 109 [.sc (.int .i64 ((row:Int)+1)),.ptr 0 0,.ptr 3 0,.ptr 4 0]=some (.agg cr,hp1,⟨[],List.replicate m 2,true,true⟩)) :
  ∃ fr' hp' wr' sc',af (CC L) run k exT ⟨fr,hp,wr⟩=some (.normal,⟨fr',hp',wr'⟩)∧XF fr' hp0.length row n i neg∧XH hp0 hp' sc'∧WB hp0.length wr'∧Rc sc' (some (vv u+(bif neg then -(e*f) else e*f))):=by
 obtain⟨q1,q2,q3,q4⟩:=hX
 obtain⟨p0,p2,p3,p4⟩:=hH
 have k2':aY hp 2=some ⟨.live,S.map bl⟩:=by rw[q2 2 (by omega),p2]
 have k3':aY hp 3=some ⟨.live,[.own 2 1 0 n true]⟩:=by rw[q2 3 (by omega),p3]
 have k4':aY hp 4=some ⟨.live,[fnP]⟩:=by rw[q2 4 (by omega),p4]
 obtain⟨fr1,a1,a2⟩:=aiJ L run k fr hp wr hp0.length row n i x neg S hi hS hY k2' k3'
 generalize hg1:bZ hp 2 ⟨.live,(S.set i true).map bl⟩=hp1 at *
 have l1:hp1.length=hp.length:=by rw[← hg1,bL]
 have n1:∀ t,t≠2→aY hp1 t=aY hp t:=fun t ht=>by rw[← hg1];exact jS k2' ht
 have n12:aY hp1 2=some ⟨.live,(S.set i true).map bl⟩:=by rw[← hg1];exact kp k2'
 obtain⟨m,hcm⟩:=hcall hp1 (by omega) (fun t ht ht2=>by rw[n1 t ht2,q2 t ht]) n12
 have Vw:=Jh gm run (p:=.agg (rcs e)) (q:=.agg cr) (u:=some e) (v:=uf) (.inl rfl) hcr.p hb2 (by rw[hf];exact hb3) (by omega)
 rw[hf] at Vw
 obtain⟨fr2,b1,b2⟩:=aiI L run k fr1 hp1 (aA [2] wr) hp0.length row n i x m neg (rcs e) cr (rcs (e*f)) (cD.len _) (cD.len _) (cD.okc _) h9' (by omega) hcm Vw a2 (by rw[n1 4 (by omega),k4']) (by rw[n1 x (by omega),kx])
 have kx1:aY hp1 x=some ⟨.live,rcs e⟩:=by rw[n1 x (by omega),kx]
 generalize hg2:bZ hp1 x ⟨.live,rcs (e*f)⟩=hp2 at *
 have l2:hp2.length=hp.length:=by rw[← hg2,bL,l1]
 have n2:∀ t,t≠x→aY hp2 t=aY hp1 t:=fun t ht=>by rw[← hg2];exact jS kx1 ht
 have n2x:aY hp2 x=some ⟨.live,rcs (e*f)⟩:=by rw[← hg2];exact kp kx1
 have n22:aY hp2 2=some ⟨.live,(S.set i true).map bl⟩:=by rw[n2 2 (by omega),n12]
 obtain⟨fr3,c1,c2⟩:=aiH L run k fr2 hp2 (aA [x] (aA (List.replicate m 2) (aA [2] wr))) hp0.length row n i x neg (S.set i true) hi (by rw[length_set];exact hS) b2 n22 (by rw[n2 3 (by omega),n1 3 (by omega),k3'])
 rw[RO S i (by omega) hSi] at c1
 generalize hg3:bZ hp2 2 ⟨.live,S.map bl⟩=hp3 at *
 have l3:hp3.length=hp.length:=by rw[← hg3,bL,l2]
 have n3:∀ t,t≠2→aY hp3 t=aY hp2 t:=fun t ht=>by rw[← hg3];exact jS n22 ht
 have n32:aY hp3 2=some ⟨.live,S.map bl⟩:=by rw[← hg3];exact kp n22
 have n3x:aY hp3 x=some ⟨.live,rcs (e*f)⟩:=by rw[n3 x (by omega),n2x]
 have w3:WB hp0.length (aA [2] (aA [x] (aA (List.replicate m 2) (aA [2] wr)))):=(((hw.add (WB.one (.inl rfl))).add WB.rep).add (WB.one (.inr (by omega)))).add (WB.one (.inl rfl))
 have old3:∀ t,t<hp0.length→aY hp3 t=aY hp0 t:=fun t ht=>by
  by_cases e2:t=2
  ·subst e2;rw[n32,p2]
  ·rw[n3 t e2,n2 t (by omega),n1 t e2,q2 t ht]
 have s3:aY hp3 (hp0.length+1)=some ⟨.live,sc⟩:=by rw[n3 _ (by omega),n2 _ (by omega),n1 _ (by omega),q4]
 have r3:aY hp3 hp0.length=some ⟨.live,rz⟩:=by rw[n3 _ (by omega),n2 _ (by omega),n1 _ (by omega),q3]
 have fin:∀ (fr4:List PV) (hp4:List Blk) (wr4:List Nat) (t:Rat),Rb (k1+k2) t→af (CC L) run k AO ⟨fr3,hp3,aA [2] (aA [x] (aA (List.replicate m 2) (aA [2] wr)))⟩=some (.normal,⟨fr4,hp4,wr4⟩)→YF fr4 hp0.length row n i x neg→hp4.length=hp.length→(∀ s,s≠x→aY hp4 s=aY hp3 s)→aY hp4 x=some ⟨.live,rcs t⟩→WB hp0.length wr4→(bif neg then -(e*f) else e*f)=t →
   ∃ fr' hp' wr' sc',af (CC L) run k exT ⟨fr,hp,wr⟩=some (.normal,⟨fr',hp',wr'⟩)∧XF fr' hp0.length row n i neg∧XH hp0 hp' sc'∧WB hp0.length wr'∧Rc sc' (some (vv u+(bif neg then -(e*f) else e*f))):=by
  intro fr4 hp4 wr4 t hbt d1 d2 l4 n4 n4x w4 ht
  have gadd:=XL ga run (p:=.agg sc) (q:=.agg (rcs t)) (u:=u) (v:=some t) hc.p (.inl rfl) hb1 hbt (by omega)
  have s4:aY hp4 (hp0.length+1)=some ⟨.live,sc⟩:=by rw[n4 _ (by omega),s3]
  obtain⟨fr5,e1,e2⟩:=aiG L run k fr4 hp4 wr4 hp0.length row n i x neg sc (rcs t) (rcs (vv u+t)) hc.len (cD.len _) (cD.len _) (cD.okc _) gadd d2 n4x s4
  refine⟨fr5,bZ hp4 (hp0.length+1) ⟨.live,rcs (vv u+t)⟩,aA [hp0.length+1] wr4,rcs (vv u+t),?_,e2,⟨?_,?_,?_,?_⟩,w4.add (WB.one (x:=hp0.length+1) (.inr (by omega))),?_⟩
  ·rw[agj,av a1,av b1,av c1,av d1];exact e1
  ·rw[bL];omega
  ·intro t' ht';rw[jS (j:=t') s4 (by omega),n4 t' (by omega),old3 t' ht']
  ·rw[jS (j:=hp0.length) s4 (by omega),n4 hp0.length (by omega),r3]
  ·rw[kp s4]
  ·rw[ht];exact .inl rfl
 cases neg with
 | false =>
  obtain⟨fr4,d1,d2⟩:=agh L run k fr3 hp3 (aA [2] (aA [x] (aA (List.replicate m 2) (aA [2] wr)))) hp0.length row n i x c2
  exact fin fr4 hp3 _ (e*f) (hb2.mul hb3) d1 d2 l3 (fun _ _=>rfl) n3x w3 rfl
 | true =>
  have gneg:=ahb gn run (p:=.agg (rcs (e*f))) (u:=some (e*f)) (.inl rfl) (hb2.mul hb3) (by omega)
  obtain⟨fr4,d1,d2⟩:=agi L run k fr3 hp3 (aA [2] (aA [x] (aA (List.replicate m 2) (aA [2] wr)))) hp0.length row n i x (rcs (e*f)) (rcs (-(e*f))) (cD.len _) (cD.len _) (cD.okc _) gneg c2 n3x
  exact fin fr4 _ _ (-(e*f)) (hb2.mul hb3).neg d1 d2 (by rw[bL,l3]) (fun s hs=>jS n3x hs) (kp n3x) (w3.add (WB.one (.inr (by omega)))) rfl
def cz:Option Rat→List PV
 | none=>rz
 | some x=>rcs x
theorem AX (u:Option Rat):Rc (cz u) u:=by
 cases u
 ·exact .inr ⟨rfl,rfl⟩
 ·exact .inl rfl
theorem aiY {cs:List PV}{x:Rat}(h:Rc cs (some x)):cs=cz (some x):=by
 rcases h with h | ⟨h,-⟩
 ·exact h
 ·cases h
theorem lD {C:Cfg}{run:ar}{k i:Nat}{a b:Code}{st st':St}(h:af C run k a st=some (.exit i,st')):af C run k (.seq a b) st=some (.exit i,st'):=by
 simp only[af,h]
theorem jX {C:Cfg}{run:ar}{k i:Nat}{b:Code}{st st':St}(h:af C run k b st=some (.exit i,st')):af C run k (.block i b) st=some (.normal,st'):=by
 simp only[af,h,if_true]
theorem AN {C:Cfg}{run:ar}{k:Nat}{c:Operand}{a b:Code}{st:St}{v:Bool}(h:aj st.fr c = .sc (.bool v)):af C run k (.cond c a b) st=bif v then af C run k a st else af C run k b st:=by
 cases v <;> simp only[af,h,cond_true,cond_false]
theorem Bq (x:Rat):(gp x != 0) = !decide (x=0):=by
 unfold gp
 by_cases h:x=0
 ·subst h;rfl
 ·rw[decide_eq_false h,Bool.not_false,bne_iff_ne]
  intro e
  exact h (Rat.num_eq_zero.1 (Int.sign_eq_zero_iff_zero.1 e))
def X7 (L:Lst)(run:ar)(hp0:List Blk)(S:List Bool)(row n:Nat)(U:Nat→Option Rat):Prop :=
 ∀ i,i<n→S.getD i false=false→∀ hp1:List Blk,hp0.length≤hp1.length→(∀ t,t<hp0.length→t≠2→aY hp1 t=aY hp0 t)→aY hp1 2=some ⟨.live,(S.set i true).map bl⟩ →
  ∃ m,bX (CC L) run true hp1 109 [.sc (.int .i64 ((row:Int)+1)),.ptr 0 0,.ptr 3 0,.ptr 4 0]=some (.agg (cz (U i)),hp1,⟨[],List.replicate m 2,true,true⟩)
theorem Lh (L:Lst)(run:ar)(k:Nat)(gm:bu L 56=fun a=>kS (aJ a))(ga:bu L 87=fun a=>jb (aJ a))(gn:bu L 106=fun a=>kr (aJ a))(gs:bu L 49=fun a=>iA (aJ a))(hp0:List Blk)(row n:Nat)(M:List (List Rat))(S:List Bool)(U:Nat→Option Rat){k1 k2:Nat}
  (hS:S.length=n) (h9':row<1000) (hn9:n<1000) (h5:5≤hp0.length) (hH:H0 hp0 M n S) (hr:row<M.length) (hR:M[row].length=n) (hk:0<k1) (hb2:RbL k1 M[row]) (hb3:∀ i,Rb k2 (vv (U i))) (h6:n*(k1+k2+1)+1+k1+k2≤1000000) (hcall:X7 L run hp0 S row n U) :
  ∀ (d i:Nat) (fr:List PV) (hp:List Blk) (wr:List Nat),i+d=n→XF fr hp0.length row n i (exS (fun i=>vv (U i)) M[row] S i).2→XH hp0 hp (cz (exS (fun i=>vv (U i)) M[row] S i).1)→WB hp0.length wr →
  ∃ fr' hp' wr',cu (af (CC L) run k exL) (d+1) ⟨fr,hp,wr⟩=some (.exit 0,⟨fr',hp',wr'⟩)∧XF fr' hp0.length row n n (exS (fun i=>vv (U i)) M[row] S n).2∧XH hp0 hp' (cz (exS (fun i=>vv (U i)) M[row] S n).1)∧WB hp0.length wr'
 | 0,i,fr,hp,wr,hin,h,hX,hw=>by
  have e:i=n:=by omega
  subst e
  obtain⟨fr',q1,q2⟩:=agf L run k fr hp wr hp0.length row i _ h
  exact⟨fr',hp,wr,bD q1,q2,hX,hw⟩
 | d+1,i,fr,hp,wr,hin,h,hX,hw=>by
  have hi:i<n:=by omega
  have hiR:i<M[row].length:=by omega
  obtain⟨fr1,fr2,a1,a2,a3,a4,a5⟩:=ajK L run k fr hp wr hp0.length row n i _ hi h
  have hHh:H0 hp M n S:=by
   obtain⟨p0,p2,p3,p4⟩:=hH
   obtain⟨-,q2,-⟩:=hX
   exact⟨by rw[q2 0 (by omega),p0],by rw[q2 2 (by omega),p2],by rw[q2 3 (by omega),p3],by rw[q2 4 (by omega),p4]⟩
  have go:∀ (fr3:List PV) (hp3:List Blk) (wr3:List Nat),af (CC L) run k (.block 1 (.seq acm (.seq ack (.seq ot Ll)))) ⟨fr1,hp,wr⟩=some (.normal,⟨fr3,hp3,wr3⟩)→XF fr3 hp0.length row n i (exS (fun i=>vv (U i)) M[row] S (i+1)).2→XH hp0 hp3 (cz (exS (fun i=>vv (U i)) M[row] S (i+1)).1)→WB hp0.length wr3 →
    ∃ fr' hp' wr',cu (af (CC L) run k exL) (d+1+1) ⟨fr,hp,wr⟩=some (.exit 0,⟨fr',hp',wr'⟩)∧XF fr' hp0.length row n n (exS (fun i=>vv (U i)) M[row] S n).2∧XH hp0 hp' (cz (exS (fun i=>vv (U i)) M[row] S n).1)∧WB hp0.length wr':=by
   intro fr3 hp3 wr3 b1 b2 b3 b4
   obtain⟨fr4,c1,c2⟩:=aiF L run k fr3 hp3 wr3 hp0.length row n i _ (by omega) b2
   obtain⟨fr',hp',wr',s1,s2⟩:=Lh L run k gm ga gn gs hp0 row n M S U hS h9' hn9 h5 hH hr hR hk hb2 hb3 h6 hcall d (i+1) fr4 hp3 wr3 (by omega) c2 b3 b4
   refine⟨fr',hp',wr',?_,s2⟩
   rw[ct (st':=⟨fr4,hp3,wr3⟩) (by rw[agk,av a1,av a2,av b1];exact c1)]
   exact s1
  have eS:exS (fun i=>vv (U i)) M[row] S (i+1)=if S.getD i false=true then exS (fun i=>vv (U i)) M[row] S i else if M[row].getD i 0=0 then ((exS (fun i=>vv (U i)) M[row] S i).1, !(exS (fun i=>vv (U i)) M[row] S i).2) else
   (some (vv (exS (fun i=>vv (U i)) M[row] S i).1+(bif (exS (fun i=>vv (U i)) M[row] S i).2 then -(M[row].getD i 0*vv (U i)) else M[row].getD i 0*vv (U i))), !(exS (fun i=>vv (U i)) M[row] S i).2):=rfl
  have eR:M[row].getD i 0=M[row][i]:=by rw[getD_eq_getElem?_getD,getElem?_eq_getElem hiR];rfl
  cases hv:S.getD i false with
  | true =>
   obtain⟨fr3,b1,b2,-⟩:=Lg L run k fr2 hp wr hp0.length row n i _ M S hi hS true hv a4 a5 hHh
   rw[if_pos hv] at eS
   refine go fr3 hp wr ?_ (by rw[eS];exact b2) (by rw[eS];exact hX) hw
   exact jX (by rw[av a3];exact lD b1)
  | false =>
   obtain⟨fr3,b1,b2,b2'⟩:=Lg L run k fr2 hp wr hp0.length row n i _ M S hi hS false hv a4 a5 hHh
   rw[if_neg (by rw[hv];simp),eR] at eS
   have hbe:Rb k1 M[row][i]:=hb2 _ (getElem_mem hiR)
   obtain⟨fr4,fr5,c1,c2,c3,c4,c5,c6⟩:=ajL L run k fr3 hp wr hp0.length row n i _ M S hr hiR _ (Cg gs run (p:=.agg (rcs M[row][i])) (u:=some M[row][i]) (.inl rfl) hbe (by omega)) rfl b2 b2' hHh
   obtain⟨q1,q2,q3,q4⟩:=hX
   have nh:∀ t,t<hp.length→aY (bZ (aM hp rz) hp.length ⟨.live,rcs M[row][i]⟩) t=aY hp t:=fun t ht=>al3 hp rz _ t ht
   have X5:XH hp0 (bZ (aM hp rz) hp.length ⟨.live,rcs M[row][i]⟩) (cz (exS (fun i=>vv (U i)) M[row] S i).1) :=
    ⟨by rw[al4];omega,fun t ht=>by rw[nh t (by omega),q2 t ht],by rw[nh _ (by omega),q3],by rw[nh _ (by omega),q4]⟩
   have w5:WB hp0.length (aA [hp.length] (aA [hp.length] wr)):=(hw.add (WB.one (x:=hp.length) (.inr (by omega)))).add (WB.one (x:=hp.length) (.inr (by omega)))
   rw[Bq] at c6
   have ec:aj fr5 (.tmp 33) = .sc (.bool (!decide (M[row][i]=0))):=c6
   by_cases h0:M[row][i]=0
   ·rw[decide_eq_true h0,Bool.not_true] at ec
    have hN:af (CC L) run k ot ⟨fr3,hp,wr⟩=some (.normal,⟨fr5,bZ (aM hp rz) hp.length ⟨.live,rcs M[row][i]⟩,aA [hp.length] (aA [hp.length] wr)⟩):=by
     rw[Lk,av c1,av c2,AN ec];rfl
    obtain⟨fr6,d1,d2⟩:=adn L run k fr5 (bZ (aM hp rz) hp.length ⟨.live,rcs M[row][i]⟩) (aA [hp.length] (aA [hp.length] wr)) hp0.length row n i _ c3
    rw[if_pos h0] at eS
    refine go fr6 _ _ ?_ (by rw[eS];exact d2) (by rw[eS];exact X5) w5
    exact dH (by rw[av a3,av b1,av hN];exact d1)
   ·rw[decide_eq_false h0,Bool.not_false] at ec
    have hbS:Rb (i*(k1+k2+1)+1) (vv (exS (fun i=>vv (U i)) M[row] S i).1):=Iy (fun i=>hb3 i) hb2 hk i
    have hin2:i*(k1+k2+1)≤n*(k1+k2+1):=Nat.mul_le_mul_right _ (by omega)
    obtain⟨fr6,hp6,wr6,sc6,d1,d2,d3,d4,d5⟩:=acf L run k gm ga gn hp0 _ fr5 _ row n i hp.length _ M S _ _ M[row][i] (vv (U i)) (cz (U i)) (U i) hi hS h9' hv h5 hH X5 q1 (by rw[al4];omega) (al2 hp rz _) ⟨c3,c4,c5⟩ (AX _) (AX _) rfl hbS hbe (hb3 i) (by omega) w5 (hcall i hi hv)
    have d6:=aiY d5
    rw[if_neg h0] at eS
    obtain⟨fr7,e1,e2⟩:=adn L run k fr6 hp6 wr6 hp0.length row n i _ d2
    have hN:af (CC L) run k ot ⟨fr3,hp,wr⟩=some (.normal,⟨fr6,hp6,wr6⟩):=by
     rw[Lk,av c1,av c2,AN ec];exact d1
    refine go fr7 hp6 wr6 ?_ (by rw[eS];exact e2) (by rw[eS,← d6];exact d3) d4
    exact dH (by rw[av a3,av b1,av hN];exact e1)
theorem VQ (n:Nat)(p q r s:PV):(entry (n+4) [p,q,r,s]).length=n+4∧nth (entry (n+4) [p,q,r,s]) 0=p∧nth (entry (n+4) [p,q,r,s]) 1=q∧nth (entry (n+4) [p,q,r,s]) 2=r∧nth (entry (n+4) [p,q,r,s]) 3=s:=⟨gX _ _ (by simp),rfl,rfl,rfl,rfl⟩
noncomputable def aci:Code:=seq1 (seq1 (ah 4 exC))
theorem agd:ah 4 exC = .seq (.seq aci (.block 0 (.loop exL))) (ah 5 exC):=rfl
theorem ach(hp0:List Blk)(n:Nat)(M:List (List Rat))(hM:M.length=n)(S:List Bool)(h5:5≤hp0.length)(hH:H0 hp0 M n S)(g:au L run 110 [.sc (.int .i64 1),.sc (.int .i64 1)] (.agg (rcs 1))) :
  ∃ st,af (CC L) run k exC ⟨entry 56 [iv n,.ptr 0 0,.ptr 3 0,.ptr 4 0],hp0,[]⟩=some (.ret,st)∧st.hp=bZ (aM hp0 rz) hp0.length ⟨.live,rcs 1⟩∧st.wr=aA [hp0.length] (aA [hp0.length] [])∧aU TT st.fr st.hp f109.results.toList=some [.agg (rcs 1)]:=by
 obtain⟨e0,e1,e2,e3,e4⟩:=VQ 52 (iv n) (.ptr 0 0) (.ptr 3 0) (.ptr 4 0)
 generalize entry 56 [iv n,.ptr 0 0,.ptr 3 0,.ptr 4 0]=fr0 at *
 obtain⟨p0,p2,p3,p4⟩:=hH
 have hl:=Ip M
 have hx:=al1 hp0 rz
 have hx1:=dW rz (rcs 1) (by rw[cD.len];rfl)
 have hx2:=al2 hp0 rz ⟨.live,rcs 1⟩
 have hx4:=eo (rcs 1) (cD.len _)
 have hok:=cD.okc 1
 have hlx:=cD.len 1
 have hp0':aY (aM hp0 rz) 0=some ⟨.live,[mC M]⟩:=by rw[bK,if_neg (by omega),p0]
 unfold au at g
 generalize rcs 1=c1 at *
 have zR':=zRz
 rw[hM] at hl
 simp only[iv] at e1
 simp[exC,f109,af,aH,ao,aq,aG,ag,ai,aL,an,aj,aF,FzZ,bc,aw,bj,az,bO,partOf,aa,ae,ab,bd,bp,eN,e0,e1,e2,hx,hx1,hx2,hx4,hok,hlx,hp0',hl,g,zR',LD,J6,kO,aR,sR,aV,br,aU]
theorem age (L:Lst)(run:ar)(k:Nat)(hp0:List Blk)(row n:Nat)(M:List (List Rat))(hM:M.length=n)(hr:row<n)(S:List Bool)(h5:5≤hp0.length)(hH:H0 hp0 M n S) :
  ∃ fr fr',aX (CC L) run k 4 exC ⟨entry 56 [iv row,.ptr 0 0,.ptr 3 0,.ptr 4 0],hp0,[]⟩=some ⟨fr,aM (aM hp0 rz) rz,aA [hp0.length+1] (aA [hp0.length] [])⟩∧af (CC L) run k aci ⟨fr,aM (aM hp0 rz) rz,aA [hp0.length+1] (aA [hp0.length] [])⟩=some (.normal,⟨fr',aM (aM hp0 rz) rz,aA [hp0.length+1] (aA [hp0.length] [])⟩)∧XF fr' hp0.length row n 0 false:=by
 obtain⟨e0,e1,e2,e3,e4⟩:=VQ 52 (iv row) (.ptr 0 0) (.ptr 3 0) (.ptr 4 0)
 generalize entry 56 [iv row,.ptr 0 0,.ptr 3 0,.ptr 4 0]=fr0 at *
 obtain⟨p0,p2,p3,p4⟩:=hH
 have hl:=Ip M
 have hp0':aY (aM hp0 rz) 0=some ⟨.live,[mC M]⟩:=by rw[bK,if_neg (by omega),p0]
 have hp3':aY (aM (aM hp0 rz) rz) 3=some ⟨.live,[.own 2 1 0 n true]⟩:=by
  rw[bK,if_neg (by simp[aM];omega),bK,if_neg (by omega),p3]
 have hl1:(aM hp0 rz).length=hp0.length+1:=by simp[aM]
 have zR':=zRz
 rw[hM] at hl
 have hne:((row:Int) == (n:Int))=false:=by rw[beq_eq_false_iff_ne];omega
 have hne2 : ¬ row=n:=by omega
 simp only[iv] at e1
 obtain⟨fr,a1,a0,a2,a3,a4,a5,a6,a7,a8⟩:∃ fr,aX (CC L) run k 4 exC ⟨fr0,hp0,[]⟩=some ⟨fr,aM (aM hp0 rz) rz,aA [hp0.length+1] (aA [hp0.length] [])⟩∧fr.length=56∧nth fr 0 = .sc (.int .i64 (row:Int))∧nth fr 1 = .ptr 0 0∧nth fr 2 = .ptr 3 0∧nth fr 3 = .ptr 4 0∧nth fr 5 = .ptr hp0.length 0∧nth fr 6 = .ptr (hp0.length+1) 0∧nth fr 7 = .sc (.bool false):=by
  simp[exC,f109,aX,af,aH,ao,aq,aG,ag,ai,an,aj,aF,FzZ,bc,aw,bj,az,bO,partOf,aa,ae,ab,bd,eN,e0,e1,e2,e3,e4,hp0',hl,hl1,hne,zR',LD,J6,kO,aV,br]
 refine⟨fr,?_⟩
 rw[a1]
 simp[XF,iv,aci,exC,f109,ah,seq1,af,aH,ao,aq,aG,ag,ai,an,aj,aF,FzZ,az,bO,partOf,aa,ae,ab,bd,gW,eN,a0,a2,a3,a4,a5,a6,a7,a8,hp3',Ce,wF,Gg,aV,br]
theorem acg (L:Lst)(run:ar)(k:Nat)(fr:List PV)(hp0 hp:List Blk)(wr:List Nat)(row n i:Nat)(neg:Bool)(sc:List PV)(u:Option Rat)(hc:Rc sc u)(h:XF fr hp0.length row n i neg)(hX:XH hp0 hp sc) :
  ∃ st,af (CC L) run k (ah 5 exC) ⟨fr,hp,wr⟩=some (.ret,st)∧st.hp=bZ hp hp0.length ⟨.live,sc⟩∧st.wr=aA [hp0.length] wr∧aU TT st.fr st.hp f109.results.toList=some [.agg sc]:=by
 obtain⟨h0,h1,h2,h3,h4,h5,h6,h7,h8,h9⟩:=h
 obtain⟨q1,q2,q3,q4⟩:=hX
 have ht:=eo sc hc.len
 have ho:=dW rz sc (by rw[hc.len];rfl)
 have hs:=kp (b:=⟨.live,sc⟩) q3
 have hok:=hc.okc
 have hlx:=hc.len
 simp[exC,f109,ah,af,aH,ao,aq,aG,ag,ai,an,aj,aF,partOf,aa,ae,bd,bp,eN,h0,h5,h6,q3,q4,ht,ho,hs,hok,hlx,aR,sR,aV,br,aU]
theorem xU (n:Nat):∀ S:List Bool,eP n (S.map bl)=true
 | []=>rfl
 | a::l=>by simp only[map_cons,eP,xU n l];rfl
theorem VF (L:Lst)(gm:bu L 56=fun a=>kS (aJ a))(ga:bu L 87=fun a=>jb (aJ a))(gn:bu L 106=fun a=>kr (aJ a))(gs:bu L 49=fun a=>iA (aJ a))(gf:bu L 110=fun a=>EZ (aJ a))(n:Nat)(M:List (List Rat)){k1:Nat}(hk:0<k1)(hM:M.length=n)(hn9:n<1000)(hR:∀ R ∈ M,R.length=n∧RbL k1 R)(h6:n*(k1+exB n k1 (n - 1)+1)+1+k1+exB n k1 (n - 1)≤1000000) :
  ∀ (rows:List (List Rat)) (row:Nat) (S:List Bool) (hp0:List Blk),M.drop row=rows→row+rows.length=n→S.length=n→5≤hp0.length→H0 hp0 M n S →
  ∃ hp' w,runK (CC L) (rows.length+n+3) 109 [iv row,.ptr 0 0,.ptr 3 0,.ptr 4 0] hp0=some ([.agg (cz (exU n rows S))],hp',w)∧hp0.length≤hp'.length∧(∀ i,i<hp0.length→aY hp' i=aY hp0 i)∧WB hp0.length w
 | [],row,S,hp0,hd,hl,hS,h5,hH=>by
  have e:row=n:=by simpa using hl
  subst e
  obtain⟨st,x1,x2,x3,x4⟩:=ach L (runK (CC L) (row+2)) (row+2) hp0 row M hM S h5 hH (ahn gf _)
  have hb:=jz A7 rfl x1 x4
  rw[x2,x3] at hb
  have w0:WB hp0.length ([]:List Nat):=fun i hi=>by cases hi
  have e9:([]:List (List Rat)).length+row+3=row+2+1:=by rw[length_nil];omega
  rw[e9]
  exact⟨_,_,hb,by rw[al4];omega,fun i hi=>al3 hp0 rz _ i hi,(w0.add (WB.one (x:=hp0.length) (.inr (Nat.le_refl _)))).add (WB.one (x:=hp0.length) (.inr (Nat.le_refl _)))⟩
 | r::rs,row,S,hp0,hd,hl,hS,h5,hH=>by
  have hrow:row<M.length:=by rw[hM];simp at hl;omega
  have hdr:=drop_eq_getElem_cons hrow
  rw[hd] at hdr
  simp only[List.cons.injEq] at hdr
  obtain⟨er,ers⟩:=hdr
  have hRr:=hR _ (getElem_mem hrow)
  have hmono:exB n k1 rs.length≤exB n k1 (n - 1):=by
   have hle:rs.length≤n - 1:=by simp at hl;omega
   have step:∀ d,exB n k1 d≤exB n k1 (d+1):=by
    intro d
    show exB n k1 d≤n*(k1+exB n k1 d+1)+1
    have:1*(k1+exB n k1 d+1)≤n*(k1+exB n k1 d+1):=Nat.mul_le_mul_right _ (by omega)
    omega
   have:∀ a b,a≤b→exB n k1 a≤exB n k1 b:=by
    intro a b hab
    induction hab with
    | refl=>exact Nat.le_refl _
    | step _ ih=>exact Nat.le_trans ih (step _)
   exact this _ _ hle
  have hnm:n*(k1+exB n k1 rs.length+1)≤n*(k1+exB n k1 (n - 1)+1):=Nat.mul_le_mul_left _ (by omega)
  have hcall:X7 L (runK (CC L) (rs.length+n+3)) hp0 S row n (fun i=>exU n rs (S.set i true)):=by
   intro i hi hSi hp1 hl1 ho1 h12
   obtain⟨p0,p2,p3,p4⟩:=hH
   have H1:H0 hp1 M n (S.set i true):=⟨by rw[ho1 0 (by omega) (by omega),p0],h12,by rw[ho1 3 (by omega) (by omega),p3],by rw[ho1 4 (by omega) (by omega),p4]⟩
   obtain⟨hp',w,c1,c2,c3,c4⟩:=VF L gm ga gn gs gf n M hk hM hn9 hR h6 rs (row+1) (S.set i true) hp1 ers.symm (by simp at hl;omega) (by rw[length_set];exact hS) (by omega) H1
   have hold:∀ j ∈ lU hp1.length w,j=2:=fun j hj=>by
    obtain⟨m1,m2⟩:=lW hj
    rcases c4 j m1 with h | h
    ·exact h
    ·omega
   refine⟨(lU hp1.length w).length,?_⟩
   have hcc:=De (L:=L) J1 c1 (by cases exU n rs (S.set i true) <;> rfl) c2 c3 (fun j hj b hb=>by
    rw[hold j hj,c3 2 (by omega),h12] at hb
    simp only[OiE] at hb
    rw[← hb];exact xU _ _) true
   rw[LC hold] at hcc
   simpa [iv] using hcc
  obtain⟨fr,fr1,a1,a2,a3⟩:=age L (runK (CC L) (rs.length+n+3)) (rs.length+n+3) hp0 row n M hM (by omega) S h5 hH
  have l1:(aM (aM hp0 rz) rz).length=hp0.length+2:=by simp[aM]
  have X0:XH hp0 (aM (aM hp0 rz) rz) (cz none):=by
   refine⟨by omega,fun i hi => ?_,?_,?_⟩
   ·rw[bK,if_neg (by simp[aM];omega),bK,if_neg (by omega)]
   ·rw[bK,if_neg (by simp[aM]),al1]
   ·have:hp0.length+1=(aM hp0 rz).length:=by simp[aM]
    rw[this,al1];rfl
  have w0:WB hp0.length ([]:List Nat):=fun i hi=>by cases hi
  have w1:=(w0.add (WB.one (x:=hp0.length) (.inr (Nat.le_refl _)))).add (WB.one (x:=hp0.length+1) (.inr (Nat.le_succ _)))
  obtain⟨fr2,hp2,wr2,b1,b2,b3,b4⟩:=Lh L (runK (CC L) (rs.length+n+3)) (rs.length+n+3) gm ga gn gs hp0 row n M S (fun i=>exU n rs (S.set i true)) (k1:=k1) (k2:=exB n k1 rs.length) hS (by omega) hn9 h5 hH hrow hRr.1 hk hRr.2 (fun i=>BX hk rs _ fun R hRm=>(hR R (by
   have:R ∈ M.drop (row+1):=by rw[← ers];exact hRm
   exact mem_of_mem_drop this)).2) (by omega) hcall n 0 fr1 _ _ (by omega) a3 X0 w1
  have eU:exU n (r::rs) S=(exS (fun i=>vv (exU n rs (S.set i true))) M[row] S n).1:=by rw[← er];rfl
  obtain⟨st,c1,c2,c3,c4⟩:=acg L (runK (CC L) (rs.length+n+3)) (rs.length+n+3) fr2 hp0 hp2 wr2 row n n _ _ _ (AX _) b2 b3
  have hloop:af (CC L) (runK (CC L) (rs.length+n+3)) (rs.length+n+3) (.seq aci (.block 0 (.loop exL))) ⟨fr,aM (aM hp0 rz) rz,aA [hp0.length+1] (aA [hp0.length] [])⟩=some (.normal,⟨fr2,hp2,wr2⟩):=by
   rw[av a2];exact bN (ca b1 (by omega))
  have hx:af (CC L) (runK (CC L) (rs.length+n+3)) (rs.length+n+3) exC ⟨entry 56 [iv row,.ptr 0 0,.ptr 3 0,.ptr 4 0],hp0,[]⟩=some (.ret,st):=by
   rw[aO 4 a1,agd,av hloop,c1]
  have hb:=jz A7 rfl hx c4
  rw[c2,c3,← eU] at hb
  obtain⟨q1,q2,q3,q4⟩:=b3
  have e9:(r::rs).length+n+3=(rs.length+n+3)+1:=by simp;omega
  rw[e9]
  exact⟨_,_,hb,by rw[bL];omega,fun i hi=>by rw[jS (j:=i) q3 (by omega),q2 i hi],b4.add (WB.one (x:=hp0.length) (.inr (Nat.le_refl _)))⟩
theorem Jv:base.F.get 62=some f62:=by kernel_rfl
theorem wB:base.shared 62=false:=by kernel_rfl
theorem bB:ie TT 4=some 1:=by kernel_rfl
theorem zB:eK TT 4=some [bl false]:=by kernel_rfl
theorem adE:eK TT 140=some [.sc (.slice none 0 0)]:=by kernel_rfl
theorem zFn:eK TT 141=some [.sc .nilFunc]:=by kernel_rfl
theorem IT (f:FuncId)(cs:List PV):(PV.clos f cs).cells?=some [.clos f cs]:=(rfl)
theorem Eg (f:FuncId)(cs:List PV):dk (PV.clos f cs)=true:=(rfl)
theorem WU (M:List (List Rat)):(mC M).cells?=some [mC M]:=(rfl)
theorem R5:∀ n,rep n [bl false]=(List.replicate n false).map bl
 | 0=>rfl
 | n+1=>by rw[rep,R5 n,replicate_succ];rfl
noncomputable def dtC:Code:=f62.body.getD .skip
def dtH (M:List (List Rat))(n:Nat)(sc:List PV):List Blk:=[⟨.live,[mC M]⟩,⟨.live,sc⟩,⟨.live,(List.replicate n false).map bl⟩,⟨.live,[.own 2 1 0 n true]⟩,⟨.live,[fnP]⟩]
theorem ags (L:Lst)(run:ar)(k:Nat)(M:List (List Rat))(n:Nat)(hM:M.length=n)(hn:n≤1000) :
  ∃ fr wr,aX (CC L) run k 4 dtC ⟨entry 11 [mC M],[],[]⟩=some ⟨fr,dtH M n rz,wr⟩∧fr.length=11∧nth fr 2 = .ptr 1 0∧nth fr 4 = .ptr 4 0:=by
 obtain⟨e1,e2⟩:=cW 10 (mC M)
 generalize entry 11 [mC M]=fr0 at *
 have hl:=Ip M
 rw[hM] at hl
 have hm:n≤cS:=Nat.le_trans hn (by decide)
 have hrp:=R5 n
 have hb:[bl false].length=1:=rfl
 have hblf:(bl false) = .sc (.bool false):=rfl
 simp[dtC,f62,aX,af,aH,ao,aq,aG,ag,ai,an,aj,aF,aA,FzZ,bO,bm,partOf,aa,ae,ab,bd,and_assoc,O9,kC,bh,e1,e2,hl,WU,zRz,zFn,adE,zB,bB,sB,hm,hrp,hb,kO,LD,J6,Gg,wF,sFn,dtH,fnP,aM,aY,bZ,cq,aV,br,cg,IT,Eg]
theorem acv(M:List (List Rat))(n m:Nat)(sc:List PV)(u:Option Rat)(hc:Rc sc u)(h0:fr.length=11)(h2:nth fr 2 = .ptr 1 0)(h4:nth fr 4 = .ptr 4 0)(hcall:∀ dr,bX (CC L) run dr (dtH M n rz) 109 [.sc (.int .i64 0),.ptr 0 0,.ptr 3 0,.ptr 4 0]=some (.agg sc,dtH M n rz,⟨[],List.replicate m 2,true,true⟩)) :
  ∃ st,af (CC L) run k (ah 4 dtC) ⟨fr,dtH M n rz,wr⟩=some (.ret,st)∧aU TT st.fr st.hp f62.results.toList=some [.agg sc]:=by
 have ht:=eo sc hc.len
 have ho:=dW rz sc (by rw[hc.len];rfl)
 have hok:=hc.okc
 have hlx:=hc.len
 have k4:aY (dtH M n rz) 4=some ⟨.live,[fnP]⟩:=rfl
 have k1:aY (dtH M n rz) 1=some ⟨.live,rz⟩:=rfl
 have k1':aY (bZ (dtH M n rz) 1 ⟨.live,sc⟩) 1=some ⟨.live,sc⟩:=rfl
 unfold fnP at k4
 simp[dtC,f62,ah,af,aH,ao,aq,aG,ag,ai,aL,an,aj,aF,aA,az,partOf,aa,ae,ab,bd,bp,h0,h2,h4,k4,k1,k1',hcall,ht,ho,hok,hlx,aR,sR,aFn,sFn,aV,br,aU]
def Sq (n:Nat)(M:List (List Rat)):Prop:=M.length=n∧∀ R ∈ M,R.length=n∧RbL 1000 R
def mW (M:List (List Rat)):Option Rat:=exU M.length M (List.replicate M.length false)
theorem UH {k:Nat}{M N:List (List Rat)}(hM:∀ R ∈ M,RbL k R)(hN:∀ R ∈ N,RbL k R)(h9:k≤2000000)(h:mC M=mC N):M=N:=by
 unfold mC fg at h
 simp only[PV.imm.injEq,true_and] at h
 obtain⟨-,h2⟩:=h
 induction M generalizing N with
 | nil=>cases N with
  | nil=>rfl
  | cons b N=>simp[eV] at h2
 | cons a M ih=>cases N with
  | nil=>simp[eV] at h2
  | cons b N =>
   simp only[flatMap_cons,eV,cons_append,nil_append,List.cons.injEq] at h2
   rw[vX (hM a mem_cons_self) (hN b mem_cons_self) h9 h2.1,ih (fun x hx=>hM x (mem_cons_of_mem _ hx)) (fun x hx=>hN x (mem_cons_of_mem _ hx)) h2.2]
noncomputable def sU:List PV→Option (List PV):=ctr (fun M:List (List Rat)=>[mC M]) (fun M=>∃ n,n≤4∧Sq n M) fun M=>[rv (mW M)]
theorem agn (n:Nat)(hn:n≤4):n*(1000+exB n 1000 (n - 1)+1)+1+1000+exB n 1000 (n - 1)≤1000000:=by
 have:n=0∨n=1∨n=2∨n=3∨n=4:=by omega
 rcases this with rfl | rfl | rfl | rfl | rfl <;> decide
theorem xu:Ab.Spec base.P 62 sU:=Ab.Spec.bM (C:=CC LR1) (cP yz) fun args rs h=>by
 obtain⟨M,⟨n,hn,hM,hR⟩,rfl,rfl⟩:=cN h
 obtain⟨fr,wr,a1,a2,a3,a4⟩:=ags LR1 (runK (CC LR1) (n+n+3)) (n+n+3) M n hM (by omega)
 have hH:H0 (dtH M n rz) M n (List.replicate n false):=⟨rfl,rfl,rfl,rfl⟩
 obtain⟨hp',w,c1,c2,c3,c4⟩:=VF LR1 rfl rfl rfl rfl rfl n M (k1:=1000) (by omega) hM (by omega) hR (agn n hn) M 0 (List.replicate n false) (dtH M n rz) rfl (by omega) (by simp) (Nat.le_refl 5) hH
 rw[hM] at c1
 have hold:∀ j ∈ lU (dtH M n rz).length w,j=2:=fun j hj=>by
  obtain⟨m1,m2⟩:=lW hj
  rcases c4 j m1 with h | h
  ·exact h
  ·omega
 have hcc:=fun dr=>De (L:=LR1) J1 c1 (by cases exU n M (List.replicate n false) <;> rfl) c2 c3 (fun j hj b hb=>by
  rw[hold j hj,c3 2 (show 2<5 by omega)] at hb
  have hb2:some (⟨.live,(List.replicate n false).map bl⟩:Blk)=some b:=hb
  simp only[OiE] at hb2
  rw[← hb2];exact xU _ _) dr
 rw[LC hold] at hcc
 obtain⟨st,x1,x2⟩:=acv LR1 (runK (CC LR1) (n+n+3)) (n+n+3) fr wr M n _ _ _ (AX _) a2 a3 a4 hcc
 have hx:af (CC LR1) (runK (CC LR1) (n+n+3)) (n+n+3) dtC ⟨entry 11 [mC M],[],[]⟩=some (.ret,st):=by
  rw[aO 4 a1,x1]
 have hd:mW M=exU n M (List.replicate n false):=by unfold mW;rw[hM]
 refine⟨_,_,_,_,_,_,aP Jv rfl hx x2,(AX _).p.JX _,?_,trivial⟩
 rw[hd]
 exact (AX _).p.wk
theorem ac0 {L:Lst}(hL:bu L 62=fun a=>sU (aJ a))(run:ar)(p:PV)(M:List (List Rat))(hp:∀ hp,bq (snap hp bn) [p]=some ([p],[]))(hc:canon p=mC M){n k:Nat}(hn:n≤4)(hk:k≤1000)(hM:M.length=n)(hR:∀ R ∈ M,R.length=n∧RbL k R):au L run 62 [p] (rv (mW M)):=fun dr hh =>
 jO wB hL run dr hh _ [mC M] [rv (mW M)] (hp hh) (by simp only[aJ,hc]) (jn (e:=fun M:List (List Rat)=>[mC M]) (x:=M) (fun x y hx hy h=>by
  obtain⟨_,_,_,h1⟩:=hx
  obtain⟨_,_,_,h2⟩:=hy
  rw[UH (fun R hR=>(h1 R hR).2) (fun R hR=>(h2 R hR).2) (by omega) (by simpa using h)]) ⟨n,hn,hM,fun R hRm=>⟨(hR R hRm).1,fun x hx=>((hR R hRm).2 x hx).mono hk⟩⟩)
theorem WX (M:List (List Rat)):canon (mT M)=mC M:=by
 unfold mT mC fg
 rw[canon]
 congr 1
 induction M with
 | nil=>rfl
 | cons a M ih =>
  rw[flatMap_cons,flatMap_cons,lH,ih]
  simp only[eT,eV,aJ,AY]
end Go.Proofs.YtjdmodeenbdfpaaGreat
