/- Contracts of num's integers, part 20 of the proof; each lemma states its own conditions. -/
import Derived.Test.YtjdmodeenbdfpaaGreatQ19
import Derived.Test.YtjdmodeenbdfpaaGreatQ17
set_option linter.unusedSimpArgs false
set_option linter.unusedVariables false
namespace Go.Proofs.YtjdmodeenbdfpaaGreat
open Go Go.Ab
noncomputable def lu:Code:=Tryz.f181.body.getD .skip
noncomputable def qN:Code:=((Tryz.f181.body).bind aF).getD .skip
abbrev hp1 (out:List Nat):List Blk:=[⟨.live,out.map dg⟩]
theorem K5 (L:Lst)(run:aq)(k:Nat)(fr:List PV)(hp:List Blk)(wr:List Nat)(h42:fr.length=42)(h8:nth fr 8 = .sc (.int .i64 (-1))) :
  ∃ fr',af (CC L) run k qN ⟨fr,hp,wr⟩=some (.exit 0,⟨fr',hp,wr⟩)∧fr'.length=42∧nth fr' 6=nth fr 6∧nth fr' 7=nth fr 7:=by
 simp[qN,Tryz.f181,aF,af,aH,an,ao,aG,ag,ai,aj,ak,aC,az,FP.none,aY,au,bf,av,aa,ae,ab,h42,h8]
set_option maxHeartbeats 2000000 in
theorem Ca (L:Lst)(run:aq)(k:Nat)(fr:List PV)(wr:List Nat)(a out:List Nat)(b m R q r:Nat)(ha:Dok a)(hb:0<b)(hb2:b<1000000000)(hR:R<b)(hm:m<a.length)(hl:out.length=a.length)(hl2:a.length<1000000)
  (h42:fr.length=42) (h0:nth fr 0=aL a) (h1:nth fr 1=dg b) (h6:nth fr 6 = .own 0 1 0 a.length true) (h7:nth fr 7 = .sc (.int .u64 (R:Int))) (h8:nth fr 8 = .sc (.int .i64 (m:Int)))
  (hq:q=(R*1000000000+at0 a m) / b) (hr:r=(R*1000000000+at0 a m) % b) :
  ∃ fr' wr',af (CC L) run k qN ⟨fr,hp1 out,wr⟩=some (.normal,⟨fr',hp1 (out.set m q),wr'⟩)∧fr'.length=42∧nth fr' 0=aL a∧nth fr' 1=dg b∧nth fr' 6 = .own 0 1 0 a.length true∧nth fr' 7 = .sc (.int .u64 (r:Int))∧nth fr' 8 = .sc (.int .i64 ((m:Int) - 1)):=by
 have hda:=eK a m hm
 have hax:=ha.get hm
 have hov:=iM out m q (by omega)
 rw[cY hm] at hq hr
 generalize a[m]=x at *
 have e1:aL a = .imm a.length false (a.map dg):=rfl
 have hdx:dg x = .sc (.int .u32 (x:Int)):=rfl
 have hdb:dg b = .sc (.int .u32 (b:Int)):=rfl
 rw[e1] at h0 ⊢;rw[hdx] at hda;rw[hdb] at h1 ⊢
 obtain⟨s1,hs1⟩:∃ s1,s1=R*1000000000:=⟨_,rfl⟩
 obtain⟨s2,hs2⟩:∃ s2,s2=s1+x:=⟨_,rfl⟩
 rw[← hs1,← hs2] at hq hr
 have hq9:q<1000000000:=by
  rw[hq]
  refine Nat.div_lt_of_lt_mul ?_
  have:(R+1)*1000000000≤b*1000000000:=Nat.mul_le_mul_right _ hR
  rw[Nat.add_mul] at this
  omega
 have hw0:=ch .u64 x (dt (by omega))
 have hwb:=ch .u64 b (dt (by omega))
 have hw1:=lj .u64 R s1 hs1 (dt (by omega))
 have hw2:=dq .u64 s1 x s2 hs2 (dt (by omega))
 have hw3:=aak .u64 s2 b q hq (dt (by omega))
 have hw4:=yi s2 b r hr
 have hw5:bA .u32 (q:Int)=(q:Int):=ch .u32 q (im (by omega))
 have hwm:=cK m (by omega)
 have hb0 : ¬ (b=0):=by omega
 simp[qN,Tryz.f181,aF,af,aH,an,ao,aG,ag,ai,aj,ak,aC,az,FP.none,aY,au,bf,av,bg,bk,partOf,aa,ae,ab,bh,and_assoc,bc,dj,fZ,h42,h0,h1,h6,h7,h8,uD,u32,u64,s32,a32,dy,hm,hda,aU,aZ,cf,hw0,hwb,hw1,hw2,hw3,hw4,hw5,hwm,hov,hb0,gM q,number,FP.free]
theorem uM (L:Lst)(run:aq)(k:Nat)(a:List Nat)(b:Nat)(ha:Dok a)(hb:0<b)(hb2:b<1000000000)(hl2:a.length<1000000):∀ (m:Nat) (fr:List PV) (wr:List Nat) (out:List Nat) (R:Nat),m≤a.length→out.length=a.length →
  fr.length=42→nth fr 0=aL a→nth fr 1=dg b→nth fr 6 = .own 0 1 0 a.length true→nth fr 7 = .sc (.int .u64 (R:Int))→nth fr 8 = .sc (.int .i64 ((m:Int) - 1)) →
  R=val (a.drop m) % b→val (out.drop m)=val (a.drop m) / b→Dok out →
  ∃ (fr':List PV) (wr':List Nat) (out':List Nat),ca (af (CC L) run k qN) (m+1) ⟨fr,hp1 out,wr⟩=some (.exit 0,⟨fr',hp1 out',wr'⟩)∧fr'.length=42∧nth fr' 6 = .own 0 1 0 a.length true∧nth fr' 7 = .sc (.int .u64 ((val a % b:Nat):Int))∧out'.length=a.length∧Dok out'∧val out'=val a / b
 | 0,fr,wr,out,R,hm,hl,h42,h0,h1,h6,h7,h8,hR,hv,ho=>by
  obtain⟨fr',g1,g2,g3,g4⟩:=K5 L run k fr (hp1 out) wr h42 (by rw[h8];rfl)
  simp only[List.drop_zero] at hR hv
  exact⟨fr',wr,out,bz g1,g2,by rw[g3,h6],by rw[g4,h7,hR],hl,ho,hv⟩
 | m+1,fr,wr,out,R,hm,hl,h42,h0,h1,h6,h7,h8,hR,hv,ho=>by
  have h8':nth fr 8 = .sc (.int .i64 (m:Int)):=by rw[h8];simp
  have hRb:R<b:=by rw[hR];exact Nat.mod_lt _ hb
  obtain⟨fr1,wr1,g1,g2,g3,g4,g5,g6,g7⟩:=Ca L run k fr wr a out b m R _ _ ha hb hb2 hRb (by omega) hl hl2 h42 h0 h1 h6 h7 h8' rfl rfl
  have hax:=cj ha m
  obtain⟨d1,d2⟩:=Ee (Q:=val (a.drop (m+1)) / b) (R:=val (a.drop (m+1)) % b) hb (ia a m (by omega)) rfl rfl
  rw[← hR] at d1 d2
  obtain⟨fr',wr',out',q1,q2⟩:=uM L run k a b ha hb hb2 hl2 m fr1 wr1 (out.set m ((R*1000000000+at0 a m) / b)) ((R*1000000000+at0 a m) % b) (by omega) (by rw[List.length_set];exact hl) g2 g3 g4 g5 g6 g7 d2
   (by rw[kz (by omega),val,hv];exact d1)
   (ho.set _ (by
    refine Nat.div_lt_of_lt_mul ?_
    have:(R+1)*1000000000≤b*1000000000:=Nat.mul_le_mul_right _ hRb
    rw[Nat.add_mul] at this
    omega))
  exact⟨fr',wr',out',by rw[bU g1];exact q1,q2⟩
noncomputable def FB:Code:=seq1 (seq1 (ah 2 lu))
theorem B9:ah 2 lu = .seq (.seq FB (.block 0 (.loop qN))) (ah 3 lu):=rfl
theorem K4 (L:Lst)(run:aq)(k:Nat)(a:List Nat)(p:PV)(hl:a.length<1000000) :
  ∃ fr wr,aX (CC L) run k 2 lu ⟨entry 42 [aL a,p],[],[]⟩=some ⟨fr,hp1 (List.replicate a.length 0),wr⟩∧fr.length=42∧nth fr 0=aL a∧nth fr 1=p∧nth fr 6 = .own 0 1 0 a.length true∧nth fr 7 = .sc (.int .u64 (0:Nat)):=by
 obtain⟨e1,e2,e3⟩:=cn 40 (aL a) p
 generalize entry 42 [aL a,p]=fr0 at *
 have h1:a.length≤cL:=Nat.le_trans (Nat.le_of_lt hl) (by decide)
 rw[show hp1 (List.replicate a.length 0)=[⟨.live,rep a.length [dg 0]⟩] by rw[qW]]
 simp[lu,Tryz.f181,aX,e1,e2,e3,af,aH,an,ao,aG,ag,ai,aj,ak,aC,az,FP.none,av,bK,bk,aa,ae,ab,bh,and_assoc,cg,uD,s32,b32,z32,aP,bZ,h1]
theorem V9 (L:Lst)(run:aq)(k:Nat)(fr:List PV)(hp:List Blk)(wr:List Nat)(a:List Nat)(hl:a.length<1000000)(h42:fr.length=42)(h0:nth fr 0=aL a) :
  ∃ fr',af (CC L) run k FB ⟨fr,hp,wr⟩=some (.normal,⟨fr',hp,wr⟩)∧fr'.length=42∧nth fr' 0=aL a∧nth fr' 1=nth fr 1∧nth fr' 6=nth fr 6∧nth fr' 7=nth fr 7∧nth fr' 8 = .sc (.int .i64 ((a.length:Int) - 1)):=by
 have hw:=cK a.length (by omega)
 simp[FB,lu,Tryz.f181,ah,seq1,af,aH,an,ao,aG,ag,ai,aj,ak,aC,az,FP.none,aY,au,bf,av,bK,aa,ae,ab,bh,cg,uD,h42,h0,hw]
theorem FA (L:Lst)(run:aq)(k:Nat)(fr:List PV)(hp:List Blk)(wr:List Nat)(p:PV)(r:Nat)(hr:r<1000000000)(h42:fr.length=42)(h6:nth fr 6=p)(h7:nth fr 7 = .sc (.int .u64 (r:Int))) :
  ∃ st,af (CC L) run k (ah 3 lu) ⟨fr,hp,wr⟩=some (.ret,st)∧aV TT st.fr st.hp Tryz.f181.results.toList=some [p,dg r]∧st.hp=hp:=by
 have hw5:bA .u32 (r:Int)=(r:Int):=ch .u32 r (im (by omega))
 simp[lu,Tryz.f181,ah,af,aH,an,ao,aG,ag,ai,aj,ak,aC,az,FP.none,aa,ae,ab,bh,and_assoc,u32,u64,dy,h42,h6,h7,hw5,aV,gM r]
def dg?:PV→Option Nat
 | .sc (.int .u32 (.ofNat n))=>bif n.blt 1000000000 then some n else none
 | _=>none
theorem Ud {p:PV}{n:Nat}(h:dg? p=some n):p=dg n∧n<1000000000:=by
 unfold dg? at h
 split at h
 ·rename_i m
  cases hb:m.blt 1000000000 with
  | false=>rw[hb] at h;cases h
  | true =>
   rw[hb] at h
   simp at h;subst h
   exact⟨rfl,by simpa [Nat.blt_eq] using hb⟩
 ·cases h
theorem Ue {n:Nat}(h:n<1000000000):dg? (dg n)=some n:=by
 have:n.blt 1000000000=true:=by rw[Nat.blt_eq];exact h
 show (bif n.blt 1000000000 then some n else none)=some n
 rw[this];rfl
def lr:List PV→Option (List PV)
 | [p,q]=>match gU p,dg? q with
  | some a,some (b+1)=>some [aL (cX a.length (val a / (b+1))),dg (val a % (b+1))]
  | _,_=>none
 | _=>none
theorem ov:Ab.Spec base.P 181 lr:=Ab.Spec.bN (C:=CC []) (cU trivial) fun args rs h=>by
 unfold lr at h
 split at h
 ·split at h
  ·rename_i a b ea eb
   obtain⟨rfl,ha,hla⟩:=dp ea
   obtain⟨rfl,hb⟩:=Ud eb
   simp only[Option.some.injEq] at h
   subst h
   obtain⟨f1,wr1,p1,p2,p3,p4,p5,p6⟩:=K4 [] (runK (CC []) (a.length+1)) (a.length+1) a (dg (b+1)) hla
   obtain⟨f2,q1,q2,q3,q4,q5,q6,q7⟩:=V9 [] (runK (CC []) (a.length+1)) (a.length+1) f1 (hp1 (List.replicate a.length 0)) wr1 a hla p2 p3
   obtain⟨f3,wr3,out,r1,r2,r3,r4,r5,r6,r7⟩:=uM [] (runK (CC []) (a.length+1)) (a.length+1) a (b+1) ha (by omega) hb hla a.length f2 wr1 (List.replicate a.length 0) 0 (Nat.le_refl _) (by simp) q2 q3 (by rw[q4,p4]) (by rw[q5,p5]) (by rw[q6,p6]) q7 (by simp[val]) (by simp[val]) (Dok.IC _)
   obtain⟨st,e1,e2,e3⟩:=FA [] (runK (CC []) (a.length+1)) (a.length+1) f3 (hp1 out) wr3 _ (val a % (b+1)) (Nat.lt_of_lt_of_le (Nat.mod_lt _ (by omega)) (by omega)) r2 r3 r4
   have hx:af (CC []) (runK (CC []) (a.length+1)) (a.length+1) lu ⟨entry 42 [aL a,dg (b+1)],[],[]⟩=some (.ret,st):=by
    rw[aM 2 p1,B9,aw ((aw q1).trans (bF r1))]
    exact e1
   have hout:out=cX a.length (val a / (b+1)):=r6.oL r5 r7
   refine⟨a.length+2,_,_,_,[.imm a.length true (out.map dg),dg (val a % (b+1))],[0],aQ Ic rfl hx e2,?_,?_⟩
   ·rw[e3,← r5]
    have hs:=jE (hp1 out) 10 out
    have:snap (hp1 out) 12 (.own 0 1 0 out.length true)=some (.imm out.length true (out.map dg),[0]):=by
     rw[snap]
     have h:aZ (hp1 out) 0=some ⟨.live,out.map dg⟩:=rfl
     simp only[h]
     rw[if_neg (by simp),BT]
     simp only[hs]
    simp only[bj,bq,this]
    rfl
   ·refine⟨?_,Wk.refl rfl,trivial⟩
    rw[← hout]
    have:=Wk.imm a.length true (out.map dg)
    rw[← r5] at this ⊢
    exact this
  ·cases h
 ·cases h
noncomputable def o8:Code:=Tryz.f165.body.getD .skip
noncomputable def yb:Code:=((Tryz.f165.body).bind aF).getD .skip
theorem Oy (L:Lst)(run:aq)(k:Nat)(fr:List PV)(hp:List Blk)(wr:List Nat)(h21:fr.length=21)(h4:nth fr 4 = .sc (.int .i64 (-1))) :
  ∃ fr',af (CC L) run k yb ⟨fr,hp,wr⟩=some (.exit 0,⟨fr',hp,wr⟩)∧fr'.length=21∧nth fr' 3=nth fr 3:=by
 simp[yb,Tryz.f165,aF,af,aH,an,ao,aG,ag,ai,aj,ak,aC,az,FP.none,aY,au,bf,av,aa,ae,ab,h21,h4]
theorem Fc (L:Lst)(run:aq)(k:Nat)(fr:List PV)(hp:List Blk)(wr:List Nat)(a:List Nat)(m N M:Nat)(ha:Dok a)(hm:m<a.length)(hl:a.length<1000000)(hM:M=N*1000000000+at0 a m)(hM2:M<9223372036854775808)
  (h21:fr.length=21) (h0:nth fr 0=aL a) (h3:nth fr 3 = .sc (.int .i64 (N:Int))) (h4:nth fr 4 = .sc (.int .i64 (m:Int))) :
  ∃ fr',af (CC L) run k yb ⟨fr,hp,wr⟩=some (.normal,⟨fr',hp,wr⟩)∧fr'.length=21∧nth fr' 0=aL a∧nth fr' 3 = .sc (.int .i64 (M:Int))∧nth fr' 4 = .sc (.int .i64 ((m:Int) - 1)):=by
 have hda:=eK a m hm
 have hax:=ha.get hm
 rw[cY hm] at hM
 generalize a[m]=x at *
 have e1:aL a = .imm a.length false (a.map dg):=rfl
 have hdx:dg x = .sc (.int .u32 (x:Int)):=rfl
 rw[e1] at h0 ⊢;rw[hdx] at hda
 obtain⟨s1,hs1⟩:∃ s1,s1=N*1000000000:=⟨_,rfl⟩
 rw[← hs1] at hM
 have hw0:bA .i64 (x:Int)=(x:Int):=ch .i64 x (hiI (by omega))
 have hw1:=lj .i64 N s1 hs1 (hiI (by omega))
 have hw2:=dq .i64 s1 x M hM (hiI (by omega))
 have hwm:=cK m (by omega)
 simp[yb,Tryz.f165,aF,af,aH,an,ao,aG,ag,ai,aj,ak,aC,az,FP.none,aY,au,bf,av,bg,bk,partOf,aa,ae,ab,bh,h21,h0,h3,h4,uD,uI,u32,s32,a32,dy,hm,hda,aU,hw0,hw1,hw2,hwm]
theorem x9 (L:Lst)(run:aq)(k:Nat)(a:List Nat)(ha:Dok a)(hl:a.length≤2):∀ (m:Nat) (fr:List PV) (hp:List Blk) (wr:List Nat),m≤a.length →
  fr.length=21→nth fr 0=aL a→nth fr 3 = .sc (.int .i64 ((val (a.drop m):Nat):Int))→nth fr 4 = .sc (.int .i64 ((m:Int) - 1)) →
  ∃ (fr':List PV),ca (af (CC L) run k yb) (m+1) ⟨fr,hp,wr⟩=some (.exit 0,⟨fr',hp,wr⟩)∧fr'.length=21∧nth fr' 3 = .sc (.int .i64 ((val a:Nat):Int))
 | 0,fr,hp,wr,hm,h21,h0,h3,h4=>by
  obtain⟨fr',g1,g2,g3⟩:=Oy L run k fr hp wr h21 (by rw[h4];rfl)
  exact⟨fr',bz g1,g2,by rw[g3,h3,List.drop_zero]⟩
 | m+1,fr,hp,wr,hm,h21,h0,h3,h4=>by
  have h4':nth fr 4 = .sc (.int .i64 (m:Int)):=by rw[h4];simp
  have hb:val (a.drop m)<9223372036854775808:=by
   have h1:=eM (ha.drop m)
   have h2:(a.drop m).length≤2:=by rw[List.length_drop];omega
   have h3:=Nat.pow_le_pow_right (n:=1000000000) (by omega) h2
   have h4:1000000000 ^ 2<9223372036854775808:=by decide
   omega
  obtain⟨fr1,g1,g2,g3,g4,g5⟩:=Fc L run k fr hp wr a m (val (a.drop (m+1))) (val (a.drop m)) ha (by omega) (by omega) (by rw[ia a m (by omega)];omega) hb h21 h0 h3 h4'
  obtain⟨fr',q1,q2⟩:=x9 L run k a ha hl m fr1 hp wr (by omega) g2 g3 g4 g5
  exact⟨fr',by rw[bU g1];exact q1,q2⟩
noncomputable def Oz:Code:=seq1 (seq1 (ah 2 o8))
theorem Fb:ah 2 o8 = .seq (.seq Oz (.block 0 (.loop yb))) (ah 3 o8):=rfl
theorem Ox (L:Lst)(run:aq)(k:Nat)(p:PV) :
  ∃ fr,aX (CC L) run k 2 o8 ⟨entry 21 [p],[],[]⟩=some ⟨fr,[],[]⟩∧fr.length=21∧nth fr 0=p∧nth fr 3 = .sc (.int .i64 (0:Nat)):=by
 obtain⟨e1,e2⟩:=cQ 20 p
 generalize entry 21 [p]=fr0 at *
 simp[o8,Tryz.f165,aX,e1,e2,af,aH,an,ao,aG,ag,ai,aj,ak,aC,az,FP.none,av,aa,ae,ab]
theorem aa7 (L:Lst)(run:aq)(k:Nat)(fr:List PV)(a:List Nat)(hl:a.length<1000000)(h21:fr.length=21)(h0:nth fr 0=aL a) :
  ∃ fr',af (CC L) run k Oz ⟨fr,[],[]⟩=some (.normal,⟨fr',[],[]⟩)∧fr'.length=21∧nth fr' 0=aL a∧nth fr' 3=nth fr 3∧nth fr' 4 = .sc (.int .i64 ((a.length:Int) - 1)):=by
 have hw:=cK a.length (by omega)
 simp[Oz,o8,Tryz.f165,ah,seq1,af,aH,an,ao,aG,ag,ai,aj,ak,aC,az,FP.none,aY,au,bf,av,bK,aa,ae,ab,bh,cg,uD,h21,h0,hw]
theorem KE (L:Lst)(run:aq)(k:Nat)(fr:List PV)(p:PV)(h21:fr.length=21)(h3:nth fr 3=p) :
  ∃ st,af (CC L) run k (ah 3 o8) ⟨fr,[],[]⟩=some (.ret,st)∧aV TT st.fr st.hp Tryz.f165.results.toList=some [p]:=by
 simp[o8,Tryz.f165,ah,af,aH,an,ao,aG,ag,ai,aj,ak,aC,az,FP.none,aa,ab,h21,h3,aV]
def ya:List PV→Option (List PV)
 | [p]=>match gU p with
  | some a=>bif a.length.ble 2 then some [Ab.bC (Int.ofNat (val a))] else none
  | _=>none
 | _=>none
theorem x8:Ab.Spec base.P 165 ya:=Ab.Spec.bN (C:=CC []) (cU trivial) fun args rs h=>by
 unfold ya at h
 split at h
 ·split at h
  ·rename_i a ea
   obtain⟨rfl,ha,hla⟩:=dp ea
   cases hb:a.length.ble 2 with
   | false=>rw[hb] at h;cases h
   | true =>
    rw[hb] at h
    simp only[cond_true,Option.some.injEq] at h
    subst h
    rw[Nat.ble_eq] at hb
    obtain⟨f1,p1,p2,p3,p4⟩:=Ox [] (runK (CC []) 3) 3 (aL a)
    obtain⟨f2,q1,q2,q3,q4,q5⟩:=aa7 [] (runK (CC []) 3) 3 f1 a hla p2 p3
    obtain⟨f3,r1,r2,r3⟩:=x9 [] (runK (CC []) 3) 3 a ha hb a.length f2 [] [] (Nat.le_refl _) q2 q3 (by rw[q4,p4];simp[val]) q5
    obtain⟨st,e1,e2⟩:=KE [] (runK (CC []) 3) 3 f3 _ r2 r3
    have hx:af (CC []) (runK (CC []) 3) 3 o8 ⟨entry 21 [aL a],[],[]⟩=some (.ret,st):=by
     rw[aM 2 p1,Fb,aw ((aw q1).trans (bF (bT r1 (by omega))))]
     exact e1
    exact⟨4,_,_,_,_,_,aQ N8 rfl hx e2,eF _ (val a),Wk.refl rfl,trivial⟩
  ·cases h
 ·cases h
noncomputable def ou:Code:=Tryz.f164.body.getD .skip
noncomputable def qK:Code:=((Tryz.f164.body).bind aF).getD .skip
theorem KP (L:Lst)(run:aq)(k:Nat)(fr:List PV)(h12:fr.length=12)(h1:nth fr 1 = .sc (.int .i64 (0:Nat))) :
  ∃ fr',af (CC L) run k qK ⟨fr,[],[]⟩=some (.exit 0,⟨fr',[],[]⟩)∧fr'.length=12∧nth fr' 0=nth fr 0:=by
 simp[qK,Tryz.f164,aF,af,aH,an,ao,aG,ag,ai,aj,ak,aC,az,FP.none,aY,au,bf,av,aa,ae,ab,h12,h1]
theorem B4 (L:Lst)(run:aq)(k:Nat)(fr:List PV)(x y r:Nat)(hy:0<y)(hr:r=x % y)(h12:fr.length=12)(h0:nth fr 0 = .sc (.int .i64 (x:Int)))(h1:nth fr 1 = .sc (.int .i64 (y:Int))) :
  ∃ fr',af (CC L) run k qK ⟨fr,[],[]⟩=some (.normal,⟨fr',[],[]⟩)∧fr'.length=12∧nth fr' 0 = .sc (.int .i64 (y:Int))∧nth fr' 1 = .sc (.int .i64 (r:Int)):=by
 have hw:=yi x y r hr
 have hy0 : ¬ (y=0):=by omega
 simp[qK,Tryz.f164,aF,af,aH,an,ao,aG,ag,ai,aj,ak,aC,az,FP.none,aY,au,bf,av,aa,ae,ab,h12,h0,h1,hy,hy0,hw,number,FP.free]
theorem uG (L:Lst)(run:aq)(k:Nat):∀ (n y x:Nat) (fr:List PV),y<n→fr.length=12→nth fr 0 = .sc (.int .i64 (x:Int))→nth fr 1 = .sc (.int .i64 (y:Int)) →
  ∃ fr',ca (af (CC L) run k qK) n ⟨fr,[],[]⟩=some (.exit 0,⟨fr',[],[]⟩)∧fr'.length=12∧nth fr' 0 = .sc (.int .i64 ((Nat.gcd x y:Nat):Int))
 | 0,y,x,fr,hn,h12,h0,h1=>by omega
 | n+1,y,x,fr,hn,h12,h0,h1=>by
  by_cases hy:y=0
  ·subst hy
   obtain⟨fr',g1,g2,g3⟩:=KP L run k fr h12 h1
   exact⟨fr',bz g1,g2,by rw[g3,h0,Nat.gcd_zero_right]⟩
  ·obtain⟨fr1,g1,g2,g3,g4⟩:=B4 L run k fr x y _ (by omega) rfl h12 h0 h1
   obtain⟨fr',q1,q2,q3⟩:=uG L run k n (x % y) y fr1 (by have:=Nat.mod_lt x (show 0<y by omega);omega) g2 g3 g4
   refine⟨fr',by rw[bU g1];exact q1,q2,?_⟩
   rw[q3,Nat.gcd_comm y (x % y),← Nat.gcd_rec,Nat.gcd_comm]
theorem B3:ah 1 ou = .seq (.block 0 (.loop qK)) (ah 2 ou):=rfl
theorem KO (L:Lst)(run:aq)(k:Nat)(p q:PV) :
  ∃ fr,aX (CC L) run k 1 ou ⟨entry 12 [p,q],[],[]⟩=some ⟨fr,[],[]⟩∧fr.length=12∧nth fr 0=p∧nth fr 1=q:=by
 obtain⟨e1,e2,e3⟩:=cn 10 p q
 generalize entry 12 [p,q]=fr0 at *
 simp[ou,Tryz.f164,aX,e1,e2,e3,af,aH,an,ao,aG,ag,ai,aj,ak,aC,az,FP.none,av,ae,ab]
theorem Ft (L:Lst)(run:aq)(k:Nat)(fr:List PV)(p:PV)(h12:fr.length=12)(h0:nth fr 0=p) :
  ∃ st,af (CC L) run k (ah 2 ou) ⟨fr,[],[]⟩=some (.ret,st)∧aV TT st.fr st.hp Tryz.f164.results.toList=some [p]:=by
 simp[ou,Tryz.f164,ah,af,aH,an,ao,aG,ag,ai,aj,ak,aC,az,FP.none,aa,ab,h12,h0,aV]
def uH:List PV→Option (List PV)
 | [.sc (.int .i64 (.ofNat x)),.sc (.int .i64 (.ofNat y))]=>some [Ab.bC (Int.ofNat (Nat.gcd x y))]
 | _=>none
theorem uF:Ab.Spec base.P 164 uH:=Ab.Spec.bN (C:=CC []) (cU trivial) fun args rs h=>by
 unfold uH at h
 split at h
 ·rename_i x y
  simp only[Option.some.injEq] at h
  subst h
  obtain⟨f1,p1,p2,p3,p4⟩:=KO [] (runK (CC []) (y+1)) (y+1) (.sc (.int .i64 (x:Int))) (.sc (.int .i64 (y:Int)))
  obtain⟨f2,q1,q2,q3⟩:=uG [] (runK (CC []) (y+1)) (y+1) (y+1) y x f1 (by omega) p2 p3 p4
  obtain⟨st,e1,e2⟩:=Ft [] (runK (CC []) (y+1)) (y+1) f2 _ q2 q3
  have hx:af (CC []) (runK (CC []) (y+1)) (y+1) ou ⟨entry 12 [.sc (.int .i64 (x:Int)),.sc (.int .i64 (y:Int))],[],[]⟩=some (.ret,st):=by
   rw[aM 1 p1,B3,aw (bF q1)]
   exact e1
  exact⟨y+2,_,_,_,_,_,aQ Ib rfl hx e2,eF _ (Nat.gcd x y),Wk.refl rfl,trivial⟩
 ·cases h
end Go.Proofs.YtjdmodeenbdfpaaGreat
namespace Go.Ab
open Go
def GI (top v1 v2 u2 g rest:Nat):Prop:=g*v1+rest=top∧∀ q,q<1000000000→q*(v1*1000000000+v2)≤top*1000000000+u2→q≤g
def GF (top v1 v2 u2 g:Nat):Prop:=g<1000000000∧g*(v1*1000000000+v2)≤top*1000000000+u2∧∀ q,q<1000000000→q*(v1*1000000000+v2)≤top*1000000000+u2→q≤g
theorem GI.init {top v1 v2 u2:Nat}(hv:0<v1)(hu:u2<1000000000):GI top v1 v2 u2 (top / v1) (top % v1):=by
 refine⟨by rw[Nat.mul_comm];exact Nat.div_add_mod _ _,fun q hq h => ?_⟩
 rw[Nat.le_div_iff_mul_le hv]
 have:q*(v1*1000000000+v2)=q*v1*1000000000+q*v2:=by rw[Nat.mul_add,Nat.mul_assoc]
 rw[this] at h
 omega
theorem Tv (g v1 v2:Nat):g*(v1*1000000000+v2)=g*v1*1000000000+g*v2:=by rw[Nat.mul_add,Nat.mul_assoc]
theorem GI.step {top v1 v2 u2 g rest:Nat}(h:GI top v1 v2 u2 g rest)(hc:1000000000≤g∨rest*1000000000+u2<g*v2):0<g∧GI top v1 v2 u2 (g - 1) (rest+v1):=by
 obtain⟨h1,h2⟩:=h
 have hg:0<g:=by
  rcases hc with hc | hc
  ·omega
  ·cases g with
   | zero=>simp at hc
   | succ g=>omega
 refine⟨hg,?_,fun q hq h => ?_⟩
 ·obtain⟨g',rfl⟩:∃ g',g=g'+1:=⟨g - 1,by omega⟩
  rw[Nat.add_mul,Nat.one_mul] at h1
  simp only[Nat.add_sub_cancel]
  omega
 ·have h3:=h2 q hq h
  rcases hc with hc | hc
  ·omega
  ·rcases Nat.lt_or_ge q g with h4 | h4
   ·omega
   ·have e:q=g:=by omega
    subst e
    rw[Tv] at h
    omega
theorem GI.stop {top v1 v2 u2 g rest:Nat}(h:GI top v1 v2 u2 g rest)(hc:g<1000000000)(hc2:g*v2≤rest*1000000000+u2):GF top v1 v2 u2 g:=by
 refine⟨hc,?_,h.2⟩
 have:=h.1
 rw[Tv]
 omega
theorem GI.brk {top v1 v2 u2 g rest:Nat}(h:GI top v1 v2 u2 g rest)(hr:1000000000≤rest)(ht:top≤v1*1000000000+999999999)(hv:v2<1000000000):GF top v1 v2 u2 g:=by
 have hg:g<1000000000:=by
  rcases Nat.lt_or_ge g 1000000000 with h' | h'
  ·exact h'
  ·have h1:=h.1
   have:=Nat.mul_le_mul_right v1 h'
   rw[Nat.mul_comm 1000000000 v1] at this
   omega
 refine h.stop hg ?_
 have:g*v2≤999999999*999999999:=Nat.mul_le_mul (by omega) (by omega)
 omega
theorem AY {U V T3 V2 P ulow vlow g:Nat}(hU:U=T3*P+ulow)(hul:ulow<P)(hV:V=V2*P+vlow)(hvl:vlow<P)(hVB:1000000000*P≤V)(hUV:U<V*1000000000)(hg:g<1000000000)
  (hg1:g*V2≤T3) (hg2:∀ q,q<1000000000→q*V2≤T3→q≤g):g=U / V∨g=U / V+1:=by
 have hV0:0<V:=by
  have:0<P:=by omega
  omega
 have hq1:U / V<1000000000:=Nat.div_lt_of_lt_mul hUV
 have hdm:=Nat.div_add_mod U V
 have hmod:=Nat.mod_lt U hV0
 generalize U / V=q at *
 generalize U % V=r at *
 have hqg:q≤g:=by
  refine hg2 q hq1 ?_
  have h1:q*V2*P<(T3+1)*P:=by
   have h2:q*V2*P≤V*q:=by
    rw[hV,Nat.add_mul,Nat.mul_comm (V2*P) q,← Nat.mul_assoc];exact Nat.le_add_right _ _
   rw[Nat.add_mul,Nat.one_mul]
   omega
  exact Nat.le_of_lt_succ (Nat.lt_of_mul_lt_mul_right h1)
 have hgV:g*V<U+V:=by
  have h1:g*V2*P≤T3*P:=Nat.mul_le_mul_right _ hg1
  have h2:g*vlow≤999999999*P:=Nat.mul_le_mul (by omega) (by omega)
  have h3:g*V=g*V2*P+g*vlow:=by rw[hV,Nat.mul_add,Nat.mul_assoc]
  omega
 rcases Nat.lt_or_ge g (q+2) with h | h
 ·omega
 ·have h1:(q+2)*V≤g*V:=Nat.mul_le_mul_right _ h
  rw[Nat.add_mul,Nat.mul_comm q V] at h1
  omega
def msS (u v g bo:Nat):Nat:=bo+g*v+(999999999 - u)
def msX (u v g bo:Nat):Nat:=999999999 - msS u v g bo % 1000000000
def msB (u v g bo:Nat):Nat:=msS u v g bo / 1000000000
theorem aaE {u v g bo:Nat}(hu:u<1000000000):u+msB u v g bo*1000000000=msX u v g bo+bo+g*v:=by
 unfold msX msB
 have h1:msS u v g bo=bo+g*v+(999999999 - u):=rfl
 generalize msS u v g bo=s at *
 generalize g*v=p at *
 omega
theorem Ha (u v g bo:Nat):msX u v g bo<1000000000:=by unfold msX;omega
theorem acx {u v g bo:Nat}(hu:u<1000000000)(hv:v<1000000000)(hb:bo≤g):msB u v g bo≤g:=by
 have h1:=aaE (v:=v) (g:=g) (bo:=bo) hu
 have h2:=Ha u v g bo
 have h3:g*v≤g*999999999:=Nat.mul_le_mul_left _ (by omega)
 generalize msB u v g bo=b at *
 generalize msX u v g bo=x at *
 generalize g*v=p at *
 omega
theorem Yw {u v g bo p:Nat}(hp:p=g*v)(hu:u<1000000000)(hg:g<1000000000)(hb:bo≤g) :
  (bo+p % 1000000000≤u∧msX u v g bo=u - (bo+p % 1000000000)∧msB u v g bo=p / 1000000000) ∨
  (u<bo+p % 1000000000∧bo+p % 1000000000≤u+1000000000∧msX u v g bo=u+1000000000 - (bo+p % 1000000000)∧msB u v g bo=p / 1000000000+1) ∨
  (u+1000000000<bo+p % 1000000000∧msX u v g bo=u+2000000000 - (bo+p % 1000000000)∧msB u v g bo=p / 1000000000+2):=by
 unfold msX msB
 have h1:msS u v g bo=bo+p+(999999999 - u):=by rw[hp];rfl
 generalize msS u v g bo=s at *
 clear hp
 omega
theorem rV (u:List Nat)(j i x:Nat)(h:j+i<u.length):val (((u.set (j+i) x).drop j).take (i+1))=val ((u.drop j).take i)+x*1000000000 ^ i:=by
 have e:(u.set (j+i) x).drop j=(u.drop j).set i x:=by
  rw[List.drop_set,if_neg (by omega)]
  congr 1
  omega
 rw[e,cq]
 congr 1
 ·congr 1
  rw[List.take_set_of_le (by omega)]
 ·congr 1
  unfold at0
  rw[List.getElem?_set_self (by simp;omega)]
  rfl
theorem gl (u:List Nat)(j i:Nat):val ((u.drop j).take (i+1))=val ((u.drop j).take i)+at0 u (j+i)*1000000000 ^ i:=by
 rw[cq]
 congr 2
 unfold at0
 rw[List.getElem?_drop]
structure MS (u v c:List Nat) (j g i bo:Nat):Prop where
 len:c.length=u.length
 ok:Dok c
 low:c.take j=u.take j
 high:c.drop (j+i)=u.drop (j+i)
 le:bo≤g
 eq:val ((u.drop j).take i)+bo*1000000000 ^ i=val ((c.drop j).take i)+g*val (v.take i)
theorem MS.init {u v:List Nat}(hu:Dok u)(j g:Nat):MS u v u j g 0 0:=⟨rfl,hu,rfl,rfl,by omega,by simp[Ab.val]⟩
theorem MS.at {u v c:List Nat}{j g i bo:Nat}(h:MS u v c j g i bo):at0 c (j+i)=at0 u (j+i):=by
 have h1:at0 c (j+i)=at0 (c.drop (j+i)) 0:=by simp[at0]
 have h2:at0 u (j+i)=at0 (u.drop (j+i)) 0:=by simp[at0]
 rw[h1,h2,h.high]
theorem MS.step {u v c:List Nat}{j g i bo:Nat}(h:MS u v c j g i bo)(hu:Dok u)(hv:Dok v)(hl:j+i<u.length) :
  MS u v (c.set (j+i) (msX (at0 u (j+i)) (at0 v i) g bo)) j g (i+1) (msB (at0 u (j+i)) (at0 v i) g bo):=by
 have hx:=cj hu (j+i)
 refine⟨by simp[h.len],h.ok.set _ (Ha _ _ _ _),?_,?_,acx hx (cj hv i) h.le,?_⟩
 ·rw[List.take_set_of_le (by omega),h.low]
 ·rw[show j+(i+1)=j+i+1 by omega,List.drop_set_of_lt (by omega),← List.drop_drop,h.high,List.drop_drop]
 ·have h1:=aaE (v:=at0 v i) (g:=g) (bo:=bo) hx
  have h2:=h.eq
  rw[rV _ _ _ _ (by rw[h.len];exact hl),gl,cq]
  generalize at0 u (j+i)=d at *
  generalize at0 v i=e at *
  generalize msX d e g bo=x at *
  generalize msB d e g bo=b at *
  have h3:(d+b*1000000000)*1000000000 ^ i=(x+bo+g*e)*1000000000 ^ i:=by rw[h1]
  rw[Nat.pow_succ,Nat.mul_add,← Nat.mul_assoc g]
  simp only[Nat.add_mul] at h3
  rw[show b*(1000000000 ^ i*1000000000)=b*1000000000*1000000000 ^ i by rw[Nat.mul_comm (1000000000 ^ i),Nat.mul_assoc]]
  omega
structure AB (u v c:List Nat) (j i cy:Nat):Prop where
 len:c.length=u.length
 ok:Dok c
 low:c.take j=u.take j
 high:c.drop (j+i)=u.drop (j+i)
 le:cy≤1
 eq:val ((u.drop j).take i)+val (v.take i)=val ((c.drop j).take i)+cy*1000000000 ^ i
theorem AB.init {u v:List Nat}(hu:Dok u)(j:Nat):AB u v u j 0 0:=⟨rfl,hu,rfl,rfl,by omega,by simp[Ab.val]⟩
theorem AB.at {u v c:List Nat}{j i cy:Nat}(h:AB u v c j i cy):at0 c (j+i)=at0 u (j+i):=by
 have h1:at0 c (j+i)=at0 (c.drop (j+i)) 0:=by simp[at0]
 have h2:at0 u (j+i)=at0 (u.drop (j+i)) 0:=by simp[at0]
 rw[h1,h2,h.high]
theorem AB.step {u v c:List Nat}{j i cy:Nat}(h:AB u v c j i cy)(hu:Dok u)(hv:Dok v)(hl:j+i<u.length) :
  AB u v (c.set (j+i) ((at0 u (j+i)+at0 v i+cy) % 1000000000)) j (i+1) ((at0 u (j+i)+at0 v i+cy) / 1000000000):=by
 have hx:=cj hu (j+i)
 have hy:=cj hv i
 have hc:=h.le
 refine⟨by simp[h.len],h.ok.set _ (Nat.mod_lt _ (by omega)),?_,?_,by omega,?_⟩
 ·rw[List.take_set_of_le (by omega),h.low]
 ·rw[show j+(i+1)=j+i+1 by omega,List.drop_set_of_lt (by omega),← List.drop_drop,h.high,List.drop_drop]
 ·have h2:=h.eq
  rw[rV _ _ _ _ (by rw[h.len];exact hl),gl,cq]
  generalize at0 u (j+i)=d at *
  generalize at0 v i=e at *
  have h1:d+e+cy=(d+e+cy) % 1000000000+(d+e+cy) / 1000000000*1000000000:=by omega
  generalize (d+e+cy) % 1000000000=x at *
  generalize (d+e+cy) / 1000000000=b at *
  have h3:(d+e+cy)*1000000000 ^ i=(x+b*1000000000)*1000000000 ^ i:=by rw[h1]
  rw[Nat.pow_succ]
  simp only[Nat.add_mul] at h3
  rw[show b*(1000000000 ^ i*1000000000)=b*1000000000*1000000000 ^ i by rw[Nat.mul_comm (1000000000 ^ i),Nat.mul_assoc]]
  omega
theorem Ax {c:List Nat}(h:Dok c)(j n:Nat):val ((c.drop j).take n)<1000000000 ^ n:=by
 refine Nat.lt_of_lt_of_le (eM ((h.drop j).take n)) (Nat.pow_le_pow_right (by omega) ?_)
 rw[List.length_take];omega
theorem Du {un Ul R r g V bo Pn:Nat}(hR:R<Pn)(hr:r<Pn)(h1:Ul+bo*Pn=R+g*V)(h2:un*Pn+Ul=g*V+r):bo=un∧R=r:=by
 generalize g*V=p at *
 have h3:un*Pn+R=bo*Pn+r:=by omega
 rcases Nat.lt_trichotomy un bo with h | h | h
 ·have:=Nat.mul_le_mul_right Pn (show un+1≤bo from h)
  rw[Nat.add_mul,Nat.one_mul] at this
  omega
 ·subst h
  exact⟨rfl,by omega⟩
 ·have:=Nat.mul_le_mul_right Pn (show bo+1≤un from h)
  rw[Nat.add_mul,Nat.one_mul] at this
  omega
theorem Jv {un Ul R r q V bo Pn:Nat}(hR:R<Pn)(hr:r<V)(hV:V<Pn)(h1:Ul+bo*Pn=R+(q+1)*V)(h2:un*Pn+Ul=q*V+r):bo=un+1∧R+V=Pn+r:=by
 rw[Nat.add_mul,Nat.one_mul] at h1
 generalize q*V=p at *
 have h3:un*Pn+(R+V)=bo*Pn+r:=by omega
 rcases Nat.lt_trichotomy (un+1) bo with h | h | h
 ·have:=Nat.mul_le_mul_right Pn (show un+2≤bo from h)
  rw[Nat.add_mul] at this
  omega
 ·subst h
  rw[Nat.add_mul,Nat.one_mul] at h3
  exact⟨rfl,by omega⟩
 ·have:=Nat.mul_le_mul_right Pn (show bo≤un by omega)
  omega
theorem adR {R V r R' cy Pn:Nat}(hR:R'<Pn)(hr:r<V)(hV:V<Pn)(h1:R+V=Pn+r)(h2:R+V=R'+cy*Pn)(hc:cy≤1):R'=r:=by
 have:cy=0∨cy=1:=by omega
 rcases this with h | h <;> subst h <;> omega
structure LI (A V n L:Nat) (u q:List Nat) (c:Nat):Prop where
 ul:u.length=L
 uok:Dok u
 lt:val u<V*1000000000 ^ c
 ql:q.length+n=L
 qok:Dok q
 eq:A=V*(1000000000 ^ c*val (q.drop c))+val u
theorem np (u:List Nat)(j:Nat):val u=val (u.take j)+1000000000 ^ j*val (u.drop j):=by
 rcases Nat.lt_or_ge u.length j with hl | hl
 ·rw[List.take_of_length_le (Nat.le_of_lt hl),List.drop_eq_nil_of_le (Nat.le_of_lt hl)];simp[val]
 ·exact kH u _ hl
theorem LI.seg {A V n L:Nat}{u q:List Nat}{j:Nat}(h:LI A V n L u q (j+1))(hV:V<1000000000 ^ n) :
  val u=val (u.take j)+1000000000 ^ j*val ((u.drop j).take (n+1))∧val (u.drop (j+n+1))=0∧val ((u.drop j).take (n+1))<V*1000000000:=by
 have h1:=np u (j+n+1)
 have h2:val u<1000000000 ^ (j+n+1):=by
  refine Nat.lt_of_lt_of_le h.lt (?_:V*1000000000 ^ (j+1)≤1000000000 ^ (j+n+1))
  rw[show j+n+1=n+(j+1) from (Nat.add_right_comm j n 1).trans (Nat.add_comm _ _),Nat.pow_add 1000000000 n (j+1)]
  exact Nat.mul_le_mul_right _ (Nat.le_of_lt hV)
 have h3:val (u.drop (j+n+1))=0:=by
  rcases Nat.eq_zero_or_pos (val (u.drop (j+n+1))) with h | h
  ·exact h
  ·have h0:=Nat.mul_le_mul_left (1000000000 ^ (j+n+1)) h
   rw[Nat.mul_one] at h0
   exact absurd (Nat.le_trans h0 (Nat.le_trans (Nat.le_add_left _ _) (Nat.le_of_eq h1.symm))) (Nat.not_le_of_lt h2)
 have h4:=np u j
 have h5:val (u.drop j)=val ((u.drop j).take (n+1)):=by
  have:=np (u.drop j) (n+1)
  rw[List.drop_drop,← Nat.add_assoc,h3,Nat.mul_zero,Nat.add_zero] at this
  exact this
 rw[h5] at h4
 refine⟨h4,h3,?_⟩
 have h6:=h.lt
 rw[h4,Nat.pow_succ,Nat.mul_comm (1000000000 ^ j) 1000000000,← Nat.mul_assoc] at h6
 have h7:val ((u.drop j).take (n+1))*1000000000 ^ j<V*1000000000*1000000000 ^ j:=by
  rw[Nat.mul_comm (val _)]
  exact Nat.lt_of_le_of_lt (Nat.le_add_left _ _) h6
 exact Nat.lt_of_mul_lt_mul_right h7
theorem LI.next {A V n L:Nat}{u q u':List Nat}{j:Nat}(h:LI A V n L u q (j+1))(hV:V<1000000000 ^ n)(hV0:0<V)(hl:j+n<L)(hl':u'.length=L)(hok:Dok u')(hlow:u'.take j=u.take j)(hhigh:u'.drop (j+n+1)=u.drop (j+n+1))
  (htop:at0 u' (j+n)=0) (hseg:val ((u'.drop j).take n)=val ((u.drop j).take (n+1)) % V) (hd:val ((u.drop j).take (n+1)) / V<1000000000) :
  LI A V n L u' (q.set j (val ((u.drop j).take (n+1)) / V)) j:=by
 obtain⟨h1,h2,h3⟩:=h.seg hV
 have e1:val u'=val (u.take j)+1000000000 ^ j*(val ((u.drop j).take (n+1)) % V):=by
  rw[kH u' j (by omega),hlow]
  congr 2
  have h4:n≤(u'.drop j).length:=by rw[List.length_drop];omega
  rw[kH (u'.drop j) n h4,hseg,List.drop_drop]
  have h5:val (u'.drop (j+n))=0:=by
   rw[ia u' (j+n) (by omega),htop,hhigh,h2]
  rw[h5];simp
 have hdm:=Nat.div_add_mod (val ((u.drop j).take (n+1))) V
 have hm:=Nat.mod_lt (val ((u.drop j).take (n+1))) hV0
 have hq:=h.ql
 generalize val ((u.drop j).take (n+1)) / V=d at *
 generalize val ((u.drop j).take (n+1)) % V=r at *
 generalize val ((u.drop j).take (n+1))=U at *
 have hlo:val (u.take j)<1000000000 ^ j:=by
  refine Nat.lt_of_lt_of_le (eM (h.uok.take j)) (Nat.pow_le_pow_right (by omega) ?_)
  rw[List.length_take];omega
 refine⟨hl',hok,?_,by simp;omega,h.qok.set _ hd,?_⟩
 ·rw[e1]
  have h5:1000000000 ^ j*(r+1)≤1000000000 ^ j*V:=Nat.mul_le_mul_left _ hm
  rw[Nat.mul_add,Nat.mul_one] at h5
  rw[Nat.mul_comm V]
  clear e1 h1 h2 h3 h
  generalize 1000000000 ^ j*V=a1 at *
  generalize 1000000000 ^ j*r=a2 at *
  generalize 1000000000 ^ j=a3 at *
  omega
 ·rw[h.eq,e1,h1,kz (by omega),val]
  generalize val (u.take j)=lo at *
  generalize val (q.drop (j+1))=X at *
  rw[Nat.pow_succ]
  clear h h1 h2 h3 hlow hhigh htop hlo e1 hV
  generalize 1000000000 ^ j=Pj at *
  subst hdm
  have a1:Pj*(V*d+r)=V*(Pj*d)+Pj*r:=by
   rw[Nat.mul_add,← Nat.mul_assoc,Nat.mul_comm Pj V,Nat.mul_assoc]
  have a2:V*(Pj*(d+1000000000*X))=V*(Pj*d)+V*(Pj*1000000000*X):=by
   rw[Nat.mul_add Pj,Nat.mul_add V,Nat.mul_assoc Pj]
  rw[a1,a2]
  omega
theorem LI.init {a b k n la:Nat}{u:List Nat}(hu:val u=k*a)(hok:Dok u)(hl:u.length=la+1)(ha:a<1000000000 ^ la)(hb:1000000000 ^ n≤b*1000000000)(hk:0<k)(hn:n≤la+1) :
  LI (k*a) (k*b) n (la+1) u (List.replicate (la+1 - n) 0) (la+1 - n):=by
 refine⟨hl,hok,?_,by simp;omega,Dok.IC _,?_⟩
 ·rw[hu,Nat.mul_assoc]
  refine Nat.mul_lt_mul_of_pos_left ?_ hk
  refine Nat.lt_of_mul_lt_mul_right (a:=1000000000) ?_
  rw[Nat.mul_right_comm]
  refine Nat.lt_of_lt_of_le ?_ (Nat.mul_le_mul_right _ hb)
  rw[← Nat.pow_add,show n+(la+1 - n)=la+1 by omega,Nat.pow_succ]
  exact Nat.mul_lt_mul_of_pos_right ha (by omega)
 ·rw[List.drop_eq_nil_of_le (by simp),hu];simp[val]
theorem LI.done {a b k n L:Nat}{u q:List Nat}(h:LI (k*a) (k*b) n L u q 0)(hk:0<k)(hb:0<b):val q=a / b∧val u=k*(a % b):=by
 have h1:=h.eq
 have h2:=h.lt
 simp only[Nat.pow_zero,Nat.mul_one,Nat.one_mul,List.drop_zero] at h1 h2
 have hkb:0<k*b:=Nat.mul_pos hk hb
 constructor
 ·rw[← Nat.mul_div_mul_left a b hk,h1,Nat.mul_add_div hkb,Nat.div_eq_of_lt h2,Nat.add_zero]
 ·rw[← Nat.mul_mod_mul_left,h1,Nat.mul_add_mod,Nat.mod_eq_of_lt h2]
theorem Lj {t k:Nat}(ht:0<t)(ht2:t<1000000000)(hk:k=1000000000 / (t+1)):0<k∧k<1000000000∧k*(t+1)≤1000000000∧1000000000≤2*(k*t):=by
 have h1:=Nat.div_mul_le_self 1000000000 (t+1)
 have h2:=Nat.div_add_mod 1000000000 (t+1)
 have h3:=Nat.mod_lt 1000000000 (show 0<t+1 by omega)
 have h4:0<k:=by rw[hk];exact Nat.div_pos (by omega) (by omega)
 have h5:k<1000000000:=by rw[hk];exact Nat.div_lt_self (by omega) (by omega)
 rw[← hk] at h1 h2
 refine⟨h4,h5,h1,?_⟩
 rcases Nat.lt_or_ge t 500000000 with h | h
 ·
  have e1:k*(t+1)=k*t+k:=by rw[Nat.mul_add,Nat.mul_one]
  have e2:(t+1)*k=k*t+k:=by rw[Nat.mul_comm,e1]
  rw[e2] at h2
  rcases Nat.lt_or_ge t 2 with ht1 | ht1
  ·have:t=1:=by omega
   subst this
   omega
  ·have h6:k≤333333333:=by
    have:k*3≤k*(t+1):=Nat.mul_le_mul_left _ (by omega)
    omega
   rcases Nat.lt_or_ge t 160000000 with h7 | h7
   ·omega
   ·have h8:k*160000001≤k*(t+1):=Nat.mul_le_mul_left _ (by omega)
    have h9:k≤6:=by omega
    have h10:1*t≤k*t:=Nat.mul_le_mul_right _ h4
    have:k=1∨k=2∨k=3∨k=4∨k=5∨k=6:=by omega
    rcases this with e | e | e | e | e | e <;> subst e <;> omega
 ·have:=Nat.mul_le_mul_right t (show 1≤k from h4)
  omega
end Go.Ab
