/- Contracts of the law and of what it calls, part 48 of the proof; each lemma states its own conditions. -/
import Derived.Test.YtjdmodeenbdfpaaGreatQ47
import Derived.Test.YtjdmodeenbdfpaaGreatQ45
import Derived.Below
import Derived.Test.YtjdmodeenbdfpaaGreatQ36
import Derived.Carry
import Derived.OpenShut
import Derived.ChangeArms
import Derived.ChangeSlices
import Derived.DataReads
import Derived.WideShapes
import Derived.SizedLaws
import Derived.Test.YtjdmodeenbdfpaaGreatRows
import Derived.WalkKit
import Derived.ProofKit
import Derived.ShutString
import Derived.ChangeOld
set_option linter.unusedSimpArgs false
set_option linter.unusedVariables false
namespace Go.Proofs.YtjdmodeenbdfpaaGreat
open Go Go.Ab
theorem qT {x:Rat}(h:x<0):eN x = -1:=by
 have : ¬ 0≤x.num:=fun h'=>by
  have:=Rat.num_nonneg.1 h'
  grind
 exact Int.sign_eq_neg_one_of_neg (by omega)
theorem kO:eN 0=0:=rfl
theorem uX {x:Rat}(h:0<x):eN x=1:=by
 have h1:=Rat.num_nonneg.2 (show 0≤x by grind)
 have h2:x.num≠0:=fun e=>by
  have:=Rat.num_eq_zero.1 e
  grind
 exact Int.sign_eq_one_of_pos (by omega)
theorem jG (x:Rat):(x<0∧eN x = -1)∨(x=0∧eN x=0)∨(0<x∧eN x=1):=by
 by_cases h:x<0
 ·exact .inl ⟨h,qT h⟩
 ·by_cases h0:x=0
  ·exact .inr (.inl ⟨h0,by rw[h0];rfl⟩)
  ·have:0<x:=by grind
   exact .inr (.inr ⟨this,uX this⟩)
theorem PK (x y:Rat):eN (x*y)=eN x*eN y:=by
 rcases jG x with ⟨h1,h2⟩| ⟨h1,h2⟩| ⟨h1,h2⟩ <;> rcases jG y with ⟨k1,k2⟩| ⟨k1,k2⟩| ⟨k1,k2⟩ <;> rw[h2,k2]
 ·have:=Rat.mul_pos (a := -x) (b := -y) (by grind) (by grind)
  exact uX (by grind)
 ·rw[k1,Rat.mul_zero];rfl
 ·have:=Rat.mul_pos (a := -x) (b:=y) (by grind) (by grind)
  exact qT (by grind)
 ·rw[h1,Rat.zero_mul];rfl
 ·rw[h1,Rat.zero_mul];rfl
 ·rw[h1,Rat.zero_mul];rfl
 ·have:=Rat.mul_pos (a:=x) (b := -y) (by grind) (by grind)
  exact qT (by grind)
 ·rw[k1,Rat.mul_zero];rfl
 ·exact uX (Rat.mul_pos h1 k1)
theorem PL {x:Rat} : eN x=0 ↔ x=0:=by
 rcases jG x with ⟨h1,h2⟩| ⟨h1,h2⟩| ⟨h1,h2⟩ <;> rw[h2]
 ·constructor
  ·intro h;cases h
  ·intro h;grind
 ·exact⟨fun _=>h1,fun _=>rfl⟩
 ·constructor
  ·intro h;cases h
  ·intro h;grind
theorem WK {x:Rat}(h:x≠0):eN x*eN x=1:=by
 rcases jG x with ⟨h1,h2⟩| ⟨h1,h2⟩| ⟨h1,h2⟩
 ·rw[h2];rfl
 ·exact absurd h1 h
 ·rw[h2];rfl
theorem CJ (x y:Rat):CK x y=eN (x - y):=by
 unfold CK
 rcases jG (x - y) with ⟨h1,h2⟩| ⟨h1,h2⟩| ⟨h1,h2⟩ <;> rw[h2]
 ·rw[if_pos (by grind)]
 ·rw[if_neg (by grind),if_pos (by grind)]
 ·rw[if_neg (by grind),if_neg (by grind)]
theorem Cn {o K:Rat}(h:o≠0):eN o*eN (o*K)=eN K:=by
 rw[PK,← Int.mul_assoc,WK h,Int.one_mul]
theorem OJ (D:List (List Rat)):toX (D.map fun P=>P.map qb)=D:=by
 unfold toX
 rw[List.map_map]
 conv=>rhs;rw[← List.map_id D]
 refine List.map_congr_left fun P _ => ?_
 show (P.map qb).map rq=P
 rw[List.map_map]
 conv=>rhs;rw[← List.map_id P]
 exact List.map_congr_left fun x _=>aaA x
theorem zV {m:Nat}(h1:1≤m)(h3:m≤3):∀ {D:List (List Rat)},xZ m 1000 D→je m (D.map fun P=>P.map qb)=0
 | [],_=>rfl
 | P::D,hE=>by
  have hP:=hE P List.mem_cons_self
  have hall:(P.map qb).all (fun s=>pB (IsV s))=true:=by
   rw[List.all_eq_true]
   intro s hs
   obtain⟨x,hx,rfl⟩:=List.mem_map.1 hs
   exact jK ⟨x,rfl,hP.2 x hx⟩
  have:n7 m (P.map qb)=0:=by
   unfold n7
   rw[List.length_map,hP.1,if_neg (by omega),hall];rfl
  rw[List.map_cons,je,if_pos this]
  exact zV h1 h3 fun Q hQ=>hE Q (List.mem_cons_of_mem _ hQ)
theorem UF {m:Nat}(h1:1≤m)(h3:m≤3){D:List (List Rat)}(hE:xZ m 1000 D)(hn:D≠[])(h64:D.length≤64):chk (D.map fun P=>P.map qb)=0∧hdL (D.map fun P=>P.map qb)=m:=by
 have hh:hdL (D.map fun P=>P.map qb)=m:=by
  cases D with
  | nil=>exact absurd rfl hn
  | cons P D =>
   show (P.map qb).length=m
   rw[List.length_map];exact (hE P List.mem_cons_self).1
 refine⟨?_,hh⟩
 unfold chk
 rw[List.length_map,if_neg (by omega),hh]
 exact zV h1 h3 hE
theorem IU {m:Nat}(h1:1≤m)(h3:m≤3){D:List (List Rat)}(hE:xZ m 1000 D)(h64:D.length≤64){l:List Nat}(hl:l.length=m+1)(hin:∀ i ∈ l,i<D.length){z:Nat}(hz:z<D.length)(h0:jO (fq D l)≠0) :
  nZ (D.map fun P=>P.map qb) (l.map Int.ofNat) z=(MJ m (eN (jO (fq D l)))*eN (jO (l.map (lift D z))),0):=by
 have hn:D≠[]:=fun e=>by rw[e] at hz;cases hz
 obtain⟨g1,g2⟩:=UF h1 h3 hE hn h64
 have hax:=tZ g1
 have d1:=Ny (l:=l) g1 (by rw[hl,hax,g2]) (fun i hi=>by rw[List.length_map];exact hin i hi)
 rw[OJ] at d1
 have v1:vv (jl (D.map fun P=>P.map qb) (l.map Int.ofNat)).1=jO (fq D l):=by rw[d1];exact En _
 have e1:(jl (D.map fun P=>P.map qb) (l.map Int.ofNat)).2=0:=by rw[d1]
 have o1:xK (D.map fun P=>P.map qb) (l.map Int.ofNat)=eN (jO (fq D l)):=by unfold xK;rw[v1]
 have hr : ¬ ((z:Int)<0∨(((D.map fun P=>P.map qb).length:Nat):Int)≤(z:Int)):=by rw[List.length_map];omega
 have hz' : ¬ ((0:Nat)≠0):=by simp
 unfold nZ
 rw[e1,if_neg hz',if_neg hr,o1,if_neg (fun e=>h0 (PL.1 e)),toNat_ofNat,En,Int.toNat_natCast,OJ,g2]
theorem ev1 {m:Nat}{P:List Rat}(h:P.length=m)(hb:RbL 61 P):P.length=m∧RbL 1000 P:=⟨h,hb.Jw (by omega)⟩
theorem pq1 (a b p:Rat):jO (fq [[a],[b],[p]] [0,1])=b - a:=by
 simp[fq,eu,afA]
theorem af6 (a b p:Rat):jO ([0,1].map (lift [[a],[b],[p]] 0))=0∧jO ([0,1].map (lift [[a],[b],[p]] 1))=0∧jO ([0,1].map (lift [[a],[b],[p]] 2))=(b - a)*((a - p)*(b - p)):=by
 refine⟨?_,?_,?_⟩ <;> simp[lift,eu,dot,HA,aaL] <;> grind
theorem pq2 (a0 a1 b0 b1 p0 p1:Rat):jO (fq [[a0,a1],[b0,b1],[p0,p1],[a0,b1]] [0,1,3])=(b0 - a0)*(b1 - a1):=by
 simp[fq,eu,aaL]
 try grind
theorem af5 (a0 a1 b0 b1 p0 p1:Rat):jO ([0,1,3].map (lift [[a0,a1],[b0,b1],[p0,p1],[a0,b1]] 0))=0∧jO ([0,1,3].map (lift [[a0,a1],[b0,b1],[p0,p1],[a0,b1]] 1))=0∧jO ([0,1,3].map (lift [[a0,a1],[b0,b1],[p0,p1],[a0,b1]] 3))=0 ∧
  jO ([0,1,3].map (lift [[a0,a1],[b0,b1],[p0,p1],[a0,b1]] 2))=((b0 - a0)*(b1 - a1))*(-((a0 - p0)*(b0 - p0)+(a1 - p1)*(b1 - p1))):=by
 refine⟨?_,?_,?_,?_⟩ <;> simp[lift,eu,dot,HA,afz] <;> grind
theorem cq1 (a b p:Rat):sqQ [a] (jU [a] [b] 1) - sqQ [p] (jU [a] [b] 1) = -((a - p)*(b - p)):=by
 simp[sqQ,sqS,jU,List.range_succ]
 grind
theorem cq2 (a0 a1 b0 b1 p0 p1:Rat):sqQ [a0,a1] (jU [a0,a1] [b0,b1] 2) - sqQ [p0,p1] (jU [a0,a1] [b0,b1] 2) = -((a0 - p0)*(b0 - p0)+(a1 - p1)*(b1 - p1)):=by
 simp[sqQ,sqS,jU,List.range_succ]
 grind
theorem ab3:H8:=by
 intro A B P h1 h2 h3 hA hB hP hne hF
 rcases h3 with h | h
 ·match A,B,P,h,(show B.length=1 by omega),(show P.length=1 by omega) with
  | [a],[b],[p],_,_,_ =>
   have hab:a≠b:=hne 0 (by simp)
   have hE:xZ 1 1000 [[a],[b],[p]]:=fun R hR=>by
    simp only[List.mem_cons,List.not_mem_nil,or_false] at hR
    rcases hR with rfl | rfl | rfl
    ·exact ev1 rfl hA
    ·exact ev1 rfl hB
    ·exact ev1 rfl hP
   have h0:jO (fq [[a],[b],[p]] [0,1])≠0:=by rw[pq1];intro e;exact hab (by grind)
   have key:=fun z (hz:z<3)=>IU (m:=1) (by omega) (by omega) hE (by simp) (l:=[0,1]) rfl (by simp) (z:=z) hz h0
   obtain⟨k0,k1,k2⟩:=af6 a b p
   refine⟨fun z hz => ?_,?_⟩
   ·have hz':z=0∨z=1:=by simpa [dI] using hz
    rcases hz' with rfl | rfl
    ·refine (key 0 (by omega)).trans ?_
     rw[k0];simp[kO]
    ·refine (key 1 (by omega)).trans ?_
     rw[k1];simp[kO]
   ·refine (key 2 (by omega)).trans ?_
    rw[CJ]
    show _=(eN (sqQ [a] (jU [a] [b] 1) - sqQ [p] (jU [a] [b] 1)),0)
    rw[cq1,k2,pq1,PJ]
    have e:MJ 1 (eN (b - a)) = - eN (b - a):=rfl
    rw[e,Int.neg_mul,Cn (by rw[pq1] at h0;exact h0)]
 ·match A,B,P,h,(show B.length=2 by omega),(show P.length=2 by omega) with
  | [a0,a1],[b0,b1],[p0,p1],_,_,_ =>
   have hab0:a0≠b0:=hne 0 (by simp)
   have hab1:a1≠b1:=hne 1 (by simp)
   have hE:xZ 2 1000 [[a0,a1],[b0,b1],[p0,p1],[a0,b1]]:=fun R hR=>by
    simp only[List.mem_cons,List.not_mem_nil,or_false] at hR
    rcases hR with rfl | rfl | rfl | rfl
    ·exact ev1 rfl hA
    ·exact ev1 rfl hB
    ·exact ev1 rfl hP
    ·refine ev1 rfl fun x hx => ?_
     simp only[List.mem_cons,List.not_mem_nil,or_false] at hx
     rcases hx with rfl | rfl
     ·exact hA _ (by simp)
     ·exact hB _ (by simp)
   have h0:jO (fq [[a0,a1],[b0,b1],[p0,p1],[a0,b1]] [0,1,3])≠0:=by
    rw[pq2]
    intro e
    rcases Rat.mul_eq_zero.1 e with e | e
    ·exact hab0 (by grind)
    ·exact hab1 (by grind)
   have key:=fun z (hz:z<4)=>IU (m:=2) (by omega) (by omega) hE (by simp) (l:=[0,1,3]) rfl (by simp) (z:=z) hz h0
   obtain⟨k0,k1,k3,k2⟩:=af5 a0 a1 b0 b1 p0 p1
   refine⟨fun z hz => ?_,?_⟩
   ·have hz':z=0∨z=1∨z=3:=by simpa [dI] using hz
    rcases hz' with rfl | rfl | rfl
    ·refine (key 0 (by omega)).trans ?_
     rw[k0];simp[kO]
    ·refine (key 1 (by omega)).trans ?_
     rw[k1];simp[kO]
    ·refine (key 3 (by omega)).trans ?_
     rw[k3];simp[kO]
   ·refine (key 2 (by omega)).trans ?_
    rw[CJ]
    show _=(eN (sqQ [a0,a1] (jU [a0,a1] [b0,b1] 2) - sqQ [p0,p1] (jU [a0,a1] [b0,b1] 2)),0)
    rw[cq2,k2,pq2]
    have e:MJ 2 (eN ((b0 - a0)*(b1 - a1)))=eN ((b0 - a0)*(b1 - a1)):=rfl
    rw[e,Cn (by rw[pq2] at h0;exact h0)]
end Go.Proofs.YtjdmodeenbdfpaaGreat
namespace Go.Ab
open Go Go.RowKit
end Go.Ab
namespace Go.Ab
open Go Go.RowKit
def NoM:Nat→Prop:=fun _=>False
def Rdg {α:Type}(P:Program)(t:TypeId)(e:α→PV)(ok:α→Prop):Prop :=
 ∀ (H:Type) (enc:TypeId × Value→H) (W:World) (fuel:Nat) (cs:List Value) (x:DataW H × List MemPlace),DataW.trod enc P W 0 (fun _=>true) true fuel t cs=some x→(∀ n ∈ DataW.weights P t x.1,n≤reachBytes)→∃ a v,cs=[v]∧ok a∧V W NoM [] NoL (e a) v
theorem Gg {P:Program}{t:TypeId}(ht:P.underlying t=some .string):Rdg P t (fun s=>.sc (.string s)) (fun s=>s.size≤reachBytes):=fun H enc W fuel cs x h hw=>by
 obtain⟨s,h1,rfl,-⟩:=DataW.trod_string ht h
 refine⟨s,_,h1,hw s.size ?_,.sc _⟩
 simp only[DataW.weights,List.mem_singleton]
 rfl
theorem Gf {P:Program}{t:TypeId}(ht:P.underlying t=some (.int .u8)):Rdg P t u8v (· < 256):=fun H enc W fuel cs x h _=>by
 obtain⟨n,h1,-,h2⟩:=DataW.trod_int ht h
 have hb:=bounds_u8 h2
 refine⟨n.toNat,_,h1,by omega,?_⟩
 have:u8v n.toNat = .sc (.int .u8 n):=by unfold u8v;rw[Int.toNat_of_nonneg hb.1]
 rw[this]
 exact .sc _
theorem TE {α:Type}(Q:Nat→α→Prop):∀ (n:Nat),(∀ i,i<n→∃ a,Q i a)→∃ l:List α,l.length=n∧∀ i a,l[i]?=some a→Q i a
 | 0,_=>⟨[],rfl,by simp⟩
 | n+1,h=>by
  obtain⟨l,h1,h2⟩:=TE Q n fun i hi=>h i (by omega)
  obtain⟨a,ha⟩:=h n (by omega)
  refine⟨l++[a],by simp[h1],fun i b hb => ?_⟩
  rcases Nat.lt_or_ge i l.length with hi | hi
  ·rw[List.getElem?_append_left hi] at hb;exact h2 i b hb
  ·rw[List.getElem?_append_right hi] at hb
   cases hj:i - l.length with
   | zero =>
    rw[hj] at hb
    cases hb
    have:i=n:=by omega
    rw[this]
    exact ha
   | succ j=>rw[hj] at hb;simp at hb
theorem rU {H:Type}{P:Program}{e:TypeId}{m:Nat} : ∀ {l:List (DataW H)} {i:Nat} {d:DataW H},l[i]?=some d→m ∈ DataW.weights P e d→m ∈ DataW.weightsAll P e l
 | [],i,d,h,_=>by simp at h
 | a::r,0,d,h,hm=>by
  cases h
  rw[DataW.weightsAll]
  exact List.mem_append_left _ hm
 | a::r,i+1,d,h,hm=>by
  rw[DataW.weightsAll]
  exact List.mem_append_right _ (rU (by simpa using h) hm)
theorem yB {α:Type}{P:Program}{t te:TypeId}{e:α→PV}{ok:α→Prop}(ht:P.underlying t=some (.slice te))(hs:P.cellsOf te=1)(hb:1≤P.bytesOf te)(hi:∀ a,(e a).cC=true)(h:Rdg P te e ok) :
  Rdg P t (fun l:List α=>.imm l.length false (l.map e)) (fun l=>l.length≤reachBytes∧∀ a ∈ l,ok a):=fun H enc W fuel cs x hx hw=>by
 rcases DataW.trod_slice ht hx with ⟨h1,-⟩| ⟨a,len,cap,elems,rest,n,-,h1,rfl,-,h3,h4,h5,h6,-,-⟩
 ·exact⟨[],_,h1,⟨Nat.zero_le _,by simp⟩,.nil _⟩
 ·have hw1:∀ (i:Nat) (hi:i<elems.length),∀ m ∈ DataW.weights P te (elems[i]).1,m≤reachBytes:=fun i hi m hm=>by
   refine hw m ?_
   simp only[DataW.weights,ht]
   refine List.mem_cons_of_mem _ (List.mem_append_left _ (rU (i:=i) (d:=(elems[i]).1) ?_ hm))
   rw[List.getElem?_map,List.getElem?_eq_getElem hi];rfl
  have hw2:len≤reachBytes:=by
   have:=hw ((elems.length+rest.length)*P.bytesOf te) (by simp only[DataW.weights,ht,List.length_map];exact List.mem_cons_self)
   refine Nat.le_trans ?_ this
   exact Nat.le_trans (by omega) (Nat.le_mul_of_pos_right _ hb)
  have hq:∀ i,i<len→∃ y,ok y∧a.spot=none∧∃ v,W.cell? ⟨a.block,a.off+i,none⟩=some v∧V W NoM [] NoL (e y) v:=fun i hil=>by
   have h7:=h6 i hil
   rw[List.getElem?_eq_getElem (by omega),Option.bind_eq_some_iff,hs,Nat.mul_one] at h7
   obtain⟨cs,h8,h9⟩:=h7
   obtain⟨y,v,h10,h11,h12⟩:=h H enc W n cs _ h9 (hw1 i (by omega))
   rw[h10] at h8
   have h13:=ChangeShapes.cell_of_cells?_one h8
   have h14:a.spot=none:=by
    rcases Nat.eq_zero_or_pos len with h0 | h0
    ·omega
    ·have h7:=h6 0 h0
     rw[List.getElem?_eq_getElem (by omega),Option.bind_eq_some_iff,hs,Nat.mul_one] at h7
     obtain⟨cs',h8',h9'⟩:=h7
     obtain⟨y',v',h10',-,-⟩:=h H enc W n cs' _ h9' (hw1 0 (by omega))
     rw[h10'] at h8'
     exact World.cell?_spot (ChangeShapes.cell_of_cells?_one h8')
   refine⟨y,h11,h14,v,?_,h12⟩
   rw[← h13]
   unfold Addr.add
   split
   ·rename_i h0;rw[h0];cases a;simp_all
   ·rfl
  obtain⟨l,hl,hg⟩:=TE _ len hq
  subst hl
  have hk:∀ (k:Nat) c,(l.map e)[k]?=some c→∃ y,l[k]?=some y∧c=e y:=fun k c hc=>by
   rw[List.getElem?_map,Option.map_eq_some_iff] at hc
   obtain⟨y,h7,h8⟩:=hc
   exact⟨y,h7,h8.symm⟩
  refine⟨l,_,h1,⟨hw2,fun y hy => ?_⟩,.imm l.length false _ a cap (fun k=>(W.cell? ⟨a.block,a.off+k,none⟩).getD default) h3 nofun (fun k c hc => ?_) (fun k c hc => ?_)⟩
  ·obtain⟨i,hi1,hi2⟩:=List.mem_iff_getElem.mp hy
   exact (hg i y (by rw[List.getElem?_eq_getElem hi1,hi2])).1
  ·obtain⟨y,h7,rfl⟩:=hk k c hc
   obtain⟨-,h9,v,h10,-⟩:=hg k y h7
   exact⟨h9,hi y,fun hf=>hf,by simp[h10]⟩
  ·obtain⟨y,h7,rfl⟩:=hk k c hc
   obtain⟨-,h9,v,h10,h11⟩:=hg k y h7
   simp only[h10,Option.getD_some]
   exact h11
theorem tP {α H:Type}{enc:TypeId × Value→H}{P:Program}{W:World}{t:TypeId}{e:α→PV}{ok:α→Prop}{v:Value}{d:DataW H}{ps:List MemPlace}(h:Rdg P t e ok)(hv:v.cells.toList=[v])(hx:DataW.Trod enc P W 0 (fun _=>true) true t v d ps)(hw:∀ n ∈ DataW.weights P t d,n≤reachBytes):∃ a,ok a∧V W NoM [] NoL (e a) v:=by
 obtain⟨fuel,hf⟩:=hx
 rw[hv] at hf
 obtain⟨a,u,h1,h2,h3⟩:=h H enc W fuel _ _ hf hw
 cases h1
 exact⟨a,h2,h3⟩
theorem wts {H:Type}{P:Program}{ts:List TypeId}{ds:List (DataW H)}(h:(DataW.weightsEach P ts ds).all (· ≤ reachBytes)=true)(j:Nat){t:TypeId}{d:DataW H}(ht:ts[j]?=some t)(hd:ds[j]?=some d):∀ n ∈ DataW.weights P t d,n≤reachBytes:=fun n hn=>by
 have:=List.all_eq_true.mp h n (DataW.weights_mem_each ht hd n hn)
 simpa using this
theorem xT {P:Program}{g:FuncId}(he:∀ (args:Array Value)(w:World),(callFunc g args).run P w = .ok (.enter g args) w){f:List PV→Option (List PV)}(h:Spec P g f){ws:List PV}(hf:f ws=some [.sc (.bool true)])(hi:bM ws=true){W:World}{vs:List Value}(hv:Vs W NoM [] NoL ws vs) :
  Calls P g vs.toArray W fun e w'=>e = .returned (.bool true)∧Below W.heap.size W w':=by
 obtain⟨-,h2⟩:=h ws _ hf hi
 have h3:=h2 W NoM vs (fun _ hf=>hf.elim) hv
 unfold iH at h3
 rw[he] at h3
 refine h3.mono fun e w' hh => ?_
 obtain⟨v,rfl,us,rfl,hv,ho⟩:=hh
 obtain⟨h4,h5⟩:=hv
 match us,h4 with
 | [u],_ =>
  have e1:=h5 0 _ u rfl rfl
  cases e1
  exact⟨rfl,ho.os,ho.tape,ho.output,ho.size,ho.same⟩
theorem vs4 {W:World}{M:Nat→Prop}{σ:List Addr}{L:Nat→Prop}{a b c d:PV}{v0 v1 v2 v3:Value}(h0:V W M σ L a v0)(h1:V W M σ L b v1)(h2:V W M σ L c v2)(h3:V W M σ L d v3):Vs W M σ L [a,b,c,d] [v0,v1,v2,v3] :=
 ⟨rfl,fun k p v hp hv=>by
  match k,hp,hv with
  | 0,hp,hv=>cases hp;cases hv;exact h0
  | 1,hp,hv=>cases hp;cases hv;exact h1
  | 2,hp,hv=>cases hp;cases hv;exact h2
  | 3,hp,hv=>cases hp;cases hv;exact h3⟩
end Go.Ab
namespace Go.Proofs.YtjdmodeenbdfpaaGreat
open Go Go.Ab
theorem TB {α:Type}(f:α→PV):∀ l:List α,l.map f=l.flatMap fun a=>[f a]
 | []=>rfl
 | a::l=>by rw[List.map_cons,List.flatMap_cons,TB f l];rfl
theorem af2:Rdg Tryz.prog 39 pE fun p=>p.length≤reachBytes∧∀ s ∈ p,s.size≤reachBytes:=fun H enc W fuel cs x h hw=>by
 obtain⟨a,v,h1,h2,h3⟩:=yB Tryz.underlying39 (by kernel_rfl) (by decide +kernel) (fun _=>rfl) (Gg Tryz.underlying27) H enc W fuel cs x h hw
 refine⟨a,v,h1,h2,?_⟩
 dsimp only at h3
 rw[TB] at h3
 exact h3
theorem acT (p:List ByteArray):(pE p).cC=true:=by
 have:=(adm).idf p
 simpa only[ep,bM,Bool.and_true] using this
theorem af3:Rdg Tryz.prog 23 cE fun c=>c.length≤reachBytes∧∀ p ∈ c,p.length≤reachBytes∧∀ s ∈ p,s.size≤reachBytes:=fun H enc W fuel cs x h hw=>by
 obtain⟨a,v,h1,h2,h3⟩:=yB Tryz.underlying23 (by kernel_rfl) (by decide +kernel) acT af2 H enc W fuel cs x h hw
 refine⟨a,v,h1,h2,?_⟩
 dsimp only at h3
 rw[TB] at h3
 exact h3
theorem adJ {n:Nat}(h:n≤reachBytes):Bl n:=Nat.lt_of_le_of_lt h (by decide)
theorem rI:∀ l:List Nat,bM (l.map u8v)=true
 | []=>rfl
 | _::l=>by rw[List.map_cons,bM,rI l];rfl
namespace predicateSwaps
open Go.ChangeShapes Go.WideShapes Go.ChangeAt Go.RowKit
theorem pd {H:Type}{enc:TypeId × Value→H}{P:Program}{W:World}{t:TypeId}{v:Value}{d:DataW H}{ps:List MemPlace}(h:DataW.Trod enc P W 0 (fun _=>true) true t v d ps):∀ x ∈ ps,x.block<W.heap.size:=by
 obtain⟨fu,hf⟩:=h
 exact DataW.trod_lt _ _ _ _ hf
end predicateSwaps
end Go.Proofs.YtjdmodeenbdfpaaGreat
