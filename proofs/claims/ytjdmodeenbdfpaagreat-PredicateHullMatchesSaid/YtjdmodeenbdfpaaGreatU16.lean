/- An abstract interpreter over the model's code and its soundness, part 16; each lemma states its conditions. -/
import Derived.Test.YtjdmodeenbdfpaaGreatU15
import Derived.Test.YtjdmodeenbdfpaaGreatU14
import Derived.Below
import Derived.Test.YtjdmodeenbdfpaaGreatU13
import Derived.Carry
import Derived.OpenShut
import Derived.ChangeArms
import Derived.ChangeSlices
import Derived.DataReads
import Derived.WideShapes
import Derived.SizedLaws
set_option linter.unusedSimpArgs false
set_option linter.unusedVariables false
namespace Go.Ab
open List
def cnP (X:List V2)(i:Nat):Prop:=(∀ j,j<i→X.getD j (0,0)≠X.getD i (0,0)) ∧ ¬ InV (fun q=>q ∈ X∧q≠X.getD i (0,0)) (X.getD i (0,0))
open Classical in
noncomputable def cnL (X:List V2)(n:Nat):Ω:=(List.range n).filter fun i=>decide (cnP X i)
def cnC (X:List V2)(cs:Ω)(i:Nat):V2:=X.getD (cs.getD i 0) (0,0)
def amN (C:Nat→V2):Nat→Nat
 | 0=>0
 | i+1=>if lx (C i) (C (amN C i)) then i else amN C i
theorem yz (C:Nat→V2):∀ n,0<n→amN C n<n
 | 0,h=>absurd h (Nat.lt_irrefl _)
 | i+1,_=>by
  unfold amN
  split
  ·omega
  ·rcases Nat.eq_zero_or_pos i with rfl | h
   ·simp[amN]
   ·have:=yz C i h;omega
theorem Jz (C:Nat→V2):∀ n i,i<n → ¬ lx (C i) (C (amN C n))
 | 0,_,h=>absurd h (Nat.not_lt_zero _)
 | n+1,i,h=>by
  unfold amN
  split
  ·next t =>
   rcases Nat.lt_or_ge i n with u | u
   ·exact fun v=>Jz C n i u (eD v t)
   ·obtain rfl:i=n:=by omega
    exact ee _
  ·next t =>
   rcases Nat.lt_or_ge i n with u | u
   ·exact Jz C n i u
   ·obtain rfl:i=n:=by omega
    exact t
theorem lI {cs:Ω}{i:Nat}(h:i<cs.length):cs.getD i 0=cs[i]:=by simp[List.getD,h]
noncomputable def aeV (X:List V2):Ω :=
 let cs:=cnL X X.length
 (List.range cs.length).map fun k=>cs.getD (atK (cnC X cs) cs.length (amN (cnC X cs) cs.length) k) 0
theorem Lv {X:List V2}{i:Nat}{x:V2}(h:X[i]?=some x):X.getD i (0,0)=x:=by simp[List.getD,h]
theorem B7 {X:List V2}{i:Nat}(h:i<X.length):X[i]?=some (X.getD i (0,0)):=by simp[List.getD,h]
theorem agu {X:List V2}{i:Nat}(hi:i<X.length)(h:cnP X i):X.idxOf (X.getD i (0,0))=i:=by
 have h1:=xR (B7 hi)
 rcases Nat.lt_or_ge (X.idxOf (X.getD i (0,0))) i with t | t
 ·exact absurd (Lv (oT (mem_of_getElem? (B7 hi)))) (h.1 _ t)
 ·omega
theorem aeU (X:List V2):aeV X=AH X:=by
 classical
 have hs:=Bn X
 obtain⟨cs,hcs⟩:∃ cs,cnL X X.length=cs:=⟨_,rfl⟩
 have hm:∀ i,i ∈ cs ↔ i<X.length∧cnP X i:=fun i=>by
  rw[← hcs];unfold cnL
  rw[mem_filter,mem_range,decide_eq_true_iff]
 have hget:∀ i,i<cs.length→cs.getD i 0 ∈ cs:=fun i hi=>by
  rw[lI hi];exact getElem_mem hi
 have hnd:cs.Nodup:=by
  rw[← hcs];unfold cnL
  exact List.Nodup.sublist filter_sublist nodup_range
 obtain⟨C,hCd⟩:∃ C,cnC X cs=C:=⟨_,rfl⟩
 have hCx:∀ i,i<cs.length→X.idxOf (C i)=cs.getD i 0:=fun i hi=>by
  obtain⟨h1,h2⟩:=(hm _).1 (hget i hi)
  rw[← hCd];exact agu h1 h2
 have hCX:∀ i,i<cs.length→C i ∈ X:=fun i hi=>by
  obtain⟨h1,h2⟩:=(hm _).1 (hget i hi)
  rw[← hCd];exact mem_of_getElem? (B7 h1)
 have hin:∀ x,x ∈ kp (srt X) ↔ x ∈ X ∧ ¬ InV (fun q=>q ∈ X∧q≠x) x:=fun x=>by
  constructor
  ·intro h
   have h1:=Ep hs h
   exact⟨iq.1 h1,fun k=>(rh hs h1).1 h (k.mono fun q hq=>⟨iq.2 hq.1,hq.2⟩)⟩
  ·rintro⟨h1,h2⟩
   exact (rh hs (iq.2 h1)).2 fun k=>h2 (k.mono fun q hq=>⟨iq.1 hq.1,hq.2⟩)
 have hC:∀ i,i<cs.length→C i ∈ kp (srt X):=fun i hi=>by
  refine (hin _).2 ⟨hCX i hi,?_⟩
  have:=((hm _).1 (hget i hi)).2.2
  rw[← hCd];exact this
 have sC:∀ x ∈ kp (srt X),∃ i,i<cs.length∧C i=x:=fun x hx=>by
  obtain⟨h1,h2⟩:=(hin x).1 hx
  have e:=Lv (oT h1)
  have hi:X.idxOf x ∈ cs:=by
   refine (hm _).2 ⟨xQ h1,fun j hj t => ?_,?_⟩
   ·rw[e] at t
    have:=xR (B7 (Nat.lt_trans hj (xQ h1)))
    rw[t] at this;omega
   ·rw[e];exact h2
  obtain⟨i,hil,hix⟩:=getElem_of_mem hi
  refine⟨i,hil,?_⟩
  rw[← hCd];unfold cnC
  rw[lI hil,hix,e]
 have inj:∀ i j,i<cs.length→j<cs.length→C i=C j→i=j:=fun i j hi hj e=>by
  have h1:=hCx i hi
  rw[e,hCx j hj,lI hi,lI hj] at h1
  rcases Nat.lt_trichotomy i j with u | u | u
  ·exact absurd h1.symm (pairwise_iff_getElem.1 hnd i j hi hj u)
  ·exact u
  ·exact absurd h1 (pairwise_iff_getElem.1 hnd j i hj hi u)
 have hn:(kp (srt X)).length=cs.length:=by
  have p:(kp (srt X)).Perm ((List.range cs.length).map C):=by
   refine (perm_ext_iff_of_nodup (It hs) ?_).2 fun x => ?_
   ·refine pairwise_map.2 ?_
    refine List.Pairwise.imp_of_mem ?_ nodup_range
    intro a b ha hb hab e
    exact hab (inj a b (mem_range.1 ha) (mem_range.1 hb) e)
   ·rw[mem_map]
    constructor
    ·intro h
     obtain⟨i,hi,e⟩:=sC x h
     exact⟨i,mem_range.2 hi,e⟩
    ·rintro⟨i,hi,rfl⟩
     exact hC i (mem_range.1 hi)
  simpa using p.length_eq
 have key:∀ k,k<cs.length→atK C cs.length (amN C cs.length) k<cs.length∧(kp (srt X))[k]?=some (C (atK C cs.length (amN C cs.length) k)):=by
  rcases Nat.lt_or_ge (srt X).length 2 with h2 | h2
  ·intro k hk
   have ho:kp (srt X)=srt X:=by unfold kp;rw[if_pos h2]
   have h1:cs.length=1:=by rw[ho] at hn;omega
   obtain rfl:k=0:=by omega
   have ha:=yz C _ hk
   refine⟨ha,?_⟩
   show _=some (C (amN C cs.length))
   have h0:amN C cs.length=0:=by omega
   have hc:=hC 0 hk
   rw[h0]
   rw[ho] at hc ⊢
   match hl:srt X,h2,hc with
   | [y],_,hc =>
    have hc:C 0=y:=by simpa using hc
    simp[hc]
   | [],_,hc=>simp at hc
   | _::_::_,h,_=>exact absurd h (by simp only[length_cons];omega)
  ·have ho:kp (srt X)=iT (srt X):=by unfold kp;rw[if_neg (by omega)]
   obtain⟨m,w,e1,e2,-⟩:=Lr hs h2
   have hm1:m ∈ kp (srt X):=by rw[ho,e1];simp
   obtain⟨i0,hi0,ei0⟩:=sC m hm1
   have hpos:0<cs.length:=by omega
   have ha:=yz C _ hpos
   have e0:C (amN C cs.length)=m:=by
    have n1:=Jz C cs.length i0 hi0
    rw[ei0] at n1
    have n2:C (amN C cs.length) ∈ srt X:=iq.2 (hCX _ ha)
    match hl:srt X,e2,hs,n2 with
    | y::l,e2,hs,n2 =>
     obtain rfl:y=m:=by simpa using e2
     rcases mem_cons.1 n2 with t | t
     ·exact t
     ·exact absurd ((pairwise_cons.1 hs).1 _ t) n1
    | [],e2,_,_=>simp at e2
   rw[ho] at hn hC sC ⊢
   exact Yx hs h2 hn hC sC inj ha (by rw[e2,e0])
 unfold aeV AH
 simp only[hcs,hCd]
 refine ext_getElem? fun k => ?_
 rw[getElem?_map,getElem?_map]
 rcases Nat.lt_or_ge k cs.length with hk | hk
 ·obtain⟨k1,k2⟩:=key k hk
  rw[k2,getElem?_range hk]
  simp only[Option.map_some]
  rw[hCx _ k1]
 ·rw[getElem?_eq_none (l:=List.range cs.length) (by simpa using hk),getElem?_eq_none (l:=kp (srt X)) (by rw[hn];exact hk)]
  rfl
end Go.Ab
namespace Go.Ab
open List
def Ll (p:Option V2):List VN→Option V2
 | []=>p
 | x::r=>Ll (some x.1) r
theorem rL (p:Option V2)(x:VN)(r:List VN):ddp p (x::r)=(if p=some x.1 then [] else [x])++ddp (some x.1) r:=by
 rw[ddp]
 by_cases h:p=some x.1
 ·rw[if_pos h,if_pos h,h];rfl
 ·rw[if_neg h,if_neg h];rfl
theorem LR:∀ (A B:List VN) (p:Option V2),ddp p (A++B)=ddp p A++ddp (Ll p A) B
 | [],B,p=>rfl
 | x::A,B,p=>by rw[cons_append,rL,rL,LR A B,append_assoc];rfl
theorem Az:∀ (A:List VN) (z:VN) (p:Option V2),Ll p (A++[z])=some z.1
 | [],_,_=>rfl
 | x::A,z,p=>Az A z (some x.1)
theorem yj {E:List VN}{i j:Nat}(hij:i=j+1)(hi:i<E.length):ddp none (E.take (i+1))=if (E[j]'(by omega)).1=E[i].1 then ddp none (E.take i) else ddp none (E.take i)++[E[i]]:=by
 subst hij
 have e:Ll none (E.take (j+1))=some (E[j]'(by omega)).1:=by
  rw[take_succ_eq_append_getElem (by omega:j<E.length),Az]
 rw[take_succ_eq_append_getElem hi,LR,e,rL]
 by_cases h:(E[j]'(by omega)).1=E[j+1].1
 ·rw[if_pos h,if_pos (by rw[h])];simp[ddp]
 ·rw[if_neg h,if_neg (fun k=>h (by simpa using k))];simp[ddp]
theorem LQ (E:List VN):ddp none (E.take 1)=E.take 1:=by
 cases E with
 | nil=>rfl
 | cons a E=>simp[ddp]
theorem vI:∀ (p:Option V2) (E:List VN),(ddp p E).length≤E.length
 | _,[]=>Nat.le_refl _
 | p,x::E=>by
  have:=vI (some x.1) E
  rw[rL]
  split <;> simp <;> omega
end Go.Ab
namespace Go.Ab
open Go Go.RowKit List
end Go.Ab
namespace Go.Ab
open Go Go.RowKit List
def NoM:Nat→Prop:=fun _=>False
def Rdg {α:Type}(P:Program)(t:TypeId)(e:α→PV)(ok:α→Prop):Prop :=
 ∀ (H:Type) (enc:TypeId × Value→H) (W:World) (fuel:Nat) (cs:List Value) (x:DataW H × List MemPlace),DataW.trod enc P W 0 (fun _=>true) true fuel t cs=some x→(∀ n ∈ DataW.weights P t x.1,n≤reachBytes)→∃ a v,cs=[v]∧ok a∧V W NoM [] NoL (e a) v
theorem Hz {P:Program}{t:TypeId}(ht:P.underlying t=some .string):Rdg P t (fun s=>.sc (.string s)) (fun s=>s.size≤reachBytes):=fun H enc W fuel cs x h hw=>by
 obtain⟨s,h1,rfl,-⟩:=DataW.trod_string ht h
 refine⟨s,_,h1,hw s.size ?_,.sc _⟩
 simp only[DataW.weights,mem_singleton]
 rfl
theorem VY {α:Type}(Q:Nat→α→Prop):∀ (n:Nat),(∀ i,i<n→∃ a,Q i a)→∃ l:List α,l.length=n∧∀ i a,l[i]?=some a→Q i a
 | 0,_=>⟨[],rfl,by simp⟩
 | n+1,h=>by
  obtain⟨l,h1,h2⟩:=VY Q n fun i hi=>h i (by omega)
  obtain⟨a,ha⟩:=h n (by omega)
  refine⟨l++[a],by simp[h1],fun i b hb => ?_⟩
  rcases Nat.lt_or_ge i l.length with hi | hi
  ·rw[getElem?_append_left hi] at hb;exact h2 i b hb
  ·rw[getElem?_append_right hi] at hb
   cases hj:i - l.length with
   | zero =>
    rw[hj] at hb
    cases hb
    have:i=n:=by omega
    rw[this]
    exact ha
   | succ j=>rw[hj] at hb;simp at hb
theorem tB {H:Type}{P:Program}{e:TypeId}{m:Nat} : ∀ {l:List (DataW H)} {i:Nat} {d:DataW H},l[i]?=some d→m ∈ DataW.weights P e d→m ∈ DataW.weightsAll P e l
 | [],i,d,h,_=>by simp at h
 | a::r,0,d,h,hm=>by
  cases h
  rw[DataW.weightsAll]
  exact mem_append_left _ hm
 | a::r,i+1,d,h,hm=>by
  rw[DataW.weightsAll]
  exact mem_append_right _ (tB (by simpa using h) hm)
theorem zK {α:Type}{P:Program}{t te:TypeId}{e:α→PV}{ok:α→Prop}(ht:P.underlying t=some (.slice te))(hs:P.cellsOf te=1)(hb:1≤P.bytesOf te)(hi:∀ a,(e a).cG=true)(h:Rdg P te e ok) :
  Rdg P t (fun l:List α=>.imm l.length false (l.map e)) (fun l=>l.length≤reachBytes∧∀ a ∈ l,ok a):=fun H enc W fuel cs x hx hw=>by
 rcases DataW.trod_slice ht hx with ⟨h1,-⟩| ⟨a,len,cap,elems,rest,n,-,h1,rfl,-,h3,h4,h5,h6,-,-⟩
 ·exact⟨[],_,h1,⟨Nat.zero_le _,by simp⟩,.nil _⟩
 ·have hw1:∀ (i:Nat) (hi:i<elems.length),∀ m ∈ DataW.weights P te (elems[i]).1,m≤reachBytes:=fun i hi m hm=>by
   refine hw m ?_
   simp only[DataW.weights,ht]
   refine mem_cons_of_mem _ (mem_append_left _ (tB (i:=i) (d:=(elems[i]).1) ?_ hm))
   rw[getElem?_map,List.getElem?_eq_getElem hi];rfl
  have hw2:len≤reachBytes:=by
   have:=hw ((elems.length+rest.length)*P.bytesOf te) (by simp only[DataW.weights,ht,length_map];exact mem_cons_self)
   refine Nat.le_trans ?_ this
   exact Nat.le_trans (by omega) (Nat.le_mul_of_pos_right _ hb)
  have hq:∀ i,i<len→∃ y,ok y∧a.spot=none∧∃ v,W.cell? ⟨a.block,a.off+i,none⟩=some v∧V W NoM [] NoL (e y) v:=fun i hil=>by
   have h7:=h6 i hil
   rw[List.getElem?_eq_getElem (by omega),Option.bind_eq_some_iff,hs,Nat.mul_one] at h7
   obtain⟨cs,h8,h9⟩:=h7
   obtain⟨y,v,h10,h11,h12⟩:=h H enc W n cs _ h9 (hw1 i (by omega))
   rw[h10] at h8
   have h13:=ChangeShapes.cell_of_cells?_one h8
   have h14:a.spot=none:=by
    rcases Nat.eq_zero_or_pos len with h0 | h0
    ·omega
    ·have h7:=h6 0 h0
     rw[List.getElem?_eq_getElem (by omega),Option.bind_eq_some_iff,hs,Nat.mul_one] at h7
     obtain⟨cs',h8',h9'⟩:=h7
     obtain⟨y',v',h10',-,-⟩:=h H enc W n cs' _ h9' (hw1 0 (by omega))
     rw[h10'] at h8'
     exact World.cell?_spot (ChangeShapes.cell_of_cells?_one h8')
   refine⟨y,h11,h14,v,?_,h12⟩
   rw[← h13]
   unfold Addr.add
   split
   ·rename_i h0;rw[h0];cases a;simp_all
   ·rfl
  obtain⟨l,hl,hg⟩:=VY _ len hq
  subst hl
  have hk:∀ (k:Nat) c,(l.map e)[k]?=some c→∃ y,l[k]?=some y∧c=e y:=fun k c hc=>by
   rw[getElem?_map,Option.map_eq_some_iff] at hc
   obtain⟨y,h7,h8⟩:=hc
   exact⟨y,h7,h8.symm⟩
  refine⟨l,_,h1,⟨hw2,fun y hy => ?_⟩,.imm l.length false _ a cap (fun k=>(W.cell? ⟨a.block,a.off+k,none⟩).getD default) h3 nofun (fun k c hc => ?_) (fun k c hc => ?_)⟩
  ·obtain⟨i,hi1,hi2⟩:=mem_iff_getElem.mp hy
   exact (hg i y (by rw[List.getElem?_eq_getElem hi1,hi2])).1
  ·obtain⟨y,h7,rfl⟩:=hk k c hc
   obtain⟨-,h9,v,h10,-⟩:=hg k y h7
   exact⟨h9,hi y,fun hf=>hf,by simp[h10]⟩
  ·obtain⟨y,h7,rfl⟩:=hk k c hc
   obtain⟨-,h9,v,h10,h11⟩:=hg k y h7
   simp only[h10,Option.getD_some]
   exact h11
theorem KM {α H:Type}{enc:TypeId × Value→H}{P:Program}{W:World}{t:TypeId}{e:α→PV}{ok:α→Prop}{v:Value}{d:DataW H}{ps:List MemPlace}(h:Rdg P t e ok)(hv:v.cells.toList=[v])(hx:DataW.Trod enc P W 0 (fun _=>true) true t v d ps)(hw:∀ n ∈ DataW.weights P t d,n≤reachBytes):∃ a,ok a∧V W NoM [] NoL (e a) v:=by
 obtain⟨fuel,hf⟩:=hx
 rw[hv] at hf
 obtain⟨a,u,h1,h2,h3⟩:=h H enc W fuel _ _ hf hw
 cases h1
 exact⟨a,h2,h3⟩
theorem wts {H:Type}{P:Program}{ts:List TypeId}{ds:List (DataW H)}(h:(DataW.weightsEach P ts ds).all (· ≤ reachBytes)=true)(j:Nat){t:TypeId}{d:DataW H}(ht:ts[j]?=some t)(hd:ds[j]?=some d):∀ n ∈ DataW.weights P t d,n≤reachBytes:=fun n hn=>by
 have:=all_eq_true.mp h n (DataW.weights_mem_each ht hd n hn)
 simpa using this
theorem y0 {P:Program}{g:FuncId}(he:∀ (args:Array Value)(w:World),(callFunc g args).run P w = .ok (.enter g args) w){f:Ψ→Option Ψ}(h:Spec P g f){ws:Ψ}(hf:f ws=some [.sc (.bool true)])(hi:bT ws=true){W:World}{vs:List Value}(hv:Vs W NoM [] NoL ws vs) :
  Calls P g vs.toArray W fun e w'=>e = .returned (.bool true)∧Below W.heap.size W w':=by
 obtain⟨-,h2⟩:=h ws _ hf hi
 have h3:=h2 W NoM vs (fun _ hf=>hf.elim) hv
 unfold jf at h3
 rw[he] at h3
 refine h3.mono fun e w' hh => ?_
 obtain⟨v,rfl,us,rfl,hv,ho⟩:=hh
 obtain⟨h4,h5⟩:=hv
 match us,h4 with
 | [u],_ =>
  have e1:=h5 0 _ u rfl rfl
  cases e1
  exact⟨rfl,ho.os,ho.tape,ho.output,ho.size,ho.same⟩
theorem Vs.nil {W:World}{M:Nat→Prop}{σ:List Addr}{L:Nat→Prop} : Vs W M σ L [] []:=⟨rfl,fun k p v hp hv=>by cases hp⟩
theorem Vs.cons {W:World}{M:Nat→Prop}{σ:List Addr}{L:Nat→Prop}{a:PV}{v:Value}{bs:Ψ}{vs:List Value}(h:V W M σ L a v)(h':Vs W M σ L bs vs):Vs W M σ L (a::bs) (v::vs) :=
 ⟨by rw[length_cons,length_cons,h'.1],fun k p v hp hv=>by
  match k,hp,hv with
  | 0,hp,hv=>cases hp;cases hv;exact h
  | k+1,hp,hv=>exact h'.2 k p v (by simpa using hp) (by simpa using hv)⟩
end Go.Ab
