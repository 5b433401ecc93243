/- An abstract interpreter over the model's code and its soundness, part 12 of the proof; each lemma states its own conditions. -/
import Derived.Test.YtjdmodeenbdfpaaGreatR11
set_option linter.unusedSimpArgs false
set_option linter.unusedVariables false
namespace Go.Ab
open Go
def Spec (P:Program)(g:FuncId)(f:List PV→Option (List PV)):Prop :=
 ∀ args rs,f args=some rs→cq args=true→cq rs=true∧∀ (w:World) (M:Nat→Prop) (vs:List Value),(∀ b,M b→b<w.heap.size)→Vs w M [] NoL args vs →
  iX P g vs.toArray w fun v w'=>∃ us,v=zX us∧Vs w' M [] NoL rs us∧Old w w'
theorem tj.of {C:Cfg}(h:∀ g,Spec C.P g (C.orc g)):tj C:=fun g args rs h1 h2=>h g args rs h1 h2
theorem Spec.no (P:Program)(g:FuncId):Spec P g fun _=>none:=fun _ _ h=>by cases h
theorem Spec.or {P:Program}{g:FuncId}{f f':List PV→Option (List PV)}(h:Spec P g f)(h':Spec P g f'):Spec P g fun a=>match f a with | some r=>some r | none=>f' a:=by
 intro args rs hf hi
 dsimp only at hf
 cases hfa:f args with
 | some r=>rw[hfa] at hf;cases hf;exact h args _ hfa hi
 | none=>rw[hfa] at hf;exact h' args rs hf hi
def Wk (p q:PV):Prop:=q.cO=true∧∀ (w:World) (M:Nat→Prop) (v:Value),V w M [] NoL p v→V w M [] NoL q v
def WkL:List PV→List PV→Prop
 | [],[]=>True
 | p::ps,q::qs=>Wk p q∧WkL ps qs
 | _,_=>False
theorem Wk.refl {p:PV}(h:p.cO=true):Wk p p:=⟨h,fun _ _ _ h=>h⟩
theorem Wk.any (p:PV):Wk p .any:=⟨rfl,fun _ _ v _=>.any v⟩
theorem Wk.imm (n:Nat)(x:Bool)(cs:List PV):Wk (.imm n x cs) (.imm n false cs) :=
 ⟨rfl,fun w M v h=>by
  cases h with
  | nil=>exact .nil false
  | imm _ _ _ a cap g h1 h2 h3 h4=>exact .imm n false cs a cap g h1 (fun h=>by cases h) h3 h4⟩
theorem Wk.nil (x:Bool):Wk (.sc (.slice none 0 0)) (.imm 0 x []):=⟨rfl,fun w M v h=>by cases h with | sc=>exact .nil x⟩
theorem WkL.get:∀ {ps qs:List PV},WkL ps qs→ps.length=qs.length∧∀ (k:Nat) p q,ps[k]?=some p→qs[k]?=some q→Wk p q
 | [],[],_=>⟨rfl,fun k p q h=>by simp at h⟩
 | p::ps,q::qs,h=>by
  obtain⟨h1,h2⟩:=h
  obtain⟨h3,h4⟩:=WkL.get h2
  refine⟨by simp[h3],fun k p' q' e1 e2 => ?_⟩
  cases k with
  | zero=>simp at e1 e2;subst e1;subst e2;exact h1
  | succ k=>exact h4 k p' q' (by simpa using e1) (by simpa using e2)
 | [],_::_,h=>h.elim
 | _::_,[],h=>h.elim
theorem WkL.cO:∀ {ps qs:List PV},WkL ps qs→cq qs=true
 | [],[],_=>rfl
 | p::ps,q::qs,h=>by
  obtain⟨h1,h2⟩:=h
  simp only[cq,Bool.and_eq_true]
  exact⟨h1.1,h2.cO⟩
 | [],_::_,h=>h.elim
 | _::_,[],h=>h.elim
theorem WkL.refl:∀ {ps:List PV},cq ps=true→WkL ps ps
 | [],_=>trivial
 | p::ps,h=>by
  simp only[cq,Bool.and_eq_true] at h
  exact⟨Wk.refl h.1,WkL.refl h.2⟩
theorem Wk.agg {ps qs:List PV}(h:WkL ps qs):Wk (.agg ps) (.agg qs):=by
 obtain⟨h1,h2⟩:=h.get
 refine⟨by simp only[PV.cO];exact h.cO,fun w M v hv => ?_⟩
 cases hv with
 | agg _ vs g1 g2 =>
  refine .agg qs vs (by rw[← h1];exact g1) fun k c v e1 e2 => ?_
  have hk:k<ps.length:=by rw[h1];exact cP e1
  exact (h2 k _ c (List.getElem?_eq_getElem hk) e1).2 w M v (g2 k _ v (List.getElem?_eq_getElem hk) e2)
theorem Spec.bQ {C:Cfg}(hC:tr C){g:FuncId}{f:List PV→Option (List PV)}
  (h:∀ args rs,f args=some rs→∃ k rs1 hp1 wr rs2 ids,runK C k g args []=some (rs1,hp1,wr)∧bt (snap hp1 bp) rs1=some (rs2,ids)∧WkL rs2 rs):Spec C.P g f:=by
 intro args rs hf hi
 obtain⟨k,rs1,hp1,wr,rs2,ids,hr,hs,hw⟩:=h args rs hf
 refine⟨hw.cO,fun w M vs hM hvs => ?_⟩
 have S0:Sim w M [] []:=Ih hM
 have hvs0:Vs w (hot M [] []) [] (aL []) args vs:=⟨hvs.1,fun k c u h1 h2=>(hvs.2 k c u h1 h2).idf (fun b _ hb=>by
  rcases hb with hb | ⟨i,a,_,h2,_⟩
  ·exact hb
  ·simp at h2) (eG hi h1)⟩
 refine (V7 hC k g args [] rs1 hp1 wr hr w M [] vs S0 hvs0).mono fun v w' ⟨σ',us,hu,hvs',hs',st⟩ => ?_
 obtain⟨h1,h2⟩:=Bm hs' hs (fun x hx=>hx) hvs'
 obtain⟨h3,h4⟩:=hw.get
 refine⟨us,hu,⟨by rw[← h3];exact h1.1,fun k c u e1 e2 => ?_⟩,st.os,st.tape,st.output,st.size,fun b hb=>st.same b hb (fun ⟨i,a,_,h2,_⟩=>by simp at h2)⟩
 have hk:k<rs2.length:=by rw[h3];exact cP e1
 refine (h4 k _ c (List.getElem?_eq_getElem hk) e1).2 w' M u ?_
 exact (h1.2 k _ u (List.getElem?_eq_getElem hk) e2).idf (fun b _ hb=>.inl hb) (eG h2 (List.getElem?_eq_getElem hk))
theorem Spec.abM {C:Cfg}(hC:tr C){g:FuncId}{args rs:List PV}{eqv:List PV→Bool}(heq:∀ a,eqv a=true→a=args)
  (h:∃ k rs1 hp1 wr rs2 ids,runK C k g args []=some (rs1,hp1,wr)∧bt (snap hp1 bp) rs1=some (rs2,ids)∧WkL rs2 rs):Spec C.P g fun a=>bif eqv a then some rs else .none :=
 Spec.bQ hC fun a r hr=>by
  cases he:eqv a with
  | false=>rw[he] at hr;cases hr
  | true =>
   rw[he] at hr
   simp only[cond_true,Option.some.injEq] at hr
   subst hr
   rw[heq a he]
   exact h
inductive Tr (α:Type) where
 | leaf
 | node (k:Nat) (v:α) (l r:Tr α)
def Tr.get {α:Type} : Tr α→Nat→Option α
 | .leaf,_=>none
 | .node k v l r,n=>bif n.beq k then some v else bif n.blt k then l.get n else r.get n
def Tr.All {α:Type}(p:Nat→α→Prop):Tr α→Prop
 | .leaf=>True
 | .node k v l r=>p k v∧l.All p∧r.All p
def Tr.all {α:Type}(p:α→Bool):Tr α→Bool
 | .leaf=>true
 | .node _ v l r=>p v && l.all p && r.all p
theorem Tr.tT {α:Type}{p:Nat→α→Prop} : ∀ (t:Tr α),t.All p→∀ n v,t.get n=some v→p n v
 | .leaf,_,n,v,h=>by simp[Tr.get] at h
 | .node k u l r,hp,n,v,h=>by
  obtain⟨h1,h2,h3⟩:=hp
  simp only[Tr.get] at h
  cases e:n.beq k with
  | true =>
   simp only[e,cond_true,Option.some.injEq] at h
   have:=Nat.eq_of_beq_eq_true e
   subst this;subst h;exact h1
  | false =>
   simp only[e,cond_false] at h
   cases e2:n.blt k with
   | true=>simp only[e2,cond_true] at h;exact Tr.tT l h2 n v h
   | false=>simp only[e2,cond_false] at h;exact Tr.tT r h3 n v h
theorem Tr.wm {α:Type}{p:α→Bool} : ∀ (t:Tr α),t.all p=true→∀ n v,t.get n=some v→p v=true
 | .leaf,_,n,v,h=>by simp[Tr.get] at h
 | .node k u l r,hp,n,v,h=>by
  simp only[Tr.all,Bool.and_eq_true] at hp
  obtain⟨⟨h1,h2⟩,h3⟩:=hp
  simp only[Tr.get] at h
  cases e:n.beq k with
  | true =>
   simp only[e,cond_true,Option.some.injEq] at h
   subst h;exact h1
  | false =>
   simp only[e,cond_false] at h
   cases e2:n.blt k with
   | true=>simp only[e2,cond_true] at h;exact Tr.wm l h2 n v h
   | false=>simp only[e2,cond_false] at h;exact Tr.wm r h3 n v h
def UD (f:Func):Bool :=
 match f.body with
 | some c=>gy c
 | none=>true
structure Vn where
 P:Program
 F:Tr Func
 T:Tr TypeInfo
 shared:FuncId→Bool
structure HV (B:Vn):Prop where
 tab:B.T.All fun n i=>B.P.types[n]?=some i
 orders:B.P.follows .mixedOrders=true
 funcs:B.F.All fun n f=>B.P.funcs[n]?=some f∧∀ (args:Array Value) (w:World),(callFunc n args).run B.P w = .ok (.enter n args) w
 draws:B.F.all UD=true
def Vn.cfg (B:Vn)(orc:FuncId→List PV→Option (List PV)):Cfg:={ P:=B.P,T:=B.T.get,F:=B.F.get,shared:=B.shared,orc:=orc }
theorem Y5 {P:Program}{n:Nat}{i:TypeInfo}(h:P.types[n]?=some i):P.info? n=some i:=by
 unfold Tables.info?
 rw[if_pos (Array.getElem?_eq_some_iff.1 h).1]
 exact h
theorem HV.cfg {B:Vn}(h:HV B){orc:FuncId→List PV→Option (List PV)}(ho:∀ g,Spec B.P g (orc g)):tr (B.cfg orc) where
 tab:=fun t i e=>Y5 (Tr.tT _ h.tab t i e)
 orders:=h.orders
 funcs:=fun g fn e=>Tr.tT _ h.funcs g fn e
 draws:=fun g fn c e hb=>by
  have:=Tr.wm _ h.draws g fn e
  unfold UD at this
  rw[hb] at this
  exact this
 orc:=tj.of ho
 sorc:=fun _ _ h=>by cases h
end Go.Ab
