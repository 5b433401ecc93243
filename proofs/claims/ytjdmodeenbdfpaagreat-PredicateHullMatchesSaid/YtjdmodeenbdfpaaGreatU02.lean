/- An abstract interpreter over the model's code and its soundness, part 2; each lemma states its conditions. -/
import Derived.Test.YtjdmodeenbdfpaaGreatU01
import Derived.WalkKit
set_option linter.unusedSimpArgs false
set_option linter.unusedVariables false
namespace Go.Ab
open Go List
theorem sX (l:Ψ)(k:Nat):nth l k=(l[k]?).getD .any:=by
 induction l generalizing k with
 | nil=>simp[nth]
 | cons a l ih=>cases k <;> simp[nth,ih]
theorem jK (l:Ψ)(k:Nat)(v:PV):eS l k v=l.set k v:=by
 induction l generalizing k with
 | nil=>simp[eS]
 | cons a l ih=>cases k <;> simp[eS,ih]
theorem cY (l:Θ)(k:Nat):aX l k=l[k]?:=by
 induction l generalizing k with
 | nil=>simp[aX]
 | cons a l ih=>cases k <;> simp[aX,ih]
theorem jh (l:Θ)(k:Nat)(v:Blk):cF l k v=l.set k v:=by
 induction l generalizing k with
 | nil=>simp[cF]
 | cons a l ih=>cases k <;> simp[cF,ih]
theorem cD (l:Ψ)(k:Nat):bz l k=l.drop k:=by
 induction k generalizing l with
 | zero=>simp[bz]
 | succ k ih=>cases l <;> simp[bz,ih]
theorem qv (l:Θ)(k:Nat):qw k l=l.take k:=by
 induction k generalizing l with
 | zero=>simp[qw]
 | succ k ih=>cases l <;> simp[qw,ih]
theorem ft {l r:Ψ}{n:Nat}(h:bF l n=some r):n≤l.length∧r=l.take n:=by
 induction n generalizing l r with
 | zero=>simp[bF] at h;simp[← h]
 | succ n ih =>
  cases l with
  | nil=>simp[bF] at h
  | cons a l =>
   simp only[bF] at h
   cases h':bF l n with
   | none=>simp[h'] at h
   | some r' =>
    simp[h'] at h
    obtain⟨h1,h2⟩:=ih h'
    subst h
    exact⟨by simp;omega,by simp[h2]⟩
theorem dk {l:Ψ}{n:Nat}(h:n≤l.length):bF l n=some (l.take n):=by
 induction n generalizing l with
 | zero=>simp[bF]
 | succ n ih =>
  cases l with
  | nil=>simp at h
  | cons a l=>simp at h;simp[bF,ih h]
theorem j7 {l r vs:Ψ}{n:Nat}(h:b9 l n vs=some r) :
  n+vs.length≤l.length∧r.length=l.length∧∀ k,r[k]?=if n≤k∧k<n+vs.length then vs[k - n]? else l[k]?:=by
 induction l generalizing r vs n with
 | nil =>
  cases n with
  | succ n=>simp[b9] at h
  | zero =>
   cases vs with
   | nil=>simp[b9] at h;subst h;simp
   | cons v vs=>simp[b9] at h
 | cons a l ih =>
  cases n with
  | zero =>
   cases vs with
   | nil=>simp[b9] at h;subst h;simp
   | cons v vs =>
    simp only[b9] at h
    cases h':b9 l 0 vs with
    | none=>simp[h'] at h
    | some r' =>
     simp[h'] at h;subst h
     obtain⟨h1,h2,h3⟩:=ih h'
     refine⟨by simp;omega,by simp[h2],fun k => ?_⟩
     cases k with
     | zero=>simp
     | succ k=>simp[h3 k]
  | succ n =>
   simp only[b9] at h
   cases h':b9 l n vs with
   | none=>simp[h'] at h
   | some r' =>
    simp[h'] at h;subst h
    obtain⟨h1,h2,h3⟩:=ih h'
    refine⟨by simp;omega,by simp[h2],fun k => ?_⟩
    cases k with
    | zero=>simp
    | succ k =>
     simp only[getElem?_cons_succ,h3 k]
     by_cases hc:n≤k∧k<n+vs.length
     ·rw[if_pos hc,if_pos (by omega)];congr 1;omega
     ·rw[if_neg hc,if_neg (by omega)]
theorem j5 (n:Nat)(l:Ψ):(rep n l).length=n*l.length:=by
 induction n with
 | zero=>simp[rep]
 | succ n ih=>simp[rep,ih,Nat.succ_mul];omega
theorem BC (n:Nat)(l:Ψ)(k:Nat)(h:k<n*l.length):(rep n l)[k]?=l[k % l.length]?:=by
 induction n generalizing k with
 | zero=>simp at h
 | succ n ih =>
  simp only[rep]
  rcases Nat.lt_or_ge k l.length with hk | hk
  ·rw[getElem?_append_left hk,Nat.mod_eq_of_lt hk]
  ·rw[getElem?_append_right hk,ih (k - l.length) (by rw[Nat.succ_mul] at h;omega),Nat.mod_eq_sub_mod hk]
inductive V (w:World) (M:Nat→Prop) (σ:List Addr) (L:Nat→Prop):PV→Value→Prop
 | any (v:Value):V w M σ L .any v
 | sc (v:Value):V w M σ L (.sc v) v
 | agg (cs:Ψ) (vs:Array Value):cs.length=vs.size→(∀ (k:Nat) c v,cs[k]?=some c→vs[k]?=some v→V w M σ L c v)→V w M σ L (.agg cs) (.agg vs)
 | tup (cs:Ψ) (vs:Array Value):cs.length=vs.size→(∀ (k:Nat) c v,cs[k]?=some c→vs[k]?=some v→V w M σ L c v)→V w M σ L (.tup cs) (.tuple vs)
 | nil (x:Bool):V w M σ L (.imm 0 x []) (.slice none 0 0)
 | imm (len:Nat) (x:Bool) (cs:Ψ) (a:Addr) (cap:Nat) (g:Nat→Value):len≤cap→(x=true→cap=len) →
   (∀ (k:Nat) c,cs[k]?=some c→a.spot=none∧c.cG=true ∧ ¬ M a.block∧w.cell? ⟨a.block,a.off+k,none⟩=some (g k)) →
   (∀ (k:Nat) c,cs[k]?=some c→V w M σ L c (g k))→V w M σ L (.imm len x cs) (.slice (some a) len cap)
 | own (id s off len:Nat) (x:Bool) (a b:Addr) (cap:Nat):σ[id]?=some a→len≤cap→(x=true→cap=len) →
   (0<cap→b=⟨a.block,a.off+off,none⟩)→(L id→∃ c e,w.heap[a.block]?=some (.cells c e (0,0))∧a.off+off+cap*s≤c.size) →
   V w M σ L (.own id s off len x) (.slice (some b) len cap)
 | ptr (id off:Nat) (a:Addr):σ[id]?=some a→V w M σ L (.ptr id off) (.pointer (some ⟨a.block,a.off+off,none⟩))
 | iptr (cs:Ψ) (a:Addr) (g:Nat→Value) :
   (∀ (k:Nat) c,cs[k]?=some c→a.spot=none∧c.cG=true ∧ ¬ M a.block∧w.cell? ⟨a.block,a.off+k,none⟩=some (g k)) →
   (∀ (k:Nat) c,cs[k]?=some c→V w M σ L c (g k))→V w M σ L (.iptr cs) (.pointer (some a))
 | clos (f:FuncId) (cs:Ψ) (vs:Array Value):cs.length=vs.size→(∀ (k:Nat) c v,cs[k]?=some c→vs[k]?=some v→V w M σ L c v) →
   V w M σ L (.clos f cs) (.func (.func f) #[] vs)
 | bmet (f:FuncId) (cs:Ψ) (vs:Array Value):cs.length=vs.size→(∀ (k:Nat) c v,cs[k]?=some c→vs[k]?=some v→V w M σ L c v) →
   V w M σ L (.bmet f cs) (.func (.func f) vs #[])
 | mp (id:Nat) (a:Addr):σ[id]?=some a→V w M σ L (.mp id) (.map (some a.block))
def gJ (w:World)(M:Nat→Prop)(σ:List Addr)(L:Nat→Prop):Ψ→List MapEntry→Prop
 | [],[]=>True
 | k::v::r,e::es=>V w M σ L k e.key∧V w M σ L v e.val∧gJ w M σ L r es
 | _,_=>False
def iR (hp:Θ)(i:Nat):Prop:=∃ cs,hp[i]?=some ⟨.dead,.any::cs⟩
def aQ (hp:Θ)(i:Nat):Prop:=∃ cs,hp[i]?=some ⟨.live,cs⟩
def xu (hp:Θ)(i:Nat):Prop:=aQ hp i∨iR hp i
def cS (σ:List Addr)(hp:Θ)(b:Nat):Prop:=∃ i a,xu hp i∧σ[i]?=some a∧a.block=b
def hot (H:Nat→Prop)(σ:List Addr)(hp:Θ)(b:Nat):Prop:=H b∨cS σ hp b
structure Sim (w:World) (H:Nat→Prop) (σ:List Addr) (hp:Θ):Prop where
 len:σ.length=hp.length
 spot:∀ (i:Nat) a,σ[i]?=some a→a.block<w.heap.size
 foreign:∀ b,H b→b<w.heap.size
 cells:∀ (i:Nat) st cs a,hp[i]?=some ⟨st,cs⟩→st ≠ .dead→σ[i]?=some a→∀ (k:Nat) c,cs[k]?=some c →
  ∃ v,w.cell? ⟨a.block,a.off+k,none⟩=some v∧V w (hot H σ hp) σ (aQ hp) c v
 own:∀ (i:Nat) st cs a,hp[i]?=some ⟨st,cs⟩→st ≠ .dead→σ[i]?=some a → ¬ H a.block
 live:∀ (i:Nat) a cs,hp[i]?=some ⟨.live,cs⟩→σ[i]?=some a→∃ (c:Array Value) (e:TypeId),w.heap[a.block]?=some (Obj.cells c e (0,0))∧a.off+cs.length≤c.size
 inj:∀ (i j:Nat) a b st cs,aQ hp i→hp[j]?=some ⟨st,cs⟩→st ≠ .dead→i≠j→σ[i]?=some a→σ[j]?=some b→a.block≠b.block
 maps:∀ (i:Nat) cs a,hp[i]?=some ⟨.dead,.any::cs⟩→σ[i]?=some a → ¬ H a.block∧∃ es clock,w.heap[a.block]?=some (Obj.map es clock)∧gJ w (hot H σ hp) σ (aQ hp) cs es.toList
 injm:∀ (i j:Nat) a b,iR hp i→iR hp j→i≠j→σ[i]?=some a→σ[j]?=some b→a.block≠b.block
def Shape (w:World)(σ:List Addr)(w':World)(L':Nat→Prop):Prop:=∀ (i:Nat) (a:Addr) (c:Array Value) (e:TypeId),L' i→σ[i]?=some a→w.heap[a.block]?=some (Obj.cells c e (0,0)) →
 ∃ c':Array Value,w'.heap[a.block]?=some (Obj.cells c' e (0,0))∧c'.size=c.size
theorem ir {w:World}{σ:List Addr}{w':World}{L':Nat→Prop}(h:∀ (b:Nat)(c:Array Value)(e:TypeId)(f:Nat × Nat),w.heap[b]?=some (Obj.cells c e f)→∃ c':Array Value,w'.heap[b]?=some (Obj.cells c' e f)∧c'.size=c.size):Shape w σ w' L' :=
 fun _ a c e _ _ hb=>h a.block c e _ hb
structure Step (w:World) (M:Nat→Prop) (σ:List Addr) (L:Nat→Prop) (w':World) (M':Nat→Prop) (σ':List Addr) (L':Nat→Prop):Prop where
 os:w'.os=w.os
 tape:w'.tape=w.tape
 output:w'.output=w.output
 size:w.heap.size≤w'.heap.size
 pre:∀ (i:Nat) a,σ[i]?=some a→σ'[i]?=some a
 same:∀ (b:Nat),b<w.heap.size → ¬ M b→w'.heap[b]?=w.heap[b]?
 shape:Shape w σ w' L'
 hot:∀ (b:Nat),b<w.heap.size→M' b→M b
 live:∀ i,i<σ.length→L' i→L i
theorem Step.refl (w:World)(M:Nat→Prop)(σ:List Addr)(L:Nat→Prop):Step w M σ L w M σ L :=
 ⟨rfl,rfl,rfl,Nat.le_refl _,fun _ _ h=>h,fun _ _ _=>rfl,ir fun _ c _ _ h=>⟨c,h,rfl⟩,fun _ _ h=>h,fun _ _ h=>h⟩
theorem xi {σ σ':List Addr}(h:∀ (i:Nat) a,σ[i]?=some a→σ'[i]?=some a):σ.length≤σ'.length:=by
 rcases Nat.lt_or_ge σ'.length σ.length with h' | h'
 ·have:=h σ'.length (σ[σ'.length]) (getElem?_eq_getElem h')
  simp at this
 ·exact h'
theorem Step.trans {w w1 w2:World}{M M1 M2:Nat→Prop}{σ σ1 σ2:List Addr}{L L1 L2:Nat→Prop}(h:Step w M σ L w1 M1 σ1 L1)(h':Step w1 M1 σ1 L1 w2 M2 σ2 L2) :
  Step w M σ L w2 M2 σ2 L2 where
 os:=h'.os.trans h.os
 tape:=h'.tape.trans h.tape
 output:=h'.output.trans h.output
 size:=Nat.le_trans h.size h'.size
 pre i a ha:=h'.pre i a (h.pre i a ha)
 same b hb hm:=by
  rw[h'.same b (Nat.lt_of_lt_of_le hb h.size) (fun hm1=>hm (h.hot b hb hm1)),h.same b hb hm]
 shape i a c e hl ha hb:=by
  have hi:i<σ.length:=by
   rcases Nat.lt_or_ge i σ.length with h' | h'
   ·exact h'
   ·simp[getElem?_eq_none h'] at ha
  obtain⟨c1,h1,e1⟩:=h.shape i a c e (h'.live i (Nat.lt_of_lt_of_le hi (xi h.pre)) hl) ha hb
  obtain⟨c2,h2,e2⟩:=h'.shape i a c1 e hl (h.pre i a ha) h1
  exact⟨c2,h2,e2.trans e1⟩
 hot b hb hm:=h.hot b hb (h'.hot b (Nat.lt_of_lt_of_le hb h.size) hm)
 live i hi hl:=h.live i hi (h'.live i (Nat.lt_of_lt_of_le hi (xi h.pre)) hl)
theorem fZ {w w':World}{a:Addr}(h:w'.heap[a.block]?=w.heap[a.block]?):w'.cell? a=w.cell? a:=by
 simp only[World.cell?,h]
theorem V.stepG {w w':World}{H M M':Nat→Prop}{σ σ':List Addr}{L L':Nat→Prop}(h:Step w M σ L w' M' σ' L'){p:PV}{v:Value}(hv:V w (fun b=>H b∨M b) σ L p v):V w' (fun b=>H b∨M' b) σ' L' p v:=by
 induction hv with
 | any v=>exact .any v
 | sc v=>exact .sc v
 | agg cs vs hl _ ih=>exact .agg cs vs hl ih
 | tup cs vs hl _ ih=>exact .tup cs vs hl ih
 | nil x=>exact .nil x
 | imm len x cs a cap g h1 h2 h3 _ ih =>
  refine .imm len x cs a cap g h1 h2 (fun k c hk => ?_) ih
  obtain⟨e1,e2,e3,e4⟩:=h3 k c hk
  have hb:=World.block_lt_of_cell? _ _ e4
  exact⟨e1,e2,fun hm=>e3 (hm.imp id (h.hot _ hb)),by rw[fZ (h.same _ hb (fun hm=>e3 (.inr hm)))];exact e4⟩
 | own id s off len x a b cap h1 h2 h3 h4 h5 =>
  have hi:id<σ.length:=by
   rcases Nat.lt_or_ge id σ.length with h' | h'
   ·exact h'
   ·simp[getElem?_eq_none h'] at h1
  refine .own id s off len x a b cap (h.pre _ _ h1) h2 h3 h4 (fun hl => ?_)
  obtain⟨c,e,hc,hs⟩:=h5 (h.live id hi hl)
  obtain⟨c',hc',e'⟩:=h.shape id a c e hl h1 hc
  exact⟨c',e,hc',by omega⟩
 | ptr id off a h1=>exact .ptr id off a (h.pre _ _ h1)
 | iptr cs a g h3 _ ih =>
  refine .iptr cs a g (fun k c hk => ?_) ih
  obtain⟨e1,e2,e3,e4⟩:=h3 k c hk
  have hb:=World.block_lt_of_cell? _ _ e4
  exact⟨e1,e2,fun hm=>e3 (hm.imp id (h.hot _ hb)),by rw[fZ (h.same _ hb (fun hm=>e3 (.inr hm)))];exact e4⟩
 | clos f cs vs hl _ ih=>exact .clos f cs vs hl ih
 | bmet f cs vs hl _ ih=>exact .bmet f cs vs hl ih
 | mp id a h1=>exact .mp id a (h.pre _ _ h1)
theorem V.step {w w':World}{H:Nat→Prop}{σ σ':List Addr}{hp hp':Θ}(h:Step w (cS σ hp) σ (aQ hp) w' (cS σ' hp') σ' (aQ hp')){p:PV}{v:Value}(hv:V w (hot H σ hp) σ (aQ hp) p v):V w' (hot H σ' hp') σ' (aQ hp') p v :=
 V.stepG (H:=H) h hv
theorem gJ.step {w w':World}{H:Nat→Prop}{σ σ':List Addr}{hp hp':Θ}(h:Step w (cS σ hp) σ (aQ hp) w' (cS σ' hp') σ' (aQ hp')):∀ {cs:Ψ} {es:List MapEntry},gJ w (hot H σ hp) σ (aQ hp) cs es→gJ w' (hot H σ' hp') σ' (aQ hp') cs es
 | [],[],_=>trivial
 | k::v::r,e::es,hr=>⟨hr.1.step h,hr.2.1.step h,hr.2.2.step h⟩
 | [],_::_,hr=>hr.elim
 | [_],[],hr=>hr.elim
 | [_],_::_,hr=>hr.elim
 | _::_::_,[],hr=>hr.elim
def Vs (w:World)(M:Nat→Prop)(σ:List Addr)(L:Nat→Prop)(ps:Ψ)(vs:List Value):Prop :=
 ps.length=vs.length∧∀ (k:Nat) p v,ps[k]?=some p→vs[k]?=some v→V w M σ L p v
theorem Vs.step {w w':World}{H:Nat→Prop}{σ σ':List Addr}{hp hp':Θ}(h:Step w (cS σ hp) σ (aQ hp) w' (cS σ' hp') σ' (aQ hp')){ps:Ψ}{vs:List Value}(hv:Vs w (hot H σ hp) σ (aQ hp) ps vs):Vs w' (hot H σ' hp') σ' (aQ hp') ps vs :=
 ⟨hv.1,fun k p v h1 h2=>(hv.2 k p v h1 h2).step h⟩
theorem pN {hp:Θ}{b:Blk}{i:Nat}(h:i<hp.length):aQ (hp++[b]) i ↔ aQ hp i:=by
 unfold aQ;rw[getElem?_append_left h]
theorem EK {hp:Θ}{i:Nat}(h:iR hp i):i<hp.length:=by
 obtain⟨cs,hc⟩:=h
 rcases Nat.lt_or_ge i hp.length with h' | h'
 ·exact h'
 ·simp[getElem?_eq_none h'] at hc
theorem Ox {hp:Θ}{b:Blk}{i:Nat}(h:i<hp.length):iR (hp++[b]) i ↔ iR hp i:=by
 unfold iR;rw[getElem?_append_left h]
theorem Ob {hp:Θ}{b:Blk}{i:Nat}(h:i<hp.length):xu (hp++[b]) i ↔ xu hp i:=by
 unfold xu;rw[pN h,Ox h]
theorem ij {hp:Θ}{id:Nat}{b:Blk}(hb:∀ cs,b≠⟨.dead,.any::cs⟩){i:Nat}(h:iR (hp.set id b) i):iR hp i∧id≠i:=by
 obtain⟨cs,hc⟩:=h
 by_cases e:id=i
 ·subst e
  have hlt:id<hp.length:=by
   rcases Nat.lt_or_ge id hp.length with h' | h'
   ·exact h'
   ·rw[getElem?_eq_none (by simpa using h')] at hc;cases hc
  rw[getElem?_set_self hlt] at hc
  simp only[OiE] at hc
  exact absurd hc (hb cs)
 ·rw[getElem?_set_ne e] at hc;exact⟨⟨cs,hc⟩,e⟩
theorem cO {α:Type}{l:List α}{i:Nat}{a:α}(h:l[i]?=some a):i<l.length:=by
 rcases Nat.lt_or_ge i l.length with h' | h'
 ·exact h'
 ·simp[getElem?_eq_none h'] at h
theorem dS {α:Type}{l:List α}{a:α}{i:Nat}{b:α}(h:(l++[a])[i]?=some b):(i<l.length∧l[i]?=some b)∨(i=l.length∧b=a):=by
 rcases Nat.lt_or_ge i l.length with h' | h'
 ·rw[getElem?_append_left h'] at h;exact .inl ⟨h',h⟩
 ·have:=cO h
  simp at this
  have e:i=l.length:=by omega
  subst e;simp at h;exact .inr ⟨rfl,h.symm⟩
theorem zA {w:World}{H:Nat→Prop}{σ:List Addr}{hp:Θ}(S:Sim w H σ hp){cs:Ψ}{vs:Array Value}{e:TypeId}
  (hl:cs.length≤vs.size) (hv:∀ (k:Nat) c v,cs[k]?=some c→vs[k]?=some v→V w (hot H σ hp) σ (aQ hp) c v) :
  Sim (w.alloc (.cells vs e)) H (σ++[⟨w.heap.size,0,none⟩]) (hp++[⟨.live,cs⟩]) ∧
  Step w (cS σ hp) σ (aQ hp) (w.alloc (.cells vs e)) (cS (σ++[⟨w.heap.size,0,none⟩]) (hp++[⟨.live,cs⟩])) (σ++[⟨w.heap.size,0,none⟩]) (aQ (hp++[⟨.live,cs⟩])):=by
 have hold:∀ (k:Nat),k<w.heap.size→(w.alloc (.cells vs e)).heap[k]?=w.heap[k]?:=fun k hk=>Go.RowKit.Below.heap_alloc _ _ _ hk
 have hnew:(w.alloc (.cells vs e)).heap[w.heap.size]?=some (.cells vs e):=by
  show (w.heap.push _)[w.heap.size]?=_
  simp
 have st:Step w (cS σ hp) σ (aQ hp) (w.alloc (.cells vs e)) (cS (σ++[⟨w.heap.size,0,none⟩]) (hp++[⟨.live,cs⟩])) (σ++[⟨w.heap.size,0,none⟩]) (aQ (hp++[⟨.live,cs⟩])):=by
  refine⟨rfl,rfl,rfl,by simp,fun i a ha => ?_,fun b hb _=>hold b hb,ir fun b c e' f hb => ?_,fun b hb hm => ?_,fun i hi hm => ?_⟩
  ·rw[getElem?_append_left (cO ha)];exact ha
  ·have:b<w.heap.size:=by
    rcases Nat.lt_or_ge b w.heap.size with h' | h'
    ·exact h'
    ·simp[Array.getElem?_eq_none h'] at hb
   exact⟨c,by rw[hold b this];exact hb,rfl⟩
  ·obtain⟨i,a,h1,h2,h3⟩:=hm
   rcases dS h2 with ⟨hi,h2⟩| ⟨hi,h2⟩
   ·exact⟨i,a,(Ob (by rw[← S.len];exact hi)).1 h1,h2,h3⟩
   ·subst h2;simp at h3;omega
  ·exact (pN (by rw[← S.len];exact hi)).1 hm
 refine⟨⟨by simp[S.len],fun i a ha => ?_,fun b hb=>Nat.lt_of_lt_of_le (S.foreign b hb) (by simp),fun i s cs' a hi hd ha k c hk => ?_,fun i s cs' a hi hd ha => ?_,fun i a cs0 hi ha => ?_,fun i j a b s cs' hi hj hd hne ha hb => ?_,fun i cs' a hi ha => ?_,fun i j a b hi hj hne ha hb => ?_⟩,st⟩
 ·rcases dS ha with ⟨_,h⟩| ⟨_,h⟩
  ·exact Nat.lt_of_lt_of_le (S.spot i a h) (by simp)
  ·subst h;simp
 ·rcases dS hi with ⟨hlt,h⟩| ⟨hlt,h⟩
  ·rcases dS ha with ⟨_,ha⟩| ⟨e',_⟩
   ·obtain⟨v,h1,h2⟩:=S.cells i s cs' a h hd ha k c hk
    exact⟨v,by rw[fZ (a:=⟨a.block,a.off+k,none⟩) (hold _ (S.spot i a ha))];exact h1,h2.step st⟩
   ·rw[S.len] at e';omega
  ·cases h
   rcases dS ha with ⟨h',ha⟩| ⟨e',ha⟩
   ·rw[S.len] at h';omega
   ·subst ha
    have hk':=cO hk
    have hks:k<vs.size:=by omega
    refine⟨vs[k],?_,(hv k c vs[k] hk (by simp[hks])).step st⟩
    simp[World.cell?_alloc_new,hks]
 ·rcases dS ha with ⟨hlt,h⟩| ⟨hlt,h⟩
  ·rw[getElem?_append_left (by rw[← S.len];exact hlt)] at hi
   exact S.own i s cs' a hi hd h
  ·subst h
   exact fun hh=>by have:=S.foreign _ hh;simp at this
 ·rcases dS ha with ⟨hlt,h⟩| ⟨hlt,h⟩
  ·rw[getElem?_append_left (by rw[← S.len];exact hlt)] at hi
   obtain⟨c,e',h2,h3⟩:=S.live i a cs0 hi h
   exact⟨c,e',by rw[hold _ (S.spot i a h)];exact h2,h3⟩
  ·subst h
   rw[S.len] at hlt
   rw[hlt,getElem?_append_right (Nat.le_refl _)] at hi
   simp at hi;subst hi
   exact⟨vs,e,hnew,by simpa using hl⟩
 ·rcases dS ha with ⟨hlt,ha⟩| ⟨hlt,ha⟩ <;> rcases dS hb with ⟨hlt',hb⟩| ⟨hlt',hb⟩
  ·rcases dS hj with ⟨_,hj⟩| ⟨e',_⟩
   ·exact S.inj i j a b s cs' ((pN (by rw[← S.len];exact hlt)).1 hi) hj hd hne ha hb
   ·rw[← S.len] at e';omega
  ·subst hb;have:=S.spot i a ha;simp;omega
  ·subst ha;have:=S.spot j b hb;simp;omega
  ·omega
 ·rcases dS hi with ⟨hlt,h⟩| ⟨_,h⟩
  ·rcases dS ha with ⟨_,ha⟩| ⟨e',_⟩
   ·obtain⟨h1,es,ck,h2,h3⟩:=S.maps i cs' a h ha
    exact⟨h1,es,ck,by rw[hold _ (S.spot i a ha)];exact h2,h3.step st⟩
   ·rw[S.len] at e';omega
  ·cases h
 ·have hi':iR hp i:=by
   obtain⟨ds,hds⟩:=hi
   rcases dS hds with ⟨_,h⟩| ⟨_,h⟩
   ·exact⟨ds,h⟩
   ·cases h
  have hj':iR hp j:=by
   obtain⟨ds,hds⟩:=hj
   rcases dS hds with ⟨_,h⟩| ⟨_,h⟩
   ·exact⟨ds,h⟩
   ·cases h
  have hli:=EK hi'
  have hlj:=EK hj'
  rw[← S.len] at hli hlj
  rw[getElem?_append_left hli] at ha
  rw[getElem?_append_left hlj] at hb
  exact S.injm i j a b hi' hj' hne ha hb
def adZ (w w':World)(b:Nat)(off:Nat)(vs:List Value):Prop :=
 w'.os=w.os∧w'.tape=w.tape∧w'.output=w.output∧w'.heap.size=w.heap.size∧(∀ k,k≠b→w'.heap[k]?=w.heap[k]?) ∧
 ∀ c e f,w.heap[b]?=some (Obj.cells c e f)→∃ c':Array Value,w'.heap[b]?=some (Obj.cells c' e f)∧c'.size=c.size∧∀ j,c'[j]?=if off≤j∧j<off+vs.length then vs[j - off]? else c[j]?
theorem nj (P:Program)(a:Addr)(hs:a.spot=none):∀ (vs:List Value) (i:Nat) (w:World) (c:Array Value) (e:TypeId),
  w.heap[a.block]?=some (.cells c e (0,0))→a.off+i+vs.length≤c.size→(∀ v ∈ vs,v.oneCell'=true) →
  ∃ w',(storeCells a vs i).run P w = .ok () w'∧adZ w w' a.block (a.off+i) vs
 | [],i,w,c,e,hb,_,_=>⟨w,rfl,rfl,rfl,rfl,rfl,fun _ _=>rfl,fun c e f h=>⟨c,h,rfl,fun j=>by rw[if_neg (by simp)]⟩⟩
 | v::vs,i,w,c,e,hb,hle,hone=>by
  simp only[length_cons] at hle
  have hadd:a.add i=⟨a.block,a.off+i,none⟩:=by
   unfold Addr.add
   split
   ·rename_i h;subst h;cases a;simp at hs;simp[hs]
   ·rfl
  have hcell:w.cell? ⟨a.block,a.off+i,none⟩=some (c[a.off+i]'(by omega)):=by
   simp[World.cell?,hb]
  have hfr:w.frozen? ⟨a.block,a.off+i,none⟩=false:=by simp[World.frozen?,hb]
  have hb1:(w.setCell ⟨a.block,a.off+i,none⟩ v).heap[a.block]?=some (.cells (c.setIfInBounds (a.off+i) v) e (0,0)):=by
   simp[World.setCell,Array.getElem?_modify,hb]
  obtain⟨w',hrun,ho,ht,hout,hsz,hoth,hcells⟩:=nj P a hs vs (i+1) _ _ e hb1 (by simp;omega) (fun v hv=>hone v (mem_cons_of_mem _ hv))
  refine⟨w',?_,ho,ht,hout,by rw[hsz];simp,fun k hk => ?_,fun c0 e0 f0 h0 => ?_⟩
  ·simp only[storeCells,Sem.run_bind,hadd]
   rw[run_store _ _ _ _ _ (hone v (by simp))]
   simp[hcell,hfr,hrun]
  ·rw[hoth k hk];exact Go.RowKit.Below.heap_setCell w ⟨a.block,a.off+i,none⟩ v k hk
  ·rw[hb] at h0
   cases h0
   obtain⟨c',h1,h2,h3⟩:=hcells _ _ _ hb1
   refine⟨c',h1,by rw[h2];simp,fun j => ?_⟩
   rw[h3 j]
   simp only[length_cons]
   by_cases hj:a.off+(i+1)≤j∧j<a.off+(i+1)+vs.length
   ·rw[if_pos hj,if_pos (by omega)]
    obtain⟨m,hm⟩:∃ m,j - (a.off+i)=m+1:=⟨j - (a.off+i) - 1,by omega⟩
    rw[hm,getElem?_cons_succ];congr 1;omega
   ·rw[if_neg hj]
    by_cases hj0:j=a.off+i
    ·subst hj0
     rw[if_pos (by omega)]
     have:a.off+i<c.size:=by omega
     simp[this]
    ·rw[if_neg (by omega)]
     rw[Array.getElem?_setIfInBounds_ne (Ne.symm hj0)]
theorem rQ {w:World}{b off:Nat}{c:Array Value}{e:TypeId}{f:Nat × Nat}(h:w.heap[b]?=some (.cells c e f)):w.cell? ⟨b,off,none⟩=c[off]?:=by
 simp[World.cell?,h]
theorem pM {hp:Θ}{id:Nat}{b:Blk}(hb:b.st = .live→aQ hp id){i:Nat}(h:aQ (hp.set id b) i):aQ hp i:=by
 obtain⟨cs,hc⟩:=h
 by_cases e:id=i
 ·subst e
  have hlt:id<hp.length:=by have:=cO hc;simpa using this
  rw[getElem?_set_self hlt] at hc
  simp at hc;subst hc;exact hb rfl
 ·rw[getElem?_set_ne e] at hc;exact⟨cs,hc⟩
theorem MH {w w':World}{H:Nat→Prop}{σ:List Addr}{hp:Θ}(S:Sim w H σ hp){id off:Nat}{a:Addr}{cs cs' new:Ψ}{vs:List Value}
  (hid:hp[id]?=some ⟨.live,cs⟩) (ha:σ[id]?=some a) (hw:adZ w w' a.block (a.off+off) vs) (hnew:new.length=vs.length)
  (hv:∀ (k:Nat) c v,new[k]?=some c→vs[k]?=some v→V w (hot H σ hp) σ (aQ hp) c v)
  (hcs:cs'.length=cs.length∧∀ k,cs'[k]?=if off≤k∧k<off+new.length then new[k - off]? else cs[k]?) :
  Sim w' H σ (hp.set id ⟨.live,cs'⟩)∧Step w (cS σ hp) σ (aQ hp) w' (cS σ (hp.set id ⟨.live,cs'⟩)) σ (aQ (hp.set id ⟨.live,cs'⟩)):=by
 obtain⟨ho,ht,hout,hsz,hoth,hcells⟩:=hw
 have hlt:id<hp.length:=cO hid
 have hliveid:aQ hp id:=⟨cs,hid⟩
 have hlv:∀ {i:Nat},aQ (hp.set id ⟨.live,cs'⟩) i→aQ hp i:=fun h=>pM (fun _=>hliveid) h
 have hhot:∀ b,cS σ (hp.set id ⟨.live,cs'⟩) b→cS σ hp b:=by
  rintro b ⟨i,a',h1,h2,h3⟩
  exact⟨i,a',h1.imp hlv fun hm=>(ij (fun _ e=>by cases e) hm).1,h2,h3⟩
 have hhotid:cS σ hp a.block:=⟨id,a,.inl hliveid,ha,rfl⟩
 obtain⟨c,e,hblk,hfit⟩:=S.live id a cs hid ha
 obtain⟨c',hblk',hcsz,hcget⟩:=hcells _ _ _ hblk
 have st:Step w (cS σ hp) σ (aQ hp) w' (cS σ (hp.set id ⟨.live,cs'⟩)) σ (aQ (hp.set id ⟨.live,cs'⟩)):=by
  refine⟨ho,ht,hout,by omega,fun _ _ h=>h,fun b _ hm=>hoth b (fun e=>hm (e ▸ hhotid)),ir fun b c0 e0 f0 hb => ?_,fun b _ hm=>hhot b hm,fun i _ hm=>hlv hm⟩
  by_cases eb:b=a.block
  ·subst eb
   obtain⟨c1,h1,h2,_⟩:=hcells _ _ _ hb
   exact⟨c1,h1,h2⟩
  ·exact⟨c0,by rw[hoth b eb];exact hb,rfl⟩
 refine⟨⟨by simp[S.len],fun i a' h=>by rw[hsz];exact S.spot i a' h,fun b h=>by rw[hsz];exact S.foreign b h,fun i s ds a' hi hd ha' k d hk => ?_,fun i s ds a' hi hd ha' => ?_,fun i a' cs0 hi ha' => ?_,fun i j a1 a2 s ds hi hj hd hne h1 h2 => ?_,fun i ds a' hi ha' => ?_,fun i j a1 a2 hi hj hne h1 h2=>S.injm i j a1 a2 (ij (fun _ e=>by cases e) hi).1 (ij (fun _ e=>by cases e) hj).1 hne h1 h2⟩,st⟩
 ·by_cases ei:id=i
  ·subst ei
   rw[getElem?_set_self hlt] at hi
   cases hi
   rw[ha] at ha';cases ha'
   rw[rQ hblk',hcget]
   rw[hcs.2] at hk
   by_cases hin:off≤k∧k<off+new.length
   ·rw[if_pos hin] at hk
    rw[if_pos (by omega)]
    have hks:k - off<vs.length:=by omega
    have hsub:a.off+k - (a.off+off)=k - off:=by omega
    rw[hsub]
    refine⟨vs[k - off],by simp[hks],(hv (k - off) d _ hk (by simp[hks])).step st⟩
   ·rw[if_neg hin] at hk
    rw[if_neg (by omega)]
    obtain⟨v,h1,h2⟩:=S.cells id .live cs a hid (by simp) ha k d hk
    rw[rQ hblk] at h1
    exact⟨v,h1,h2.step st⟩
  ·rw[getElem?_set_ne ei] at hi
   obtain⟨v,h1,h2⟩:=S.cells i s ds a' hi hd ha' k d hk
   have hne:=S.inj id i a a' s ds hliveid hi hd ei ha ha'
   exact⟨v,by rw[fZ (a:=⟨a'.block,a'.off+k,none⟩) (hoth _ (Ne.symm hne))];exact h1,h2.step st⟩
 ·by_cases ei:id=i
  ·subst ei
   exact S.own id .live cs a' hid (by simp) ha'
  ·rw[getElem?_set_ne ei] at hi
   exact S.own i s ds a' hi hd ha'
 ·have hold:∃ ds,hp[i]?=some ⟨.live,ds⟩∧ds.length=cs0.length:=by
   by_cases ei:id=i
   ·subst ei
    rw[getElem?_set_self hlt] at hi
    simp at hi;subst hi
    exact⟨cs,hid,hcs.1.symm⟩
   ·rw[getElem?_set_ne ei] at hi
    exact⟨cs0,hi,rfl⟩
  obtain⟨ds,hds,hdl⟩:=hold
  obtain⟨c1,e1,h2,h2'⟩:=S.live i a' ds hds ha'
  by_cases eb:a'.block=a.block
  ·rw[eb] at h2
   obtain⟨c2,h3,h4,_⟩:=hcells _ _ _ h2
   exact⟨c2,e1,by rw[eb];exact h3,by omega⟩
  ·exact⟨c1,e1,by rw[hoth _ eb];exact h2,by omega⟩
 ·by_cases ej:id=j
  ·subst ej
   exact S.inj i id a1 a2 .live cs (hlv hi) hid (by simp) hne h1 h2
  ·rw[getElem?_set_ne ej] at hj
   exact S.inj i j a1 a2 s ds (hlv hi) hj hd hne h1 h2
 ·have hne:id≠i:=(ij (fun _ e=>by cases e) ⟨ds,hi⟩).2
  rw[getElem?_set_ne hne] at hi
  obtain⟨h1,es,ck,h2,h3⟩:=S.maps i ds a' hi ha'
  have hb:a'.block≠a.block:=fun e=>by rw[e,hblk] at h2;cases h2
  exact⟨h1,es,ck,by rw[hoth _ hb];exact h2,h3.step st⟩
theorem Da {w:World}{H:Nat→Prop}{σ:List Addr}{hp:Θ}(S:Sim w H σ hp){id:Nat}{s:BSt}{cs cs':Ψ}{st':BSt}
  (hid:hp[id]?=some ⟨s,cs⟩) (h':(st' = .dead∧cs'=[])∨(s ≠ .dead∧st' = .ro∧cs'=cs)) :
  Sim w H σ (hp.set id ⟨st',cs'⟩)∧Step w (cS σ hp) σ (aQ hp) w (cS σ (hp.set id ⟨st',cs'⟩)) σ (aQ (hp.set id ⟨st',cs'⟩)):=by
 have hlt:id<hp.length:=cO hid
 have hst:st' ≠ .live:=by rcases h' with ⟨h,_⟩| ⟨_,h,_⟩ <;> simp[h]
 have hnm:∀ ds,(⟨st',cs'⟩:Blk)≠⟨.dead,.any::ds⟩:=by
  intro ds e
  cases e
  rcases h' with ⟨_,h⟩| ⟨_,h,_⟩ <;> cases h
 have hlv:∀ {i:Nat},aQ (hp.set id ⟨st',cs'⟩) i→aQ hp i:=fun h=>pM (fun e=>absurd e hst) h
 have hlne:∀ {i:Nat},aQ (hp.set id ⟨st',cs'⟩) i→id≠i:=by
  rintro i ⟨ds,hd⟩ rfl
  rw[getElem?_set_self hlt] at hd
  simp at hd;exact hst hd.1
 have hhot:∀ b,cS σ (hp.set id ⟨st',cs'⟩) b→cS σ hp b:=by
  rintro b ⟨i,a',h1,h2,h3⟩
  exact⟨i,a',h1.imp hlv fun hm=>(ij hnm hm).1,h2,h3⟩
 have st:Step w (cS σ hp) σ (aQ hp) w (cS σ (hp.set id ⟨st',cs'⟩)) σ (aQ (hp.set id ⟨st',cs'⟩)) :=
  ⟨rfl,rfl,rfl,Nat.le_refl _,fun _ _ h=>h,fun _ _ _=>rfl,ir fun _ c _ _ h=>⟨c,h,rfl⟩,fun b _ hm=>hhot b hm,fun i _ hm=>hlv hm⟩
 refine⟨⟨by simp[S.len],S.spot,S.foreign,fun i s1 ds a' hi hd ha' k d hk => ?_,fun i s1 ds a' hi hd ha' => ?_,fun i a' cs0 hi ha' => ?_,fun i j a1 a2 s1 ds hi hj hd hne h1 h2 => ?_,fun i ds a' hi ha' => ?_,fun i j a1 a2 hi hj hne h1 h2=>S.injm i j a1 a2 (ij hnm hi).1 (ij hnm hj).1 hne h1 h2⟩,st⟩
 ·by_cases ei:id=i
  ·subst ei
   rw[getElem?_set_self hlt] at hi
   simp only[OiE,Blk.mk.injEq] at hi
   obtain⟨rfl,rfl⟩:=hi
   rcases h' with ⟨h,_⟩| ⟨h1,h2,h3⟩
   ·exact absurd h hd
   ·subst h3
    obtain⟨v,h1,h2⟩:=S.cells id s cs' a' hid h1 ha' k d hk
    exact⟨v,h1,h2.step st⟩
  ·rw[getElem?_set_ne ei] at hi
   obtain⟨v,h1,h2⟩:=S.cells i s1 ds a' hi hd ha' k d hk
   exact⟨v,h1,h2.step st⟩
 ·by_cases ei:id=i
  ·subst ei
   rw[getElem?_set_self hlt] at hi
   simp only[OiE,Blk.mk.injEq] at hi
   obtain⟨rfl,rfl⟩:=hi
   rcases h' with ⟨h,_⟩| ⟨h1,h2,h3⟩
   ·exact absurd h hd
   ·exact S.own id s cs a' hid h1 ha'
  ·rw[getElem?_set_ne ei] at hi
   exact S.own i s1 ds a' hi hd ha'
 ·by_cases ei:id=i
  ·exact absurd ei (hlne ⟨cs0,hi⟩)
  ·rw[getElem?_set_ne ei] at hi
   exact S.live i a' cs0 hi ha'
 ·by_cases ej:id=j
  ·subst ej
   rw[getElem?_set_self hlt] at hj
   simp only[OiE,Blk.mk.injEq] at hj
   obtain⟨rfl,rfl⟩:=hj
   rcases h' with ⟨h,_⟩| ⟨h3,_,_⟩
   ·exact absurd h hd
   ·exact S.inj i id a1 a2 s cs (hlv hi) hid h3 hne h1 h2
  ·rw[getElem?_set_ne ej] at hj
   exact S.inj i j a1 a2 s1 ds (hlv hi) hj hd hne h1 h2
 ·have hne:id≠i:=(ij hnm ⟨ds,hi⟩).2
  rw[getElem?_set_ne hne] at hi
  obtain⟨h1,es,ck,h2,h3⟩:=S.maps i ds a' hi ha'
  exact⟨h1,es,ck,h2,h3.step st⟩
end Go.Ab
