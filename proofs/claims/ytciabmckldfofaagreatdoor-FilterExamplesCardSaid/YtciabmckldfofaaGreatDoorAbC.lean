/- The abstract interpreter is sound, the third part: drawn regions, runs, contracts; no condition. -/
import Derived.Test.YtciabmckldfofaaGreatDoorAbB
import Derived.LoopN
import Derived.Scope
set_option linter.unusedSimpArgs false
set_option linter.unusedVariables false
namespace Go.Ab
open Go

/-- an abstract state and a state of the model, behind a start (w0, σ0, hp0) -/
def Good (H : Nat → Prop) (w0 : World) (σ0 : List Addr) (hp0 : List Blk) (st : St) (a : Act) (w : World) : Prop :=
  ∃ σ, Sim w H σ st.hp ∧ FrOk w (hot H σ st.hp) σ (liveAt st.hp) st.fr a.tmps ∧ Step w0 (ownd σ0 hp0) σ0 (liveAt hp0) w (ownd σ st.hp) σ (liveAt st.hp) ∧ a.defers = []

section
variable {C : Cfg} {run : Runs} {H : Nat → Prop} {w0 : World} {σ0 : List Addr} {hp0 : List Blk}

theorem notBool {w : World} {M : Nat → Prop} {σ : List Addr} {L : Nat → Prop} {p : PV} {v : Value} (hv : V w M σ L p v) (h1 : p ≠ .any) (h2 : ∀ b, p ≠ .sc (.bool b)) : ∀ b, v ≠ .bool b := by
  intro b e
  subst e
  cases hv with
  | any => exact h1 rfl
  | sc => exact h2 b rfl

theorem wantedP_ok {w : World} {M : Nat → Prop} {σ : List Addr} {L : Nat → Prop} {ops : Array Oper} {fr : List PV} {tmps : Array Value} {o : Oper} {b : Bool} (hf : FrOk w M σ L fr tmps) (h : wantedP ops fr o = some b) :
    Region.wanted o (yielded ops tmps) = b := by
  unfold wantedP at h
  unfold Region.wanted
  cases hg : o.guard with
  | none => simp [hg] at h; simp [h]
  | some g =>
    obtain ⟨j, want⟩ := g
    simp only [hg] at h
    cases hd : (ops[j]?).bind (·.dst) with
    | none => simp [hd] at h
    | some d =>
      simp only [hd] at h
      have hv := hf.nth d
      unfold yielded
      simp only [hd, Option.bind_some]
      have hlt : nth fr d ≠ .any → d < tmps.size := by
        intro hne
        rcases Nat.lt_or_ge d tmps.size with h' | h'
        · exact h'
        · rw [nth_eq, List.getElem?_eq_none (by rw [hf.len]; exact h')] at hne
          exact absurd rfl hne
      split at h
      · rename_i b' e
        rw [e] at hv
        have hl := hlt (by rw [e]; simp)
        have := hv.sc_inv
        simp [hl] at this
        simp at h
        rw [Array.getElem?_eq_getElem hl, this, ← h]
        simp
      · cases h
      · rename_i h1 h2
        simp at h
        have hl := hlt (fun e => h2 e)
        have hnb := notBool hv (fun e => h2 e) (fun b e => h1 b e)
        rw [Array.getElem?_eq_getElem hl]
        have e0 : tmps.getD d undef = tmps[d] := by simp [hl]
        rw [e0] at hnb
        subst h
        split
        · rename_i b' e
          simp at e
          exact absurd e (hnb b')
        · rfl

theorem calleeP_ok {w : World} {M : Nat → Prop} {σ : List Addr} {L : Nat → Prop} {fr : List PV} {a : Act} {c : Call} {g : FuncId} {args : List PV} (hf : FrOk w M σ L fr a.tmps) (h : calleeP fr c = some (g, args)) :
    ∃ vs : List Value, Vs w M σ L args vs ∧ ∀ P ty, (do let d ← resolve a.eval c ty; invoke d.target d.args : Sem Next).run P w = (callFunc g vs.toArray).run P w := by
  have hargs : Vs w M σ L (c.args.toList.map (evalP fr)) (c.args.toList.map a.eval) := ⟨by simp, fun k p v h1 h2 => by
    rw [List.getElem?_map] at h1 h2
    cases hk : c.args.toList[k]? with
    | none => simp [hk] at h1
    | some x => simp [hk] at h1 h2; subst h1; subst h2; exact hf.eval x⟩
  unfold calleeP at h
  split at h
  · rename_i f hc
    have hvf := hf.eval f
    split at h
    · rename_i g' e
      rw [e] at hvf
      have hv := hvf.sc_inv
      simp only [Option.some.injEq, Prod.mk.injEq] at h
      obtain ⟨rfl, rfl⟩ := h
      refine ⟨_, hargs, fun P ty => ?_⟩
      have e2 : (c.args.toList.map a.eval).toArray = c.args.map a.eval := by apply Array.ext'; simp
      rw [e2]
      simp [resolve, hc, hv, Deferred.ofValue, invoke]
    · rename_i g' caps e
      rw [e] at hvf
      obtain ⟨cv, hv, hrel⟩ := hvf.clos_inv
      simp only [Option.some.injEq, Prod.mk.injEq] at h
      obtain ⟨rfl, rfl⟩ := h
      refine ⟨c.args.toList.map a.eval ++ cv.toList, ⟨by simp [hrel.1], fun k p v h1 h2 => ?_⟩, fun P ty => ?_⟩
      · rcases Nat.lt_or_ge k c.args.toList.length with hk | hk
        · rw [List.getElem?_append_left (by simpa using hk)] at h1 h2
          exact hargs.2 k p v h1 h2
        · rw [List.getElem?_append_right (by simpa using hk)] at h1 h2
          simp only [List.length_map] at h1 h2
          exact hrel.2 _ p v h1 (by simpa using h2)
      · have e2 : (c.args.toList.map a.eval ++ cv.toList).toArray = c.args.map a.eval ++ cv := by apply Array.ext'; simp
        rw [e2]
        simp [resolve, hc, hv, Deferred.ofValue, invoke]
    · rename_i g' caps e
      rw [e] at hvf
      obtain ⟨cv, hv, hrel⟩ := hvf.bmet_inv
      simp only [Option.some.injEq, Prod.mk.injEq] at h
      obtain ⟨rfl, rfl⟩ := h
      refine ⟨cv.toList ++ c.args.toList.map a.eval, ⟨by simp [hrel.1], fun k p v h1 h2 => ?_⟩, fun P ty => ?_⟩
      · have hl := hrel.1
        rcases Nat.lt_or_ge k caps.length with hk | hk
        · rw [List.getElem?_append_left hk] at h1
          rw [List.getElem?_append_left (by simpa [hl] using hk)] at h2
          exact hrel.2 _ p v h1 (by simpa using h2)
        · rw [List.getElem?_append_right hk] at h1
          rw [List.getElem?_append_right (by simpa [hl] using hk)] at h2
          refine hargs.2 (k - caps.length) p v h1 ?_
          simpa [hl] using h2
      · have e2 : (cv.toList ++ c.args.toList.map a.eval).toArray = cv ++ c.args.map a.eval := by apply Array.ext'; simp
        rw [e2]
        simp [resolve, hc, hv, Deferred.ofValue, invoke]
    · cases h
  · cases h

theorem operP_ok (hT : TabOk C.P C.T) (hR : RunOk C run) (hE : RunEff run) (hO : OrcOk C) {dr : Bool} {ops : Array Oper} {o : Oper} {st st' : St} {fp : FP} {a : Act} {w : World} (h : operP C run dr ops o st = some (st', fp))
    (hg : Good H w0 σ0 hp0 st a w) {K : Act → World → Prop} {Q : Exit → Act → World → Prop} (hK : ∀ a' w', Good H w0 σ0 hp0 st' a' w' → K a' w') :
    if Region.wanted o (yielded ops a.tmps) then o.wp C.P a w K Q else K (a.put o.dst undef) w := by
  obtain ⟨σ, S, hf, stp, hdef⟩ := hg
  have hputd : ∀ (dst : Option Tmp) (v : Value), (a.put dst v).defers = [] := fun dst v => by cases dst <;> exact hdef
  unfold operP at h
  split at h
  · rename_i v hp' fp' he
    simp only [Option.some.injEq, Prod.mk.injEq] at h
    obtain ⟨rfl, _⟩ := h
    unfold valP at he
    split at he
    · cases he
    · rename_i hw
      rw [wantedP_ok hf hw]
      simp only [Option.some.injEq, Prod.mk.injEq] at he
      obtain ⟨rfl, rfl, _⟩ := he
      simp only [Bool.false_eq_true, if_false]
      exact hK _ _ ⟨σ, S, hf.put o.dst (.sc undef), stp, hputd _ _⟩
    · rename_i hw
      rw [wantedP_ok hf hw]
      simp only [if_true]
      split at he
      · rename_i c hc
        split at he
        · rename_i g args hcal
          obtain ⟨vs, hvs, hrun⟩ := calleeP_ok hf hcal
          have hcall := callP_ok hR hE hO he S hvs
          have hex : ∀ ρ, execOp ρ o = (do let d ← resolve ρ c o.type; invoke d.target d.args) := by
            intro ρ
            unfold isCall at hc
            split at hc
            · rename_i c' e
              split at hc
              · simp at hc; subst hc
                unfold execOp; rw [e]
              · cases hc
            · cases hc
          unfold Oper.wp
          rw [hex, hrun]
          unfold CallOk at hcall
          split at hcall
          · rename_i u w' e
            rw [e]
            obtain ⟨σ', h1, h2, h3⟩ := hcall
            exact hK _ _ ⟨σ', h2, (hf.step h3).put o.dst h1, stp.trans h3, hputd _ _⟩
          · rename_i f as w' e
            rw [e]
            refine hcall.mono fun en w'' ⟨u, e1, σ', h1, h2, h3⟩ => ?_
            subst e1
            exact hK _ _ ⟨σ', h2, (hf.step h3).put o.dst h1, stp.trans h3, hputd _ _⟩
          · exact hcall.elim
        · cases he
      · obtain ⟨n, u, w', σ', h1, h2, h3, h4, h5⟩ := stepP_ok hT S hf (o := o) he
        unfold Oper.wp
        rw [h1]
        rcases h2 with rfl | ⟨rfl, rfl⟩
        · exact hK _ _ ⟨σ', h4, (hf.step h5).put o.dst h3, stp.trans h5, hputd _ _⟩
        · exact hK _ _ ⟨σ', h4, (hf.step h5).put o.dst h3, stp.trans h5, hputd _ _⟩
  · cases h

/-- a region in the order of its text -/
theorem goOps_ok (hT : TabOk C.P C.T) (hR : RunOk C run) (hE : RunEff run) (hO : OrcOk C) {dr : Bool} {ops : Array Oper} {Q : Exit → Act → World → Prop} : ∀ (l : List Oper) (st st' : St) (fps : List FP) (a : Act) (w : World),
    goOps C run dr ops l st = some (st', fps) → Good H w0 σ0 hp0 st a w → (∀ a' w', Good H w0 σ0 hp0 st' a' w' → Q .normal a' w') → wpList C.P ops Q l a w
  | [], st, st', fps, a, w, h, hg, hQ => by
    simp only [goOps, Option.some.injEq, Prod.mk.injEq] at h
    obtain ⟨rfl, _⟩ := h
    exact hQ a w hg
  | o :: l, st, st', fps, a, w, h, hg, hQ => by
    simp only [goOps] at h
    split at h
    · rename_i st1 fp ho
      split at h
      · rename_i st2 fps' hl
        simp only [Option.some.injEq, Prod.mk.injEq] at h
        obtain ⟨rfl, _⟩ := h
        have := operP_ok (Q := Q) hT hR hE hO ho hg (K := wpList C.P ops Q l) (fun a' w' hg' => goOps_ok hT hR hE hO l st1 st2 fps' a' w' hl hg' hQ)
        unfold wpList
        split
        · rename_i hw; rw [if_pos hw] at this; exact .inl this
        · rename_i hw; rw [if_neg hw] at this; exact this
      · cases h
    · cases h

end
end Go.Ab
namespace Go.Ab
open Go

/-- two heaps agree at these blocks -/
def Ag (hp hp2 : List Blk) (ids : List Nat) : Prop := ∀ i ∈ ids, nthB hp2 i = nthB hp i

theorem Ag.left {hp hp2 : List Blk} {a b : List Nat} (h : Ag hp hp2 (a ++ b)) : Ag hp hp2 a := fun i hi => h i (by simp [hi])
theorem Ag.right {hp hp2 : List Blk} {a b : List Nat} (h : Ag hp hp2 (a ++ b)) : Ag hp hp2 b := fun i hi => h i (by simp [hi])

theorem rdSl_congr {hp hp2 : List Blk} {s : Nat} {x : PV} {n : Nat} {cs : List PV} {ids : List Nat} (h : rdSl hp s x = some (n, cs, ids)) (ha : Ag hp hp2 ids) : rdSl hp2 s x = some (n, cs, ids) := by
  unfold rdSl at *
  split at h
  · exact h
  · exact h
  · rename_i id s' off len x
    split at h
    · rename_i st cs' e
      split at h
      · cases h
      · rename_i hn
        split at h
        · rename_i l hl
          simp only [Option.some.injEq, Prod.mk.injEq] at h
          obtain ⟨rfl, rfl, rfl⟩ := h
          have := ha id (by simp)
          simp only [this, e, if_neg hn, hl]
        · cases h
    · cases h
  · cases h

theorem atAddr_congr {hp hp2 : List Blk} {x : PV} {cs : List PV} {ids : List Nat} (h : atAddr hp x = some (cs, ids)) (ha : Ag hp hp2 ids) : atAddr hp2 x = some (cs, ids) := by
  unfold atAddr at *
  split at h
  · rename_i id off
    split at h
    · rename_i st cs' e
      split at h
      · cases h
      · rename_i hn
        simp only [Option.some.injEq, Prod.mk.injEq] at h
        obtain ⟨rfl, rfl⟩ := h
        have := ha id (by simp)
        simp only [this, e, if_neg hn]
    · cases h
  · exact h
  · cases h

theorem mapIds_congr {f g : PV → Option (PV × List Nat)} {P : List Nat → Prop} (hP : ∀ a b, P (a ++ b) → P a ∧ P b) (hf : ∀ c r ids, f c = some (r, ids) → P ids → g c = some (r, ids)) : ∀ {cs l : List PV} {ids : List Nat}, mapIds f cs = some (l, ids) → P ids → mapIds g cs = some (l, ids)
  | [], l, ids, h, _ => by simpa [mapIds] using h
  | c :: cs, l, ids, h, ha => by
    simp only [mapIds] at h ⊢
    split at h
    · rename_i c' i1 e1
      split at h
      · rename_i l' i2 e2
        simp only [Option.some.injEq, Prod.mk.injEq] at h
        obtain ⟨rfl, rfl⟩ := h
        obtain ⟨p1, p2⟩ := hP _ _ ha
        rw [hf c c' i1 e1 p1, mapIds_congr hP hf e2 p2]
      · cases h
    · cases h

theorem snap_congr {hp hp2 : List Blk} : ∀ (d : Nat) {x r : PV} {ids : List Nat}, snap hp d x = some (r, ids) → Ag hp hp2 ids → snap hp2 d x = some (r, ids)
  | 0, _, _, _, h, _ => by simp [snap] at h
  | d + 1, x, r, ids, h, ha => by
    have hm : ∀ {cs l : List PV} {ids : List Nat}, mapIds (snap hp d) cs = some (l, ids) → Ag hp hp2 ids → mapIds (snap hp2 d) cs = some (l, ids) :=
      fun h1 h2 => mapIds_congr (P := Ag hp hp2) (fun _ _ h => ⟨h.left, h.right⟩) (fun c r ids h h' => snap_congr d h h') h1 h2
    unfold snap at h ⊢
    split at h
    · rename_i id s off len x
      split at h
      · rename_i st cs' e
        split at h
        · cases h
        · rename_i hn
          split at h
          · rename_i l hl
            split at h
            · rename_i l' i2 e2
              simp only [Option.some.injEq, Prod.mk.injEq] at h
              obtain ⟨rfl, rfl⟩ := h
              have h1 := ha id (by simp)
              have h2 : Ag hp hp2 i2 := fun i hi => ha i (by simp [hi])
              simp only [h1, e, if_neg hn, hl, hm e2 h2]
            · cases h
          · cases h
      · cases h
    · split at h
      · rename_i l' i2 e2
        simp only [Option.some.injEq, Prod.mk.injEq] at h
        obtain ⟨rfl, rfl⟩ := h
        simp only [hm e2 ha]
      · cases h
    · cases h
    · cases h
    · simpa using h
    · cases h
    · cases h
    · rename_i h1 h2 h3 h4 h5 h6 h7
      simpa using h

theorem nthB_setB {hp : List Blk} {id : Nat} {b b0 : Blk} (h : nthB hp id = some b0) (i : Nat) : nthB (setB hp id b) i = if i = id then some b else nthB hp i := by
  rw [nthB_eq] at h
  simp only [nthB_eq, setB_eq]
  rw [List.getElem?_set]
  by_cases hi : i = id
  · subst hi; simp [get_lt h]
  · simp [hi, Ne.symm hi]

theorem setB_length (hp : List Blk) (id : Nat) (b : Blk) : (setB hp id b).length = hp.length := by rw [setB_eq]; simp
theorem nthB_alloc (hp : List Blk) (cs : List PV) (i : Nat) : nthB (allocB hp cs) i = if i = hp.length then some ⟨.live, cs⟩ else nthB hp i := by
  simp only [nthB_eq, allocB]
  rw [List.getElem?_append]
  split
  · rename_i h; rw [if_neg (by omega)]
  · rename_i h
    by_cases e : i = hp.length
    · simp [e]
    · rw [if_neg e, List.getElem?_eq_none (l := hp) (by omega), List.getElem?_eq_none (by simp; omega)]

theorem extB {a b : List Blk} (h : ∀ i, nthB a i = nthB b i) : a = b := by
  apply List.ext_getElem?
  intro i
  have := h i
  rwa [nthB_eq, nthB_eq] at this

/-- an operation on the heap keeps to its footprint -/
structure Loc (f : List Blk → Option (PV × List Blk × FP)) : Prop where
  E : ∀ hp v hp' F, f hp = some (v, hp', F) → (∀ i, i ∉ F.wr → nthB hp' i = nthB hp i) ∧ (F.all = false → F.al = false → hp'.length = hp.length) ∧ (F.all = false → F.wr = [] → F.al = false)
  D : ∀ hp hp2 v hp' F, f hp = some (v, hp', F) → F.all = false → Ag hp hp2 F.rd → Ag hp hp2 F.wr → (F.al = true → hp2.length = hp.length) →
    ∃ hp2', f hp2 = some (v, hp2', F) ∧ ∀ i ∈ F.wr, nthB hp2' i = nthB hp' i

theorem Loc.no : Loc fun _ => (.none : Option (PV × List Blk × FP)) := ⟨(fun _ _ _ _ h => nomatch h), (fun _ _ _ _ _ h => nomatch h)⟩
/-- reads and no more -/
theorem Loc.read {g : List Blk → Option (PV × List Nat)} (hg : ∀ hp hp2 v ids, g hp = some (v, ids) → Ag hp hp2 ids → g hp2 = some (v, ids)) :
    Loc fun hp => match g hp with | some (v, ids) => some (v, hp, ⟨ids, [], false, false⟩) | .none => .none := by
  constructor
  · intro hp v hp' F h
    try dsimp only at h
    split at h
    · simp only [Option.some.injEq, Prod.mk.injEq] at h
      obtain ⟨rfl, rfl, rfl⟩ := h
      exact ⟨fun _ _ => rfl, fun _ _ => rfl, fun _ _ => rfl⟩
    · cases h
  · intro hp hp2 v hp' F h _ hr hw hl
    try dsimp only at h
    split at h
    · rename_i v' ids e
      simp only [Option.some.injEq, Prod.mk.injEq] at h
      obtain ⟨rfl, rfl, rfl⟩ := h
      exact ⟨hp2, by simp only [hg hp hp2 _ _ e hr], by simp⟩
    · cases h
theorem Loc.pure (v : PV) : Loc fun hp => some (v, hp, FP.none) := Loc.read (g := fun _ => some (v, [])) fun _ _ _ _ h _ => h
theorem Loc.opt (v : Option PV) : Loc fun hp => match v with | some x => some (x, hp, FP.none) | .none => .none := by
  cases v with
  | none => exact Loc.no
  | some v => exact Loc.pure v

theorem Loc.alloc (mk : Nat → PV) (cs : List PV) : Loc fun hp => some (mk hp.length, allocB hp cs, ⟨[], [hp.length], true, false⟩) := by
  constructor
  · intro hp v hp' F h
    simp only [Option.some.injEq, Prod.mk.injEq] at h
    obtain ⟨rfl, rfl, rfl⟩ := h
    refine ⟨fun i hi => ?_, fun _ h => by simp at h, fun _ h => by simp at h⟩
    rw [nthB_alloc, if_neg (by simpa using hi)]
  · intro hp hp2 v hp' F h _ hr hw hl
    simp only [Option.some.injEq, Prod.mk.injEq] at h
    obtain ⟨rfl, rfl, rfl⟩ := h
    have := hl rfl
    refine ⟨allocB hp2 cs, by simp [this], fun i hi => ?_⟩
    simp at hi
    rw [nthB_alloc, nthB_alloc, if_pos hi, if_pos (by omega)]

/-- writes one block -/
theorem Loc.write {g : List Blk → Option (PV × Nat × Blk × List Nat)} (hlive : ∀ hp v id b ids, g hp = some (v, id, b, ids) → ∃ b0, nthB hp id = some b0)
    (hg : ∀ hp hp2 v id b ids, g hp = some (v, id, b, ids) → Ag hp hp2 ids → nthB hp2 id = nthB hp id → g hp2 = some (v, id, b, ids)) :
    Loc fun hp => match g hp with | some (v, id, b, ids) => some (v, setB hp id b, ⟨ids, [id], false, false⟩) | .none => .none := by
  constructor
  · intro hp v hp' F h
    try dsimp only at h
    split at h
    · rename_i v' id b ids e
      simp only [Option.some.injEq, Prod.mk.injEq] at h
      obtain ⟨rfl, rfl, rfl⟩ := h
      obtain ⟨b0, hb⟩ := hlive _ _ _ _ _ e
      refine ⟨fun i hi => ?_, fun _ _ => setB_length _ _ _, fun _ h => by simp at h⟩
      rw [nthB_setB hb, if_neg (by simpa using hi)]
    · cases h
  · intro hp hp2 v hp' F h _ hr hw hl
    try dsimp only at h
    split at h
    · rename_i v' id b ids e
      simp only [Option.some.injEq, Prod.mk.injEq] at h
      obtain ⟨rfl, rfl, rfl⟩ := h
      obtain ⟨b0, hb⟩ := hlive _ _ _ _ _ e
      have h1 := hw id (by simp)
      refine ⟨setB hp2 id b, by simp only [hg hp hp2 _ _ _ _ e hr h1], fun i hi => ?_⟩
      simp at hi
      rw [nthB_setB hb, nthB_setB (h1.trans hb), if_pos hi, if_pos hi]
    · cases h

theorem appendP_loc (s : Nat) (x : PV) (n : Nat) (new : List PV) : Loc fun hp => appendP hp s x n new := by
  unfold appendP
  split
  · split
    · exact Loc.pure _
    · split
      · exact Loc.alloc (fun k => .own k s 0 n false) new
      · exact Loc.no
  · split
    · exact Loc.pure _
    · rename_i len cs _
      split
      · exact Loc.alloc (fun k => .own k s 0 (len + n) false) (cs ++ new)
      · exact Loc.no
  · rename_i id s' off len
    split
    · exact Loc.no
    · split
      · exact Loc.pure _
      · constructor
        · intro hp v hp' F h
          try dsimp only at h
          repeat' split at h
          all_goals first | cases h; done | skip
          simp only [Option.some.injEq, Prod.mk.injEq] at h
          obtain ⟨rfl, rfl, rfl⟩ := h
          refine ⟨fun i hi => ?_, fun _ h => by simp at h, fun _ h => by simp at h⟩
          rw [nthB_alloc, if_neg (by simpa using hi)]
        · intro hp hp2 v hp' F h _ hr hw hl
          try dsimp only at h
          split at h
          · rename_i st cs e
            split at h
            · cases h
            · rename_i hn
              split at h
              · rename_i l hl'
                split at h
                · rename_i hm
                  simp only [Option.some.injEq, Prod.mk.injEq] at h
                  obtain ⟨rfl, rfl, rfl⟩ := h
                  have h0 := hl rfl
                  have h1 := hr id (by simp)
                  refine ⟨allocB hp2 (l ++ new), by simp only [h1, e, if_neg hn, hl', if_pos hm, h0], fun i hi => ?_⟩
                  simp at hi
                  rw [nthB_alloc, nthB_alloc, if_pos hi, if_pos (by omega)]
                · cases h
              · cases h
          · cases h
  · rename_i id s' off len
    split
    · exact Loc.no
    · constructor
      · intro hp v hp' F h
        try dsimp only at h
        split at h
        · rename_i cs e
          split at h
          · split at h
            · simp only [Option.some.injEq, Prod.mk.injEq] at h
              obtain ⟨rfl, rfl, rfl⟩ := h
              refine ⟨fun i hi => ?_, fun _ h => by simp at h, fun _ h => by simp at h⟩
              simp at hi
              rw [nthB_alloc, setB_length, if_neg hi.2, nthB_setB e, if_neg hi.1]
            · cases h
          · cases h
        · cases h
      · intro hp hp2 v hp' F h _ hr hw hl
        try dsimp only at h
        split at h
        · rename_i cs e
          split at h
          · rename_i l hl'
            split at h
            · rename_i hm
              simp only [Option.some.injEq, Prod.mk.injEq] at h
              obtain ⟨rfl, rfl, rfl⟩ := h
              have h0 := hl rfl
              have h1 := hw id (by simp)
              refine ⟨allocB (setB hp2 id ⟨.dead, []⟩) (l ++ new), by simp only [h1, e, hl', if_pos hm, h0], fun i hi => ?_⟩
              rw [nthB_alloc, nthB_alloc, setB_length, setB_length, nthB_setB e, nthB_setB (h1.trans e), h0]
              simp at hi
              rcases hi with hi | hi
              · subst hi
                have : i ≠ hp.length := by have := get_lt ((nthB_eq _ _).symm.trans e); omega
                simp [this]
              · simp [hi]
            · cases h
          · cases h
        · cases h
  · exact Loc.no

theorem mem_upto {a n i : Nat} : i ∈ upto a n ↔ a ≤ i ∧ i < a + n := by
  induction n generalizing a with
  | zero => simp [upto]
  | succ n ih => simp only [upto, List.mem_cons, ih]; omega

theorem roB_get : ∀ (ids : List Nat) (hp : List Blk) (i : Nat), nthB (roB hp ids) i = if i ∈ ids then (nthB hp i).map (fun b => if b.st = .live then ⟨.ro, b.cs⟩ else b) else nthB hp i
  | [], hp, i => by simp [roB]
  | j :: ids, hp, i => by
    simp only [roB]
    split
    · rename_i cs e
      rw [roB_get ids, nthB_setB e]
      by_cases hij : i = j
      · subst hij; simp [e]
      · simp [hij]
    · rename_i hn
      rw [roB_get ids]
      by_cases hij : i = j
      · subst hij
        cases hb : nthB hp i with
        | none => simp
        | some b =>
          obtain ⟨st, cs⟩ := b
          cases st <;> simp_all
      · simp [hij]
theorem roB_length : ∀ (ids : List Nat) (hp : List Blk), (roB hp ids).length = hp.length
  | [], hp => rfl
  | j :: ids, hp => by
    simp only [roB]
    split
    · rw [roB_length ids, setB_length]
    · rw [roB_length ids]

theorem nthB_append (a b : List Blk) (i : Nat) : nthB (a ++ b) i = if i < a.length then nthB a i else nthB b (i - a.length) := by
  simp only [nthB_eq, List.getElem?_append]
theorem nthB_none {a : List Blk} {i : Nat} (h : a.length ≤ i) : nthB a i = none := by rw [nthB_eq]; exact List.getElem?_eq_none h

theorem ag_refl (hp : List Blk) (l : List Nat) : Ag hp hp l := fun _ _ => rfl

theorem finishL_len (hp : List Blk) : ∀ (rs : List PV) (kept : List Blk) (K F : List Nat) (rs' : List PV) (kept' : List Blk), finishL hp kept K F rs = some (rs', kept') →
    kept.length ≤ kept'.length ∧ (kept'.length = kept.length → ∀ n, rs'.map (shiftP n) = rs')
  | [], kept, K, F, rs', kept', h => by
    simp only [finishL, Option.some.injEq, Prod.mk.injEq] at h
    obtain ⟨rfl, rfl⟩ := h
    simp
  | r :: rs, kept, K, F, rs', kept', h => by
    have hsn : ∀ {r' : PV} {ids : List Nat}, snap hp snapDepth r = some (r', ids) → ∀ n, shiftP n r' = r' := fun {r' _} e n => by
      have := snap_idfree hp _ e
      cases r' <;> first | rfl | simp [PV.idfree] at this
    have hrest : ∀ {r' : PV} {ids : List Nat}, (match snap hp snapDepth r with
        | some (r', ids) =>
          if ids.any K.contains then none
          else match finishL hp kept K (ids ++ F) rs with
            | some (rs', k) => some (r' :: rs', k)
            | none => none
        | none => none) = some (rs', kept') → kept.length ≤ kept'.length ∧ (kept'.length = kept.length → ∀ n, rs'.map (shiftP n) = rs') := fun {_ _} h => by
      split at h
      · rename_i r' ids e
        split at h
        · cases h
        · split at h
          · rename_i rs1 k1 e1
            simp only [Option.some.injEq, Prod.mk.injEq] at h
            obtain ⟨rfl, rfl⟩ := h
            obtain ⟨h1, h2⟩ := finishL_len hp rs _ _ _ _ _ e1
            exact ⟨h1, fun hl n => by rw [List.map_cons, h2 hl n, hsn e n]⟩
          · cases h
      · cases h
    unfold finishL at h
    split at h
    · split at h
      · split at h
        · split at h
          · cases h
          · split at h
            · rename_i rs1 k1 e1
              simp only [Option.some.injEq, Prod.mk.injEq] at h
              obtain ⟨rfl, rfl⟩ := h
              obtain ⟨h1, h2⟩ := finishL_len hp rs _ _ _ _ _ e1
              simp at h1
              exact ⟨by omega, fun hl => by omega⟩
            · cases h
        · cases h
      · exact hrest (r' := .any) (ids := []) h
    · exact hrest (r' := .any) (ids := []) h

theorem callP_loc {C : Cfg} {run : Runs} (hE : RunEff run) (dr : Bool) (g : FuncId) (args : List PV) : Loc fun hp => callP C run dr hp g args := by
  unfold callP
  split
  · constructor
    · intro hp v hp' F h
      try dsimp only at h
      split at h
      · rename_i rs hp1 w e
        obtain ⟨e1, e2⟩ := hE _ _ _ _ _ _ e
        cases hb : (idfreeL rs && wrBelow hp1 hp.length (oldW hp.length w)) with
        | true =>
          simp only [hb, cond_true, Option.some.injEq, Prod.mk.injEq] at h
          obtain ⟨rfl, rfl, rfl⟩ := h
          refine ⟨fun i hi => ?_, fun h => by simp at h, fun h => by simp at h⟩
          rw [takeB_eq, nthB_eq, nthB_eq, List.getElem?_take]
          split
          · rename_i hlt
            exact e2 i hlt fun hm => hi (oldW_mem.2 ⟨hm, hlt⟩)
          · rw [List.getElem?_eq_none (by omega)]
        | false =>
          simp only [hb, cond_false, Option.some.injEq, Prod.mk.injEq] at h
          obtain ⟨rfl, rfl, rfl⟩ := h
          refine ⟨fun i hi => ?_, fun h => by simp at h, fun h => by simp at h⟩
          simp only [List.mem_append, oldW_mem, mem_upto, not_or] at hi
          rw [nthB_eq, nthB_eq]
          rcases Nat.lt_or_ge i hp.length with hlt | hge
          · exact e2 i hlt fun hm => hi.1 ⟨hm, hlt⟩
          · rw [List.getElem?_eq_none (l := hp) hge, List.getElem?_eq_none (by omega)]
      · cases h
    · intro hp hp2 v hp' F h hall
      try dsimp only at h
      split at h
      · rename_i rs hp1 w e
        cases hb : (idfreeL rs && wrBelow hp1 hp.length (oldW hp.length w)) with
        | true => simp only [hb, cond_true, Option.some.injEq, Prod.mk.injEq] at h; rw [← h.2.2] at hall; simp at hall
        | false => simp only [hb, cond_false, Option.some.injEq, Prod.mk.injEq] at h; rw [← h.2.2] at hall; simp at hall
      · cases h
  · have hsn : ∀ {hp hp2 : List Blk} {l : List PV} {ids : List Nat}, mapIds (snap hp snapDepth) args = some (l, ids) → Ag hp hp2 ids → mapIds (snap hp2 snapDepth) args = some (l, ids) :=
      fun {hp hp2} _ _ h1 h2 => mapIds_congr (P := Ag hp hp2) (fun _ _ h => ⟨h.left, h.right⟩) (fun c r ids h h' => snap_congr _ h h') h1 h2
    constructor
    · intro hp v hp' F h
      try dsimp only at h
      split at h
      · cases h
      · rename_i args' ids e
        split at h
        · rename_i rs er
          cases hb : rs.all scalarP with
          | true =>
            simp only [hb, cond_true, Option.some.injEq, Prod.mk.injEq] at h
            obtain ⟨rfl, rfl, rfl⟩ := h
            exact ⟨fun _ _ => rfl, fun _ _ => rfl, fun _ _ => rfl⟩
          | false =>
            simp only [hb, cond_false, Option.some.injEq, Prod.mk.injEq] at h
            obtain ⟨rfl, rfl, rfl⟩ := h
            exact ⟨fun i hi => by rw [roB_get, if_neg hi], fun _ _ => roB_length _ _, fun _ _ => rfl⟩
        · split at h
          · cases h
          · split at h
            · cases h
            · rename_i rs' kept ek
              cases hb : rs'.all scalarP with
              | true =>
                simp only [hb, cond_true, Option.some.injEq, Prod.mk.injEq] at h
                obtain ⟨rfl, rfl, rfl⟩ := h
                exact ⟨fun _ _ => rfl, fun _ _ => rfl, fun _ _ => rfl⟩
              | false =>
                simp only [hb, cond_false, Option.some.injEq, Prod.mk.injEq] at h
                obtain ⟨rfl, rfl, rfl⟩ := h
                refine ⟨fun i hi => ?_, fun _ h => ?_, fun _ h => ?_⟩
                · simp only [List.mem_append, mem_upto, not_or] at hi
                  rw [nthB_append, roB_length]
                  split
                  · rw [roB_get, if_neg hi.1]
                  · rw [nthB_none (by omega), nthB_none (by omega)]
                · simp at h; simp [h, roB_length]
                · cases kept with
                  | nil => rfl
                  | cons => simp [upto] at h
    · intro hp hp2 v hp' F h _ hr hw hl
      try dsimp only at h
      split at h
      · cases h
      · rename_i args' ids e
        split at h
        · rename_i rs er
          cases hb : rs.all scalarP with
          | true =>
            simp only [hb, cond_true, Option.some.injEq, Prod.mk.injEq] at h
            obtain ⟨rfl, rfl, rfl⟩ := h
            exact ⟨hp2, by simp only [hsn e hr, er, hb, cond_true], by simp⟩
          | false =>
            simp only [hb, cond_false, Option.some.injEq, Prod.mk.injEq] at h
            obtain ⟨rfl, rfl, rfl⟩ := h
            refine ⟨roB hp2 ids, by simp only [hsn e hr, er, hb, cond_false], fun i hi => ?_⟩
            rw [roB_get, roB_get, hr i hi]
        · rename_i er
          split at h
          · cases h
          · rename_i e2
            split at h
            · cases h
            · rename_i rs' kept ek
              cases hb : rs'.all scalarP with
              | true =>
                simp only [hb, cond_true, Option.some.injEq, Prod.mk.injEq] at h
                obtain ⟨rfl, rfl, rfl⟩ := h
                exact ⟨hp2, by simp only [hsn e hr, er, e2, ek, hb, cond_true], by simp⟩
              | false =>
                simp only [hb, cond_false, Option.some.injEq, Prod.mk.injEq] at h
                obtain ⟨rfl, rfl, rfl⟩ := h
                have hlen : (!kept.isEmpty) = true → hp2.length = hp.length := hl
                obtain ⟨_, hsh⟩ := finishL_len _ _ _ _ _ _ _ ek
                cases hk : kept with
                | nil =>
                  subst hk
                  have s1 := hsh rfl
                  refine ⟨roB hp2 ids ++ [], by simp only [hsn e hr, er, e2, ek, hb, cond_false, s1]; rfl, fun i hi => ?_⟩
                  simp only [List.length_nil, upto, List.append_nil] at hi ⊢
                  rw [roB_get, roB_get, hr i hi]
                | cons b bs =>
                  subst hk
                  have h0 := hlen rfl
                  refine ⟨roB hp2 ids ++ (b :: bs), by simp only [hsn e hr, er, e2, ek, hb, cond_false, h0], fun i hi => ?_⟩
                  rw [nthB_append, nthB_append, roB_length, roB_length, h0, roB_get, roB_get]
                  split
                  · rename_i hlt
                    split
                    · rename_i hm; rw [hr i hm]
                    · rename_i hm
                      simp only [List.mem_append, mem_upto] at hi
                      exact absurd hi (by intro hi; rcases hi with hi | hi; exact hm hi; omega)
                  · rfl

end Go.Ab
namespace Go.Ab
open Go

theorem convP_congr {T : Tab} {hp hp2 : List Blk} {src dst : TypeId} {a v : PV} {ids : List Nat} (h : convP T hp src dst a = some (v, ids)) (ha : Ag hp hp2 ids) : convP T hp2 src dst a = some (v, ids) := by
  unfold convP at *
  split at h
  · exact h
  · exact h
  · exact h
  · split at h
    · rename_i e1
      split at h
      · rename_i n cs ids' e2
        split at h
        · rename_i l e3
          simp only [Option.some.injEq, Prod.mk.injEq] at h
          obtain ⟨rfl, rfl⟩ := h
          simp only [rdSl_congr e2 ha, e3]
        · cases h
      · cases h
    · cases h
  · cases h

/-- an operation that reads, put so -/
theorem Loc.of_read {f : List Blk → Option (PV × List Blk × FP)} (h : ∀ hp v hp' F, f hp = some (v, hp', F) → hp' = hp ∧ F.wr = [] ∧ F.al = false ∧ ∀ hp2, Ag hp hp2 F.rd → f hp2 = some (v, hp2, F)) : Loc f := by
  constructor
  · intro hp v hp' F e
    obtain ⟨rfl, h1, h2, h3⟩ := h _ _ _ _ e
    exact ⟨fun _ _ => rfl, fun _ _ => rfl, fun _ _ => h2⟩
  · intro hp hp2 v hp' F e _ hr hw hl
    obtain ⟨rfl, h1, h2, h3⟩ := h _ _ _ _ e
    exact ⟨hp2, h3 hp2 hr, by simp [h1]⟩
/-- an operation that writes one block, put so -/
theorem Loc.of_write {f : List Blk → Option (PV × List Blk × FP)} (h : ∀ hp v hp' F, f hp = some (v, hp', F) → ∃ id b b0, hp' = setB hp id b ∧ nthB hp id = some b0 ∧ F.wr = [id] ∧ F.al = false ∧
    ∀ hp2, Ag hp hp2 F.rd → nthB hp2 id = nthB hp id → f hp2 = some (v, setB hp2 id b, F)) : Loc f := by
  constructor
  · intro hp v hp' F e
    obtain ⟨id, b, b0, rfl, h1, h2, h3, h4⟩ := h _ _ _ _ e
    exact ⟨fun i hi => by rw [nthB_setB h1, if_neg (by rw [h2] at hi; simpa using hi)], fun _ _ => setB_length _ _ _, fun _ _ => h3⟩
  · intro hp hp2 v hp' F e _ hr hw hl
    obtain ⟨id, b, b0, rfl, h1, h2, h3, h4⟩ := h _ _ _ _ e
    have e1 : nthB hp2 id = nthB hp id := hw id (by simp [h2])
    refine ⟨_, h4 hp2 hr e1, fun i hi => ?_⟩
    rw [h2] at hi
    simp at hi
    rw [nthB_setB h1, nthB_setB (e1.trans h1), if_pos hi, if_pos hi]

theorem sliceP_loc (T : Tab) (t : TypeId) (x : PV) (lo hi mx : Option PV) : Loc fun hp => match sliceP T hp t x lo hi mx with
    | some r => some (r, hp, match x with | .ptr id _ => ⟨[id], [], false, false⟩ | _ => FP.none)
    | none => none := by
  refine Loc.of_read fun hp v hp' F h => ?_
  split at h
  · rename_i r e
    simp only [Option.some.injEq, Prod.mk.injEq] at h
    obtain ⟨rfl, rfl, rfl⟩ := h
    refine ⟨rfl, by split <;> rfl, by split <;> rfl, fun hp2 ha => ?_⟩
    have : sliceP T hp2 t x lo hi mx = sliceP T hp t x lo hi mx := by
      unfold sliceP
      split
      · rfl
      · rfl
      · unfold sliceArr
        split
        · split
          · rename_i id off
            rw [ha id (by simp)]
          · rfl
          · rfl
        · rfl
      · rfl
    rw [this, e]
  · cases h

theorem mapOf_congr {hp hp2 : List Blk} {m : PV} {kvs : List PV} {ids : List Nat} (h : mapOf hp m = some (kvs, ids)) (ha : Ag hp hp2 ids) : mapOf hp2 m = some (kvs, ids) := by
  unfold mapOf at *
  split at h
  · exact h
  · rename_i id
    split at h
    · rename_i e
      simp only [Option.some.injEq, Prod.mk.injEq] at h
      obtain ⟨rfl, rfl⟩ := h
      have := ha id (by simp)
      simp only [this, e]
    · cases h
  · cases h
theorem lookP_congr {T : Tab} {hp hp2 : List Blk} {t : TypeId} {m k v : PV} {ok : Bool} {ids : List Nat} (h : lookP T hp t m k ok = some (v, ids)) (ha : Ag hp hp2 ids) : lookP T hp2 t m k ok = some (v, ids) := by
  unfold lookP at *
  split at h
  · rename_i kt e kvs ids' e1 e2
    have : ids' = ids := by
      split at h
      · split at h <;> first | (simp only [Option.some.injEq, Prod.mk.injEq] at h; exact h.2) | cases h
      · cases h
    subst this
    rw [mapOf_congr e2 ha, e1]
    exact h
  · cases h
theorem lenM_congr {T : Tab} {hp hp2 : List Blk} {t : TypeId} {m v : PV} {ids : List Nat} (h : lenM T hp t m = some (v, ids)) (ha : Ag hp hp2 ids) : lenM T hp2 t m = some (v, ids) := by
  unfold lenM at *
  split at h
  · rename_i kt e kvs ids' e1 e2
    simp only [Option.some.injEq, Prod.mk.injEq] at h
    obtain ⟨rfl, rfl⟩ := h
    rw [mapOf_congr e2 ha, e1]
  · cases h
theorem updP_write {T : Tab} {hp hp' : List Blk} {t : TypeId} {m k x : PV} {id : Nat} (h : updP T hp t m k x = some (hp', id)) : ∃ b b0, hp' = setB hp id b ∧ nthB hp id = some b0 ∧ ∀ hp2, nthB hp2 id = nthB hp id → updP T hp2 t m k x = some (setB hp2 id b, id) := by
  unfold updP at h
  split at h
  · rename_i kt e i e1
    split at h
    · rename_i hk
      split at h
      · rename_i kvs e2
        split at h
        · rename_i l e3
          simp only [Option.some.injEq, Prod.mk.injEq] at h
          obtain ⟨rfl, rfl⟩ := h
          exact ⟨_, _, rfl, e2, fun hp2 hb => by unfold updP; simp only [e1, if_pos hk, hb, e2, e3]⟩
        · cases h
      · cases h
    · cases h
  · cases h
theorem delP_write {T : Tab} {hp hp' : List Blk} {t : TypeId} {m k : PV} {id : Nat} (h : delP T hp t m k = some (hp', id)) : ∃ b b0, hp' = setB hp id b ∧ nthB hp id = some b0 ∧ ∀ hp2, nthB hp2 id = nthB hp id → delP T hp2 t m k = some (setB hp2 id b, id) := by
  unfold delP at h
  split at h
  · rename_i kt e i e1
    split at h
    · rename_i hk
      split at h
      · rename_i kvs e2
        split at h
        · rename_i l e3
          simp only [Option.some.injEq, Prod.mk.injEq] at h
          obtain ⟨rfl, rfl⟩ := h
          exact ⟨_, _, rfl, e2, fun hp2 hb => by unfold delP; simp only [e1, if_pos hk, hb, e2, e3]⟩
        · cases h
      · cases h
    · cases h
  · cases h
theorem Loc.newmap : Loc fun hp => some (PV.mp hp.length, hp ++ [⟨.dead, [.any]⟩], ⟨[], [hp.length], true, false⟩) := by
  have hn : ∀ (hp : List Blk) (i : Nat), nthB (hp ++ [⟨.dead, [.any]⟩]) i = if i = hp.length then some ⟨.dead, [.any]⟩ else nthB hp i := by
    intro hp i
    rw [nthB_append]
    split
    · rw [if_neg (by omega)]
    · split
      · rename_i h; subst h; simp [nthB]
      · rw [nthB_none (by simp; omega), nthB_none (by omega)]
  constructor
  · intro hp v hp' F h
    simp only [Option.some.injEq, Prod.mk.injEq] at h
    obtain ⟨rfl, rfl, rfl⟩ := h
    refine ⟨fun i hi => ?_, fun _ h => by simp at h, fun _ h => by simp at h⟩
    rw [hn, if_neg (by simpa using hi)]
  · intro hp hp2 v hp' F h _ hr hw hl
    simp only [Option.some.injEq, Prod.mk.injEq] at h
    obtain ⟨rfl, rfl, rfl⟩ := h
    have := hl rfl
    refine ⟨hp2 ++ [⟨.dead, [.any]⟩], by simp [this], fun i hi => ?_⟩
    simp at hi
    rw [hn, hn, if_pos hi, if_pos (by omega)]
theorem stepP_loc (P : Program) (T : Tab) (fr : List PV) (o : Op) : Loc fun hp => stepP P T fr hp o := by
  unfold stepP
  cases o with
  | move x => exact Loc.pure _
  | assign x => exact Loc.pure _
  | pick c a b =>
    dsimp only
    split
    · exact Loc.pure _
    · exact Loc.pure _
    · exact Loc.no
  | alloc e =>
    dsimp only
    split
    · exact Loc.alloc (fun k => .ptr k 0) _
    · exact Loc.no
  | box t x =>
    dsimp only
    split
    · exact Loc.alloc (fun k => .ptr k 0) _
    · exact Loc.no
  | build t ps => exact Loc.opt _
  | buildSlice t n ps =>
    dsimp only
    split
    · rename_i s cs _
      split
      · exact Loc.pure _
      · exact Loc.alloc (fun k => .own k s 0 n true) _
    · exact Loc.no
  | load t a =>
    dsimp only
    refine Loc.of_read fun hp v hp' F h => ?_
    split at h
    · rename_i cs ids e
      split at h
      · rename_i x ex
        simp only [Option.some.injEq, Prod.mk.injEq] at h
        obtain ⟨rfl, rfl, rfl⟩ := h
        exact ⟨rfl, rfl, rfl, fun hp2 ha => by rw [atAddr_congr e ha]; simp only [ex]⟩
      · cases h
    · cases h
  | store t a x =>
    dsimp only
    refine Loc.of_write fun hp v hp' F h => ?_
    split at h
    · rename_i id off cs n e1 e2 e3
      split at h
      · rename_i hc
        split at h
        · rename_i old e4
          split at h
          · rename_i l e5
            simp only [Option.some.injEq, Prod.mk.injEq] at h
            obtain ⟨rfl, rfl, rfl⟩ := h
            exact ⟨id, _, _, rfl, e4, rfl, rfl, fun hp2 ha hb => by simp only [if_pos hc, hb, e4, e5]⟩
          · cases h
        · cases h
      · cases h
    · cases h
  | nilCheck x =>
    dsimp only
    split
    · exact Loc.pure _
    · exact Loc.pure _
    · exact Loc.pure _
    · exact Loc.pure _
    · exact Loc.pure _
    · exact Loc.no
  | binOp op t x y ty => exact Loc.opt _
  | unOp op t x => exact Loc.opt _
  | convert src dst x =>
    dsimp only
    refine Loc.of_read fun hp v hp' F h => ?_
    split at h
    · rename_i r ids e
      simp only [Option.some.injEq, Prod.mk.injEq] at h
      obtain ⟨rfl, rfl, rfl⟩ := h
      exact ⟨rfl, rfl, rfl, fun hp2 ha => by rw [convP_congr e ha]⟩
    · cases h
  | makeFunc f first captured =>
    cases f with
    | func f =>
      dsimp only
      split
      · exact Loc.pure _
      · split
        · exact Loc.pure _
        · exact Loc.no
    | _ => exact Loc.no
  | makeSlice t l c =>
    dsimp only
    split
    · split
      · split
        · rename_i s _ _ _ _ _
          exact Loc.alloc (fun k => .own k _ 0 _ _) _
        · exact Loc.no
      · exact Loc.no
    · exact Loc.no
  | slice t x lo hi mx => exact sliceP_loc T t _ _ _ _
  | fieldAddr t x i => exact Loc.opt _
  | field t x i => exact Loc.opt _
  | indexAddr t x i => exact Loc.opt _
  | index t x i => exact Loc.opt _
  | extract x i =>
    dsimp only
    split
    · split
      · exact Loc.pure _
      · exact Loc.no
    · exact Loc.no
  | call c =>
    obtain ⟨callee, args, argTypes⟩ := c
    cases callee with
    | builtin b =>
      dsimp only
      split
      · split
        · exact Loc.pure _
        · refine Loc.of_read fun hp v hp' F h => ?_
          split at h
          · rename_i r ids e
            simp only [Option.some.injEq, Prod.mk.injEq] at h
            obtain ⟨rfl, rfl, rfl⟩ := h
            exact ⟨rfl, rfl, rfl, fun hp2 ha => by rw [lenM_congr e ha]⟩
          · cases h
      · refine Loc.of_write fun hp v hp' F h => ?_
        split at h
        · rename_i hp1 id e
          simp only [Option.some.injEq, Prod.mk.injEq] at h
          obtain ⟨rfl, rfl, rfl⟩ := h
          obtain ⟨b, b0, e1, e2, e3⟩ := delP_write e
          exact ⟨id, b, b0, e1, e2, rfl, rfl, fun hp2 ha hb => by rw [e3 hp2 hb]⟩
        · cases h
      · exact Loc.opt _
      · exact Loc.opt _
      · rename_i x y t t' _ _
        split
        · rename_i e e' _ _
          split
          · rename_i s by_ zs _ _ _
            split
            · rename_i hc
              constructor
              · intro hp v hp' F h
                try dsimp only at h
                split at h
                · rename_i n new ids e1
                  split at h
                  · split at h
                    · rename_i r hp1 fp e2
                      simp only [Option.some.injEq, Prod.mk.injEq] at h
                      obtain ⟨rfl, rfl, rfl⟩ := h
                      have h2 := (appendP_loc s x n new).E _ _ _ _ e2
                      have hall : fp.all = false := by
                        revert e2
                        unfold appendP
                        repeat' split
                        all_goals (intro h; first | cases h; done | (simp only [Option.some.injEq, Prod.mk.injEq] at h; rw [← h.2.2]; try rfl))
                      exact ⟨h2.1, fun _ => h2.2.1 hall, fun _ => h2.2.2 hall⟩
                    · cases h
                  · cases h
                · cases h
              · intro hp hp2 v hp' F h _ hr hw hl
                try dsimp only at h
                split at h
                · rename_i n new ids e1
                  split at h
                  · rename_i hok
                    split at h
                    · rename_i r hp1 fp e2
                      simp only [Option.some.injEq, Prod.mk.injEq] at h
                      obtain ⟨rfl, rfl, rfl⟩ := h
                      have hall : fp.all = false := by
                        revert e2
                        unfold appendP
                        repeat' split
                        all_goals (intro h; first | cases h; done | (simp only [Option.some.injEq, Prod.mk.injEq] at h; rw [← h.2.2]; try rfl))
                      obtain ⟨hp2', h3, h4⟩ := (appendP_loc s x n new).D _ hp2 _ _ _ e2 hall hr.right hw hl
                      try dsimp only at h3
                      refine ⟨hp2', ?_, h4⟩
                      try dsimp only
                      rw [rdSl_congr e1 hr.left]
                      simp only [if_pos hok, h3]
                    · cases h
                  · cases h
                · cases h
            · exact Loc.no
          · exact Loc.no
        · split
          · split
            · have := appendP_loc 1 x
              refine ⟨fun hp v hp' F h => ?_, fun hp hp2 v hp' F h ha hr hw hl => ?_⟩
              · try dsimp only at h
                split at h
                · rename_i e
                  simp only [Option.some.injEq, Prod.mk.injEq] at h
                  obtain ⟨rfl, rfl, rfl⟩ := h
                  exact (this _ _).E _ _ _ _ e
                · cases h
              · try dsimp only at h
                split at h
                · rename_i e
                  simp only [Option.some.injEq, Prod.mk.injEq] at h
                  obtain ⟨rfl, rfl, rfl⟩ := h
                  obtain ⟨hp2', h3, h4⟩ := (this _ _).D _ hp2 _ _ _ e ha hr hw hl
                  try dsimp only at h3
                  exact ⟨hp2', by simp only [h3], h4⟩
                · cases h
            · exact Loc.no
          · exact Loc.no
        · exact Loc.no
      · rename_i x y t _ _ _
        split
        · split
          · split
            · rename_i hs
              refine Loc.of_write fun hp v hp' F h => ?_
              split at h
              · rename_i n src ids e1
                split at h
                · rename_i old e2
                  split at h
                  · rename_i new e3
                    split at h
                    · cases h
                    · rename_i hok
                      split at h
                      · rename_i l e4
                        simp only [Option.some.injEq, Prod.mk.injEq] at h
                        obtain ⟨rfl, rfl, rfl⟩ := h
                        exact ⟨_, _, _, rfl, e2, rfl, rfl, fun hp2 ha hb => by rw [rdSl_congr e1 ha]; simp only [hb, e2, e3, if_neg hok, e4]⟩
                      · cases h
                  · cases h
                · cases h
              · cases h
            · exact Loc.no
          · exact Loc.no
        · exact Loc.no
      · rename_i x t _ _
        split
        · split
          · split
            · refine Loc.of_write fun hp v hp' F h => ?_
              split at h
              · rename_i old e2
                split at h
                · rename_i l e4
                  simp only [Option.some.injEq, Prod.mk.injEq] at h
                  obtain ⟨rfl, rfl, rfl⟩ := h
                  exact ⟨_, _, _, rfl, e2, rfl, rfl, fun hp2 ha hb => by simp only [hb, e2, e4]⟩
                · cases h
              · cases h
            · exact Loc.no
          · exact Loc.no
        · exact Loc.no
      · exact Loc.no
    | value f => exact Loc.no
    | invoke r m => exact Loc.no
  | makeMap t r =>
    cases r with
    | none => exact Loc.newmap
    | some _ => exact Loc.no
  | lookup t x k ok =>
    dsimp only
    refine Loc.of_read fun hp v hp' F h => ?_
    split at h
    · rename_i r ids e
      simp only [Option.some.injEq, Prod.mk.injEq] at h
      obtain ⟨rfl, rfl, rfl⟩ := h
      exact ⟨rfl, rfl, rfl, fun hp2 ha => by rw [lookP_congr e ha]⟩
    · cases h
  | mapUpdate t m k x =>
    dsimp only
    refine Loc.of_write fun hp v hp' F h => ?_
    split at h
    · rename_i hp1 id e
      simp only [Option.some.injEq, Prod.mk.injEq] at h
      obtain ⟨rfl, rfl, rfl⟩ := h
      obtain ⟨b, b0, e1, e2, e3⟩ := updP_write e
      exact ⟨id, b, b0, e1, e2, rfl, rfl, fun hp2 ha hb => by rw [e3 hp2 hb]⟩
    · cases h
  | insert t m k x =>
    dsimp only
    refine Loc.of_write fun hp v hp' F h => ?_
    split at h
    · rename_i hp1 id e
      simp only [Option.some.injEq, Prod.mk.injEq] at h
      obtain ⟨rfl, rfl, rfl⟩ := h
      obtain ⟨b, b0, e1, e2, e3⟩ := updP_write e
      exact ⟨id, b, b0, e1, e2, rfl, rfl, fun hp2 ha hb => by rw [e3 hp2 hb]⟩
    · cases h
  | _ => exact Loc.no

theorem valP_loc {C : Cfg} {run : Runs} (hE : RunEff run) (dr : Bool) (ops : Array Oper) (o : Oper) (fr : List PV) : Loc fun hp => valP C run dr ops o fr hp := by
  unfold valP
  split
  · exact Loc.no
  · exact Loc.pure _
  · split
    · split
      · exact callP_loc hE dr _ _
      · exact Loc.no
    · exact stepP_loc _ _ _ _

/-! what an operation looks at of the frame -/
theorem stepP_congr {P : Program} {T : Tab} {fr fr2 : List PV} {hp : List Blk} {o : Op} (h : ∀ x ∈ o.operands, evalP fr2 x = evalP fr x) : stepP P T fr2 hp o = stepP P T fr hp o := by
  have pairs : ∀ ps : Array (Nat × Operand), (∀ x ∈ ps.map (·.2), evalP fr2 x = evalP fr x) → (ps.toList.map fun (i, x) => (i, evalP fr2 x)) = (ps.toList.map fun (i, x) => (i, evalP fr x)) := fun ps hp =>
    List.map_congr_left fun p hm => by
      obtain ⟨i, x⟩ := p
      simp only [hp x (Array.mem_map.2 ⟨(i, x), by simpa using hm, rfl⟩)]
  cases o <;> simp only [Op.operands] at h <;> unfold stepP
  case build t ps => simp only [pairs ps fun x hx => h x (by simpa using hx)]
  case buildSlice t n ps => simp only [pairs ps fun x hx => h x (by simpa using hx)]
  case makeFunc fn first captured =>
    have : captured.toList.map (evalP fr2) = captured.toList.map (evalP fr) := List.map_congr_left fun x hx => h x (by simp at hx; simp [hx])
    have t2 : first.toList.map (evalP fr2) = first.toList.map (evalP fr) := List.map_congr_left fun x hx => h x (by simp at hx; simp [hx])
    cases fn <;> simp only [this, t2]
  case makeMap t r => cases r <;> rfl
  case slice t x lo hi mx => cases lo <;> cases hi <;> cases mx <;> simp_all
  case call c =>
    obtain ⟨callee, args, argTypes⟩ := c
    have : args.toList.map (evalP fr2) = args.toList.map (evalP fr) := List.map_congr_left fun x hx => h x (by simp at hx; simp [Call.operands, hx])
    cases callee <;> simp only [this]
  all_goals (first | rfl | (simp_all; done))

theorem calleeP_congr {fr fr2 : List PV} {c : Call} (h : ∀ x ∈ c.operands, evalP fr2 x = evalP fr x) : calleeP fr2 c = calleeP fr c := by
  have hargs : c.args.toList.map (evalP fr2) = c.args.toList.map (evalP fr) := List.map_congr_left fun x hx => h x (by simp at hx; simp [Call.operands, hx])
  unfold calleeP
  simp only [hargs]
  cases hc : c.callee with
  | value f => simp only [h f (by simp [Call.operands, hc])]
  | invoke r m => rfl
  | builtin b => rfl

theorem nth_setN {fr : List PV} {d t : Nat} {v : PV} (h : t ≠ d) : nth (setN fr d v) t = nth fr t := by
  rw [nth_eq, nth_eq, setN_eq, List.getElem?_set_ne (Ne.symm h)]
theorem nth_putP {fr : List PV} {dst : Option Tmp} {v : PV} {t : Nat} (h : dst ≠ some t) : nth (putP fr dst v) t = nth fr t := by
  unfold putP
  cases dst with
  | none => rfl
  | some d => exact nth_setN (fun e => h (by rw [e]))

theorem valP_put {C : Cfg} {run : Runs} {dr : Bool} {ops : Array Oper} {o : Oper} {fr : List PV} {hp : List Blk} {dst : Option Tmp} {v : PV} (h : ∀ d, dst = some d → d ∉ o.looksAt ops) :
    valP C run dr ops o (putP fr dst v) hp = valP C run dr ops o fr hp := by
  have hop : ∀ x ∈ o.op.operands, evalP (putP fr dst v) x = evalP fr x := fun x hx => by
    cases x with
    | tmp t =>
      exact nth_putP fun e => h t e (List.mem_append_left _ (List.mem_filterMap.2 ⟨.tmp t, by simpa using hx, rfl⟩))
    | const _ => rfl
    | global _ => rfl
    | func _ => rfl
  have hw : wantedP ops (putP fr dst v) o = wantedP ops fr o := by
    unfold wantedP
    cases hg : o.guard with
    | none => rfl
    | some g =>
      obtain ⟨j, want⟩ := g
      dsimp only
      cases hd : (ops[j]?).bind (·.dst) with
      | none => rfl
      | some d =>
        dsimp only
        rw [nth_putP (fun e => h d e (List.mem_append_right _ (by simp [hg, hd])))]
  unfold valP
  rw [hw]
  split
  · rfl
  · rfl
  · split
    · rename_i c hc
      have : o.op = .call c := by
        unfold isCall at hc
        split at hc
        · rename_i c' e
          split at hc
          · simp at hc; subst hc; exact e
          · cases hc
        · cases hc
      rw [calleeP_congr fun x hx => hop x (by rw [this]; exact hx)]
    · exact stepP_congr hop

end Go.Ab
namespace Go.Ab
open Go

abbrev X := List PV × List Blk

section
variable {C : Cfg} {run : Runs} {ops : Array Oper} {Φ : List FP}

/-- operation i, with the footprint that was written down for it -/
def StepR (C : Cfg) (run : Runs) (ops : Array Oper) (Φ : List FP) (i : Nat) (x y : X) : Prop :=
  ∃ o v fp, ops[i]? = some o ∧ valP C run true ops o x.1 x.2 = some (v, y.2, fp) ∧ Φ[i]? = some fp ∧ y.1 = putP x.1 o.dst v
def Fold (C : Cfg) (run : Runs) (ops : Array Oper) (Φ : List FP) : List Nat → X → X → Prop
  | [], x, y => x = y
  | i :: l, x, y => ∃ z, StepR C run ops Φ i x z ∧ Fold C run ops Φ l z y
def Comm (C : Cfg) (run : Runs) (ops : Array Oper) (Φ : List FP) (i j : Nat) : Prop :=
  ∀ x y z, StepR C run ops Φ i x y → StepR C run ops Φ j y z → ∃ y', StepR C run ops Φ j x y' ∧ StepR C run ops Φ i y' z

theorem bubble {i : Nat} {B : List Nat} : ∀ (A : List Nat) (x z : X), Fold C run ops Φ (A ++ i :: B) x z → (∀ a ∈ A, Comm C run ops Φ a i) → ∃ y, StepR C run ops Φ i x y ∧ Fold C run ops Φ (A ++ B) y z
  | [], x, z, h, _ => h
  | a :: A, x, z, h, hc => by
    obtain ⟨y, h1, h2⟩ := h
    obtain ⟨y2, h3, h4⟩ := bubble A y z h2 fun b hb => hc b (by simp [hb])
    obtain ⟨y3, h5, h6⟩ := hc a (by simp) x y y2 h1 h3
    exact ⟨y3, h5, y2, h6, h4⟩

theorem putP_comm {fr : List PV} {d1 d2 : Option Tmp} {v1 v2 : PV} (h : ∀ d, d1 = some d → d2 ≠ some d) : putP (putP fr d1 v1) d2 v2 = putP (putP fr d2 v2) d1 v1 := by
  cases d1 with
  | none => rfl
  | some a => cases d2 with
    | none => rfl
    | some b =>
      have : a ≠ b := fun e => h a rfl (by rw [e])
      simp only [putP, setN_eq]
      exact List.set_comm _ _ this

theorem not_any_contains {l m : List Nat} (h : (l.any fun i => m.contains i) = false) {i : Nat} (h1 : i ∈ l) : i ∉ m := by
  intro h2
  have : (l.any fun i => m.contains i) = true := List.any_eq_true.2 ⟨i, h1, by simpa using h2⟩
  rw [h] at this; cases this

structure Apart (a b : FP) : Prop where
  wr : ∀ i ∈ a.wr, i ∉ b.rd
  ww : ∀ i ∈ a.wr, i ∉ b.wr
  rw : ∀ i ∈ b.wr, i ∉ a.rd
  al : a.al = true → b.al = false
  alla : a.all = true → b.wr = []
  allb : b.all = true → a.wr = []

theorem apart_of {a b : FP} (h : a.apart b = true) : Apart a b := by
  unfold FP.apart at h
  simp only [Bool.and_eq_true, Bool.not_eq_true'] at h
  obtain ⟨⟨⟨⟨h1, h2⟩, h3⟩, h4⟩, h5⟩ := h
  have key : ∀ i ∈ a.wr, i ∉ b.rd ∧ i ∉ b.wr := fun i hi => by
    have := (List.any_eq_false.1 h1) i hi
    simp at this
    exact this
  refine ⟨fun i hi => (key i hi).1, fun i hi => (key i hi).2, fun i hi => not_any_contains h2 hi, fun e => ?_, fun e => ?_, fun e => ?_⟩
  · rw [e] at h3; simpa using h3
  · rw [e] at h4; simpa using h4
  · rw [e] at h5; simpa using h5

theorem apart_free {a b : FP} (h : a.free = true ∨ b.free = true) : Apart a b := by
  rcases h with h | h <;> (simp only [FP.free, Bool.and_eq_true, List.isEmpty_iff, Bool.not_eq_true'] at h; obtain ⟨⟨⟨h1, h2⟩, h3⟩, h4⟩ := h)
  · exact ⟨by simp [h2], by simp [h2], by simp [h1], by simp [h3], by simp [h4], fun _ => h2⟩
  · exact ⟨by simp [h1], by simp [h2], by simp [h2], fun _ => h3, fun _ => h2, by simp [h4]⟩

theorem comm_of (hE : RunEff run) {i j : Nat} {o1 o2 : Oper} {F1 F2 : FP} (h1 : ops[i]? = some o1) (h2 : ops[j]? = some o2) (hf1 : Φ[i]? = some F1) (hf2 : Φ[j]? = some F2) (ht : o1.apart ops o2 = true) (hA : Apart F1 F2) :
    Comm C run ops Φ i j := by
  rintro ⟨fr, hp⟩ ⟨fr1, hp1⟩ ⟨fr2, hp2⟩ ⟨o1', v1, F1', e1, s1, g1, p1⟩ ⟨o2', v2, F2', e2, s2, g2, p2⟩
  rw [h1] at e1; cases e1
  rw [h2] at e2; cases e2
  rw [hf1] at g1; cases g1
  rw [hf2] at g2; cases g2
  obtain ⟨t1, t2, t3⟩ := Oper.apart_spec ht
  dsimp only at s1 s2 p1 p2
  subst p1; subst p2
  rw [valP_put t1] at s2
  have L1 := valP_loc (C := C) hE true ops o1 fr
  have L2 := valP_loc (C := C) hE true ops o2 fr
  obtain ⟨E1, E1l, E1w⟩ := L1.E _ _ _ _ s1
  obtain ⟨E2, E2l, E2w⟩ := L2.E _ _ _ _ s2
  suffices hs : ∃ hp', valP C run true ops o2 fr hp = some (v2, hp', F2) ∧ valP C run true ops o1 fr hp' = some (v1, hp2, F1) by
    obtain ⟨hp', q1, q2⟩ := hs
    refine ⟨(putP fr o2.dst v2, hp'), ⟨o2, v2, F2, h2, q1, hf2, rfl⟩, o1, v1, F1, h1, ?_, hf1, (putP_comm t2)⟩
    dsimp only
    rw [valP_put t3]; exact q2
  by_cases ha1 : F1.all = true
  · have w2 := hA.alla ha1
    have e2 : hp2 = hp1 := extB fun i => E2 i (by simp [w2])
    subst e2
    by_cases ha2 : F2.all = true
    · have w1 := hA.allb ha2
      have e1 : hp2 = hp := extB fun i => E1 i (by simp [w1])
      subst e1
      exact ⟨hp2, s2, s1⟩
    · have ha2 : F2.all = false := by simpa using ha2
      have hal := E2w ha2 w2
      obtain ⟨hp', q1, _⟩ := L2.D hp2 hp v2 hp2 F2 s2 ha2 (fun i hi => (E1 i fun hw => hA.wr i hw hi).symm) (by simp [Ag, w2]) (by simp [hal])
      have : hp' = hp := extB fun i => (L2.E _ _ _ _ q1).1 i (by simp [w2])
      subst this
      exact ⟨hp', q1, s1⟩
  · have ha1 : F1.all = false := by simpa using ha1
    by_cases ha2 : F2.all = true
    · have w1 := hA.allb ha2
      have e1 : hp1 = hp := extB fun i => E1 i (by simp [w1])
      subst e1
      have hal := E1w ha1 w1
      obtain ⟨hp', q1, _⟩ := L1.D hp1 hp2 v1 hp1 F1 s1 ha1 (fun i hi => E2 i fun hw => hA.rw i hw hi) (by simp [Ag, w1]) (by simp [hal])
      have : hp' = hp2 := extB fun i => (L1.E _ _ _ _ q1).1 i (by simp [w1])
      subst this
      exact ⟨hp', s2, q1⟩
    · have ha2 : F2.all = false := by simpa using ha2
      obtain ⟨h2', q1, q1w⟩ := L2.D hp1 hp v2 hp2 F2 s2 ha2 (fun i hi => (E1 i fun hw => hA.wr i hw hi).symm) (fun i hi => (E1 i fun hw => hA.ww i hw hi).symm) (fun hal => by
        have : F1.al = false := by
          cases h : F1.al with
          | false => rfl
          | true => rw [hA.al h] at hal; cases hal
        exact (E1l ha1 this).symm)
      obtain ⟨E3, E3l, _⟩ := L2.E _ _ _ _ q1
      obtain ⟨h2'', q2, q2w⟩ := L1.D hp h2' v1 hp1 F1 s1 ha1 (fun i hi => E3 i fun hw => hA.rw i hw hi) (fun i hi => E3 i fun hw => hA.ww i hi hw) (fun hal => E3l ha2 (hA.al hal))
      obtain ⟨E4, _, _⟩ := L1.E _ _ _ _ q2
      have : h2'' = hp2 := extB fun i => by
        by_cases i1 : i ∈ F1.wr
        · rw [q2w i i1, E2 i (hA.ww i i1)]
        · rw [E4 i i1]
          by_cases i2 : i ∈ F2.wr
          · exact q1w i i2
          · rw [E3 i i2, E2 i i2, E1 i i1]
      subst this
      exact ⟨h2', q1, q2⟩

/-! the bits of what comes before -/
def BitsOk (ops : Array Oper) (bs : Array Nat) : Prop := ∀ j, j < bs.size → ∀ i, (bs.getD j 0).testBit i = true → ∃ o, ops[j]? = some o ∧ ∃ e ∈ o.after, Region.binds .any e = true ∧ (i = e.on ∨ (e.on < bs.size ∧ (bs.getD e.on 0).testBit i = true))

theorem inner_bits (acc : Array Nat) (i : Nat) : ∀ (l : List Edge) (s : Nat), (l.foldl (fun s e => if Region.binds .any e then s ||| 2 ^ e.on ||| acc.getD e.on 0 else s) s).testBit i = true →
    s.testBit i = true ∨ ∃ e ∈ l, Region.binds .any e = true ∧ (i = e.on ∨ (acc.getD e.on 0).testBit i = true)
  | [], s, h => .inl h
  | e :: l, s, h => by
    rw [List.foldl_cons] at h
    rcases inner_bits acc i l _ h with h1 | ⟨e', h1, h2⟩
    · split at h1
      · rename_i hb
        rw [Nat.testBit_or, Nat.testBit_or, Bool.or_eq_true, Bool.or_eq_true] at h1
        rcases h1 with (h1 | h1) | h1
        · exact .inl h1
        · rw [Nat.testBit_two_pow] at h1
          exact .inr ⟨e, by simp, hb, .inl (by simpa using (of_decide_eq_true h1).symm)⟩
        · exact .inr ⟨e, by simp, hb, .inr h1⟩
      · exact .inl h1
    · exact .inr ⟨e', by simp [h1], h2⟩

theorem bits_fold : ∀ (l : List Oper) (acc : Array Nat), (∀ k, k < l.length → ops[acc.size + k]? = l[k]?) → BitsOk ops acc →
    BitsOk ops (l.foldl (fun acc o => acc.push (o.after.foldl (fun s e => if Region.binds .any e then s ||| 2 ^ e.on ||| acc.getD e.on 0 else s) 0)) acc) ∧
    (l.foldl (fun acc o => acc.push (o.after.foldl (fun s e => if Region.binds .any e then s ||| 2 ^ e.on ||| acc.getD e.on 0 else s) 0)) acc).size = acc.size + l.length
  | [], acc, _, h => ⟨h, by simp⟩
  | o :: l, acc, hl, h => by
    rw [List.foldl_cons]
    have key : ∀ (v : Nat) (k : Nat), k < acc.size → (acc.push v).getD k 0 = acc.getD k 0 := fun v k hk => by
      rw [Array.getD_eq_getD_getElem?, Array.getD_eq_getD_getElem?, Array.getElem?_push_lt hk, Array.getElem?_eq_getElem hk]
    generalize hv : o.after.foldl (fun s e => if Region.binds .any e then s ||| 2 ^ e.on ||| acc.getD e.on 0 else s) 0 = v
    have := bits_fold l (acc.push v) (fun k hk => by
      have := hl (k + 1) (by simpa using hk)
      simp only [Array.size_push]
      rw [show acc.size + 1 + k = acc.size + (k + 1) by omega, this]; simp) (fun j hj i hb => by
        rw [Array.size_push] at hj ⊢
        by_cases hjl : j < acc.size
        · rw [key v j hjl] at hb
          obtain ⟨o', h1, e, h2, h3, h4⟩ := h j hjl i hb
          refine ⟨o', h1, e, h2, h3, h4.imp id fun ⟨h5, h6⟩ => ⟨by omega, by rw [key v _ h5]; exact h6⟩⟩
        · have hj : j = acc.size := by omega
          subst hj
          have e0 : (acc.push v).getD acc.size 0 = v := by simp
          rw [e0, ← hv, ← Array.foldl_toList] at hb
          refine ⟨o, by have := hl 0 (by simp); simpa using this, ?_⟩
          rcases inner_bits acc i _ _ hb with h1 | ⟨e, h1, h2, h3⟩
          · simp at h1
          · refine ⟨e, by simpa using h1, h2, h3.imp id fun h4 => ?_⟩
            have hlt : e.on < acc.size := by
              rcases Nat.lt_or_ge e.on acc.size with h' | h'
              · exact h'
              · rw [Array.getD_eq_getD_getElem?, Array.getElem?_eq_none h'] at h4; simp at h4
            exact ⟨by omega, by rw [key v _ hlt]; exact h4⟩)
    rw [Array.size_push] at this
    exact ⟨this.1, by rw [this.2]; simp; omega⟩

theorem before_bits (ops : Array Oper) : BitsOk ops (Region.before ops) ∧ (Region.before ops).size = ops.size := by
  unfold Region.before
  have := bits_fold (ops := ops) ops.toList #[] (fun k hk => by simp) (fun j hj => by simp at hj)
  rw [Array.foldl_toList] at this
  simpa using this

end
end Go.Ab
namespace Go.Ab
open Go

section
variable {C : Cfg} {run : Runs} {ops : Array Oper} {Φ : List FP}

theorem statOk_spec (h : statOk ops = true) {j : Nat} {oj : Oper} (hj : ops[j]? = some oj) :
    (∀ e ∈ oj.after, Region.binds .any e = true → e.on < j) ∧ ∀ i oi, i < j → ops[i]? = some oi → ((Region.before ops).getD j 0).testBit i = true ∨ oi.apart ops oj = true := by
  unfold statOk at h
  have := (List.all_eq_true.1 h) j (List.mem_range.2 (Array.getElem?_eq_some_iff.1 hj).1)
  simp only [hj, Bool.and_eq_true] at this
  obtain ⟨h1, h2⟩ := this
  refine ⟨fun e he hb => ?_, fun i oi hi ho => ?_⟩
  · have := Array.all_eq_true_iff_forall_mem.1 h1 e he
    simp only [hb, Bool.not_true, Bool.false_or] at this
    exact blt_iff.1 this
  · have := (List.all_eq_true.1 h2) i (List.mem_range.2 hi)
    simp only [Bool.or_eq_true, apartOf, ho] at this
    exact this

/-- what is not listed yet -/
def unl (n : Nat) (listed : Array Bool) : List Nat := (List.range n).filter fun i => !listed.getD i true

theorem range_split {n i : Nat} (h : i < n) : List.range n = List.range i ++ i :: List.range' (i + 1) (n - i - 1) := by
  have h1 : n = i + (1 + (n - i - 1)) := by omega
  conv => lhs; rw [List.range_eq_range', h1, ← List.range'_append (step := 1)]
  simp only [Nat.zero_add, Nat.one_mul]
  rw [Nat.add_comm 1 (n - i - 1), List.range'_succ, List.range_eq_range']

theorem unl_split {n i : Nat} {listed : Array Bool} (hi : i < n) (hu : listed.getD i true = false) (hs : listed.size = n) :
    ∃ A B, unl n listed = A ++ i :: B ∧ unl n (listed.setIfInBounds i true) = A ++ B ∧ ∀ a ∈ A, a < i ∧ listed.getD a true = false := by
  refine ⟨(List.range i).filter fun k => !listed.getD k true, (List.range' (i + 1) (n - i - 1)).filter fun k => !listed.getD k true, ?_, ?_, ?_⟩
  · unfold unl
    rw [range_split hi, List.filter_append, List.filter_cons, if_pos (by simp [hu])]
  · unfold unl
    rw [range_split hi, List.filter_append, List.filter_cons, if_neg]
    · congr 1
      · apply List.filter_congr
        intro k hk
        rw [getD_set_ne true (by simp at hk; omega)]
      · apply List.filter_congr
        intro k hk
        rw [getD_set_ne true (by simp [List.mem_range'] at hk; omega)]
    · simp [hs, hi]
  · intro a ha
    simp only [List.mem_filter, List.mem_range, Bool.not_eq_true'] at ha
    exact ha

/-- what stands before what is listed is listed -/
def Closed (ops : Array Oper) (listed : Array Bool) : Prop :=
  ∀ j, j < ops.size → listed.getD j true = true → ∀ i, ((Region.before ops).getD j 0).testBit i = true → listed.getD i true = true

theorem getD_true_of {listed : Array Bool} {i : Nat} (h : listed.getD i false = true) : listed.getD i true = true := by
  rcases Nat.lt_or_ge i listed.size with h' | h'
  · simpa [h'] using h
  · simp [Array.getElem?_eq_none h']

theorem ready_bits {i : Nat} {listed : Array Bool} (hc : Closed ops listed) (hr : i ∈ Region.ready .any ops listed) : i < ops.size ∧ listed.getD i true = false ∧ ∀ k, ((Region.before ops).getD i 0).testBit k = true → listed.getD k true = true := by
  obtain ⟨h0, o, ho, hall⟩ := mem_ready.1 hr
  have hlt := (Array.getElem?_eq_some_iff.1 ho).1
  refine ⟨hlt, h0, fun k hk => ?_⟩
  obtain ⟨hb, hs⟩ := before_bits ops
  obtain ⟨o', h1, e, h2, h3, h4⟩ := hb i (by omega) k hk
  rw [ho] at h1; cases h1
  have hl := getD_true_of (hall e h2 h3)
  rcases h4 with rfl | ⟨h5, h6⟩
  · exact hl
  · exact hc e.on (by omega) hl k h6

theorem any_ok {Q : Exit → Act → World → Prop} {G : X → Act → World → Prop} (hst : statOk ops = true)
    (hcomm : ∀ i j, i < j → j < ops.size → ((Region.before ops).getD j 0).testBit i = false → Comm C run ops Φ i j)
    (hG : ∀ i x y a w K, StepR C run ops Φ i x y → G x a w → (∀ a w, G y a w → K a w) → wpOp C.P ops Q i K a w) (z : X) (hQ : ∀ a w, G z a w → Q .normal a w) :
    ∀ (fuel : Nat) (listed : Array Bool) (x : X) (a : Act) (w : World), listed.size = ops.size → Closed ops listed → (unl ops.size listed).length ≤ fuel → Fold C run ops Φ (unl ops.size listed) x z → G x a w → wpAny C.P .any ops Q fuel listed a w := by
  have hready : ∀ listed : Array Bool, listed.size = ops.size → Region.ready .any ops listed = [] → unl ops.size listed = [] := fun listed hs hr => by
    have key : ∀ m, ∀ i, i < m → i < ops.size → listed.getD i true = true := by
      intro m
      induction m with
      | zero => intro i h; omega
      | succ m ih =>
        intro i him hi
        cases hl : listed.getD i true with
        | true => rfl
        | false =>
          have ho : ops[i]? = some ops[i] := Array.getElem?_eq_getElem hi
          have : i ∈ Region.ready .any ops listed := mem_ready.2 ⟨hl, ops[i], ho, fun e he hb => by
            have hlt := (statOk_spec hst ho).1 e he hb
            have := ih e.on (by omega) (by omega)
            have hls : e.on < listed.size := by omega
            simp [hls] at this
            simp [hls, this]⟩
          rw [hr] at this; cases this
    unfold unl
    rw [List.filter_eq_nil_iff]
    intro i hi
    have := key (i + 1) i (by omega) (List.mem_range.1 hi)
    simp at this
    simp [this]
  intro fuel
  induction fuel with
  | zero =>
    intro listed x a w hs hc hl hf hg
    have hu : unl ops.size listed = [] := List.length_eq_zero_iff.1 (by omega)
    rw [hu] at hf
    cases hf
    refine ⟨?_, hQ _ _ hg⟩
    cases hr : Region.ready .any ops listed with
    | nil => rfl
    | cons i l =>
      obtain ⟨h1, h2, _⟩ := ready_bits hc (i := i) (by rw [hr]; simp)
      have : i ∈ unl ops.size listed := List.mem_filter.2 ⟨List.mem_range.2 h1, by rw [h2]; rfl⟩
      rw [hu] at this; cases this
  | succ fuel ih =>
    intro listed x a w hs hc hl hf hg
    refine ⟨fun hr => ?_, fun i hi => ?_⟩
    · have hu := hready listed hs hr
      rw [hu] at hf
      cases hf
      exact hQ _ _ hg
    · obtain ⟨h1, h2, h3⟩ := ready_bits hc hi
      obtain ⟨A, B, e1, e2, e3⟩ := unl_split h1 h2 hs
      rw [e1] at hf hl
      obtain ⟨y, s1, s2⟩ := bubble A x z hf fun b hb => by
        obtain ⟨h4, h5⟩ := e3 b hb
        refine hcomm b i h4 h1 ?_
        cases hbit : ((Region.before ops).getD i 0).testBit b with
        | false => rfl
        | true => have := h3 b hbit; rw [h5] at this; cases this
      refine hG i x y a w _ s1 hg fun a' w' hg' => ih (listed.setIfInBounds i true) y a' w' (by simpa using hs) ?_ ?_ ?_ hg'
      · intro j hj hlj k hk
        by_cases hji : j = i
        · subst hji
          have := h3 k hk
          by_cases hkj : k = j
          · subst hkj; exact hlj
          · rw [getD_set_ne true (Ne.symm hkj)]; exact this
        · rw [getD_set_ne true (Ne.symm hji)] at hlj
          have := hc j hj hlj k hk
          by_cases hki : k = i
          · subst hki
            rw [h2] at this; cases this
          · rw [getD_set_ne true (Ne.symm hki)]; exact this
      · rw [e2]; simp at hl ⊢; omega
      · rw [e2]; exact s2

theorem fold_of : ∀ (l : List Oper) (st st' : St) (fps : List FP) (k : Nat), goOps C run true ops l st = some (st', fps) → (∀ j, j < l.length → ops[k + j]? = l[j]?) → (∀ j, j < l.length → Φ[k + j]? = fps[j]?) →
    Fold C run ops Φ (List.range' k l.length) (st.fr, st.hp) (st'.fr, st'.hp) ∧ fps.length = l.length
  | [], st, st', fps, k, h, _, _ => by
    simp only [goOps, Option.some.injEq, Prod.mk.injEq] at h
    obtain ⟨rfl, rfl⟩ := h
    exact ⟨rfl, rfl⟩
  | o :: l, st, st', fps, k, h, h1, h2 => by
    simp only [goOps] at h
    split at h
    · rename_i st1 fp ho
      split at h
      · rename_i st2 fps' hl
        simp only [Option.some.injEq, Prod.mk.injEq] at h
        obtain ⟨rfl, rfl⟩ := h
        obtain ⟨h3, h4⟩ := fold_of l st1 st2 fps' (k + 1) hl (fun j hj => by have := h1 (j + 1) (by simpa using hj); rw [show k + 1 + j = k + (j + 1) by omega, this]; simp)
          (fun j hj => by have := h2 (j + 1) (by simpa using hj); rw [show k + 1 + j = k + (j + 1) by omega, this]; simp)
        refine ⟨?_, by simp [h4]⟩
        rw [List.length_cons, List.range'_succ]
        refine ⟨(st1.fr, st1.hp), ?_, h3⟩
        unfold operP at ho
        split at ho
        · rename_i v hp fp' e
          simp only [Option.some.injEq, Prod.mk.injEq] at ho
          obtain ⟨rfl, rfl⟩ := ho
          exact ⟨o, v, fp', by have := h1 0 (by simp); simpa using this, e, by have := h2 0 (by simp); simpa using this, rfl⟩
        · cases ho
      · cases h
    · cases h

theorem number_mem : ∀ (fps : List FP) (n i : Nat) (F : FP), fps[i]? = some F → F.free = false → (n + i, F) ∈ number n fps
  | [], n, i, F, h, _ => by simp at h
  | a :: l, n, i, F, h, hF => by
    unfold number
    cases i with
    | zero =>
      simp at h; subst h
      simp [hF]
    | succ i =>
      simp at h
      have := number_mem l (n + 1) i F h hF
      rw [show n + 1 + i = n + (i + 1) by omega] at this
      cases ha : a.free with
      | true => simpa using this
      | false => simp [this]
theorem number_ge : ∀ (fps : List FP) (n : Nat) (p : Nat × FP), p ∈ number n fps → n ≤ p.1
  | [], n, p, h => by simp [number] at h
  | a :: l, n, p, h => by
    unfold number at h
    cases ha : a.free with
    | true => rw [ha] at h; have := number_ge l (n + 1) p h; omega
    | false =>
      rw [ha] at h
      simp at h
      rcases h with rfl | h
      · simp
      · have := number_ge l (n + 1) p h; omega
theorem pairsOk_of {bs : Array Nat} : ∀ (fps : List FP) (n i j : Nat) (F G : FP), pairsOk bs (number n fps) = true → i < j → fps[i]? = some F → fps[j]? = some G → F.free = false → G.free = false → F.apart G = true ∨ (bs.getD (n + j) 0).testBit (n + i) = true
  | [], n, i, j, F, G, _, _, h, _, _, _ => by simp at h
  | a :: l, n, i, j, F, G, hp, hij, hi, hj, hF, hG => by
    obtain ⟨j, rfl⟩ : ∃ j', j = j' + 1 := ⟨j - 1, by omega⟩
    simp at hj
    cases i with
    | zero =>
      simp at hi; subst hi
      unfold number at hp
      simp only [hF, cond_false, pairsOk, Bool.and_eq_true, List.all_eq_true, Bool.or_eq_true] at hp
      have := hp.1 _ (number_mem l (n + 1) j G hj hG)
      rw [show n + 1 + j = n + (j + 1) by omega] at this
      exact this
    | succ i =>
      simp at hi
      have hp' : pairsOk bs (number (n + 1) l) = true := by
        unfold number at hp
        cases ha : a.free with
        | true => simpa [ha] using hp
        | false => simp only [ha, cond_false, pairsOk, Bool.and_eq_true] at hp; exact hp.2
      have := pairsOk_of l (n + 1) i j F G hp' (by omega) hi hj hF hG
      rw [show n + 1 + j = n + (j + 1) by omega, show n + 1 + i = n + (i + 1) by omega] at this
      exact this
theorem number_pair {fps : List FP} {n i j : Nat} {F G : FP} (hij : i ≠ j) (hi : fps[i]? = some F) (hj : fps[j]? = some G) (hF : F.free = false) (hG : G.free = false) : 2 ≤ (number n fps).length := by
  have h1 := number_mem fps n i F hi hF
  have h2 := number_mem fps n j G hj hG
  cases h : number n fps with
  | nil => rw [h] at h1; cases h1
  | cons a l => cases l with
    | nil =>
      rw [h] at h1 h2
      simp at h1 h2
      have := congrArg Prod.fst (h1.trans h2.symm)
      simp at this
      omega
    | cons b l => simp

variable {H : Nat → Prop} {w0 : World} {σ0 : List Addr} {hp0 : List Blk}

theorem V.drawn {w : World} {n : Nat} {M : Nat → Prop} {σ : List Addr} {L : Nat → Prop} {p : PV} {v : Value} (h : V w M σ L p v) : V { w with drawn := n } M σ L p v := by
  have : Step w M σ L { w with drawn := n } M σ L := ⟨rfl, rfl, rfl, Nat.le_refl _, fun _ _ h => h, fun _ _ _ => rfl, shape_of fun _ c _ _ h => ⟨c, h, rfl⟩, fun _ _ h => h, fun _ _ h => h⟩
  have h' : V w (fun b => False ∨ M b) σ L p v := by simpa using h
  simpa using V.stepG (H := fun _ => False) this h'
theorem MapRel.drawn {w : World} {n : Nat} {M : Nat → Prop} {σ : List Addr} {L : Nat → Prop} : ∀ {cs : List PV} {es : List MapEntry}, MapRel w M σ L cs es → MapRel { w with drawn := n } M σ L cs es
  | [], [], _ => trivial
  | k :: v :: r, e :: es, hr => ⟨hr.1.drawn, hr.2.1.drawn, MapRel.drawn hr.2.2⟩
  | [], _ :: _, hr => hr.elim
  | [_], [], hr => hr.elim
  | [_], _ :: _, hr => hr.elim
  | _ :: _ :: _, [], hr => hr.elim
theorem Good.drawn {st : St} {a : Act} {w : World} (h : Good H w0 σ0 hp0 st a w) (n : Nat) : Good H w0 σ0 hp0 st a { w with drawn := n } := by
  obtain ⟨σ, S, hf, stp, hd⟩ := h
  refine ⟨σ, ⟨S.len, S.spot, S.foreign, fun i st cs a h1 h2 h3 k c h4 => ?_, S.own, S.live, S.inj, fun i cs a h1 h2 => ?_, S.injm⟩, ⟨hf.len, fun k p v h1 h2 => (hf.get k p v h1 h2).drawn⟩, ⟨stp.os, stp.tape, stp.output, stp.size, stp.pre, stp.same, stp.shape, stp.hot, stp.live⟩, hd⟩
  · obtain ⟨v, h5, h6⟩ := S.cells i st cs a h1 h2 h3 k c h4
    exact ⟨v, h5, h6.drawn⟩
  · obtain ⟨h3, es, ck, h4, h5⟩ := S.maps i cs a h1 h2
    exact ⟨h3, es, ck, h4, h5.drawn⟩

theorem regP_ok (hm : C.P.follows .mixedOrders = true) (hT : TabOk C.P C.T) (hR : RunOk C run) (hE : RunEff run) (hO : OrcOk C) {dr : Bool} {id : Nat} {st st' : St} {a : Act} {w : World} (hst : dr = true → statOk ops = true) (h : regP C run ops dr st = some st')
    {Q : Exit → Act → World → Prop} (hg : Good H w0 σ0 hp0 st a w) (hQ : ∀ a' w', Good H w0 σ0 hp0 st' a' w' → Q .normal a' w') : (Code.region id ops dr).wp C.P Q a w := by
  unfold regP at h
  split at h
  · rename_i st1 fps e
    cases dr with
    | false =>
      simp only [cond_false, Option.some.injEq] at h
      subst h
      exact wp_region_list (goOps_ok hT hR hE hO _ _ _ _ _ _ e hg hQ)
    | true =>
      have hst := hst rfl
      simp only [cond_true] at h
      have hsm : ∀ {i : Nat} {o : Oper}, ops[i]? = some o → i < ops.size := fun h => (Array.getElem?_eq_some_iff.1 h).1
      obtain ⟨hfold, hlen⟩ := fold_of (Φ := fps) ops.toList st st1 fps 0 e (fun j hj => by simp) (fun j hj => by simp)
      have hst' : st' = st1 ∧ ∀ i j F G, i < j → fps[i]? = some F → fps[j]? = some G → ((Region.before ops).getD j 0).testBit i = false → Apart F G := by
        have hmain : ∀ i j F G, i < j → fps[i]? = some F → fps[j]? = some G → ((Region.before ops).getD j 0).testBit i = false → (F.free = false → G.free = false → pairsOk (Region.before ops) (number 0 fps) = true) → Apart F G := fun i j F G hij hi hj hb hh => by
          cases hF : F.free with
          | true => exact apart_free (.inl hF)
          | false => cases hG : G.free with
            | true => exact apart_free (.inr hG)
            | false =>
              rcases pairsOk_of fps 0 i j F G (hh hF hG) hij hi hj hF hG with h1 | h1
              · exact apart_of h1
              · simp only [Nat.zero_add] at h1; rw [hb] at h1; cases h1
        split at h
        · rename_i en
          refine ⟨by simpa using h.symm, fun i j F G hij hi hj hb => hmain i j F G hij hi hj hb fun hF hG => ?_⟩
          have := number_pair (n := 0) (Nat.ne_of_lt hij) hi hj hF hG
          rw [en] at this; simp at this
        · rename_i en
          refine ⟨by simpa using h.symm, fun i j F G hij hi hj hb => hmain i j F G hij hi hj hb fun hF hG => ?_⟩
          have := number_pair (n := 0) (Nat.ne_of_lt hij) hi hj hF hG
          rw [en] at this; simp at this
        · cases hp : pairsOk (Region.before ops) (number 0 fps) with
          | true =>
            rw [hp] at h
            refine ⟨by simpa using h.symm, fun i j F G hij hi hj hb => hmain i j F G hij hi hj hb fun _ _ => hp⟩
          | false => rw [hp] at h; cases h
      obtain ⟨rfl, hap⟩ := hst'
      refine wp_region_any hm ?_
      refine any_ok (run := run) (Φ := fps) (G := fun x a w => Good H w0 σ0 hp0 ⟨x.1, x.2, []⟩ a w) hst ?_ ?_ (st'.fr, st'.hp) (fun a w hg => hQ a w hg) ops.size _ (st.fr, st.hp) a _ (by simp) ?_ ?_ ?_ (Good.drawn hg _)
      · intro i j hij hj hb
        have ho1 : ops[i]? = some (ops[i]'(by omega)) := Array.getElem?_eq_getElem (by omega)
        have ho2 : ops[j]? = some (ops[j]'hj) := Array.getElem?_eq_getElem hj
        have hl : fps.length = ops.size := by simpa using hlen
        have hf1 : fps[i]? = some (fps[i]'(by omega)) := List.getElem?_eq_getElem (by omega)
        have hf2 : fps[j]? = some (fps[j]'(by omega)) := List.getElem?_eq_getElem (by omega)
        refine comm_of hE ho1 ho2 hf1 hf2 ?_ (hap i j _ _ hij hf1 hf2 hb)
        rcases (statOk_spec hst ho2).2 i _ hij ho1 with h1 | h1
        · rw [hb] at h1; cases h1
        · exact h1
      · rintro i ⟨fr, hp⟩ ⟨fr', hp'⟩ a w K ⟨o, v, fp, h1, h2, h3, h4⟩ hg hK
        dsimp only at h2 h4 hg hK
        subst h4
        have hop : operP C run true ops o ⟨fr, hp, []⟩ = some (⟨putP fr o.dst v, hp', addW fp.wr []⟩, fp) := by
          unfold operP; rw [h2]
        have := operP_ok (Q := Q) hT hR hE hO hop hg (K := K) fun a' w' hg' => hK a' w' hg'
        unfold wpOp
        rw [h1]
        dsimp only
        split
        · rename_i hw; rw [if_pos hw] at this; exact .inl this
        · rename_i hw; rw [if_neg hw] at this; exact this
      · intro j hj hl
        simp [hj] at hl
      · unfold unl; exact Nat.le_trans (List.length_filter_le _ _) (by simp)
      · have : unl ops.size (Array.replicate ops.size false) = List.range' 0 ops.toList.length := by
          unfold unl
          rw [List.filter_eq_self.2]
          · simp [List.range_eq_range']
          · intro i hi
            simp [List.mem_range.1 hi]
        rw [this]; exact hfold
  · cases h

end
end Go.Ab
namespace Go.Ab
open Go

/-! a heap only grows -/
def Grow (f : List Blk → Option (PV × List Blk × FP)) : Prop := ∀ hp v hp' F, f hp = some (v, hp', F) → hp.length ≤ hp'.length

theorem allocB_length (hp : List Blk) (cs : List PV) : (allocB hp cs).length = hp.length + 1 := by simp [allocB]
theorem appendP_grow {hp : List Blk} {s : Nat} {x : PV} {n : Nat} {new : List PV} {v : PV} {hp' : List Blk} {F : FP} (h : appendP hp s x n new = some (v, hp', F)) : hp.length ≤ hp'.length := by
  unfold appendP at h
  repeat' split at h
  all_goals first
    | cases h; done
    | (simp only [Option.some.injEq, Prod.mk.injEq] at h
       obtain ⟨_, rfl, _⟩ := h
       first
         | exact Nat.le_refl _
         | (simp only [allocB_length, setB_length]; omega))
theorem updP_len {T : Tab} {hp hp' : List Blk} {t : TypeId} {m k x : PV} {id : Nat} (h : updP T hp t m k x = some (hp', id)) : hp'.length = hp.length := by
  obtain ⟨b, b0, rfl, _, _⟩ := updP_write h
  exact setB_length _ _ _
theorem delP_len {T : Tab} {hp hp' : List Blk} {t : TypeId} {m k : PV} {id : Nat} (h : delP T hp t m k = some (hp', id)) : hp'.length = hp.length := by
  obtain ⟨b, b0, rfl, _, _⟩ := delP_write h
  exact setB_length _ _ _
theorem stepP_grow {P : Program} {T : Tab} {fr : List PV} {o : Op} : Grow fun hp => stepP P T fr hp o := by
  intro hp v hp' F h
  dsimp only at h
  unfold stepP at h
  dsimp only at h
  repeat' split at h
  all_goals first
    | cases h; done
    | (simp only [Option.some.injEq, Prod.mk.injEq] at h
       obtain ⟨_, rfl, _⟩ := h
       first
         | exact Nat.le_refl _
         | (simp only [allocB_length, setB_length]; omega)
         | exact appendP_grow (by assumption)
         | (simp; done)
         | exact Nat.le_of_eq (updP_len (by assumption)).symm
         | exact Nat.le_of_eq (delP_len (by assumption)).symm)
theorem callP_grow {C : Cfg} {run : Runs} (hE : RunEff run) {dr : Bool} {g : FuncId} {args : List PV} : Grow fun hp => callP C run dr hp g args := by
  intro hp v hp' F h
  dsimp only at h
  unfold callP at h
  split at h
  · split at h
    · rename_i rs hp1 w e
      obtain ⟨e1, _⟩ := hE _ _ _ _ _ _ e
      cases hb : (idfreeL rs && wrBelow hp1 hp.length (oldW hp.length w)) with
      | true =>
        simp only [hb, cond_true, Option.some.injEq, Prod.mk.injEq] at h
        obtain ⟨_, rfl, _⟩ := h
        rw [takeB_eq]; simp; omega
      | false =>
        simp only [hb, cond_false, Option.some.injEq, Prod.mk.injEq] at h
        obtain ⟨_, rfl, _⟩ := h
        exact e1
    · cases h
  · split at h
    · cases h
    · split at h
      · rename_i rs er
        cases hb : rs.all scalarP with
        | true =>
          simp only [hb, cond_true, Option.some.injEq, Prod.mk.injEq] at h
          obtain ⟨_, rfl, _⟩ := h
          exact Nat.le_refl _
        | false =>
          simp only [hb, cond_false, Option.some.injEq, Prod.mk.injEq] at h
          obtain ⟨_, rfl, _⟩ := h
          rw [roB_length]; exact Nat.le_refl _
      · split at h
        · cases h
        · split at h
          · cases h
          · rename_i rs' kept ek
            cases hb : rs'.all scalarP with
            | true =>
              simp only [hb, cond_true, Option.some.injEq, Prod.mk.injEq] at h
              obtain ⟨_, rfl, _⟩ := h
              exact Nat.le_refl _
            | false =>
              simp only [hb, cond_false, Option.some.injEq, Prod.mk.injEq] at h
              obtain ⟨_, rfl, _⟩ := h
              simp [roB_length]
theorem valP_grow {C : Cfg} {run : Runs} (hE : RunEff run) {dr : Bool} {ops : Array Oper} {o : Oper} {fr : List PV} : Grow fun hp => valP C run dr ops o fr hp := by
  intro hp v hp' F h
  dsimp only at h
  unfold valP at h
  split at h
  · cases h
  · simp only [Option.some.injEq, Prod.mk.injEq] at h
    obtain ⟨_, rfl, _⟩ := h
    exact Nat.le_refl _
  · split at h
    · split at h
      · exact callP_grow hE _ _ _ _ h
      · cases h
    · exact stepP_grow _ _ _ _ h

/-- what a run has done to the heap -/
structure Eff (st st' : St) : Prop where
  len : st.hp.length ≤ st'.hp.length
  wr : ∀ i ∈ st.wr, i ∈ st'.wr
  same : ∀ i, i < st.hp.length → i ∉ st'.wr → st'.hp[i]? = st.hp[i]?
theorem Eff.refl (st : St) : Eff st st := ⟨Nat.le_refl _, fun _ h => h, fun _ _ _ => rfl⟩
theorem Eff.trans {a b c : St} (h : Eff a b) (h' : Eff b c) : Eff a c :=
  ⟨Nat.le_trans h.len h'.len, fun i hi => h'.wr i (h.wr i hi), fun i hi hw => by rw [h'.same i (Nat.lt_of_lt_of_le hi h.len) hw, h.same i hi fun e => hw (h'.wr i e)]⟩

theorem mem_addW : ∀ (w l : List Nat) (i : Nat), i ∈ addW w l ↔ i ∈ w ∨ i ∈ l
  | [], l, i => by simp [addW]
  | j :: w, l, i => by
    unfold addW
    cases h : l.contains j with
    | true =>
      simp only [cond_true, mem_addW w l i, List.mem_cons]
      have : j ∈ l := by simpa using h
      constructor
      · rintro (h | h) <;> simp [h]
      · rintro ((rfl | h) | h) <;> simp_all
    | false =>
      simp only [cond_false, mem_addW w _ i, List.mem_cons]
      constructor
      · rintro (h | h | h) <;> simp [h]
      · rintro ((h | h) | h) <;> simp [h]

section
variable {C : Cfg} {run : Runs}

theorem operP_eff (hE : RunEff run) {dr : Bool} {ops : Array Oper} {o : Oper} {st st' : St} {fp : FP} (h : operP C run dr ops o st = some (st', fp)) : Eff st st' := by
  unfold operP at h
  split at h
  · rename_i v hp fp' e
    simp only [Option.some.injEq, Prod.mk.injEq] at h
    obtain ⟨rfl, _⟩ := h
    obtain ⟨h1, _⟩ := (valP_loc hE dr ops o st.fr).E _ _ _ _ e
    refine ⟨valP_grow hE _ _ _ _ e, fun i hi => (mem_addW _ _ _).2 (.inr hi), fun i hi hw => ?_⟩
    have := h1 i fun hm => hw ((mem_addW _ _ _).2 (.inl hm))
    rwa [nthB_eq, nthB_eq] at this
  · cases h
theorem goOps_eff (hE : RunEff run) {dr : Bool} {ops : Array Oper} : ∀ {l : List Oper} {st st' : St} {fps : List FP}, goOps C run dr ops l st = some (st', fps) → Eff st st'
  | [], st, st', fps, h => by
    simp only [goOps, Option.some.injEq, Prod.mk.injEq] at h
    obtain ⟨rfl, _⟩ := h
    exact .refl _
  | o :: l, st, st', fps, h => by
    simp only [goOps] at h
    split at h
    · rename_i st1 fp ho
      split at h
      · rename_i st2 fps' hl
        simp only [Option.some.injEq, Prod.mk.injEq] at h
        obtain ⟨rfl, _⟩ := h
        exact (operP_eff hE ho).trans (goOps_eff hE hl)
      · cases h
    · cases h
theorem regP_eff (hE : RunEff run) {dr : Bool} {ops : Array Oper} {st st' : St} (h : regP C run ops dr st = some st') : Eff st st' := by
  unfold regP at h
  split at h
  · rename_i st1 fps e
    have hh : st' = st1 := by
      cases dr with
      | false => simpa using h.symm
      | true =>
        simp only [cond_true] at h
        split at h
        · simpa using h.symm
        · simpa using h.symm
        · cases hp : pairsOk (Region.before ops) (number 0 fps) with
          | true => rw [hp] at h; simpa using h.symm
          | false => rw [hp] at h; cases h
    subst hh
    exact goOps_eff hE e
  · cases h
theorem iterL_eff {f : St → Option (Ex × St)} (hf : ∀ st e st', f st = some (e, st') → Eff st st') : ∀ (n : Nat) (st : St) (e : Ex) (st' : St), iterL f n st = some (e, st') → Eff st st'
  | 0, _, _, _, h => by simp [iterL] at h
  | n + 1, st, e, st', h => by
    unfold iterL at h
    split at h
    · rename_i st1 h1
      exact (hf _ _ _ h1).trans (iterL_eff hf n _ _ _ h)
    · exact hf _ _ _ h
theorem execC_eff (hE : RunEff run) {n : Nat} : ∀ (c : Code) (st : St) (e : Ex) (st' : St), execC C run n c st = some (e, st') → Eff st st' := by
  intro c
  induction c with
  | region id ops dr =>
    intro st e st' h
    unfold execC at h
    split at h
    · rename_i st1 h1
      simp only [Option.some.injEq, Prod.mk.injEq] at h
      obtain ⟨_, rfl⟩ := h
      exact regP_eff hE h1
    · cases h
  | seq a b iha ihb =>
    intro st e st' h
    unfold execC at h
    split at h
    · rename_i st1 h1
      exact (iha _ _ _ h1).trans (ihb _ _ _ h)
    · exact iha _ _ _ h
  | cond c a b iha ihb =>
    intro st e st' h
    unfold execC at h
    split at h
    · exact iha _ _ _ h
    · exact ihb _ _ _ h
    · cases h
  | block id b ih =>
    intro st e st' h
    unfold execC at h
    split at h
    · rename_i i st1 h1
      split at h
      · simp only [Option.some.injEq, Prod.mk.injEq] at h
        obtain ⟨_, rfl⟩ := h
        exact ih _ _ _ h1
      · simp only [Option.some.injEq, Prod.mk.injEq] at h
        obtain ⟨_, rfl⟩ := h
        exact ih _ _ _ h1
    · exact ih _ _ _ h
  | loop b ih =>
    intro st e st' h
    unfold execC at h
    exact iterL_eff ih _ _ _ _ h
  | scope b ih =>
    intro st e st' h
    unfold execC at h
    exact ih _ _ _ h
  | _ =>
    intro st e st' h
    unfold execC at h
    first
      | (simp only [Option.some.injEq, Prod.mk.injEq] at h; obtain ⟨_, rfl⟩ := h; exact .refl _)
      | cases h

theorem bodyP_eff (hE : RunEff run) (n : Nat) : RunEff (bodyP C run n) := by
  intro g args hp rs hp' wr h
  unfold bodyP at h
  split at h
  · split at h
    · rename_i c _
      have key : ∀ e st', execC C run n c ⟨entry ‹Func›.ntmps args, hp, []⟩ = some (e, st') → (match resP C.T st'.fr st'.hp ‹Func›.results.toList with | some rs => some (rs, st'.hp, st'.wr) | none => none) = some (rs, hp', wr) → hp.length ≤ hp'.length ∧ ∀ i, i < hp.length → i ∉ wr → hp'[i]? = hp[i]? := fun e st' he h => by
        have := execC_eff hE _ _ _ _ he
        split at h
        · simp only [Option.some.injEq, Prod.mk.injEq] at h
          obtain ⟨_, rfl, rfl⟩ := h
          exact ⟨this.len, this.same⟩
        · cases h
      split at h
      · rename_i st he; exact key _ _ he h
      · rename_i st he; exact key _ _ he h
      · cases h
    · cases h
  · cases h
theorem sorcRun_eff {f : List PV → (Nat → Option Blk) → Option (List PV × Option (Nat × Blk))} {args : List PV} {hp hp' : List Blk} {rs : List PV} {wr : List Nat} (h : sorcRun f args hp = some (rs, hp', wr)) : hp.length ≤ hp'.length ∧ ∀ i, i < hp.length → i ∉ wr → hp'[i]? = hp[i]? := by
  unfold sorcRun at h
  split at h
  · simp only [Option.some.injEq, Prod.mk.injEq] at h
    obtain ⟨_, rfl, rfl⟩ := h
    exact ⟨Nat.le_refl _, fun _ _ _ => rfl⟩
  · rename_i rs0 id b _
    cases e : id.blt hp.length with
    | false => rw [e] at h; cases h
    | true =>
      rw [e] at h
      simp only [cond_true, Option.some.injEq, Prod.mk.injEq] at h
      obtain ⟨_, rfl, rfl⟩ := h
      rw [setB_eq]
      exact ⟨by simp, fun i _ hi => by rw [List.getElem?_set_ne (by intro e; subst e; simp at hi)]⟩
  · cases h
theorem runK_eff (k : Nat) : RunEff (runK C k) := by
  induction k with
  | zero => intro g args hp rs hp' wr h; simp [runK] at h
  | succ k ih =>
    intro g args hp rs hp' wr h
    simp only [runK] at h
    split at h
    · exact sorcRun_eff h
    · exact bodyP_eff ih k g args hp rs hp' wr h

/-! what is given of a configuration -/
structure CfgOk (C : Cfg) : Prop where
  tab : TabOk C.P C.T
  orders : C.P.follows .mixedOrders = true
  funcs : ∀ g fn, C.F g = some fn → C.P.funcs[g]? = some fn ∧ ∀ (args : Array Value) (w : World), (callFunc g args).run C.P w = .ok (.enter g args) w
  draws : ∀ g fn c, C.F g = some fn → fn.body = some c → drawsOk c = true
  orc : OrcOk C
  sorc : ∀ g f, C.sorc g = some f → SOk C.P g f

variable {H : Nat → Prop} {w0 : World} {σ0 : List Addr} {hp0 : List Blk}

def Ex.toExit : Ex → Exit
  | .normal => .normal
  | .ret => .ret
  | .exit id => .exit id

theorem iterL_ok {P : Program} {c : Code} {f : St → Option (Ex × St)}
    (hf : ∀ (st : St) (e : Ex) (st' : St) (a : Act) (w : World), f st = some (e, st') → Good H w0 σ0 hp0 st a w → ∀ Q : Exit → Act → World → Prop, (∀ a' w', Good H w0 σ0 hp0 st' a' w' → Q e.toExit a' w') → c.wp P Q a w) :
    ∀ (n : Nat) (st : St) (e : Ex) (st' : St) (a : Act) (w : World), iterL f n st = some (e, st') → Good H w0 σ0 hp0 st a w → ∀ Q : Exit → Act → World → Prop, (∀ a' w', Good H w0 σ0 hp0 st' a' w' → Q e.toExit a' w') → Code.rounds P c Q n a w
  | 0, _, _, _, _, _, h, _, _, _ => by simp [iterL] at h
  | n + 1, st, e, st', a, w, h, hg, Q, hQ => by
    rw [rounds_succ]
    unfold iterL at h
    split at h
    · rename_i st1 h1
      exact hf _ _ _ _ _ h1 hg _ fun a' w' hg' => iterL_ok hf n _ _ _ _ _ h hg' Q hQ
    · rename_i hn
      refine hf _ _ _ _ _ h hg _ fun a' w' hg' => ?_
      have := hQ a' w' hg'
      cases e with
      | normal => exact absurd h (hn st')
      | ret => exact this
      | exit id => exact this

theorem execC_ok (hC : CfgOk C) (hR : RunOk C run) (hE : RunEff run) {n : Nat} : ∀ (c : Code) (st : St) (e : Ex) (st' : St) (a : Act) (w : World), drawsOk c = true → execC C run n c st = some (e, st') → Good H w0 σ0 hp0 st a w →
    ∀ Q : Exit → Act → World → Prop, (∀ a' w', Good H w0 σ0 hp0 st' a' w' → Q e.toExit a' w') → c.wp C.P Q a w := by
  intro c
  induction c with
  | region id ops dr =>
    intro st e st' a w hd h hg Q hQ
    unfold execC at h
    split at h
    · rename_i st1 h1
      simp only [Option.some.injEq, Prod.mk.injEq] at h
      obtain ⟨rfl, rfl⟩ := h
      exact regP_ok hC.orders hC.tab hR hE hC.orc (fun hdr => by subst hdr; simpa [drawsOk] using hd) h1 hg hQ
    · cases h
  | seq x y iha ihb =>
    intro st e st' a w hd h hg Q hQ
    simp only [drawsOk, Bool.and_eq_true] at hd
    unfold execC at h
    refine wp_seq ?_
    split at h
    · rename_i st1 h1
      exact iha _ _ _ _ _ hd.1 h1 hg _ fun a' w' hg' => ihb _ _ _ _ _ hd.2 h hg' Q hQ
    · rename_i hn
      refine iha _ _ _ _ _ hd.1 h hg _ fun a' w' hg' => ?_
      have := hQ a' w' hg'
      cases e with
      | normal => exact absurd h (hn st')
      | ret => exact this
      | exit id => exact this
  | cond c x y iha ihb =>
    intro st e st' a w hd h hg Q hQ
    simp only [drawsOk, Bool.and_eq_true] at hd
    unfold execC at h
    obtain ⟨σ, S, hf, stp, hdef⟩ := id hg
    have hv := hf.eval c
    split at h
    · rename_i e1
      rw [e1] at hv
      exact wp_cond_true hv.sc_inv (iha _ _ _ _ _ hd.1 h hg Q hQ)
    · rename_i e1
      rw [e1] at hv
      exact wp_cond_false hv.sc_inv (ihb _ _ _ _ _ hd.2 h hg Q hQ)
    · cases h
  | block id b ih =>
    intro st e st' a w hd h hg Q hQ
    unfold execC at h
    refine wp_block ?_
    split at h
    · rename_i i st1 h1
      refine ih _ _ _ _ _ hd h1 hg _ fun a' w' hg' => ?_
      simp only [Ex.toExit, Exit.inBlock]
      split at h
      · rename_i hi
        simp only [Option.some.injEq, Prod.mk.injEq] at h
        obtain ⟨rfl, rfl⟩ := h
        rw [if_pos hi]; exact hQ _ _ hg'
      · rename_i hi
        simp only [Option.some.injEq, Prod.mk.injEq] at h
        obtain ⟨rfl, rfl⟩ := h
        rw [if_neg hi]; exact hQ _ _ hg'
    · rename_i hn
      refine ih _ _ _ _ _ hd h hg _ fun a' w' hg' => ?_
      have := hQ a' w' hg'
      cases e with
      | normal => exact this
      | ret => exact this
      | exit id => exact absurd h (hn id st')
  | loop b ih =>
    intro st e st' a w hd h hg Q hQ
    unfold execC at h
    exact wp_loop_rounds n (iterL_ok (fun st e st' a w h hg Q hQ => ih st e st' a w hd h hg Q hQ) n st e st' a w h hg Q hQ)
  | scope b ih =>
    intro st e st' a w hd h hg Q hQ
    unfold execC at h
    refine wp_scope_straight (ih _ _ _ _ _ hd h hg _ fun a' w' hg' => ?_)
    have := hQ a' w' hg'
    cases e <;> exact this
  | skip =>
    intro st e st' a w hd h hg Q hQ
    unfold execC at h
    simp only [Option.some.injEq, Prod.mk.injEq] at h; obtain ⟨rfl, rfl⟩ := h
    exact wp_skip (hQ _ _ hg)
  | label l =>
    intro st e st' a w hd h hg Q hQ
    unfold execC at h
    simp only [Option.some.injEq, Prod.mk.injEq] at h; obtain ⟨rfl, rfl⟩ := h
    exact wp_label (hQ _ _ hg)
  | exit id =>
    intro st e st' a w hd h hg Q hQ
    unfold execC at h
    simp only [Option.some.injEq, Prod.mk.injEq] at h; obtain ⟨rfl, rfl⟩ := h
    exact wp_exit (hQ _ _ hg)
  | ret =>
    intro st e st' a w hd h hg Q hQ
    unfold execC at h
    simp only [Option.some.injEq, Prod.mk.injEq] at h; obtain ⟨rfl, rfl⟩ := h
    exact wp_ret (hQ _ _ hg)
  | _ =>
    intro st e st' a w hd h hg Q hQ
    unfold execC at h
    cases h

def resF (tmps : Array Value) : ResultVar → Sem Value
  | .tmp t => pure (tmps.getD t undef)
  | .cell a t => do loadVar t (← asAddr (tmps.getD a undef))
theorem resF_tmp (tmps : Array Value) (t : Tmp) : resF tmps (.tmp t) = pure (tmps.getD t undef) := rfl
theorem resF_cell (tmps : Array Value) (a : Tmp) (t : TypeId) : resF tmps (.cell a t) = (do loadVar t (← asAddr (tmps.getD a undef))) := rfl
theorem results_eq (fn : Func) (tmps : Array Value) : results fn tmps = (do
    let vs ← fn.results.mapM (resF tmps)
    pure (if h : vs.size = 1 then vs[0] else .tuple vs)) := rfl
theorem mapM_run {P : Program} {f : ResultVar → Sem Value} {x : ResultVar} {l : List ResultVar} {u : Value} {us : List Value} {w : World} (h : (f x).run P w = .ok u w) (h' : (l.mapM f).run P w = .ok us w) : ((x :: l).mapM f).run P w = .ok (u :: us) w := by
  rw [List.mapM_cons]
  simp only [Sem.run_bind, h, Result.andThen_ok, h', Sem.run_pure]

theorem resP_ok {P : Program} {T : Tab} (hT : TabOk P T) {w : World} {σ : List Addr} {hp : List Blk} (S : Sim w H σ hp) {fr : List PV} {tmps : Array Value} (hf : FrOk w (hot H σ hp) σ (liveAt hp) fr tmps) :
    ∀ (l : List ResultVar) (rs : List PV), resP T fr hp l = some rs →
      ∃ us, (l.mapM (resF tmps)).run P w = .ok us w ∧ Vs w (hot H σ hp) σ (liveAt hp) rs us
  | [], rs, h => by
    simp only [resP, Option.some.injEq] at h
    subst h
    exact ⟨[], by simp, rfl, fun k p v h => by simp at h⟩
  | .tmp t :: l, rs, h => by
    simp only [resP] at h
    split at h
    · rename_i l' e
      simp only [Option.some.injEq] at h
      subst h
      obtain ⟨us, h1, h2⟩ := resP_ok hT S hf l l' e
      refine ⟨tmps.getD t undef :: us, mapM_run (by rw [resF_tmp]; rfl) h1, by simp [h2.1], fun k p v h3 h4 => ?_⟩
      · cases k with
        | zero => simp at h3 h4; subst h3; subst h4; simpa using hf.nth t
        | succ k => exact h2.2 k p v (by simpa using h3) (by simpa using h4)
    · cases h
  | .cell a t :: l, rs, h => by
    simp only [resP] at h
    split at h
    · rename_i cs ids e0
      split at h
      · rename_i x l' e e'
        simp only [Option.some.injEq] at h
        subst h
        obtain ⟨us, h1, h2⟩ := resP_ok hT S hf l l' e'
        obtain ⟨ad, e1, hA⟩ := atAddr_ok S e0 (hf.nth a)
        obtain ⟨u, h5, h6⟩ := partOf_ok hT e hA
        refine ⟨u :: us, mapM_run (by rw [resF_cell, e1]; simp [asAddr, h5]) h1, by simp [h2.1], fun k p v h3 h4 => ?_⟩
        · cases k with
          | zero => simp at h3 h4; subst h3; subst h4; exact h6
          | succ k => exact h2.2 k p v (by simpa using h3) (by simpa using h4)
      · cases h
    · cases h

theorem entry_len : ∀ (n : Nat) (l : List PV), (entry n l).length = l.length + (n - l.length)
  | 0, l => by simp [entry]
  | n + 1, [] => by simp [entry, entry_len n []]
  | n + 1, a :: l => by simp [entry, entry_len n l]; omega
theorem entry_get : ∀ (n : Nat) (l : List PV) (k : Nat) (p : PV), (entry n l)[k]? = some p → (k < l.length ∧ l[k]? = some p) ∨ (l.length ≤ k ∧ p = .sc undef)
  | 0, l, k, p, h => .inl ⟨get_lt h, h⟩
  | n + 1, [], k, p, h => by
    cases k with
    | zero => simp [entry] at h; exact .inr ⟨by simp, h.symm⟩
    | succ k =>
      simp [entry] at h
      rcases entry_get n [] k p h with ⟨h1, _⟩ | ⟨_, h2⟩
      · simp at h1
      · exact .inr ⟨by simp, h2⟩
  | n + 1, a :: l, k, p, h => by
    cases k with
    | zero => simp [entry] at h; exact .inl ⟨by simp, by simp [h]⟩
    | succ k =>
      simp [entry] at h
      rcases entry_get n l k p h with ⟨h1, h2⟩ | ⟨h1, h2⟩
      · exact .inl ⟨by simp; omega, by simpa using h2⟩
      · exact .inr ⟨by simp; omega, h2⟩

theorem bodyP_ok (hC : CfgOk C) (hR : RunOk C run) (hE : RunEff run) (n : Nat) : RunOk C (bodyP C run n) := by
  intro g args hp rs hp' wr h w H σ vs S hvs
  unfold bodyP at h
  split at h
  · rename_i fn hfn
    split at h
    · rename_i c hc
      obtain ⟨hf1, hf2⟩ := hC.funcs g fn hfn
      have hd := hC.draws g fn c hfn hc
      unfold CallOk
      have hcall := hf2 vs.toArray w
      rw [hcall]
      dsimp only
      have hgood : Good H w σ hp ⟨entry fn.ntmps args, hp, []⟩ { tmps := vs.toArray ++ Array.replicate (fn.ntmps - vs.toArray.size) undef, defers := [] } w := by
        refine ⟨σ, S, ⟨?_, fun k p v h1 h2 => ?_⟩, Step.refl _ _ _ _, rfl⟩
        · simp [entry_len, hvs.1]
        · rcases entry_get _ _ _ _ h1 with ⟨h3, h4⟩ | ⟨h3, rfl⟩
          · refine hvs.2 k p v h4 ?_
            rw [Array.getElem?_append_left (by simpa [hvs.1] using h3)] at h2
            simpa using h2
          · rw [Array.getElem?_append_right (by simpa [hvs.1] using h3)] at h2
            obtain ⟨hlt, h2⟩ := Array.getElem?_eq_some_iff.1 h2
            simp at h2
            subst h2
            exact .sc undef
      have key : ∀ e st', (e = .normal ∨ e = .ret) → execC C run n c ⟨entry fn.ntmps args, hp, []⟩ = some (e, st') → (match resP C.T st'.fr st'.hp fn.results.toList with | some rs => some (rs, st'.hp, st'.wr) | none => none) = some (rs, hp', wr) →
          Calls C.P g vs.toArray w fun e w'' => ∃ v, e = .returned v ∧ ∃ σ' us, v = retV us ∧ Vs w'' (hot H σ' hp') σ' (liveAt hp') rs us ∧ Sim w'' H σ' hp' ∧ Step w (ownd σ hp) σ (liveAt hp) w'' (ownd σ' hp') σ' (liveAt hp') := fun e st' hex he h => by
        split at h
        · rename_i rs' er
          simp only [Option.some.injEq, Prod.mk.injEq] at h
          obtain ⟨rfl, rfl, rfl⟩ := h
          refine calls_of_wp hf1 hc (execC_ok hC hR hE c _ _ _ _ _ hd he hgood _ fun a' w' hg' => ?_)
          obtain ⟨σ', S', hf', stp, hdef⟩ := hg'
          obtain ⟨us, h1, h2⟩ := resP_ok hC.tab S' hf' _ _ er
          have hres : (results fn a'.tmps).run C.P w' = .ok (retV us) w' := by
            rw [results_eq, Array.mapM_eq_mapM_toList]
            simp only [bind_map_left, Sem.run_bind, h1, Result.andThen_ok, Sem.run_pure]
            congr 1
            match us with
            | [] => rfl
            | [u] => rfl
            | u :: u2 :: us => simp [retV]
          rcases hex with rfl | rfl
          · exact ⟨hdef, _, hres, _, rfl, σ', us, rfl, h2, S', stp⟩
          · exact ⟨hdef, _, hres, _, rfl, σ', us, rfl, h2, S', stp⟩
        · cases h
      split at h
      · rename_i st he; exact key _ _ (.inl rfl) he h
      · rename_i st he; exact key _ _ (.inr rfl) he h
      · cases h
    · cases h
  · cases h

theorem runK_ok (hC : CfgOk C) (k : Nat) : RunOk C (runK C k) := by
  induction k with
  | zero => intro g args hp rs hp' wr h; simp [runK] at h
  | succ k ih =>
    intro g args hp rs hp' wr h
    simp only [runK] at h
    split at h
    · rename_i f hf
      exact hC.sorc g f hf args hp rs hp' wr h
    · exact bodyP_ok hC ih (runK_eff k) k g args hp rs hp' wr h

end
end Go.Ab
namespace Go.Ab
open Go

/-- a contract: where f tells results, the function returns them and leaves all that was there as it was -/
def Spec (P : Program) (g : FuncId) (f : List PV → Option (List PV)) : Prop :=
  ∀ args rs, f args = some rs → idfreeL args = true → idfreeL rs = true ∧ ∀ (w : World) (M : Nat → Prop) (vs : List Value), (∀ b, M b → b < w.heap.size) → Vs w M [] NoL args vs →
    CallOk P g vs.toArray w fun v w' => ∃ us, v = retV us ∧ Vs w' M [] NoL rs us ∧ Old w w'

theorem OrcOk.of {C : Cfg} (h : ∀ g, Spec C.P g (C.orc g)) : OrcOk C := fun g args rs h1 h2 => h g args rs h1 h2
theorem Spec.no (P : Program) (g : FuncId) : Spec P g fun _ => none := fun _ _ h => by cases h
/-- a contract in front of another -/
theorem Spec.or {P : Program} {g : FuncId} {f f' : List PV → Option (List PV)} (h : Spec P g f) (h' : Spec P g f') : Spec P g fun a => match f a with | some r => some r | none => f' a := by
  intro args rs hf hi
  dsimp only at hf
  cases hfa : f args with
  | some r => rw [hfa] at hf; cases hf; exact h args _ hfa hi
  | none => rw [hfa] at hf; exact h' args rs hf hi

/-- q says no more than p -/
def Wk (p q : PV) : Prop := q.idfree = true ∧ ∀ (w : World) (M : Nat → Prop) (v : Value), V w M [] NoL p v → V w M [] NoL q v
def WkL : List PV → List PV → Prop
  | [], [] => True
  | p :: ps, q :: qs => Wk p q ∧ WkL ps qs
  | _, _ => False

theorem Wk.refl {p : PV} (h : p.idfree = true) : Wk p p := ⟨h, fun _ _ _ h => h⟩
theorem Wk.any (p : PV) : Wk p .any := ⟨rfl, fun _ _ v _ => .any v⟩
theorem Wk.imm (n : Nat) (x : Bool) (cs : List PV) : Wk (.imm n x cs) (.imm n false cs) :=
  ⟨rfl, fun w M v h => by
    cases h with
    | nil => exact .nil false
    | imm _ _ _ a cap g h1 h2 h3 h4 => exact .imm n false cs a cap g h1 (fun h => by cases h) h3 h4⟩
theorem Wk.nil (x : Bool) : Wk (.sc (.slice none 0 0)) (.imm 0 x []) := ⟨rfl, fun w M v h => by cases h with | sc => exact .nil x⟩
theorem WkL.get : ∀ {ps qs : List PV}, WkL ps qs → ps.length = qs.length ∧ ∀ (k : Nat) p q, ps[k]? = some p → qs[k]? = some q → Wk p q
  | [], [], _ => ⟨rfl, fun k p q h => by simp at h⟩
  | p :: ps, q :: qs, h => by
    obtain ⟨h1, h2⟩ := h
    obtain ⟨h3, h4⟩ := WkL.get h2
    refine ⟨by simp [h3], fun k p' q' e1 e2 => ?_⟩
    cases k with
    | zero => simp at e1 e2; subst e1; subst e2; exact h1
    | succ k => exact h4 k p' q' (by simpa using e1) (by simpa using e2)
  | [], _ :: _, h => h.elim
  | _ :: _, [], h => h.elim
theorem WkL.idfree : ∀ {ps qs : List PV}, WkL ps qs → idfreeL qs = true
  | [], [], _ => rfl
  | p :: ps, q :: qs, h => by
    obtain ⟨h1, h2⟩ := h
    simp only [idfreeL, Bool.and_eq_true]
    exact ⟨h1.1, h2.idfree⟩
  | [], _ :: _, h => h.elim
  | _ :: _, [], h => h.elim
theorem WkL.refl : ∀ {ps : List PV}, idfreeL ps = true → WkL ps ps
  | [], _ => trivial
  | p :: ps, h => by
    simp only [idfreeL, Bool.and_eq_true] at h
    exact ⟨Wk.refl h.1, WkL.refl h.2⟩
theorem Wk.agg {ps qs : List PV} (h : WkL ps qs) : Wk (.agg ps) (.agg qs) := by
  obtain ⟨h1, h2⟩ := h.get
  refine ⟨by simp only [PV.idfree]; exact h.idfree, fun w M v hv => ?_⟩
  cases hv with
  | agg _ vs g1 g2 =>
    refine .agg qs vs (by rw [← h1]; exact g1) fun k c v e1 e2 => ?_
    have hk : k < ps.length := by rw [h1]; exact get_lt e1
    exact (h2 k _ c (List.getElem?_eq_getElem hk) e1).2 w M v (g2 k _ v (List.getElem?_eq_getElem hk) e2)

/-- a contract out of a run -/
theorem Spec.of_run {C : Cfg} (hC : CfgOk C) {g : FuncId} {f : List PV → Option (List PV)}
    (h : ∀ args rs, f args = some rs → ∃ k rs1 hp1 wr rs2 ids, runK C k g args [] = some (rs1, hp1, wr) ∧ mapIds (snap hp1 snapDepth) rs1 = some (rs2, ids) ∧ WkL rs2 rs) : Spec C.P g f := by
  intro args rs hf hi
  obtain ⟨k, rs1, hp1, wr, rs2, ids, hr, hs, hw⟩ := h args rs hf
  refine ⟨hw.idfree, fun w M vs hM hvs => ?_⟩
  have S0 : Sim w M [] [] := sim_nil hM
  have hvs0 : Vs w (hot M [] []) [] (liveAt []) args vs := ⟨hvs.1, fun k c u h1 h2 => (hvs.2 k c u h1 h2).idf (fun b _ hb => by
    rcases hb with hb | ⟨i, a, _, h2, _⟩
    · exact hb
    · simp at h2) (idfree_get hi h1)⟩
  refine (runK_ok hC k g args [] rs1 hp1 wr hr w M [] vs S0 hvs0).mono fun v w' ⟨σ', us, hu, hvs', hs', st⟩ => ?_
  obtain ⟨h1, h2⟩ := snaps_ok hs' hs (fun x hx => hx) hvs'
  obtain ⟨h3, h4⟩ := hw.get
  refine ⟨us, hu, ⟨by rw [← h3]; exact h1.1, fun k c u e1 e2 => ?_⟩, st.os, st.tape, st.output, st.size, fun b hb => st.same b hb (fun ⟨i, a, _, h2, _⟩ => by simp at h2)⟩
  have hk : k < rs2.length := by rw [h3]; exact get_lt e1
  refine (h4 k _ c (List.getElem?_eq_getElem hk) e1).2 w' M u ?_
  exact (h1.2 k _ u (List.getElem?_eq_getElem hk) e2).idf (fun b _ hb => .inl hb) (idfree_get h2 (List.getElem?_eq_getElem hk))

/-- one call, worked out: a contract at these arguments alone. eqv: are these the arguments? -/
theorem Spec.of_one {C : Cfg} (hC : CfgOk C) {g : FuncId} {args rs : List PV} {eqv : List PV → Bool} (heq : ∀ a, eqv a = true → a = args)
    (h : ∃ k rs1 hp1 wr rs2 ids, runK C k g args [] = some (rs1, hp1, wr) ∧ mapIds (snap hp1 snapDepth) rs1 = some (rs2, ids) ∧ WkL rs2 rs) : Spec C.P g fun a => bif eqv a then some rs else .none :=
  Spec.of_run hC fun a r hr => by
    cases he : eqv a with
    | false => rw [he] at hr; cases hr
    | true =>
      rw [he] at hr
      simp only [cond_true, Option.some.injEq] at hr
      subst hr
      rw [heq a he]
      exact h

end Go.Ab
namespace Go.Ab
open Go

/-- a table as a tree -/
inductive Tr (α : Type) where
  | leaf
  | node (k : Nat) (v : α) (l r : Tr α)
def Tr.get {α : Type} : Tr α → Nat → Option α
  | .leaf, _ => none
  | .node k v l r, n => bif n.beq k then some v else bif n.blt k then l.get n else r.get n
def Tr.All {α : Type} (p : Nat → α → Prop) : Tr α → Prop
  | .leaf => True
  | .node k v l r => p k v ∧ l.All p ∧ r.All p
def Tr.all {α : Type} (p : α → Bool) : Tr α → Bool
  | .leaf => true
  | .node _ v l r => p v && l.all p && r.all p
theorem Tr.get_all {α : Type} {p : Nat → α → Prop} : ∀ (t : Tr α), t.All p → ∀ n v, t.get n = some v → p n v
  | .leaf, _, n, v, h => by simp [Tr.get] at h
  | .node k u l r, hp, n, v, h => by
    obtain ⟨h1, h2, h3⟩ := hp
    simp only [Tr.get] at h
    cases e : n.beq k with
    | true =>
      simp only [e, cond_true, Option.some.injEq] at h
      have := Nat.eq_of_beq_eq_true e
      subst this; subst h; exact h1
    | false =>
      simp only [e, cond_false] at h
      cases e2 : n.blt k with
      | true => simp only [e2, cond_true] at h; exact Tr.get_all l h2 n v h
      | false => simp only [e2, cond_false] at h; exact Tr.get_all r h3 n v h
theorem Tr.get_allB {α : Type} {p : α → Bool} : ∀ (t : Tr α), t.all p = true → ∀ n v, t.get n = some v → p v = true
  | .leaf, _, n, v, h => by simp [Tr.get] at h
  | .node k u l r, hp, n, v, h => by
    simp only [Tr.all, Bool.and_eq_true] at hp
    obtain ⟨⟨h1, h2⟩, h3⟩ := hp
    simp only [Tr.get] at h
    cases e : n.beq k with
    | true =>
      simp only [e, cond_true, Option.some.injEq] at h
      subst h; exact h1
    | false =>
      simp only [e, cond_false] at h
      cases e2 : n.blt k with
      | true => simp only [e2, cond_true] at h; exact Tr.get_allB l h2 n v h
      | false => simp only [e2, cond_false] at h; exact Tr.get_allB r h3 n v h

def bodyOk (f : Func) : Bool :=
  match f.body with
  | some c => drawsOk c
  | none => true

/-- a program's tables, apart from contracts -/
structure Base where
  P : Program
  F : Tr Func
  T : Tr TypeInfo
  shared : FuncId → Bool
structure BaseOk (B : Base) : Prop where
  tab : B.T.All fun n i => B.P.types[n]? = some i
  orders : B.P.follows .mixedOrders = true
  funcs : B.F.All fun n f => B.P.funcs[n]? = some f ∧ ∀ (args : Array Value) (w : World), (callFunc n args).run B.P w = .ok (.enter n args) w
  draws : B.F.all bodyOk = true
def Base.cfg (B : Base) (orc : FuncId → List PV → Option (List PV)) : Cfg := { P := B.P, T := B.T.get, F := B.F.get, shared := B.shared, orc := orc }
abbrev SO := Tr (List PV → (Nat → Option Blk) → Option (List PV × Option (Nat × Blk)))
/-- with functions on the caller's memory that are known by contracts -/
def Base.cfgS (B : Base) (so : SO) (orc : FuncId → List PV → Option (List PV)) : Cfg := { P := B.P, T := B.T.get, F := B.F.get, shared := B.shared, orc := orc, sorc := so.get }
theorem info_of {P : Program} {n : Nat} {i : TypeInfo} (h : P.types[n]? = some i) : P.info? n = some i := by
  unfold Tables.info?
  rw [if_pos (Array.getElem?_eq_some_iff.1 h).1]
  exact h
theorem BaseOk.cfg {B : Base} (h : BaseOk B) {orc : FuncId → List PV → Option (List PV)} (ho : ∀ g, Spec B.P g (orc g)) : CfgOk (B.cfg orc) where
  tab := fun t i e => info_of (Tr.get_all _ h.tab t i e)
  orders := h.orders
  funcs := fun g fn e => Tr.get_all _ h.funcs g fn e
  draws := fun g fn c e hb => by
    have := Tr.get_allB _ h.draws g fn e
    unfold bodyOk at this
    rw [hb] at this
    exact this
  orc := OrcOk.of ho
  sorc := fun _ _ h => by cases h
theorem BaseOk.cfgS {B : Base} (h : BaseOk B) {so : SO} (hs : so.All fun n f => SOk B.P n f) {orc : FuncId → List PV → Option (List PV)} (ho : ∀ g, Spec B.P g (orc g)) : CfgOk (B.cfgS so orc) where
  tab := fun t i e => info_of (Tr.get_all _ h.tab t i e)
  orders := h.orders
  funcs := fun g fn e => Tr.get_all _ h.funcs g fn e
  draws := fun g fn c e hb => by
    have := Tr.get_allB _ h.draws g fn e
    unfold bodyOk at this
    rw [hb] at this
    exact this
  orc := OrcOk.of ho
  sorc := fun g f e => Tr.get_all _ hs g f e

end Go.Ab
