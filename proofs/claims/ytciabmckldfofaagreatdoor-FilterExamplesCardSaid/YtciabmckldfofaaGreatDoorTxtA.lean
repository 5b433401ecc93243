/- The walk of filter.text, and contracts of it and of strings.IndexAny on ASCII. -/
import Derived.Test.YtciabmckldfofaaGreatDoorLib
import Derived.WalkKit
import Derived.BigCall
import Derived.Test.YtciabmckldfofaaGreatDoorNumE
import Derived.Test.YtciabmckldfofaaGreatDoorAbC
set_option linter.unusedSimpArgs false
set_option linter.unusedVariables false
namespace Go.Proofs.YtciabmckldfofaaGreatDoor
open Go Go.RowKit

/-- a simplex as a text -/
def textL (vs : List Nat) : List UInt8 := vs.flatMap fun v => 32 :: Lib.decDigits v
theorem textL_snoc (vs : List Nat) (v : Nat) : textL (vs ++ [v]) = textL vs ++ (32 :: Lib.decDigits v) := by simp [textL]
theorem decDigits_le (v : Nat) (h : v < 100) : (Lib.decDigits v).length ≤ 2 := by
  have : ∀ v, v < 100 → (Lib.decDigits v).length ≤ 2 := by decide +kernel
  exact this v h
theorem textL_le (vs : List Nat) (h : ∀ v ∈ vs, v < 100) : (textL vs).length ≤ 3 * vs.length := by
  induction vs with
  | nil => simp [textL]
  | cons v vs ih =>
    have h1 := ih fun x hx => h x (by simp [hx])
    have h2 := decDigits_le v (h v (by simp))
    simp only [textL, List.flatMap_cons, List.length_append, List.length_cons] at h1 ⊢
    omega
theorem byteCells_snoc (l : List UInt8) : Lib.byteCells l ++ [.int .u8 32] = Lib.byteCells (l ++ [32]) := by
  rw [Lib.byteCells_append]; rfl

set_option maxHeartbeats 4000000 in
set_option maxRecDepth 100000 in
theorem text_walk (b off n cap : Nat) (vs : List Nat) (w : World) (hn : vs.length = n) (h5 : n ≤ 1000) (hv : ∀ v ∈ vs, v < 100) (hc : ∀ k v, vs[k]? = some v → w.cell? ⟨b, off + k, none⟩ = some (.int .i64 (v : Nat))) :
    Calls Tryz.prog 80 #[.slice (some ⟨b, off, none⟩) n cap] w fun e w' => e = .returned (.string ⟨(textL vs).toArray⟩) ∧ Below w.heap.size w w' := by
  have hw1 : ∀ k : Nat, k < n → IntKind.i64.wrap ((k : Int) + 1) = (k : Int) + 1 := fun k hk => by unfold IntKind.wrap IntKind.bits IntKind.signed; simp; omega
  go_enter Tryz.func80, Tryz.ntmps80
  go_wp2
  go_loopw [8] (fun i wr => ∃ k : Nat, k ≤ n ∧ i = .int .i64 k ∧ Lib.IsBuilderF 153 5 w.heap.size w.heap.size (Lib.byteCells (textL (vs.take k))) wr ∧ Below w.heap.size w wr) (fun i _ => n - (intOf i).toNat)
  case atStart =>
    exact ⟨0, Nat.zero_le _, rfl, Lib.IsBuilderF.of (Lib.fresh_isBuilder 153 5 w), (Below.refl _ w).alloc (Nat.le_refl _) _⟩
  case round =>
    obtain ⟨k, hk, rfl, hI, hb⟩ := hrel
    have hsz := hb.size
    by_cases hlt : k < n
    · obtain ⟨v, hv0⟩ : ∃ v, vs[k]? = some v := ⟨_, List.getElem?_eq_getElem (by omega)⟩
      have hv1 : v < 100 := hv v (List.mem_of_getElem? hv0)
      have hcx : wr.cell? ⟨b, off + k, none⟩ = some (.int .i64 (v : Nat)) := (hb.cell (p := ⟨b, off + k, none⟩) (World.block_lt_of_cell? _ _ (hc k v hv0))).trans (hc k v hv0)
      have hle := textL_le (vs.take k) (fun x hx => hv x (List.mem_of_mem_take hx))
      have hl1 : (Lib.byteCells (textL (vs.take k))).length ≤ 3000 := by rw [Lib.byteCells_length]; simp at hle; omega
      have hd2 := decDigits_le v hv1
      have hwk := hw1 k hlt
      have htk : textL (vs.take (k + 1)) = textL (vs.take k) ++ [32] ++ Lib.decDigits v := by
        rw [List.take_succ_eq_append_getElem (by omega), textL_snoc, List.append_assoc]
        have : vs[k] = v := by simpa [List.getElem?_eq_getElem (show k < vs.length by omega)] using hv0
        rw [this]; rfl
      go_wp2_with (go_at_call 150; refine (Tryz.Builder_WriteByte_k w.heap.size w.heap.size _ 32 _ hI (by omega) hsz).mono ?_)
      rintro e W1 ⟨rfl, h1, b1, k1⟩
      have h1' : Lib.IsBuilderF 153 5 w.heap.size w.heap.size (Lib.byteCells (textL (vs.take k) ++ [32])) W1 := by
        rw [byteCells_snoc] at h1; exact Or.inr h1
      have hsz1 : w.heap.size ≤ W1.heap.size := Nat.le_trans hsz b1.size
      go_wp2_with (first
        | (go_at_call 151; refine (Tryz.strconv_Itoa_small v hv1 _).mono ?_; rintro e w' ⟨rfl, rfl⟩)
        | (go_at_call 94; refine (Tryz.Builder_WriteString_k w.heap.size w.heap.size _ ⟨(Lib.decDigits v).toArray⟩ _ h1' ?c1 hsz1).mono ?_))
      case c1 =>
        rw [Lib.byteCells_length]; rw [Lib.byteCells_length] at hl1
        simp [ByteArray.size]; omega
      rintro e W2 ⟨rfl, h2, b2, k2⟩
      go_wp2
      go_roundw
      case rel =>
        refine ⟨k + 1, by omega, by simp [hwk], ?_, hb.trans (b1.trans b2)⟩
        rw [htk]
        rw [Lib.strCells_eq, ← Lib.byteCells_append] at h2
        exact Or.inr (by simpa using h2)
      case measure => simp [intOf, hwk]; omega
    · have hkn : k = n := by omega
      subst hkn
      have ht : vs.take k = vs := List.take_of_length_le (by omega)
      rw [ht] at hI
      go_wp2_with (go_at_call 96; refine (Tryz.Builder_String_any_k w.heap.size w.heap.size (textL vs) _ hI hsz).mono ?_)
      rintro e W1 ⟨rfl, _, b1, _⟩
      go_wp2
      go_ret
      exact ⟨rfl, hb.trans b1⟩
end Go.Proofs.YtciabmckldfofaaGreatDoor
namespace Go.Proofs.YtciabmckldfofaaGreatDoor
open Go Go.Ab Go.RowKit

def nats? : List PV → Option (List Nat)
  | [] => some []
  | .sc (.int .i64 (.ofNat n)) :: r => bif n.blt 100 then (match nats? r with
    | some l => some (n :: l)
    | none => none) else none
  | _ => none
theorem nats?_some : ∀ {cs : List PV} {l : List Nat}, nats? cs = some l → cs = l.map (fun n => PV.sc (.int .i64 (n : Nat))) ∧ ∀ v ∈ l, v < 100
  | [], l, h => by simp [nats?] at h; subst h; exact ⟨rfl, fun _ h => by cases h⟩
  | c :: cs, l, h => by
    unfold nats? at h
    split at h
    · rename_i e; cases e
    · rename_i n r e
      cases e
      cases hb : n.blt 100 with
      | false => rw [hb] at h; cases h
      | true =>
        rw [hb] at h
        simp only [cond_true] at h
        split at h
        · rename_i l' e'
          simp at h; subst h
          obtain ⟨h1, h2⟩ := nats?_some e'
          rw [h1]
          refine ⟨rfl, fun v hv => ?_⟩
          rcases List.mem_cons.1 hv with rfl | hv
          · simpa [Nat.blt_eq] using hb
          · exact h2 v hv
        · cases h
    · cases h
def textF : List PV → Option (List PV)
  | [.imm n _ cs] => match nats? cs with
    | some l => bif n.beq l.length && (n.ble 1000 && Nat.blt 0 n) then some [.sc (.string (mkStr (textL l)))] else none
    | none => none
  | _ => none
theorem vs1 {w : World} {M : Nat → Prop} {p : PV} {vs : List Value} (h : Vs w M [] NoL [p] vs) : ∃ v, vs = [v] ∧ V w M [] NoL p v := by
  obtain ⟨h1, h2⟩ := h
  match vs, h1 with
  | [u], _ => exact ⟨u, rfl, h2 0 _ u rfl rfl⟩
theorem imm_inv {w : World} {M : Nat → Prop} {n : Nat} {x : Bool} {cs : List PV} {v : Value} (h : V w M [] NoL (.imm n x cs) v) (h0 : cs ≠ []) :
    ∃ b off cap, v = .slice (some ⟨b, off, none⟩) n cap ∧ n ≤ cap ∧ ∀ (k : Nat) c, cs[k]? = some c → ∃ u, w.cell? ⟨b, off + k, none⟩ = some u ∧ V w M [] NoL c u := by
  cases h with
  | nil => exact absurd rfl h0
  | imm _ _ _ a cap g h1 h2 h3 h4 =>
    obtain ⟨c, r, rfl⟩ := List.exists_cons_of_ne_nil h0
    have hs := (h3 0 c rfl).1
    obtain ⟨ab, ao, asp⟩ := a
    simp at hs
    subst hs
    exact ⟨ab, ao, cap, rfl, h1, fun k c hk => ⟨g k, (h3 k c hk).2.2.2, h4 k c hk⟩⟩
theorem text_spec : Ab.Spec base.P 80 textF := spec_enter (P := Tryz.prog) Tryz.call80 fun args rs h => by
  unfold textF at h
  split at h
  · rename_i n x cs
    split at h
    · rename_i l hl
      cases hb : (n.beq l.length && (n.ble 1000 && Nat.blt 0 n)) with
      | false => rw [hb] at h; cases h
      | true =>
        rw [hb] at h
        simp only [cond_true, Option.some.injEq] at h
        subst h
        simp only [Bool.and_eq_true, Nat.ble_eq, Nat.beq_eq, Nat.blt_eq] at hb
        obtain ⟨h1, h2⟩ := nats?_some hl
        refine ⟨rfl, fun w M vs hvs => ?_⟩
        obtain ⟨v, rfl, hv⟩ := vs1 hvs
        obtain ⟨b, off, cap, rfl, h3, h4⟩ := imm_inv hv (by rw [h1]; intro e; simp at e; subst e; simp at hb; omega)
        refine ⟨_, text_walk b off n cap l w hb.1.symm hb.2.1 h2 (fun k v hk => ?_), ?_⟩
        · obtain ⟨u, h5, h6⟩ := h4 k (.sc (.int .i64 (v : Nat))) (by rw [h1, List.getElem?_map, hk]; rfl)
          cases h6
          exact h5
        · rintro e w' ⟨rfl, hw⟩
          exact ⟨[_], rfl, vs_sc _ M _, Old.below hw⟩
    · cases h
  · cases h
/-! strings.IndexAny, of ASCII -/
def asciiB : List UInt8 → Bool
  | [] => true
  | a :: l => a.toNat.blt 128 && asciiB l
theorem asciiB_get : ∀ {l : List UInt8}, asciiB l = true → ∀ (j : Nat) b, l[j]? = some b → b.toNat < 128
  | [], _, j, b, h => by simp at h
  | a :: l, h, j, b, hj => by
    simp only [asciiB, Bool.and_eq_true, Nat.blt_eq] at h
    cases j with
    | zero => simp at hj; subst hj; exact h.1
    | succ j => exact asciiB_get h.2 j b (by simpa using hj)
def iaF : List PV → Option (List PV)
  | [.sc (.string s), .sc (.string c)] => bif asciiB (strL s) && (asciiB (strL c) && ((strL s).length.ble 100000000 && (strL c).length.ble 100000000)) then some [.sc (.int .i64 (Lib.indexAny (strL s) (strL c)))] else none
  | _ => none
theorem ia_spec : Ab.Spec base.P 143 iaF := spec_enter (P := Tryz.prog) Tryz.call143 fun args rs h => by
  unfold iaF at h
  split at h
  · rename_i s c
    cases hb : asciiB (strL s) && (asciiB (strL c) && ((strL s).length.ble 100000000 && (strL c).length.ble 100000000)) with
    | false => rw [hb] at h; cases h
    | true =>
      rw [hb] at h
      simp only [cond_true, Option.some.injEq] at h
      subst h
      simp only [Bool.and_eq_true, Nat.ble_eq] at hb
      obtain ⟨h1, h2, h3, h4⟩ := hb
      refine ⟨rfl, fun w M vs hvs => ?_⟩
      rw [vs2 hvs]
      refine ⟨_, Tryz.strings_IndexAny_laid s c w (by rw [← strL_length]; omega) (by rw [← strL_length]; omega) (asciiB_get h1) (asciiB_get h2), ?_⟩
      rintro e w' ⟨rfl, hw⟩
      exact ⟨[_], rfl, vs_sc _ M _, Old.below hw⟩
  · cases h
end Go.Proofs.YtciabmckldfofaaGreatDoor
