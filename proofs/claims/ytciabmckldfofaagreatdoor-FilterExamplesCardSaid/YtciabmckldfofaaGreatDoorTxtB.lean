/- The walk of filter.Format, and its contract where Check tells no error. -/
import Derived.Test.YtciabmckldfofaaGreatDoorTxtA
import Derived.Test.YtciabmckldfofaaGreatDoorAbE
set_option linter.unusedSimpArgs false
set_option linter.unusedVariables false
namespace Go.Proofs.YtciabmckldfofaaGreatDoor
open Go Go.Ab Go.RowKit

/-- cells as a text -/
def fmtL (l : List (List Nat × ByteArray)) : List UInt8 := l.flatMap fun x => strL x.2 ++ textL x.1 ++ [10]
theorem fmtL_snoc (l : List (List Nat × ByteArray)) (x : List Nat × ByteArray) : fmtL (l ++ [x]) = fmtL l ++ (strL x.2 ++ textL x.1 ++ [10]) := by simp [fmtL]
theorem fmtL_mem : ∀ (l : List (List Nat × ByteArray)) (k : Nat) x, l[k]? = some x → (fmtL (l.take k)).length + ((strL x.2).length + (textL x.1).length + 1) ≤ (fmtL l).length
  | [], k, x, h => by simp at h
  | y :: l, 0, x, h => by
    simp at h; subst h
    simp [fmtL]; omega
  | y :: l, k + 1, x, h => by
    have := fmtL_mem l k x (by simpa using h)
    simp only [fmtL, List.take_succ_cons, List.flatMap_cons, List.length_append] at this ⊢
    omega
/-- where a cell lies -/
def CellAt (w : World) (b off : Nat) (x : List Nat × ByteArray) : Prop :=
  w.cell? ⟨b, off + 1, none⟩ = some (.string x.2) ∧ ∃ bk ok ck, w.cell? ⟨b, off, none⟩ = some (.slice (some ⟨bk, ok, none⟩) x.1.length ck) ∧ x.1.length ≤ 1000 ∧ (∀ v ∈ x.1, v < 100) ∧ ∀ (k : Nat) v, x.1[k]? = some v → w.cell? ⟨bk, ok + k, none⟩ = some (.int .i64 (v : Nat))

theorem builder_below {T e : TypeId} {B b : Nat} {bs : List Value} {w w' : World} (h : Lib.IsBuilderF T e B b bs w) (hb : Below w.heap.size w w') : Lib.IsBuilderF T e B b bs w' := by
  have key : ∀ p, Lib.BuilderAtF T e B b p bs w → Lib.BuilderAtF T e B b p bs w' := fun p h => by
    have hlt := h.lt
    obtain ⟨hB, v, h1, hown, hne⟩ := h
    exact ⟨hB, v, (hb.block b hlt).trans h1, hown.kept (row := none) ⟨hb.os, hb.tape, hb.output, hb.size, fun k hk _ => hb.block k hk⟩ (by cases hv : v.ownBlock <;> simp), hne⟩
  exact h.imp (key _) (key _)

theorem size3 (s : ByteArray) (l : List UInt8) : (s ++ (⟨l.toArray⟩ : ByteArray) ++ ⟨#[10]⟩).size = s.size + l.length + 1 := by
  rw [ByteArray.size_append, ByteArray.size_append]
  show s.size + l.toArray.size + 1 = _
  rw [List.size_toArray]
theorem strL3 (s : ByteArray) (l : List UInt8) : strL (s ++ (⟨l.toArray⟩ : ByteArray) ++ ⟨#[10]⟩) = strL s ++ l ++ [10] := by
  simp [strL]
theorem fmt_write {B b : Nat} {acc : List UInt8} {W1 W : World} {s : ByteArray} (hI : Lib.IsBuilderF 153 5 B b (Lib.byteCells acc) W1) (hW : Below W1.drew.heap.size W1.drew W) (hlen : acc.length + s.size ≤ 140737488355328) (hB : B ≤ W1.heap.size) :
    Calls Tryz.prog 94 #[.pointer (some ⟨b, 0, none⟩), .string s] W fun e w' => e = .returned (.tuple #[.int .i64 s.size, .nilIface]) ∧ Lib.IsBuilderF 153 5 B b (Lib.byteCells (acc ++ strL s)) w' ∧ Below B W1 w' ∧ W1.heap.size ≤ w'.heap.size := by
  have hI2 : Lib.IsBuilderF 153 5 B b (Lib.byteCells acc) W1.drew := hI.imp (fun h => h.drew) (fun h => h.drew)
  have hI3 : Lib.IsBuilderF 153 5 B b (Lib.byteCells acc) W := builder_below hI2 hW
  have hsz : W1.heap.size ≤ W.heap.size := hW.size
  refine (Tryz.Builder_WriteString_k B b _ s W hI3 (by rw [Lib.byteCells_length]; exact hlen) (Nat.le_trans hB hsz)).mono ?_
  rintro e w' ⟨rfl, h3, b3, _⟩
  refine ⟨rfl, ?_, ?_, Nat.le_trans hsz b3.size⟩
  · rw [Lib.byteCells_append]
    rw [Lib.strCells_eq] at h3
    exact Or.inr h3
  · have h4 : Below B W1 W1.drew := (Below.refl B W1).drew
    exact h4.trans ((hW.mono hB).trans b3)

set_option maxHeartbeats 4000000 in
set_option maxRecDepth 100000 in
theorem format_walk (b off n cap : Nat) (l : List (List Nat × ByteArray)) (w : World) (hn : l.length = n) (hn2 : n ≤ 2000) (hlen : (fmtL l).length ≤ 100000000) (hc : ∀ k x, l[k]? = some x → CellAt w b (off + k * 2) x)
    (hck : Calls Tryz.prog 26 #[.slice (some ⟨b, off, none⟩) n cap] w fun e w' => e = .returned (.int .i64 0) ∧ Below w.heap.size w w') :
    Calls Tryz.prog 67 #[.slice (some ⟨b, off, none⟩) n cap] w fun e w' => e = .returned (.tuple (if 65536 < (fmtL l).length then #[.string ⟨#[]⟩, .int .i64 3] else #[.string ⟨(fmtL l).toArray⟩, .int .i64 0])) ∧ Below w.heap.size w w' := by
  have hw1 : ∀ k : Nat, k < n → IntKind.i64.wrap ((k : Int) + 1) = (k : Int) + 1 := fun k hk => by unfold IntKind.wrap IntKind.bits IntKind.signed; simp; omega
  go_enter Tryz.func67, Tryz.ntmps67
  go_wp2_with (go_at_call 26; refine hck.mono ?_)
  rintro e W0 ⟨rfl, hb0⟩
  go_wp2
  go_loopw [15] (fun i wr => ∃ k : Nat, k ≤ n ∧ i = .int .i64 k ∧ Lib.IsBuilderF 153 5 w.heap.size W0.heap.size (Lib.byteCells (fmtL (l.take k))) wr ∧ Below w.heap.size w wr ∧ W0.heap.size ≤ wr.heap.size) (fun i _ => n - (intOf i).toNat)
  case atStart =>
    exact ⟨0, Nat.zero_le _, rfl, Lib.IsBuilderF.of (Or.inl ⟨hb0.size, .slice none 0 0, heap_alloc_new W0 _, World.ownsRow_nil _ _ _ _, by simp [Value.ownBlock]⟩), hb0.alloc hb0.size _, by simp⟩
  case round =>
    obtain ⟨k, hk, rfl, hI, hb, hszW⟩ := hrel
    have hsz := hb.size
    by_cases hlt : k < n
    · obtain ⟨x, hx0⟩ : ∃ x, l[k]? = some x := ⟨_, List.getElem?_eq_getElem (by omega)⟩
      obtain ⟨cat, bk, ok, ck, cs, hxl, hxv, hxc⟩ := hc k x hx0
      have cat' : wr.cell? ⟨b, off + k * 2 + 1, none⟩ = some (.string x.2) := (hb.cell (p := ⟨b, off + k * 2 + 1, none⟩) (World.block_lt_of_cell? _ _ cat)).trans cat
      have cs' : wr.cell? ⟨b, off + k * 2, none⟩ = some (.slice (some ⟨bk, ok, none⟩) x.1.length ck) := (hb.cell (p := ⟨b, off + k * 2, none⟩) (World.block_lt_of_cell? _ _ cs)).trans cs
      have hwk := hw1 k hlt
      go_wp2_with fail
      have c0 : (wr.alloc (Obj.cells #[Value.slice (some { block := bk, off := ok }) x.fst.length ck, Value.string x.snd] 49)).cell? ⟨wr.heap.size, 0, none⟩ = some (.slice (some ⟨bk, ok, none⟩) x.1.length ck) := by simp [World.cell?_alloc_new]
      have c1 : (wr.alloc (Obj.cells #[Value.slice (some { block := bk, off := ok }) x.fst.length ck, Value.string x.snd] 49)).cell? ⟨wr.heap.size, 1, none⟩ = some (.string x.2) := by simp [World.cell?_alloc_new]
      have hI1 := hI.alloc (Obj.cells #[Value.slice (some { block := bk, off := ok }) x.fst.length ck, Value.string x.snd] 49)
      have hb1 : Below w.heap.size w (wr.alloc (Obj.cells #[Value.slice (some { block := bk, off := ok }) x.fst.length ck, Value.string x.snd] 49)) := hb.alloc hsz _
      have hsz1 : (wr.alloc (Obj.cells #[Value.slice (some { block := bk, off := ok }) x.fst.length ck, Value.string x.snd] 49)).heap.size = wr.heap.size + 1 := by simp
      generalize hW1 : wr.alloc (Obj.cells #[Value.slice (some { block := bk, off := ok }) x.fst.length ck, Value.string x.snd] 49) = W1 at *
      have hxc1 : ∀ (k : Nat) v, x.1[k]? = some v → W1.cell? ⟨bk, ok + k, none⟩ = some (.int .i64 (v : Nat)) := fun k v h => (hb1.cell (p := ⟨bk, ok + k, none⟩) (World.block_lt_of_cell? _ _ (hxc k v h))).trans (hxc k v h)
      obtain ⟨T, hT⟩ : ∃ T : ByteArray, T = ⟨(textL x.1).toArray⟩ := ⟨_, rfl⟩
      have hTs : T.size = (textL x.1).length := by rw [hT]; simp [ByteArray.size]
      have hfm := fmtL_mem l k x hx0
      have hle0 := hlen
      have hxs : (strL x.2).length = x.2.size := strL_length _
      have hs1 : x.snd.size + T.size ≤ 9223372036854775807 := by omega
      have hs2 : x.snd.size + T.size + 1 ≤ 9223372036854775807 := by omega
      have hct : ∀ W : World, W.heap = W1.heap → Calls Tryz.prog 80 #[.slice (some ⟨bk, ok, none⟩) x.1.length ck] W fun e w' => e = .returned (.string T) ∧ Below W.heap.size W w' := fun W hW => by
        rw [hT]
        exact text_walk bk ok x.1.length ck x.1 W rfl hxl hxv fun k v h => by
          rw [cell?_same (w := W1) (w' := W) (by rw [hW])]; exact hxc1 k v h
      have hcw : ∀ W : World, Below W1.drew.heap.size W1.drew W → Calls Tryz.prog 94 #[.pointer (some ⟨W0.heap.size, 0, none⟩), .string (x.snd ++ ⟨(textL x.1).toArray⟩ ++ ⟨#[10]⟩)] W fun e w' => e = .returned (.tuple #[.int .i64 (x.snd ++ ⟨(textL x.1).toArray⟩ ++ ⟨#[10]⟩ : ByteArray).size, .nilIface]) ∧ Lib.IsBuilderF 153 5 w.heap.size W0.heap.size (Lib.byteCells (fmtL (l.take k) ++ strL (x.snd ++ ⟨(textL x.1).toArray⟩ ++ ⟨#[10]⟩ : ByteArray))) w' ∧ Below w.heap.size W1 w' ∧ W1.heap.size ≤ w'.heap.size :=
        fun W hW => fmt_write hI1 hW (by rw [size3]; omega) (by omega)
      have e1 : fmtL (l.take (k + 1)) = fmtL (l.take k) ++ strL (x.snd ++ ⟨(textL x.1).toArray⟩ ++ ⟨#[10]⟩ : ByteArray) := by
        rw [List.take_succ_eq_append_getElem (by omega), fmtL_snoc, strL3]
        have : l[k] = x := by simpa [List.getElem?_eq_getElem (show k < l.length by omega)] using hx0
        rw [this]
      rw [← e1] at hcw
      clear e1
      clear hxc hxc1 cat cs cat' cs' hck hc
      go_region_with (first
        | (go_at_call 80; refine (hct W1.drew rfl).mono ?_; rintro e W2 ⟨rfl, hb2⟩; have c2 := (hb2.cell (p := ⟨wr.heap.size, 1, none⟩) (by have := hsz1; show wr.heap.size < W1.drew.heap.size; simp; omega)).trans (show W1.drew.cell? ⟨wr.heap.size, 1, none⟩ = some (.string x.2) from c1))
        | (go_at_call 94; refine (hcw W2 hb2).mono ?_; rintro e W3 ⟨rfl, h3, b3, s3⟩))
      all_goals
        have b4 : Below w.heap.size w W3 := hb1.trans b3
        have s4 : W0.heap.size ≤ W3.heap.size := by omega
        clear hct hcw
        go_wp2
        go_roundw
        case rel => exact ⟨k + 1, by omega, by simp [hwk], h3, b4, s4⟩
        case measure => simp [intOf, hwk]; omega
    · have hkn : k = n := by omega
      subst hkn
      have ht : l.take k = l := List.take_of_length_le (by omega)
      rw [ht] at hI
      have hlB : (Lib.byteCells (fmtL l)).length = (fmtL l).length := Lib.byteCells_length _
      by_cases hbig : 65536 < (fmtL l).length
      · go_wp2_with (go_at_call 95; refine (Tryz.Builder_Len_f w.heap.size W0.heap.size _ _ hI).mono ?_; rintro e w' ⟨rfl, rfl⟩)
        go_ret2
        exact ⟨rfl, hb⟩
      · go_wp2_with (first
          | (go_at_call 95; refine (Tryz.Builder_Len_f w.heap.size W0.heap.size _ _ hI).mono ?_; rintro e w' ⟨rfl, rfl⟩)
          | (go_at_call 96; refine (Tryz.Builder_String_any_k w.heap.size W0.heap.size (fmtL l) _ hI hsz).mono ?_))
        rintro e W1 ⟨rfl, _, b1, _⟩
        go_wp2
        go_ret2
        exact ⟨rfl, hb.trans b1⟩
end Go.Proofs.YtciabmckldfofaaGreatDoor
namespace Go.Proofs.YtciabmckldfofaaGreatDoor
open Go Go.Ab Go.RowKit
def cells? : List PV → Option (List (List Nat × ByteArray))
  | [] => some []
  | .imm n _ cs :: .sc (.string s) :: r => match nats? cs, cells? r with
    | some l, some m => bif n.beq l.length && (n.ble 1000 && Nat.blt 0 n) then some ((l, s) :: m) else none
    | _, _ => none
  | _ => none
theorem cells?_some {w : World} {M : Nat → Prop} (b off : Nat) : ∀ {cs : List PV} {l : List (List Nat × ByteArray)}, cells? cs = some l → (∀ (k : Nat) c, cs[k]? = some c → ∃ u, w.cell? ⟨b, off + k, none⟩ = some u ∧ V w M [] NoL c u) →
    cs.length = 2 * l.length ∧ ∀ k x, l[k]? = some x → CellAt w b (off + k * 2) x
  | [], l, h, _ => by simp [cells?] at h; subst h; exact ⟨rfl, fun k x h => by simp at h⟩
  | c :: cs, l, h, hc => by
    unfold cells? at h
    split at h
    · rename_i e; cases e
    · rename_i n x0 cs0 s r e
      cases e
      split at h
      · rename_i l0 m e1 e2
        cases hb : (n.beq l0.length && (n.ble 1000 && Nat.blt 0 n)) with
        | false => rw [hb] at h; cases h
        | true =>
          rw [hb] at h
          simp only [cond_true, Option.some.injEq] at h
          subst h
          simp only [Bool.and_eq_true, Nat.ble_eq, Nat.beq_eq, Nat.blt_eq] at hb
          obtain ⟨h1, h2⟩ := nats?_some e1
          obtain ⟨h3, h4⟩ := cells?_some (w := w) (M := M) b (off + 2) e2 fun k c hk => by
            have := hc (k + 2) c (by simpa using hk)
            rwa [show off + (k + 2) = off + 2 + k by omega] at this
          refine ⟨by simp [h3]; omega, fun k x hk => ?_⟩
          cases k with
          | zero =>
            simp at hk; subst hk
            obtain ⟨u0, q1, q2⟩ := hc 0 _ rfl
            obtain ⟨u1, q3, q4⟩ := hc 1 _ rfl
            cases q4
            obtain ⟨bk, ok, ck, rfl, q5, q6⟩ := imm_inv q2 (by rw [h1]; intro e; simp at e; subst e; simp at hb; omega)
            refine ⟨by simpa using q3, bk, ok, ck, by rw [hb.1] at q1; simpa using q1, by show l0.length ≤ 1000; omega, h2, fun k v hk => ?_⟩
            obtain ⟨u, q7, q8⟩ := q6 k (.sc (.int .i64 (v : Nat))) (by rw [h1, List.getElem?_map, hk]; rfl)
            cases q8
            exact q7
          | succ k =>
            have := h4 k x (by simpa using hk)
            rwa [show off + 2 + k * 2 = off + (k + 1) * 2 by omega] at this
      · cases h
    · cases h
noncomputable def formatF (ckF : List PV → Option (List PV)) : List PV → Option (List PV) := fun args => match args with
  | [.imm n x cs] => match cells? cs with
    | some l => match ckF [.imm n x cs] with
      | some [.sc (.int .i64 (.ofNat 0))] => bif n.beq l.length && (n.ble 2000 && (Nat.blt 0 n && (fmtL l).length.ble 65536)) then some [.sc (.string (mkStr (fmtL l))), .sc (.int .i64 (Int.ofNat 0))] else none
      | _ => none
    | none => none
  | _ => none
theorem spec_enter2 {P : Program} {g : FuncId} {f : List PV → Option (List PV)} (he : ∀ (args : Array Value) (w : World), (callFunc g args).run P w = .ok (.enter g args) w)
    (h : ∀ args rs, f args = some rs → idfreeL args = true → idfreeL rs = true ∧ ∀ (w : World) (M : Nat → Prop) (vs : List Value), (∀ b, M b → b < w.heap.size) → Vs w M [] NoL args vs →
      ∃ post : Ending → World → Prop, Calls P g vs.toArray w post ∧ ∀ e w', post e w' → ∃ us, e = .returned (retV us) ∧ Vs w' M [] NoL rs us ∧ Old w w') : Ab.Spec P g f := by
  intro args rs hf hi
  obtain ⟨h1, h2⟩ := h args rs hf hi
  refine ⟨h1, fun w M vs hM hvs => ?_⟩
  obtain ⟨post, h3, h4⟩ := h2 w M vs hM hvs
  unfold CallOk
  rw [he]
  refine h3.mono fun e w' hh => ?_
  obtain ⟨us, h5, h6⟩ := h4 e w' hh
  exact ⟨_, h5, us, rfl, h6⟩
theorem format_spec {ckF : List PV → Option (List PV)} (hck : Ab.Spec base.P 26 ckF) : Ab.Spec base.P 67 (formatF ckF) := spec_enter2 (P := Tryz.prog) Tryz.call67 fun args rs h hi => by
  unfold formatF at h
  split at h
  · rename_i n x cs
    split at h
    · rename_i l hl
      split at h
      · rename_i hc
        cases hb : (n.beq l.length && (n.ble 2000 && (Nat.blt 0 n && (fmtL l).length.ble 65536))) with
        | false => rw [hb] at h; cases h
        | true =>
          rw [hb] at h
          simp only [cond_true, Option.some.injEq] at h
          subst h
          simp only [Bool.and_eq_true, Nat.ble_eq, Nat.beq_eq, Nat.blt_eq] at hb
          obtain ⟨hb1, hb2, hb3, hb4⟩ := hb
          refine ⟨rfl, fun w M vs hM hvs => ?_⟩
          have hcalls := hck.calls Tryz.call26 hc hi hM hvs
          obtain ⟨v, rfl, hv⟩ := vs1 hvs
          have hne : cs ≠ [] := by
            intro e
            subst e
            simp [cells?] at hl
            subst hl
            simp at hb1; omega
          obtain ⟨b, off, cap, rfl, h3, h4⟩ := imm_inv hv hne
          obtain ⟨h5, h6⟩ := cells?_some b off hl h4
          have hw := format_walk b off n cap l w hb1.symm hb2 (by omega) h6 (hcalls.mono fun e w' ⟨us, e1, h7, h8⟩ => by
            obtain ⟨q1, q2⟩ := h7
            match us, q1 with
            | [u], _ =>
              have := q2 0 _ u rfl rfl
              cases this
              exact ⟨e1, h8.os, h8.tape, h8.output, h8.size, h8.same⟩)
          refine ⟨_, hw, fun e w' hh => ?_⟩
          obtain ⟨e1, h7⟩ := hh
          rw [if_neg (by omega)] at e1
          refine ⟨[.string ⟨(fmtL l).toArray⟩, .int .i64 0], e1, ⟨rfl, fun k p u e2 e3 => ?_⟩, Old.below h7⟩
          match k, e2, e3 with
          | 0, e2, e3 => simp at e2 e3; subst e2; subst e3; exact .sc _
          | 1, e2, e3 => simp at e2 e3; subst e2; subst e3; exact .sc _
          | k + 2, e2, e3 => simp at e2
      · cases h
    · cases h
  · cases h
end Go.Proofs.YtciabmckldfofaaGreatDoor
