/- Digits, integers and heaps in the interpreter's values; contracts for the evaluator; no condition. -/
import Derived.Test.YtciabmckldfofaaGreatDoorAbD
import Derived.Test.YtciabmckldfofaaGreatDoorAbC
import Derived.Below
set_option linter.unusedSimpArgs false
set_option linter.unusedVariables false
namespace Go.Ab
open Go

/-! digits base 10^9, and their values -/
def val : List Nat → Nat
  | [] => 0
  | a :: l => a + 1000000000 * val l
def digsF : Nat → Nat → List Nat
  | 0, _ => []
  | k + 1, n => if n = 0 then [] else n % 1000000000 :: digsF k (n / 1000000000)
def digs (n : Nat) : List Nat := digsF (n.log2 + 1) n
/-- digits -/
def Dok (l : List Nat) : Prop := ∀ x ∈ l, x < 1000000000
def trimL (l : List Nat) : List Nat := (l.reverse.dropWhile (· == 0)).reverse

theorem Dok.nil : Dok [] := fun _ h => by cases h
theorem Dok.cons {a : Nat} {l : List Nat} (h : a < 1000000000) (h' : Dok l) : Dok (a :: l) := fun x hx => by
  rcases List.mem_cons.1 hx with rfl | hx
  · exact h
  · exact h' x hx
theorem Dok.head {a : Nat} {l : List Nat} (h : Dok (a :: l)) : a < 1000000000 := h a (by simp)
theorem Dok.tail {a : Nat} {l : List Nat} (h : Dok (a :: l)) : Dok l := fun x hx => h x (by simp [hx])
theorem Dok.append {l m : List Nat} (h : Dok l) (h' : Dok m) : Dok (l ++ m) := fun x hx => by
  rcases List.mem_append.1 hx with hx | hx
  · exact h x hx
  · exact h' x hx
theorem Dok.left {l m : List Nat} (h : Dok (l ++ m)) : Dok l := fun x hx => h x (by simp [hx])
theorem Dok.right {l m : List Nat} (h : Dok (l ++ m)) : Dok m := fun x hx => h x (by simp [hx])
theorem Dok.get {l : List Nat} (h : Dok l) {i : Nat} (hi : i < l.length) : l[i] < 1000000000 := h _ (List.getElem_mem hi)
theorem Dok.set {l : List Nat} (h : Dok l) (i : Nat) {y : Nat} (hy : y < 1000000000) : Dok (l.set i y) := fun x hx => by
  rcases List.mem_or_eq_of_mem_set hx with hx | rfl
  · exact h x hx
  · exact hy
theorem Dok.zeros (n : Nat) : Dok (List.replicate n 0) := fun x hx => by
  rw [(List.mem_replicate.1 hx).2]; omega
theorem Dok.take {l : List Nat} (h : Dok l) (n : Nat) : Dok (l.take n) := fun x hx => h x (List.mem_of_mem_take hx)
theorem Dok.drop {l : List Nat} (h : Dok l) (n : Nat) : Dok (l.drop n) := fun x hx => h x (List.mem_of_mem_drop hx)
theorem Dok.of_tail {a : Nat} {l : List Nat} (h : a < 1000000000) (h' : Dok l) : Dok (a :: l) := h'.cons h

theorem val_append (l m : List Nat) : val (l ++ m) = val l + 1000000000 ^ l.length * val m := by
  induction l with
  | nil => simp [val]
  | cons a l ih =>
    simp only [List.cons_append, val, ih, List.length_cons, Nat.pow_succ]
    grind
theorem val_snoc (l : List Nat) (a : Nat) : val (l ++ [a]) = val l + 1000000000 ^ l.length * a := by
  rw [val_append]; simp [val]
theorem val_zeros (n : Nat) : val (List.replicate n 0) = 0 := by
  induction n with
  | zero => rfl
  | succ n ih => simp [List.replicate_succ, val, ih]
theorem val_set (l : List Nat) (i y : Nat) (hi : i < l.length) : val (l.set i y) + l[i] * 1000000000 ^ i = val l + y * 1000000000 ^ i := by
  induction l generalizing i with
  | nil => simp at hi
  | cons a l ih =>
    cases i with
    | zero => simp [val]; omega
    | succ i =>
      have := ih i (by simpa using hi)
      simp only [List.set_cons_succ, val, List.getElem_cons_succ, Nat.pow_succ]
      grind
theorem val_take_succ (l : List Nat) (i : Nat) (hi : i < l.length) : val (l.take (i + 1)) = val (l.take i) + l[i] * 1000000000 ^ i := by
  rw [List.take_succ_eq_append_getElem hi, val_snoc, List.length_take, Nat.min_eq_left (by omega), Nat.mul_comm]
theorem val_lt {l : List Nat} (h : Dok l) : val l < 1000000000 ^ l.length := by
  induction l with
  | nil => simp [val]
  | cons a l ih =>
    have h1 := ih h.tail
    have h2 := h.head
    simp only [val, List.length_cons, Nat.pow_succ]
    omega
theorem val_drop (l : List Nat) (i : Nat) (hi : i ≤ l.length) : val l = val (l.take i) + 1000000000 ^ i * val (l.drop i) := by
  have h := val_append (l.take i) (l.drop i)
  rw [List.take_append_drop, List.length_take, Nat.min_eq_left hi] at h
  exact h

theorem log2_div (n : Nat) (h : n ≠ 0) : (n / 1000000000).log2 + 1 ≤ n.log2 ∨ n / 1000000000 = 0 := by
  by_cases h0 : n / 1000000000 = 0
  · exact .inr h0
  · left
    have h1 : 2 ^ (n / 1000000000).log2 ≤ n / 1000000000 := Nat.log2_self_le h0
    have h2 : 2 ^ ((n / 1000000000).log2 + 1) ≤ n := by
      rw [Nat.pow_succ]; omega
    exact (Nat.le_log2 h).2 h2
theorem digsF_eq : ∀ (k j n : Nat), n.log2 < k → n.log2 < j → digsF k n = digsF j n
  | 0, j, n, h, _ => by omega
  | k + 1, 0, n, _, h => by omega
  | k + 1, j + 1, n, h, h' => by
    unfold digsF
    by_cases hn : n = 0
    · rw [if_pos hn, if_pos hn]
    · rw [if_neg hn, if_neg hn]
      congr 1
      rcases log2_div n hn with h1 | h1
      · exact digsF_eq k j _ (by omega) (by omega)
      · rw [h1]
        cases k <;> cases j <;> simp [digsF]
theorem digs_zero : digs 0 = [] := rfl
theorem digs_step {n : Nat} (h : n ≠ 0) : digs n = n % 1000000000 :: digs (n / 1000000000) := by
  unfold digs
  rw [digsF, if_neg h]
  congr 1
  rcases log2_div n h with h1 | h1
  · exact digsF_eq _ _ _ (by omega) (by omega)
  · rw [h1]
    cases n.log2 <;> simp [digsF]
theorem digs_cons {a : Nat} {l : List Nat} (ha : a < 1000000000) (h : a + 1000000000 * val l ≠ 0) : digs (a + 1000000000 * val l) = a :: digs (val l) := by
  rw [digs_step h, Nat.add_mul_mod_self_left, Nat.mod_eq_of_lt ha, Nat.add_mul_div_left _ _ (by omega), Nat.div_eq_of_lt ha, Nat.zero_add]
theorem val_digs (n : Nat) : val (digs n) = n := by
  induction n using Nat.strongRecOn with
  | _ n ih =>
    by_cases h : n = 0
    · subst h; rfl
    · rw [digs_step h, val, ih _ (by omega)]
      omega
theorem digs_ok (n : Nat) : Dok (digs n) := by
  induction n using Nat.strongRecOn with
  | _ n ih =>
    by_cases h : n = 0
    · subst h; exact Dok.nil
    · rw [digs_step h]
      exact (ih _ (by omega)).cons (by omega)

theorem trimL_snoc (l : List Nat) (a : Nat) : trimL (l ++ [a]) = if a = 0 then trimL l else l ++ [a] := by
  unfold trimL
  rw [List.reverse_append]
  by_cases h : a = 0 <;> simp [h]
theorem snoc_ind {P : List Nat → Prop} (h0 : P []) (h1 : ∀ l a, P l → P (l ++ [a])) : ∀ l, P l := by
  intro l
  have : ∀ m : List Nat, P m.reverse := by
    intro m
    induction m with
    | nil => exact h0
    | cons a m ih => rw [List.reverse_cons]; exact h1 _ a ih
  have := this l.reverse
  rwa [List.reverse_reverse] at this
theorem trimL_val (l : List Nat) : val (trimL l) = val l := by
  induction l using snoc_ind with
  | h0 => rfl
  | h1 l a ih =>
    rw [trimL_snoc]
    by_cases h : a = 0
    · rw [if_pos h, ih, h, val_snoc, Nat.mul_zero, Nat.add_zero]
    · rw [if_neg h]
theorem trimL_ok {l : List Nat} (h : Dok l) : Dok (trimL l) := by
  induction l using snoc_ind with
  | h0 => exact Dok.nil
  | h1 l a ih =>
    rw [trimL_snoc]
    by_cases h' : a = 0
    · rw [if_pos h']; exact ih h.left
    · rw [if_neg h']; exact h
/-- no zero at the end -/
def Top (l : List Nat) : Prop := ∀ m a, l = m ++ [a] → a ≠ 0
theorem trimL_top (l : List Nat) : Top (trimL l) := by
  induction l using snoc_ind with
  | h0 => intro m a h; simp [trimL] at h
  | h1 l a ih =>
    rw [trimL_snoc]
    by_cases h : a = 0
    · rw [if_pos h]; exact ih
    · rw [if_neg h]
      intro m b e
      have := List.append_inj' e rfl
      simp at this
      rw [← this.2]; exact h
theorem Top.tail {a : Nat} {l : List Nat} (h : Top (a :: l)) : Top l := fun m b e => h (a :: m) b (by rw [e]; rfl)
theorem Top.val_pos {l : List Nat} (h : Top l) (hl : l ≠ []) : val l ≠ 0 := by
  obtain ⟨m, a, rfl⟩ : ∃ m a, l = m ++ [a] := ⟨l.dropLast, l.getLast hl, (List.dropLast_concat_getLast hl).symm⟩
  have ha := h m a rfl
  rw [val_snoc]
  have : 0 < 1000000000 ^ m.length * a := Nat.mul_pos (Nat.pow_pos (by omega)) (by omega)
  omega
theorem digs_val {l : List Nat} (h : Dok l) (ht : Top l) : digs (val l) = l := by
  induction l with
  | nil => rfl
  | cons a l ih =>
    rw [val, digs_cons h.head, ih h.tail ht.tail]
    exact ht.val_pos (by simp)
theorem trimL_digs {l : List Nat} (h : Dok l) : trimL l = digs (val l) := by
  rw [← trimL_val l, digs_val (trimL_ok h) (trimL_top l)]
theorem digs_top (n : Nat) : Top (digs n) := by
  have h := trimL_digs (digs_ok n)
  rw [val_digs] at h
  rw [← h]
  exact trimL_top _
theorem digs_length_pos {n : Nat} : 0 < (digs n).length ↔ n ≠ 0 := by
  by_cases h : n = 0
  · subst h; simp [digs_zero]
  · rw [digs_step h]; simp [h]
theorem digs_nil {n : Nat} (h : digs n = []) : n = 0 := by
  rw [← val_digs n, h]; rfl
theorem digs_length_le {n k : Nat} (h : n < 1000000000 ^ k) : (digs n).length ≤ k := by
  by_cases h0 : digs n = []
  · rw [h0]; simp
  · obtain ⟨m, a, e⟩ : ∃ m a, digs n = m ++ [a] := ⟨(digs n).dropLast, (digs n).getLast h0, (List.dropLast_concat_getLast h0).symm⟩
    have ha := digs_top n m a e
    have hv := val_digs n
    rw [e, val_snoc] at hv
    rw [e, List.length_append, List.length_singleton]
    have h1 : 1000000000 ^ m.length ≤ n := by
      have : 1000000000 ^ m.length * 1 ≤ 1000000000 ^ m.length * a := Nat.mul_le_mul_left _ (by omega)
      omega
    have h2 : 1000000000 ^ m.length < 1000000000 ^ k := by omega
    exact Nat.lt_of_not_le fun h3 => absurd (Nat.pow_le_pow_right (n := 1000000000) (by omega) h3) (by omega)
theorem lt_digs (n : Nat) : n < 1000000000 ^ (digs n).length := by
  have := val_lt (digs_ok n)
  rwa [val_digs] at this

end Go.Ab
namespace Go.Ab
open Go

/-! the values of integers -/
def dg (n : Nat) : PV := .sc (.int .u32 n)
def encD (l : List Nat) : PV := .imm l.length false (l.map dg)
def wh (neg : Bool) (l : List Nat) : PV := .agg [.sc (.bool neg), encD l]
def negB : Int → Bool
  | .ofNat _ => false
  | .negSucc _ => true
def encW (z : Int) : PV := wh (negB z) (digs z.natAbs)
def encI (z : Int) : PV := .sc (.int .i64 z)
def encB (b : Bool) : PV := .sc (.bool b)

/-! one form for each value -/
mutual
def canon : PV → PV
  | .sc v => match v with
    | .slice none 0 0 => .imm 0 false []
    | v => .sc v
  | .imm n _ cs => .imm n false (canonL cs)
  | .agg cs => .agg (canonL cs)
  | v => v
def canonL : List PV → List PV
  | [] => []
  | c :: cs => canon c :: canonL cs
end
theorem canonL_get : ∀ (cs : List PV) (k : Nat), (canonL cs)[k]? = (cs[k]?).map canon
  | [], k => by simp [canonL]
  | c :: cs, 0 => by simp [canonL]
  | c :: cs, k + 1 => by simpa [canonL] using canonL_get cs k
theorem canonL_length : ∀ (cs : List PV), (canonL cs).length = cs.length
  | [] => rfl
  | c :: cs => by simp [canonL, canonL_length cs]
mutual
theorem canon_wk : (p : PV) → p.idfree = true → Wk p (canon p)
  | .any, h => by rw [canon]; exact Wk.refl h; all_goals (intros; contradiction)
  | .sc v, h => by
    unfold canon
    split
    · exact Wk.nil false
    · exact Wk.refl h
  | .imm n x cs, h => by
    unfold canon
    refine ⟨rfl, fun w M v hv => ?_⟩
    cases hv with
    | nil => exact .nil false
    | imm _ _ _ a cap g h1 h2 h3 h4 =>
      refine .imm n false _ a cap g h1 (fun h => by cases h) (fun k c hk => ?_) (fun k c hk => ?_)
      · rw [canonL_get] at hk
        obtain ⟨c', h5, rfl⟩ := Option.map_eq_some_iff.1 hk
        obtain ⟨h6, h7, h8, h9⟩ := h3 k c' h5
        exact ⟨h6, (canonL_wk cs k c' h5 h7).1, h8, h9⟩
      · rw [canonL_get] at hk
        obtain ⟨c', h5, rfl⟩ := Option.map_eq_some_iff.1 hk
        obtain ⟨h6, h7, h8, h9⟩ := h3 k c' h5
        exact (canonL_wk cs k c' h5 h7).2 w M _ (h4 k c' h5)
  | .agg cs, h => by
    unfold canon
    have hi : idfreeL cs = true := by simpa [PV.idfree] using h
    refine ⟨?_, fun w M v hv => ?_⟩
    · simp only [PV.idfree]
      exact canonL_idfree cs hi
    · cases hv with
      | agg _ vs g1 g2 =>
        refine .agg _ vs (by rw [canonL_length]; exact g1) fun k c v e1 e2 => ?_
        rw [canonL_get] at e1
        obtain ⟨c', h5, rfl⟩ := Option.map_eq_some_iff.1 e1
        exact (canonL_wk cs k c' h5 (idfree_get hi h5)).2 w M v (g2 k c' v h5 e2)
  | .own .., h => by simp [PV.idfree] at h
  | .ptr .., h => by simp [PV.idfree] at h
  | .iptr cs, h => by rw [canon]; exact Wk.refl h; all_goals (intros; contradiction)
  | .clos f cs, h => by rw [canon]; exact Wk.refl h; all_goals (intros; contradiction)
  | .bmet .., h => by simp [PV.idfree] at h
  | .tup cs, h => by rw [canon]; exact Wk.refl h; all_goals (intros; contradiction)
theorem canonL_wk : (cs : List PV) → (k : Nat) → (c : PV) → cs[k]? = some c → c.idfree = true → Wk c (canon c)
  | [], k, c, h, _ => by simp at h
  | d :: cs, k, c, h, hc => by
    cases k with
    | zero => simp at h; subst h; exact canon_wk d hc
    | succ k => exact canonL_wk cs k c (by simpa using h) hc
theorem canonL_idfree : (cs : List PV) → idfreeL cs = true → idfreeL (canonL cs) = true
  | [], _ => rfl
  | c :: cs, h => by
    simp only [idfreeL, Bool.and_eq_true] at h
    simp only [canonL, idfreeL, Bool.and_eq_true]
    exact ⟨(canon_wk c h.1).1, canonL_idfree cs h.2⟩
end
/-- a contract for the one form holds for every form -/
theorem Spec.canon {P : Program} {g : FuncId} {f : List PV → Option (List PV)} (h : Spec P g f) : Spec P g fun a => f (canonL a) := by
  intro args rs hf hi
  obtain ⟨h1, h2⟩ := h (canonL args) rs hf (canonL_idfree args hi)
  refine ⟨h1, fun w M vs hM hvs => h2 w M vs hM ⟨by rw [canonL_length]; exact hvs.1, fun k c v e1 e2 => ?_⟩⟩
  rw [canonL_get] at e1
  obtain ⟨c', h5, rfl⟩ := Option.map_eq_some_iff.1 e1
  exact (canonL_wk args k c' h5 (idfree_get hi h5)).2 w M v (hvs.2 k c' v h5 e2)

/-! reading them -/
def dgs? : List PV → Option (List Nat)
  | [] => some []
  | .sc (.int .u32 (.ofNat n)) :: r => bif n.blt 1000000000 then (match dgs? r with
    | some l => some (n :: l)
    | none => none) else none
  | _ => none
def decD? : PV → Option (List Nat)
  | .imm n false cs => match dgs? cs with
    | some l => bif n.beq l.length && n.blt 1000000 then some l else none
    | none => none
  | _ => none
def topB : List Nat → Bool
  | [] => true
  | [a] => !(a.beq 0)
  | _ :: l => topB l
def decW? : PV → Option Int
  | .agg [.sc (.bool neg), p] => match decD? p with
    | some l => bif topB l && l.length.blt 400000 then
        (match neg, l with
        | true, [] => none
        | true, l => some (Int.negOfNat (val l))
        | false, l => some (Int.ofNat (val l)))
      else none
    | none => none
  | _ => none
theorem dgs?_some : ∀ {cs : List PV} {l : List Nat}, dgs? cs = some l → cs = l.map dg ∧ Dok l
  | [], l, h => by simp [dgs?] at h; subst h; exact ⟨rfl, Dok.nil⟩
  | c :: cs, l, h => by
    unfold dgs? at h
    split at h
    · rename_i e; cases e
    · rename_i n r e
      cases e
      cases hb : n.blt 1000000000 with
      | false => rw [hb] at h; cases h
      | true =>
        rw [hb] at h
        simp only [cond_true] at h
        split at h
        · rename_i l' e'
          simp at h; subst h
          obtain ⟨h1, h2⟩ := dgs?_some e'
          rw [h1]
          refine ⟨rfl, h2.cons ?_⟩
          simpa [Nat.blt_eq] using hb
        · cases h
    · cases h
theorem dgs?_map : ∀ {l : List Nat}, Dok l → dgs? (l.map dg) = some l
  | [], _ => rfl
  | a :: l, h => by
    have h1 : a.blt 1000000000 = true := by rw [Nat.blt_eq]; exact h.head
    show dgs? (PV.sc (.int .u32 (Int.ofNat a)) :: l.map dg) = _
    simp only [dgs?, dgs?_map h.tail, h1, cond_true]
theorem decD?_some {p : PV} {l : List Nat} (h : decD? p = some l) : p = encD l ∧ Dok l ∧ l.length < 1000000 := by
  unfold decD? at h
  split at h
  · split at h
    · rename_i n cs _ l' e
      obtain ⟨h1, h2⟩ := dgs?_some e
      cases hb : n.beq l'.length && n.blt 1000000 with
      | false => rw [hb] at h; cases h
      | true =>
        rw [hb] at h
        simp at h
        subst h
        simp [Nat.blt_eq] at hb
        exact ⟨by rw [hb.1, h1]; rfl, h2, by omega⟩
    · cases h
  · cases h
theorem decD?_enc {l : List Nat} (h : Dok l) (hl : l.length < 1000000) : decD? (encD l) = some l := by
  have h1 : l.length.blt 1000000 = true := by rw [Nat.blt_eq]; exact hl
  simp [decD?, encD, dgs?_map h, h1]
theorem topB_top : ∀ {l : List Nat}, topB l = true → Top l
  | [], _ => fun m a e => by simp at e
  | [b], h => fun m a e => by
    cases m with
    | nil =>
      simp at e; subst e
      cases b with
      | zero => simp [topB] at h
      | succ b => simp
    | cons c m => simp at e
  | b :: c :: l, h => fun m a e => by
    cases m with
    | nil => simp at e
    | cons d m =>
      simp only [List.cons_append, List.cons.injEq] at e
      exact topB_top (l := c :: l) (by simpa [topB] using h) m a e.2
theorem top_topB : ∀ {l : List Nat}, Top l → topB l = true
  | [], _ => rfl
  | [b], h => by
    have := h [] b rfl
    cases b with
    | zero => simp at this
    | succ b => rfl
  | b :: c :: l, h => by
    have := top_topB h.tail
    simpa [topB] using this
theorem encW_ofNat (n : Nat) : encW (Int.ofNat n) = wh false (digs n) := rfl
theorem negB_lt (z : Int) : negB z = decide (z < 0) := by
  cases z with
  | ofNat n => simp [negB]
  | negSucc n => simp [negB]
theorem encW_neg {n : Nat} (h : n ≠ 0) : encW (Int.negOfNat n) = wh true (digs n) := by
  cases n with
  | zero => simp at h
  | succ n => rfl
theorem decW?_some {p : PV} {z : Int} (h : decW? p = some z) : p = encW z ∧ (digs z.natAbs).length < 400000 := by
  unfold decW? at h
  split at h
  · rename_i neg q
    split at h
    · rename_i l e
      obtain ⟨h1, h2, h3⟩ := decD?_some e
      subst h1
      cases ht : topB l && l.length.blt 400000 with
      | false => rw [ht] at h; cases h
      | true =>
        rw [ht] at h
        simp only [cond_true] at h
        simp only [Bool.and_eq_true, Nat.blt_eq] at ht
        obtain ⟨ht, h3⟩ := ht
        have hd := digs_val h2 (topB_top ht)
        split at h
        · cases h
        · rename_i hne
          simp only [Option.some.injEq] at h
          subst h
          have hv : val l ≠ 0 := (topB_top ht).val_pos (by intro h; exact hne h)
          refine ⟨?_, ?_⟩
          · rw [encW_neg hv, hd]; rfl
          · have : (Int.negOfNat (val l)).natAbs = val l := Int.natAbs_negOfNat _
            rw [this, hd]; exact h3
        · simp only [Option.some.injEq] at h
          subst h
          refine ⟨?_, ?_⟩
          · rw [encW_ofNat, hd]; rfl
          · have : (Int.ofNat (val l)).natAbs = val l := rfl
            rw [this, hd]; exact h3
    · cases h
  · cases h
theorem decW?_enc (z : Int) (hl : (digs z.natAbs).length < 400000) : decW? (encW z) = some z := by
  have h1 := decD?_enc (digs_ok z.natAbs) (Nat.lt_trans hl (by decide))
  have h3 : (digs z.natAbs).length.blt 400000 = true := by rw [Nat.blt_eq]; exact hl
  have h2 := top_topB (digs_top z.natAbs)
  cases z with
  | ofNat n =>
    rw [encW_ofNat]
    have e : (Int.ofNat n).natAbs = n := rfl
    rw [e] at h1 h2 h3
    simp only [decW?, wh, h1, h2, h3, Bool.and_self, cond_true, val_digs]
  | negSucc n =>
    have e : encW (Int.negSucc n) = wh true (digs (n + 1)) := rfl
    rw [e]
    have e : (Int.negSucc n).natAbs = n + 1 := rfl
    rw [e] at h1 h2 h3
    have hd : digs (n + 1) = (n + 1) % 1000000000 :: digs ((n + 1) / 1000000000) := digs_step (by omega)
    simp only [decW?, wh, h1, h2, h3, Bool.and_self, cond_true]
    rw [hd]
    simp only
    rw [← hd, val_digs]
    rfl
end Go.Ab
namespace Go.Ab
open Go

theorem cells_dg (n : Nat) : (dg n).cells? = some [dg n] := (rfl)
theorem okCell_dg (n : Nat) : okCell (dg n) = true := (rfl)
theorem okCells_dg1 (n : Nat) : okCells [dg n] = true := rfl
theorem okCells_dg : ∀ l : List Nat, okCells (l.map dg) = true
  | [] => rfl
  | _ :: l => okCells_dg l
theorem rep_dg (n : Nat) : rep n [dg 0] = (List.replicate n 0).map dg := by
  induction n with
  | zero => rfl
  | succ n ih => simp [rep, ih, List.replicate_succ]
theorem drop_dg (l : List Nat) (i : Nat) (h : i < l.length) : dropN (l.map dg) i = dg l[i] :: (l.drop (i + 1)).map dg := by
  rw [dropN_eq, ← List.map_drop, List.drop_eq_getElem_cons h]; rfl
theorem head_dg (l : List Nat) (i : Nat) (h : i < l.length) : (dropN (l.map dg) i).head? = some (dg l[i]) := by
  rw [drop_dg l i h]; rfl
theorem over_dg : ∀ (l : List Nat) (i y : Nat), i < l.length → over? (l.map dg) i [dg y] = some ((l.set i y).map dg)
  | [], i, y, h => by simp at h
  | a :: l, 0, y, h => by simp [over?]
  | a :: l, i + 1, y, h => by
    have := over_dg l i y (by simpa using h)
    simp only [List.map_cons, over?, this, List.set_cons_succ]
theorem take_dg (l : List Nat) : takeN? (l.map dg) l.length = some (l.map dg) := by
  rw [takeN?_of (by simp), List.take_of_length_le (by simp)]
theorem take_dg1 (l : List Nat) : takeN? (dropN (l.map dg) 0) (l.length * 1) = some (l.map dg) := by
  rw [dropN_eq, List.drop_zero, Nat.mul_one, take_dg]
theorem snap_dgs (hp : List Blk) (d : Nat) : ∀ l : List Nat, mapIds (snap hp (d + 1)) (l.map dg) = some (l.map dg, [])
  | [] => rfl
  | a :: l => by
    simp only [List.map_cons, mapIds, snap_dgs hp d l]
    rfl
theorem idfree_dgs : ∀ l : List Nat, idfreeL (l.map dg) = true
  | [] => rfl
  | _ :: l => idfree_dgs l
theorem canonL_dgs : ∀ l : List Nat, canonL (l.map dg) = l.map dg
  | [] => rfl
  | a :: l => by simp only [List.map_cons, canonL, canonL_dgs l]; rfl
theorem canon_encD (l : List Nat) : canon (encD l) = encD l := by
  simp only [encD, canon, canonL_dgs]
theorem canon_wh (n : Bool) (l : List Nat) : canon (wh n l) = wh n l := by
  simp only [wh, canon, canonL, canon_encD]
theorem canon_encW (z : Int) : canon (encW z) = encW z := canon_wh _ _
theorem snap_encD (hp : List Blk) (d : Nat) (l : List Nat) : Ab.snap hp (d + 1) (encD l) = some (encD l, []) := rfl
theorem snap_wh (hp : List Blk) (d : Nat) (n : Bool) (l : List Nat) : Ab.snap hp (d + 2) (wh n l) = some (wh n l, []) := rfl
theorem snap_encW (hp : List Blk) (d : Nat) (z : Int) : Ab.snap hp (d + 2) (encW z) = some (encW z, []) := rfl
theorem wrap_nat (k : IntKind) (n : Nat) (h : n ≤ hiN k) : wrapK k (n : Int) = Int.ofNat n := wrapK_in (n := n) (Nat.ble_eq ▸ h)

/-- a slice of the own, of a block from b on: nil, or a whole live block's beginning -/
def OwnD (b : Nat) (hp : List Blk) (l : List Nat) (p : PV) : Prop :=
  b ≤ hp.length ∧ ((l = [] ∧ p = .sc (.slice none 0 0)) ∨ ∃ id m, b ≤ id ∧ id < hp.length ∧ p = .own id 1 0 l.length false ∧ nthB hp id = some ⟨.live, (l ++ m).map dg⟩)
theorem OwnD.nil {b : Nat} {hp : List Blk} (h : b ≤ hp.length) : OwnD b hp [] (.sc (.slice none 0 0)) := ⟨h, .inl ⟨rfl, rfl⟩⟩
theorem OwnD.len {b : Nat} {hp : List Blk} {l : List Nat} {p : PV} (h : OwnD b hp l p) : lenSl p = some l.length := by
  rcases h.2 with ⟨rfl, rfl⟩ | ⟨id, m, _, _, rfl, h⟩ <;> rfl
theorem OwnD.cells {b : Nat} {hp : List Blk} {l : List Nat} {p : PV} (h : OwnD b hp l p) : p.cells? = some [p] := by
  rcases h.2 with ⟨rfl, rfl⟩ | ⟨id, m, _, _, rfl, h⟩ <;> rfl
theorem OwnD.okc {b : Nat} {hp : List Blk} {l : List Nat} {p : PV} (h : OwnD b hp l p) : okCell p = true := by
  rcases h.2 with ⟨rfl, rfl⟩ | ⟨id, m, _, _, rfl, h⟩ <;> rfl
theorem OwnD.app {b : Nat} {hp : List Blk} {l : List Nat} {p : PV} (h : OwnD b hp l p) (a : Nat) (hl : l.length < 100000000) :
    ∃ p' hp' fp, appendP hp 1 p 1 [dg a] = some (p', hp', fp) ∧ OwnD b hp' (l ++ [a]) p' ∧ ∀ i, i < b → nthB hp' i = nthB hp i := by
  obtain ⟨hb, h⟩ := h
  rcases h with ⟨rfl, rfl⟩ | ⟨id, m, hid, hid2, rfl, h⟩
  · refine ⟨.own hp.length 1 0 1 false, allocB hp [dg a], ⟨[], [hp.length], true, false⟩, by simp [appendP, maxLenA], ⟨by simp [allocB]; omega, .inr ⟨hp.length, [], hb, by simp [allocB], rfl, ?_⟩⟩, fun i hi => ?_⟩
    · rw [nthB_alloc, if_pos rfl]; rfl
    · rw [nthB_alloc, if_neg (by omega)]
  · have ht : takeN? (dropN ((l ++ m).map dg) 0) (l.length * 1) = some (l.map dg) := by
      rw [dropN_eq, takeN?_of (by simp)]
      simp
    refine ⟨.own hp.length 1 0 (l.length + 1) false, allocB (setB hp id ⟨.dead, []⟩) (l.map dg ++ [dg a]), ⟨[], [id, hp.length], true, false⟩, ?_, ⟨by simp [allocB, setB_length]; omega, .inr ⟨hp.length, [], hb, by simp [allocB, setB_length], by simp, ?_⟩⟩, fun i hi => ?_⟩
    · simp only [appendP, h]
      rw [ht]
      simp [maxLenA]
      omega
    · rw [nthB_alloc, setB_length, if_pos rfl]; simp
    · rw [nthB_alloc, setB_length, if_neg (by omega), nthB_setB h, if_neg (by omega)]
/-- read at the end -/
theorem OwnD.snap {b : Nat} {hp : List Blk} {l : List Nat} {p : PV} (h : OwnD b hp l p) (d : Nat) : ∃ q ids, Ab.snap hp (d + 2) p = some (q, ids) ∧ Wk q (encD l) ∧ canon q = encD l := by
  obtain ⟨hb, h⟩ := h
  rcases h with ⟨rfl, rfl⟩ | ⟨id, m, _, _, rfl, h⟩
  · exact ⟨.sc (.slice none 0 0), [], rfl, Wk.nil false, rfl⟩
  · have ht : takeN? (dropN ((l ++ m).map dg) 0) (l.length * 1) = some (l.map dg) := by
      rw [dropN_eq, takeN?_of (by simp)]
      simp
    refine ⟨.imm l.length false (l.map dg), [id], ?_, Wk.refl rfl, canon_encD l⟩
    have hs := snap_dgs hp d l
    rw [Ab.snap]
    simp only [h]
    rw [if_neg (by simp), ht]
    simp only [hs]

/-- a call of a function that is known by a contract -/
theorem callP_orc {C : Cfg} {run : Runs} {dr : Bool} {hp : List Blk} {g : FuncId} {args args' rs : List PV} {ids : List Nat}
    (h1 : C.shared g = false) (h2 : mapIds (snap hp snapDepth) args = some (args', ids)) (h3 : C.orc g args' = some rs) (h4 : rs.all scalarP = true) :
    callP C run dr hp g args = some (retP rs, hp, ⟨ids, [], false, false⟩) := by
  unfold callP
  simp [h1, h2, h3, h4]
theorem callP_orc' {C : Cfg} {run : Runs} {dr : Bool} {hp : List Blk} {g : FuncId} {args args' rs : List PV} {ids : List Nat}
    (h1 : C.shared g = false) (h2 : mapIds (snap hp snapDepth) args = some (args', ids)) (h3 : C.orc g args' = some rs) (h4 : rs.all scalarP = false) :
    callP C run dr hp g args = some (retP rs, roB hp ids, ⟨ids, ids, false, false⟩) := by
  unfold callP
  simp [h1, h2, h3, h4]

def loopOf : Code → Option Code
  | .loop b => some b
  | .seq a b => (loopOf a).or (loopOf b)
  | .block _ b => loopOf b
  | .scope b => loopOf b
  | .cond _ a b => (loopOf a).or (loopOf b)
  | _ => none
def seq1 : Code → Code
  | .seq a _ => a
  | c => c
def seq2 : Code → Code
  | .seq _ b => b
  | c => c
theorem snoc_of {l : List Nat} {n : Nat} (h : l.length = n + 1) : ∃ l' a, l = l' ++ [a] ∧ l'.length = n := by
  have hne : l ≠ [] := by intro e; subst e; simp at h
  exact ⟨l.dropLast, l.getLast hne, (List.dropLast_concat_getLast hne).symm, by simp [h]⟩

/-! contracts by number -/
def orcOf : List (Nat × (List PV → Option (List PV))) → Nat → List PV → Option (List PV)
  | [], _ => fun _ => none
  | (n, f) :: r, g => bif g.beq n then fun a => f (canonL a) else orcOf r g
def SpecL (P : Program) : List (Nat × (List PV → Option (List PV))) → Prop
  | [] => True
  | (n, f) :: r => Spec P n f ∧ SpecL P r
theorem orcOf_ok {P : Program} : ∀ {L : List (Nat × (List PV → Option (List PV)))}, SpecL P L → ∀ g, Spec P g (orcOf L g)
  | [], _, g => Spec.no P g
  | (n, f) :: r, h, g => by
    unfold orcOf
    cases e : g.beq n with
    | true =>
      have := Nat.eq_of_beq_eq_true e
      subst this
      exact h.1.canon
    | false => exact orcOf_ok h.2 g
end Go.Ab
namespace Go.Ab
open Go

def cspine : Nat → Code → Code
  | 0, c => c
  | n + 1, .seq _ b => cspine n b
  | _ + 1, c => c
/-- the first n parts of a body -/
def runPre (C : Cfg) (run : Runs) (k : Nat) : Nat → Code → St → Option St
  | 0, _, st => some st
  | n + 1, .seq a b, st => match execC C run k a st with
    | some (.normal, st') => runPre C run k n b st'
    | _ => none
  | _ + 1, _, _ => none
theorem exec_spine {C : Cfg} {run : Runs} {k : Nat} : ∀ (n : Nat) {c : Code} {st st' : St}, runPre C run k n c st = some st' → execC C run k c st = execC C run k (cspine n c) st'
  | 0, c, st, st', h => by simp [runPre] at h; subst h; rfl
  | n + 1, c, st, st', h => by
    cases c with
    | seq a b =>
      simp only [runPre] at h
      split at h
      · rename_i st1 e
        simp only [execC, e, cspine]
        exact exec_spine n h
      · cases h
    | _ => simp [runPre] at h
theorem exec_seq {C : Cfg} {run : Runs} {k : Nat} {a b : Code} {st st' : St} (h : execC C run k a st = some (.normal, st')) : execC C run k (.seq a b) st = execC C run k b st' := by
  simp only [execC, h]
theorem exec_loop {C : Cfg} {run : Runs} {k i : Nat} {b : Code} {st st' : St} (h : iterL (execC C run k b) k st = some (.exit i, st')) : execC C run k (.block i (.loop b)) st = some (.normal, st') := by
  simp only [execC, h, if_true]
theorem exec_block {C : Cfg} {run : Runs} {k i : Nat} {b : Code} {st st' : St} (h : execC C run k b st = some (.normal, st')) : execC C run k (.block i b) st = some (.normal, st') := by
  simp only [execC, h]
theorem iter_go {f : St → Option (Ex × St)} {n : Nat} {st st' : St} (h : f st = some (.normal, st')) : iterL f (n + 1) st = iterL f n st' := by
  simp only [iterL, h]
theorem iter_stop {f : St → Option (Ex × St)} {n i : Nat} {st st' : St} (h : f st = some (.exit i, st')) : iterL f (n + 1) st = some (.exit i, st') := by
  simp only [iterL, h]
theorem iter_ret {f : St → Option (Ex × St)} {n : Nat} {st st' : St} (h : f st = some (.ret, st')) : iterL f (n + 1) st = some (.ret, st') := by
  simp only [iterL, h]
theorem body_ret0 {C : Cfg} {run : Runs} {k : Nat} {g : FuncId} {args : List PV} {fn : Func} {c : Code} {st : St} {rs : List PV}
    (hF : C.F g = some fn) (hb : fn.body = some c) (hx : execC C run k c ⟨entry fn.ntmps args, [], []⟩ = some (.ret, st)) (hr : resP C.T st.fr st.hp fn.results.toList = some rs) :
    bodyP C run k g args [] = some (rs, st.hp, st.wr) := by
  simp only [bodyP, hF, hb, hx, hr]
theorem body_ret {C : Cfg} {k : Nat} {g : FuncId} {args : List PV} {fn : Func} {c : Code} {st : St} {rs : List PV}
    (hF : C.F g = some fn) (hb : fn.body = some c) (hx : execC C (runK C k) k c ⟨entry fn.ntmps args, [], []⟩ = some (.ret, st)) (hr : resP C.T st.fr st.hp fn.results.toList = some rs) (hs : C.sorc g = none := by rfl) :
    runK C (k + 1) g args [] = some (rs, st.hp, st.wr) := by
  simp only [runK, hs]
  exact body_ret0 hF hb hx hr
theorem entry_length : ∀ (n : Nat) (l : List PV), l.length ≤ n → (entry n l).length = n
  | 0, l, h => by simp at h; subst h; rfl
  | n + 1, [], _ => by simp [entry, entry_length n [] (by simp)]
  | n + 1, a :: l, h => by simp [entry, entry_length n l (by simpa using h)]
theorem nth_entry : ∀ (n : Nat) (l : List PV) (i : Nat), l.length ≤ n → i < l.length → nth (entry n l) i = nth l i
  | 0, l, i, h, h' => by omega
  | n + 1, [], i, _, h' => by simp at h'
  | n + 1, a :: l, 0, _, _ => rfl
  | n + 1, a :: l, i + 1, h, h' => by simpa [entry, nth] using nth_entry n l i (by simpa using h) (by simpa using h')
theorem iter_mono {f : St → Option (Ex × St)} {r : Ex × St} : ∀ {n m : Nat} {st : St}, iterL f n st = some r → n ≤ m → iterL f m st = some r
  | 0, m, st, h, _ => by simp [iterL] at h
  | n + 1, 0, st, _, h => by omega
  | n + 1, m + 1, st, h, hm => by
    simp only [iterL] at h ⊢
    split at h
    · exact iter_mono h (by omega)
    · exact h
end Go.Ab
namespace Go.Ab
open Go
theorem OwnD.set {b : Nat} {hp : List Blk} {l : List Nat} {p : PV} (h : OwnD b hp l p) (i : Nat) (x : Blk) (hi : i < b) : OwnD b (setB hp i x) l p := by
  obtain ⟨hb, h⟩ := h
  refine ⟨by rw [setB_length]; exact hb, ?_⟩
  rcases h with ⟨rfl, rfl⟩ | ⟨id, m, h1, h2, rfl, h⟩
  · exact .inl ⟨rfl, rfl⟩
  · refine .inr ⟨id, m, h1, by rw [setB_length]; exact h2, rfl, ?_⟩
    rw [setB_eq, nthB_eq, List.getElem?_set_ne (by omega), ← nthB_eq]
    exact h
theorem OwnD.out {b : Nat} {hp : List Blk} {l : List Nat} {p : PV} (h : OwnD b hp l p) (n : Bool) :
    ∃ rs ids, mapIds (Ab.snap hp snapDepth) [.agg [.sc (.bool n), p]] = some (rs, ids) ∧ WkL rs [wh n l] := by
  obtain ⟨q, ids, h1, h2, h3⟩ := h.snap 9
  refine ⟨[.agg [.sc (.bool n), q]], ids ++ [] ++ [], ?_, ?_⟩
  · have : Ab.snap hp 12 (.agg [.sc (.bool n), p]) = some (.agg [.sc (.bool n), q], ids ++ []) := by
      rw [Ab.snap]
      simp only [mapIds, h1]
      rfl
    simp only [snapDepth, mapIds, this]
    try simp
  · exact ⟨Wk.agg ⟨Wk.refl rfl, h2, trivial⟩, trivial⟩
theorem OwnD.out1 {b : Nat} {hp : List Blk} {l : List Nat} {p : PV} (h : OwnD b hp l p) :
    ∃ rs ids, mapIds (Ab.snap hp snapDepth) [p] = some (rs, ids) ∧ WkL rs [encD l] := by
  obtain ⟨q, ids, h1, h2, h3⟩ := h.snap 10
  refine ⟨[q], ids ++ [], ?_, h2, trivial⟩
  simp only [snapDepth, mapIds, h1]
theorem wrap_neg64 {n : Nat} (h : 0 < n) (h' : n < 18446744073709551616) : wrapK .u64 (-(n : Int)) = Int.ofNat (18446744073709551616 - n) := by
  have h1 : decide (loK .u64 ≤ -(n : Int)) = false := by
    apply decide_eq_false
    simp [loK]; omega
  unfold wrapK
  rw [h1]
  simp [IntKind.wrap, IntKind.bits, IntKind.signed]
  omega
end Go.Ab
namespace Go.Ab
open Go
theorem lenSl_nil : lenSl (.sc (.slice none 0 0)) = some 0 := (rfl)
theorem lenSl_imm (n : Nat) (x : Bool) (cs : List PV) : lenSl (.imm n x cs) = some n := (rfl)
theorem lenSl_own (a b c n : Nat) (x : Bool) : lenSl (.own a b c n x) = some n := (rfl)
theorem lenSl_encD (l : List Nat) : lenSl (encD l) = some l.length := (rfl)
theorem cells_encD (l : List Nat) : (encD l).cells? = some [encD l] := (rfl)
theorem cells_agg (cs : List PV) : (PV.agg cs).cells? = some cs := (rfl)
theorem cells_bool (b : Bool) : (PV.sc (.bool b)).cells? = some [.sc (.bool b)] := (rfl)
theorem cells_int (k : IntKind) (n : Int) : (PV.sc (.int k n)).cells? = some [.sc (.int k n)] := (rfl)
theorem cells_own (a b c n : Nat) (x : Bool) : (PV.own a b c n x).cells? = some [.own a b c n x] := (rfl)
theorem cells_imm (n : Nat) (x : Bool) (cs : List PV) : (PV.imm n x cs).cells? = some [.imm n x cs] := (rfl)
theorem cells_nil : (PV.sc (.slice none 0 0)).cells? = some [.sc (.slice none 0 0)] := (rfl)
theorem okCell_encD (l : List Nat) : okCell (encD l) = true := (rfl)
theorem okCell_bool (b : Bool) : okCell (PV.sc (.bool b)) = true := (rfl)
theorem okCell_int (k : IntKind) (n : Int) : okCell (PV.sc (.int k n)) = true := (rfl)
theorem okCell_own (a b c n : Nat) (x : Bool) : okCell (PV.own a b c n x) = true := (rfl)
theorem okCell_imm (n : Nat) (x : Bool) (cs : List PV) : okCell (PV.imm n x cs) = true := (rfl)
theorem okCell_nil : okCell (PV.sc (.slice none 0 0)) = true := (rfl)
end Go.Ab
namespace Go.Ab
open Go
theorem beqI (a b : Nat) : ((a : Int) == (b : Int)) = decide (a = b) := by
  by_cases h : a = b
  · simp [h]
  · rw [decide_eq_false h, beq_eq_false_iff_ne]; omega
theorem bneI (a b : Nat) : ((a : Int) != (b : Int)) = !decide (a = b) := by
  rw [bne, beqI]
theorem wrap_pred (m : Nat) (h : m < 9223372036854775808) : wrapK .i64 ((m : Int) - 1) = (m : Int) - 1 := by
  unfold wrapK
  have h1 : decide (loK .i64 ≤ (m : Int) - 1) = true := decide_eq_true (by simp only [loK]; omega)
  have h2 : decide ((m : Int) - 1 ≤ hiK .i64) = true := decide_eq_true (by simp only [hiK]; omega)
  rw [h1, h2]; rfl
theorem wrap_succ (m : Nat) (h : m < 9223372036854775807) : wrapK .i64 ((m : Int) + 1) = (m : Int) + 1 := by
  unfold wrapK
  have h1 : decide (loK .i64 ≤ (m : Int) + 1) = true := decide_eq_true (by simp only [loK]; omega)
  have h2 : decide ((m : Int) + 1 ≤ hiK .i64) = true := decide_eq_true (by simp only [hiK]; omega)
  rw [h1, h2]; rfl
end Go.Ab
namespace Go.Ab
open Go
theorem asNat_nat (k : IntKind) (n : Nat) : asNat? (.sc (.int k (n : Int))) = some n := (rfl)
theorem asNat_lit (k : IntKind) (n : Nat) : asNat? (.sc (.int k (@OfNat.ofNat Int n _))) = some n := (rfl)
theorem asNat_succ (k : IntKind) (n : Nat) : asNat? (.sc (.int k ((n : Int) + 1))) = some (n + 1) := (rfl)
theorem asNat_add (k : IntKind) (n m : Nat) : asNat? (.sc (.int k ((n : Int) + (m : Int)))) = some (n + m) := (rfl)
end Go.Ab
namespace Go.Ab
open Go
theorem asNat_0 (k : IntKind) : asNat? (.sc (.int k 0)) = some 0 := (rfl)
theorem asNat_1 (k : IntKind) : asNat? (.sc (.int k 1)) = some 1 := (rfl)
theorem hi32 {n : Nat} (h : n ≤ 4294967295) : n ≤ hiN .u32 := h
theorem hi64 {n : Nat} (h : n ≤ 18446744073709551615) : n ≤ hiN .u64 := h
theorem hiI {n : Nat} (h : n ≤ 9223372036854775807) : n ≤ hiN .i64 := h
end Go.Ab
namespace Go.Ab
open Go
theorem entry1 (n : Nat) (p : PV) : (entry (n + 1) [p]).length = n + 1 ∧ nth (entry (n + 1) [p]) 0 = p := ⟨entry_length _ _ (by simp), rfl⟩
theorem entry2 (n : Nat) (p q : PV) : (entry (n + 2) [p, q]).length = n + 2 ∧ nth (entry (n + 2) [p, q]) 0 = p ∧ nth (entry (n + 2) [p, q]) 1 = q := ⟨entry_length _ _ (by simp), rfl, rfl⟩
end Go.Ab
namespace Go.Ab
open Go
theorem le2I (n : Nat) : ((n : Int) ≤ 2) = (n ≤ 2) := by apply propext; omega
end Go.Ab
namespace Go.Ab
open Go
/-! a fixed number of digits -/
def padD : Nat → Nat → List Nat
  | 0, _ => []
  | n + 1, v => v % 1000000000 :: padD n (v / 1000000000)
theorem padD_length : ∀ n v, (padD n v).length = n
  | 0, _ => rfl
  | n + 1, v => by simp [padD, padD_length n]
theorem padD_ok : ∀ n v, Dok (padD n v)
  | 0, _ => Dok.nil
  | n + 1, v => (padD_ok n _).cons (by omega)
theorem val_padD : ∀ n v, v < 1000000000 ^ n → val (padD n v) = v
  | 0, v, h => by simp at h; subst h; rfl
  | n + 1, v, h => by
    rw [padD, val, val_padD n _ (by rw [Nat.pow_succ] at h; omega)]
    omega
theorem padD_val : ∀ {l : List Nat}, Dok l → padD l.length (val l) = l
  | [], _ => rfl
  | a :: l, h => by
    have ha := h.head
    rw [List.length_cons, padD, val, Nat.add_mul_mod_self_left, Nat.mod_eq_of_lt ha, Nat.add_mul_div_left _ _ (by omega), Nat.div_eq_of_lt ha, Nat.zero_add, padD_val h.tail]
theorem Dok.eq_pad {l : List Nat} {n v : Nat} (h : Dok l) (hl : l.length = n) (hv : val l = v) : l = padD n v := by
  subst hl; subst hv; exact (padD_val h).symm

/-- comparing -/
def cmpN (a b : Nat) : Int := if a < b then -1 else if a = b then 0 else 1
theorem val_eq_at {a : List Nat} {m : Nat} (hm : m < a.length) : val a = val (a.take m) + (a[m] * 1000000000 ^ m + 1000000000 ^ (m + 1) * val (a.drop (m + 1))) := by
  rw [val_drop a (m + 1) (by omega), val_take_succ a m hm]
  omega
theorem val_lt_at {a b : List Nat} {m : Nat} (ha : Dok a) (hma : m < a.length) (hmb : m < b.length) (hd : a.drop (m + 1) = b.drop (m + 1)) (h : a[m] < b[m]) : val a < val b := by
  rw [val_eq_at hma, val_eq_at hmb, hd]
  have h1 := val_lt (ha.take m)
  rw [List.length_take, Nat.min_eq_left (by omega)] at h1
  have h2 : a[m] * 1000000000 ^ m + 1000000000 ^ m ≤ b[m] * 1000000000 ^ m := by
    have := Nat.mul_le_mul_right (1000000000 ^ m) (show a[m] + 1 ≤ b[m] from h)
    rw [Nat.add_mul, Nat.one_mul] at this
    exact this
  omega
theorem val_take_of_le (l : List Nat) (i : Nat) (h : l.length ≤ i) : val (l.take i) = val l := by
  rw [List.take_of_length_le h]
end Go.Ab
namespace Go.Ab
open Go
theorem wrapA (k : IntKind) (a b s : Nat) (h : s = a + b) (hs : s ≤ hiN k) : wrapK k ((a : Int) + (b : Int)) = (s : Int) := by
  subst h
  exact (by simpa using wrap_nat k (a + b) hs)
theorem wrapM (k : IntKind) (a b s : Nat) (h : s = a * b) (hs : s ≤ hiN k) : wrapK k ((a : Int) * (b : Int)) = (s : Int) := by
  subst h
  exact (by simpa using wrap_nat k (a * b) hs)
theorem wrapS (k : IntKind) (a b s : Nat) (h : a = b + s) (hs : s ≤ hiN k) : wrapK k ((a : Int) - (b : Int)) = (s : Int) := by
  have := wrap_nat k s hs
  rw [show ((a : Int) - (b : Int)) = (s : Int) by omega]; exact this
theorem wrapQ (k : IntKind) (a b s : Nat) (h : s = a / b) (hs : s ≤ hiN k) : wrapK k ((a : Int) / (b : Int)) = (s : Int) := by
  subst h
  exact (by simpa using wrap_nat k (a / b) hs)
theorem wrapR (k : IntKind) (a b s : Nat) (h : s = a % b) (hs : s ≤ hiN k) : wrapK k ((a : Int).tmod (b : Int)) = (s : Int) := by
  subst h
  have e : (a : Int).tmod (b : Int) = ((a % b : Nat) : Int) := (Int.ofNat_tmod a b).symm
  rw [e]; exact wrap_nat k (a % b) hs
theorem tmodN (a b s : Nat) (h : s = a % b) : (a : Int).tmod (b : Int) = (s : Int) := by
  subst h; exact (Int.ofNat_tmod a b).symm
def at0 (l : List Nat) (i : Nat) : Nat := l[i]?.getD 0
theorem at0_lt {l : List Nat} {i : Nat} (h : i < l.length) : at0 l i = l[i] := by simp [at0, h]
theorem at0_ge {l : List Nat} {i : Nat} (h : l.length ≤ i) : at0 l i = 0 := by simp [at0, h]
theorem at0_ok {l : List Nat} (h : Dok l) (i : Nat) : at0 l i < 1000000000 := by
  by_cases hi : i < l.length
  · rw [at0_lt hi]; exact h.get hi
  · rw [at0_ge (by omega)]; omega
theorem val_take_at0 (l : List Nat) (i : Nat) : val (l.take (i + 1)) = val (l.take i) + at0 l i * 1000000000 ^ i := by
  by_cases hi : i < l.length
  · rw [at0_lt hi, val_take_succ l i hi]
  · rw [at0_ge (by omega), val_take_of_le l _ (by omega), val_take_of_le l _ (by omega)]; simp
theorem wrapI (k : IntKind) (s : Nat) (hs : s ≤ hiN k) : wrapK k (s : Int) = (s : Int) := wrap_nat k s hs
/-- one digit appended -/
theorem lit_dg {T : Tab} {t e : Nat} (hu : und T t = some (.slice e)) (hs : sizeT T e = some 1) (hz : zeroT T e = some [dg 0]) (n : Nat) :
    litP T t 1 [(0, dg n)] = some (1, [dg n]) := by
  simp [litP, hu, hs, hz, rep, fillL, cells_dg, over?]
theorem rd_dg (hp : List Blk) (n : Nat) : rdSl hp 1 (.imm 1 true [dg n]) = some (1, [dg n], []) := by simp [rdSl]
theorem idf_dg (n : Nat) : idfreeL [dg n] = true := (rfl)
theorem sc_dg (n : Nat) : PV.sc (.int .u32 (n : Int)) = dg n := (rfl)
end Go.Ab
namespace Go.Ab
open Go
theorem castU (s : Nat) : ((s : Int) / 1000000000) = ((s / 1000000000 : Nat) : Int) := by omega
theorem wrapQU (k : IntKind) (a s : Nat) (h : s = a / 1000000000) (hs : s ≤ hiN k) : wrapK k ((a : Int) / 1000000000) = (s : Int) := by
  subst h
  rw [castU]; exact wrap_nat k _ hs
theorem tmodU (a s : Nat) (h : s = a % 1000000000) : (a : Int).tmod 1000000000 = (s : Int) := by
  subst h
  rw [Int.tmod_eq_emod_of_nonneg (by omega)]; omega
theorem wrapMU (k : IntKind) (a s : Nat) (h : s = a * 1000000000) (hs : s ≤ hiN k) : wrapK k ((a : Int) * 1000000000) = (s : Int) := by
  have e : ((a : Int) * 1000000000) = (s : Int) := by omega
  rw [e]; exact wrap_nat k _ hs
end Go.Ab
namespace Go.Ab
open Go
theorem digs_len_mono {x y : Nat} (h : x ≤ y) : (digs x).length ≤ (digs y).length := digs_length_le (Nat.lt_of_le_of_lt h (lt_digs y))
end Go.Ab
namespace Go.Ab
open Go
theorem wrapAI (k : IntKind) (a b s : Nat) (h : s = a + b) (hs : s ≤ hiN k) : wrapK k ((a : Int) + (b : Int)) = (s : Int) := wrapA k a b s h hs
theorem drop_set_self {l : List Nat} {m y : Nat} (h : m < l.length) : (l.set m y).drop m = y :: l.drop (m + 1) := by
  rw [List.drop_eq_getElem_cons (by simpa using h)]
  simp [List.drop_set]
theorem val_drop_at0 (l : List Nat) (m : Nat) (h : m < l.length) : val (l.drop m) = at0 l m + 1000000000 * val (l.drop (m + 1)) := by
  rw [List.drop_eq_getElem_cons h, val, at0_lt h]
theorem div_step {V V' Q R a b : Nat} (hb : 0 < b) (hV : V' = a + 1000000000 * V) (hQ : Q = V / b) (hR : R = V % b) :
    (R * 1000000000 + a) / b + 1000000000 * Q = V' / b ∧ (R * 1000000000 + a) % b = V' % b := by
  have e : V' = (R * 1000000000 + a) + b * (1000000000 * Q) := by
    have h := Nat.div_add_mod V b
    rw [← hQ, ← hR] at h
    rw [hV, ← h]
    grind
  rw [e, Nat.add_mul_div_left _ _ hb, Nat.add_mul_mod_self_left]
  exact ⟨rfl, rfl⟩
end Go.Ab
namespace Go.Ab
open Go
/-! decimal texts -/
/-- a digit's value: b - 48 (written so that nothing unfolds it) -/
def dv (b : Nat) : Nat := (b + 208) % 256
def stp (a b : Nat) : Nat := 10 * a + dv b
def dec (a : Nat) (l : List Nat) : Nat := l.foldl stp a
theorem dec_cons (a b : Nat) (l : List Nat) : dec a (b :: l) = dec (stp a b) l := rfl
def digB (b : Nat) : Bool := Nat.ble 48 b && Nat.ble b 57
def digL : List Nat → Bool
  | [] => true
  | b :: l => digB b && digL l
theorem digB_iff {b : Nat} : digB b = true ↔ 48 ≤ b ∧ b ≤ 57 := by simp [digB]
theorem dec_append (a : Nat) (l m : List Nat) : dec a (l ++ m) = dec (dec a l) m := by
  unfold dec; rw [List.foldl_append]
theorem dec_acc (a : Nat) (l : List Nat) : dec a l = a * 10 ^ l.length + dec 0 l := by
  induction l generalizing a with
  | nil => simp [dec]
  | cons b l ih =>
    have h1 := ih (stp a b)
    have h2 := ih (stp 0 b)
    rw [dec_cons, dec_cons, h1, h2, List.length_cons, Nat.pow_succ]
    unfold stp
    generalize dv b = c
    grind
theorem digL_append (l m : List Nat) : digL (l ++ m) = (digL l && digL m) := by
  induction l with
  | nil => rfl
  | cons b l ih => simp [digL, ih, Bool.and_assoc]
theorem dec_lt (l : List Nat) (h : digL l = true) : dec 0 l < 10 ^ l.length := by
  induction l using snoc_ind with
  | h0 => simp [dec]
  | h1 l b ih =>
    rw [digL_append, Bool.and_eq_true] at h
    have h1 := ih h.1
    have h2 : digB b = true := by simpa [digL] using h.2
    rw [digB_iff] at h2
    rw [dec_append, List.length_append, List.length_singleton, Nat.pow_succ]
    rw [dec_cons, stp]
    show 10 * dec 0 l + dv b < 10 ^ l.length * 10
    unfold dv
    omega
def u8v (n : Nat) : PV := .sc (.int .u8 n)
def encU (l : List Nat) : PV := .imm l.length false (l.map u8v)
theorem headU (l : List Nat) (i : Nat) (h : i < l.length) : (dropN (l.map u8v) i).head? = some (.sc (.int .u8 (l[i] : Int))) := by
  rw [dropN_eq, ← List.map_drop, List.drop_eq_getElem_cons h]; rfl
def bys (s : ByteArray) : List Nat := (strL s).map UInt8.toNat
theorem wrapM10 (k : IntKind) (a s : Nat) (h : s = 10 * a) (hs : s ≤ hiN k) : wrapK k (10 * (a : Int)) = (s : Int) := by
  have e : (10 * (a : Int)) = (s : Int) := by omega
  rw [e]; exact wrap_nat k _ hs
theorem wrapS48 (k : IntKind) (a s : Nat) (h : a = s + 48) (hs : s ≤ hiN k) : wrapK k ((a : Int) - 48) = (s : Int) := by
  have e : ((a : Int) - 48) = (s : Int) := by omega
  rw [e]; exact wrap_nat k _ hs
theorem wrapI9 (z : Int) (h : -9223372036854775808 ≤ z - 9) (h2 : z - 9 ≤ 9223372036854775807) : wrapK .i64 (z - 9) = z - 9 := by
  unfold wrapK
  have h1 : decide (loK .i64 ≤ z - 9) = true := decide_eq_true (by simp only [loK]; omega)
  have h2 : decide (z - 9 ≤ hiK .i64) = true := decide_eq_true (by simp only [hiK]; omega)
  rw [h1, h2]; rfl
theorem exec_block_ret {C : Cfg} {run : Runs} {k i : Nat} {b : Code} {st st' : St} (h : execC C run k b st = some (.ret, st')) : execC C run k (.block i b) st = some (.ret, st') := by
  simp only [execC, h]
end Go.Ab
namespace Go.Ab
open Go
theorem bys_len (s : ByteArray) : (bys s).length = (strL s).length := by simp [bys]
theorem slice_bys (s : ByteArray) (l h : Nat) (h1 : l ≤ h) (h2 : h ≤ (strL s).length) :
    sliceStr s (some (.sc (.int .i64 (l : Int)))) (some (.sc (.int .i64 (h : Int)))) none = some (.sc (.string (mkStr (((strL s).take h).drop l)))) := by
  simp [sliceStr, bnd, bound?, asNat_nat, h1, h2]
theorem conv_bys (l : List UInt8) : (.imm (strL (mkStr l)).length false ((strL (mkStr l)).map fun b => PV.sc (.int .u8 (b.toNat : Int))) : PV) = encU (l.map UInt8.toNat) := by
  rw [strL_mk, encU, List.length_map, List.map_map]; rfl
end Go.Ab
namespace Go.Ab
open Go
theorem roB_one (hp : List Blk) (id i : Nat) (h : i ≠ id) : nthB (roB hp [id]) i = nthB hp i := by
  unfold roB
  split
  · rename_i cs e
    simp only [roB]
    rw [nthB_setB e, if_neg h]
  · rfl
theorem OwnD.arg {b : Nat} {hp : List Blk} {l : List Nat} {p : PV} (h : OwnD b hp l p) (n : Bool) :
    ∃ q ids, mapIds (Ab.snap hp snapDepth) [.sc (.bool n), p] = some ([.sc (.bool n), q], ids) ∧ canonL [.sc (.bool n), q] = [.sc (.bool n), encD l] ∧ ∀ i, i < b → nthB (roB hp ids) i = nthB hp i := by
  obtain ⟨hb, h⟩ := h
  rcases h with ⟨rfl, rfl⟩ | ⟨id, m, hid, _, rfl, h⟩
  · exact ⟨.sc (.slice none 0 0), [], rfl, rfl, fun _ _ => rfl⟩
  · have ht : takeN? (dropN ((l ++ m).map dg) 0) (l.length * 1) = some (l.map dg) := by
      rw [dropN_eq, takeN?_of (by simp)]
      simp
    have hs := snap_dgs hp 10 l
    have h1 : Ab.snap hp 12 (.own id 1 0 l.length false) = some (.imm l.length false (l.map dg), [id]) := by
      rw [Ab.snap]
      simp only [h]
      rw [if_neg (by simp), ht]
      simp only [hs]
    refine ⟨.imm l.length false (l.map dg), [id], ?_, ?_, fun i hi => roB_one hp id i (by omega)⟩
    · simp only [snapDepth, mapIds, h1]
      rfl
    · simp only [canonL, canon, canonL_dgs]; rfl
theorem drop_split (l : List Nat) (lo e : Nat) (h : lo ≤ e) (he : e ≤ l.length) : l.drop lo = (l.take e).drop lo ++ l.drop e := by
  conv => lhs; rw [← List.take_append_drop e l]
  rw [List.drop_append_of_le_length (by rw [List.length_take]; omega)]
end Go.Ab
namespace Go.Ab
open Go
theorem log2_le {n m : Nat} (h : n.log2 < 29 * m) : (digs n).length ≤ m := by
  by_cases h0 : n = 0
  · subst h0; simp [digs_zero]
  · have h1 : n < 2 ^ (n.log2 + 1) := Nat.lt_log2_self
    have h2 : 2 ^ (n.log2 + 1) ≤ 2 ^ (29 * m) := Nat.pow_le_pow_right (by omega) h
    have h3 : (2 : Nat) ^ (29 * m) ≤ 1000000000 ^ m := by
      rw [Nat.pow_mul]
      exact Nat.pow_le_pow_left (by decide) _
    exact digs_length_le (Nat.lt_of_lt_of_le h1 (Nat.le_trans h2 h3))
theorem log2_sm {n : Nat} (h : n.log2 < 11000000) : (digs n).length < 400000 :=
  Nat.lt_of_le_of_lt (log2_le (m := 399999) (Nat.lt_trans h (by decide))) (by decide)
end Go.Ab
namespace Go.Ab
open Go

/-! contracts for the evaluator: results worked out -/
noncomputable def fcC {β : Type} (v : PV) (c : PV → β) : β :=
  match v with
  | .imm n x cs => fcN n fun n => fcB x fun x => fcL cs fun cs => c (.imm n x cs)
  | v => fcV v c
noncomputable def fcCL {β : Type} (l : List PV) : (List PV → β) → β :=
  List.rec (fun c => c []) (fun a _ ih c => fcC a fun a => ih fun l => c (a :: l)) l
noncomputable def fcT {β : Type} (v : PV) (c : PV → β) : β :=
  match v with
  | .agg cs => fcCL cs fun cs => c (.agg cs)
  | v => fcC v c
noncomputable def fcTL {β : Type} (l : List PV) : (List PV → β) → β :=
  List.rec (fun c => c []) (fun a _ ih c => fcT a fun a => ih fun l => c (a :: l)) l
theorem fcC_eq {β : Type} (v : PV) (c : PV → β) : fcC v c = c v := by
  unfold fcC
  split
  · rw [fcN_eq, fcB_eq, fcL_eq]
  · exact fcV_eq v c
theorem fcCL_eq {β : Type} : ∀ (l : List PV) (c : List PV → β), fcCL l c = c l
  | [], _ => rfl
  | a :: l, c => by
    show fcC a (fun a => fcCL l fun l => c (a :: l)) = _
    rw [fcC_eq, fcCL_eq l]
theorem fcT_eq {β : Type} (v : PV) (c : PV → β) : fcT v c = c v := by
  unfold fcT
  split
  · rw [fcCL_eq]
  · exact fcC_eq v c
theorem fcTL_eq {β : Type} : ∀ (l : List PV) (c : List PV → β), fcTL l c = c l
  | [], _ => rfl
  | a :: l, c => by
    show fcT a (fun a => fcTL l fun l => c (a :: l)) = _
    rw [fcT_eq, fcTL_eq l]
def canonC : PV → PV
  | .sc v => match v with
    | .slice none 0 0 => .imm 0 false []
    | v => .sc v
  | .imm n _ cs => .imm n false cs
  | v => v
def canonQ : PV → PV
  | .agg cs => .agg (cs.map canonC)
  | v => canonC v
theorem canonC_wk (p : PV) (h : p.idfree = true) : Wk p (canonC p) := by
  unfold canonC
  split
  · split
    · exact Wk.nil false
    · exact Wk.refl h
  · exact Wk.imm _ _ _
  · exact Wk.refl h
theorem wkL_map : ∀ (cs : List PV), idfreeL cs = true → WkL cs (cs.map canonC)
  | [], _ => trivial
  | c :: cs, h => by
    simp only [idfreeL, Bool.and_eq_true] at h
    exact ⟨canonC_wk c h.1, wkL_map cs h.2⟩
theorem canonQ_wk (p : PV) (h : p.idfree = true) : Wk p (canonQ p) := by
  unfold canonQ
  split
  · exact Wk.agg (wkL_map _ (by simpa [PV.idfree] using h))
  · exact canonC_wk p h
theorem mapQ_idfree : ∀ (cs : List PV), idfreeL cs = true → idfreeL (cs.map canonQ) = true
  | [], _ => rfl
  | c :: cs, h => by
    simp only [idfreeL, Bool.and_eq_true] at h
    simp only [List.map_cons, idfreeL, Bool.and_eq_true]
    exact ⟨(canonQ_wk c h.1).1, mapQ_idfree cs h.2⟩
theorem Spec.canonQ {P : Program} {g : FuncId} {f : List PV → Option (List PV)} (h : Spec P g f) : Spec P g fun a => f (a.map Ab.canonQ) := by
  intro args rs hf hi
  obtain ⟨h1, h2⟩ := h (args.map Ab.canonQ) rs hf (mapQ_idfree args hi)
  refine ⟨h1, fun w M vs hM hvs => h2 w M vs hM ⟨by rw [List.length_map]; exact hvs.1, fun k c v e1 e2 => ?_⟩⟩
  rw [List.getElem?_map] at e1
  obtain ⟨c', h5, rfl⟩ := Option.map_eq_some_iff.1 e1
  exact (canonQ_wk c' (idfree_get hi h5)).2 w M v (hvs.2 k c' v h5 e2)
abbrev OT := Tr (List PV → Option (List PV))
noncomputable def fcO (o : Option (List PV)) : Option (List PV) := match o with
  | some rs => fcTL rs fun rs => some rs
  | none => none
theorem fcO_eq (o : Option (List PV)) : fcO o = o := by
  cases o with
  | none => rfl
  | some rs => exact fcTL_eq rs _
noncomputable def orcTr (t : OT) : Nat → List PV → Option (List PV) := fun g a => match t.get g with
  | some f => fcO (f (a.map canonQ))
  | none => none
theorem orcTr_ok {P : Program} {t : OT} (h : t.All fun n f => Spec P n f) (g : Nat) : Spec P g (orcTr t g) := by
  unfold orcTr
  cases e : t.get g with
  | none => exact Spec.no P g
  | some f =>
    have h1 := (Tr.get_all t h g f e).canonQ
    simp only [fcO_eq]
    exact h1
def yes : Option (List PV × FT Blk × Nat × List Nat) → Bool
  | some ([.sc (.bool b)], _) => b
  | _ => false
theorem yes_ok {C : Cfg} {k : Nat} {g : FuncId} {args : List PV} (h : yes (runT C k g args .lf 0) = true) : ∃ hp w, runK C k g args [] = some ([.sc (.bool true)], hp, w) := by
  unfold yes at h
  split at h
  · rename_i b x e
    subst h
    obtain ⟨t', m', w⟩ := x
    obtain ⟨hp', h1, h2⟩ := runT_ok C k g args .lf 0 _ _ _ _ e [] (by exact ⟨rfl, fun i hi => by simp at hi⟩)
    exact ⟨hp', w, h1⟩
  · cases h
end Go.Ab
namespace Go.Ab
open Go
/-! one call, worked out once -/
def eqK1 (a b : IntKind) : Bool := eqK a b
def eqInt : Int → Int → Bool
  | .ofNat a, .ofNat b => a.beq b
  | .negSucc a, .negSucc b => a.beq b
  | _, _ => false
theorem eqInt_ok : ∀ {a b : Int}, eqInt a b = true → a = b
  | .ofNat a, .ofNat b, h => by rw [Nat.eq_of_beq_eq_true h]
  | .negSucc a, .negSucc b, h => by rw [Nat.eq_of_beq_eq_true h]
  | .ofNat _, .negSucc _, h => by cases h
  | .negSucc _, .ofNat _, h => by cases h
def eqB : Bool → Bool → Bool
  | true, true => true
  | false, false => true
  | _, _ => false
theorem eqB_ok : ∀ {a b : Bool}, eqB a b = true → a = b
  | true, true, _ => rfl
  | false, false, _ => rfl
  | true, false, h => by cases h
  | false, true, h => by cases h
theorem eqL_sound : ∀ {a b : List UInt8}, eqL a b = true → a = b
  | [], [], _ => rfl
  | a :: x, b :: y, h => by
    simp only [eqL, Bool.and_eq_true, beq_iff_eq] at h
    rw [eqL_sound h.2, UInt8.toNat_inj.1 h.1]
  | [], _ :: _, h => by simp [eqL] at h
  | _ :: _, [], h => by simp [eqL] at h
def eqAll (e : PV → PV → Bool) : List PV → List PV → Bool
  | [], [] => true
  | a :: x, b :: y => e a b && eqAll e x y
  | _, _ => false
theorem eqAll_ok {e : PV → PV → Bool} (h : ∀ a b, e a b = true → a = b) : ∀ {x y : List PV}, eqAll e x y = true → x = y
  | [], [], _ => rfl
  | a :: x, b :: y, hh => by
    simp only [eqAll, Bool.and_eq_true] at hh
    rw [h a b hh.1, eqAll_ok h hh.2]
  | [], _ :: _, hh => by simp [eqAll] at hh
  | _ :: _, [], hh => by simp [eqAll] at hh
def eqP : Nat → PV → PV → Bool
  | 0, _, _ => false
  | k + 1, a, b => match a, b with
    | .sc (.int i m), .sc (.int j n) => eqK i j && eqInt m n
    | .sc (.bool m), .sc (.bool n) => eqB m n
    | .sc (.string s), .sc (.string t) => eqL (strL s) (strL t)
    | .imm m x cs, .imm n y ds => m.beq n && (eqB x y && eqAll (eqP k) cs ds)
    | .agg cs, .agg ds => eqAll (eqP k) cs ds
    | _, _ => false
theorem eqP_ok : ∀ (k : Nat) (a b : PV), eqP k a b = true → a = b
  | 0, a, b, h => by cases h
  | k + 1, a, b, h => by
    unfold eqP at h
    split at h
    · simp only [Bool.and_eq_true] at h
      rw [eqK_spec h.1, eqInt_ok h.2]
    · rw [eqB_ok h]
    · rename_i s t
      have := eqL_sound h
      rw [← mk_strL s, ← mk_strL t, this]
    · simp only [Bool.and_eq_true] at h
      rw [Nat.eq_of_beq_eq_true h.1, eqB_ok h.2.1, eqAll_ok (eqP_ok k) h.2.2]
    · rw [eqAll_ok (eqP_ok k) h]
    · cases h
def memoF (args : List PV) : List PV → Option (List PV) := fun a => bif eqAll (eqP 8) (canonL a) args then some [.sc (.bool true)] else none
theorem memo_spec {C : Cfg} (hC : CfgOk C) {k : Nat} {g : FuncId} {args : List PV} (h : yes (runT C k g args .lf 0) = true) : Spec C.P g (memoF args) := by
  obtain ⟨hp, w, hr⟩ := yes_ok h
  have h1 : Spec C.P g fun a => bif eqAll (eqP 8) a args then some [.sc (.bool true)] else .none :=
    Spec.of_one hC (fun a ha => eqAll_ok (eqP_ok 8) ha) ⟨k, _, _, _, [.sc (.bool true)], [], hr, rfl, Wk.refl rfl, trivial⟩
  exact h1.canon
def orF (f f' : List PV → Option (List PV)) : List PV → Option (List PV) := fun a => match f a with
  | some r => some r
  | none => f' a
end Go.Ab
namespace Go.Ab
open Go Go.RowKit
theorem calls_of_memo {P : Program} {g : FuncId} (he : ∀ (args : Array Value) (w : World), (callFunc g args).run P w = .ok (.enter g args) w) (h : Spec P g (memoF [])) (W : World) :
    Calls P g #[] W fun e w' => e = .returned (.bool true) ∧ Below W.heap.size W w' := by
  obtain ⟨-, h2⟩ := h [] [.sc (.bool true)] rfl rfl
  have h3 := h2 W (fun _ => False) [] (fun _ hf => hf.elim) ⟨rfl, fun k p v h1 _ => by simp at h1⟩
  unfold CallOk at h3
  rw [he] at h3
  refine h3.mono fun e w' hh => ?_
  obtain ⟨v, rfl, us, rfl, hv, ho⟩ := hh
  obtain ⟨h4, h5⟩ := hv
  match us, h4 with
  | [u], _ =>
    have e1 := h5 0 _ u rfl rfl
    cases e1
    exact ⟨rfl, ho.os, ho.tape, ho.output, ho.size, ho.same⟩
end Go.Ab
namespace Go.Ab
open Go
/-! one call, worked out once: any results that are scalars -/
def allSc : List PV → Bool
  | [] => true
  | .sc _ :: r => allSc r
  | _ => false
theorem allSc_snap (hp : List Blk) : ∀ {rs : List PV}, allSc rs = true → mapIds (snap hp snapDepth) rs = some (rs, []) ∧ idfreeL rs = true
  | [], _ => ⟨rfl, rfl⟩
  | .sc v :: r, h => by
    obtain ⟨h1, h2⟩ := allSc_snap hp (rs := r) h
    refine ⟨?_, ?_⟩
    · simp only [mapIds, h1]
      rfl
    · simp only [idfreeL, PV.idfree, h2, Bool.and_self]
def resIs (rs : List PV) : Option (List PV × FT Blk × Nat × List Nat) → Bool
  | some (r, _) => eqAll (eqP 8) r rs
  | none => false
theorem resIs_ok {C : Cfg} {k : Nat} {g : FuncId} {args rs : List PV} (h : resIs rs (runT C k g args .lf 0) = true) : ∃ hp w, runK C k g args [] = some (rs, hp, w) := by
  unfold resIs at h
  split at h
  · rename_i r x e
    have := eqAll_ok (eqP_ok 8) h
    subst this
    obtain ⟨t', m', w⟩ := x
    obtain ⟨hp', h1, h2⟩ := runT_ok C k g args .lf 0 _ _ _ _ e [] (by exact ⟨rfl, fun i hi => by simp at hi⟩)
    exact ⟨hp', w, h1⟩
  · cases h
def memoR (args rs : List PV) : List PV → Option (List PV) := fun a => bif eqAll (eqP 8) (canonL a) args then some rs else none
theorem memoR_spec {C : Cfg} (hC : CfgOk C) {k : Nat} {g : FuncId} {args rs : List PV} (hs : allSc rs = true) (h : resIs rs (runT C k g args .lf 0) = true) : Spec C.P g (memoR args rs) := by
  obtain ⟨hp, w, hr⟩ := resIs_ok h
  obtain ⟨h2, h3⟩ := allSc_snap hp hs
  have h1 : Spec C.P g fun a => bif eqAll (eqP 8) a args then some rs else .none :=
    Spec.of_one hC (fun a ha => eqAll_ok (eqP_ok 8) ha) ⟨k, _, _, _, rs, [], hr, h2, WkL.refl h3⟩
  exact h1.canon
/-- a contract, as a call -/
theorem Spec.calls {P : Program} {g : FuncId} {f : List PV → Option (List PV)} (h : Spec P g f) (he : ∀ (args : Array Value) (w : World), (callFunc g args).run P w = .ok (.enter g args) w)
    {args rs : List PV} (hf : f args = some rs) (hi : idfreeL args = true) {w : World} {M : Nat → Prop} {vs : List Value} (hM : ∀ b, M b → b < w.heap.size) (hv : Vs w M [] NoL args vs) :
    Calls P g vs.toArray w fun e w' => ∃ us, e = .returned (retV us) ∧ Vs w' M [] NoL rs us ∧ Old w w' := by
  have h3 := (h args rs hf hi).2 w M vs hM hv
  unfold CallOk at h3
  rw [he] at h3
  exact h3.mono fun e w' ⟨v, e1, us, e2, h4⟩ => ⟨us, by rw [e1, e2], h4⟩
end Go.Ab
