/- Contracts of Whole's Sign, Neg, Add, Sub, Cmp, Mul, where lengths are below 400,000 digits. -/
import Derived.Test.YtciabmckldfofaaGreatDoorNumA
set_option linter.unusedSimpArgs false
set_option linter.unusedVariables false
namespace Go.Proofs.YtciabmckldfofaaGreatDoor
open Go Go.Ab
/-! calls of what is known -/
theorem call_of {L : Lst} {g : Nat} {f : List PV → Option (List PV)} (hs : base.shared g = false) (ho : orcOf L g = fun a => f (canonL a)) (run : Runs) (dr : Bool) (hp : List Blk) (args rs : List PV)
    (h1 : mapIds (snap hp snapDepth) args = some (args, [])) (h2 : canonL args = args) (h3 : f args = some rs) : callP (CC L) run dr hp g args = some (retP rs, hp, ⟨[], [], false, false⟩) := by
  have h4 : (CC L).orc g args = some rs := by
    show orcOf L g args = _
    rw [ho]; show f (canonL args) = _; rw [h2, h3]
  by_cases h : rs.all scalarP = true
  · exact callP_orc hs h1 h4 h
  · exact callP_orc' hs h1 h4 (by simpa using h)
theorem args_DD (hp : List Blk) (a b : List Nat) : mapIds (snap hp snapDepth) [encD a, encD b] = some ([encD a, encD b], []) := rfl
theorem args_BD (hp : List Blk) (n : Bool) (a : List Nat) : mapIds (snap hp snapDepth) [.sc (.bool n), encD a] = some ([.sc (.bool n), encD a], []) := rfl
theorem args_W (hp : List Blk) (a : Int) : mapIds (snap hp snapDepth) [encW a] = some ([encW a], []) := rfl
theorem args_WW (hp : List Blk) (a b : Int) : mapIds (snap hp snapDepth) [encW a, encW b] = some ([encW a, encW b], []) := rfl
theorem canon_DD (a b : List Nat) : canonL [encD a, encD b] = [encD a, encD b] := by simp only [canonL, canon_encD]
theorem canon_BD (n : Bool) (a : List Nat) : canonL [.sc (.bool n), encD a] = [.sc (.bool n), encD a] := by simp only [canonL, canon_encD, canon]
theorem canon_W (a : Int) : canonL [encW a] = [encW a] := by simp only [canonL, canon_encW]
theorem canon_WW (a b : Int) : canonL [encW a, encW b] = [encW a, encW b] := by simp only [canonL, canon_encW]
/-- an integer of not too many digits -/
def Sm (z : Int) : Prop := (digs z.natAbs).length < 400000
theorem Sm.lt {z : Int} (h : Sm z) : (digs z.natAbs).length < 1000000 := Nat.lt_trans h (by decide)
theorem decW?_sm {p : PV} {z : Int} (h : decW? p = some z) : p = encW z ∧ Sm z := decW?_some h
theorem decW?_of {z : Int} (h : Sm z) : decW? (encW z) = some z := decW?_enc z h
/-! Sign -/
theorem sign_exec (L : Lst) (run : Runs) (k : Nat) (z : Int) :
    ∃ st, execC (CC L) run k (Tryz.f172.body.getD .skip) ⟨entry 11 [encW z], [], []⟩ = some (.ret, st) ∧ resP TT st.fr st.hp Tryz.f172.results.toList = some [Ab.encI z.sign] := by
  obtain ⟨e1, e2⟩ := entry1 10 (encW z)
  generalize entry 11 [encW z] = fr0 at *
  cases z with
  | ofNat n =>
    cases n with
    | zero => 
      have e3 : encW (Int.ofNat 0) = .agg [.sc (.bool false), encD []] := rfl
      rw [e3] at e2
      simp [Tryz.f172, e1, e2, execC, regP, goOps, operP, valP, wantedP, isCall, calleeP, stepP, evalP, putP, addW, FP.none, binP, binInt, binI, binBool, ofVal, lenP, indexAddrP, fieldAddrP, asNat_nat, asNat_0, asNat_1, asNat_succ, asNat_add, partOf, unP, nth_setN_eq, nth_setN_ne, setN_length, CC_T, CC_P, and_assoc, lenSl_nil, lenSl_imm, lenSl_own, lenSl_encD, cells_encD, cells_agg, cells_bool, cells_int, cells_own, cells_imm, cells_nil, okCell_encD, okCell_bool, okCell_int, okCell_own, okCell_imm, okCell_nil, okCells, okCell_dg, cells_dg, beqI, bneI, le2I, uD, uW, sD, sB, aD, aB, wf0, wf1, allocB, atAddr, nthB, dropN, resP, Ab.encI]
    | succ n =>
      have h0 := digs_length_pos.2 (Nat.succ_ne_zero n)
      have e3 : encW (Int.ofNat (n + 1)) = .agg [.sc (.bool false), encD (digs (n + 1))] := rfl
      rw [e3] at e2
      have e4 : (Int.ofNat (n + 1)).sign = 1 := rfl
      rw [e4]
      generalize digs (n + 1) = l at *
      have h1 : ((l.length : Int) == 0) = false := by simp; intro h; subst h; simp at h0
      have h2 : l ≠ [] := by intro h; subst h; simp at h0
      simp [Tryz.f172, e1, e2, execC, regP, goOps, operP, valP, wantedP, isCall, calleeP, stepP, evalP, putP, addW, FP.none, binP, binInt, binI, binBool, ofVal, lenP, indexAddrP, fieldAddrP, asNat_nat, asNat_0, asNat_1, asNat_succ, asNat_add, partOf, unP, nth_setN_eq, nth_setN_ne, setN_length, CC_T, CC_P, and_assoc, lenSl_nil, lenSl_imm, lenSl_own, lenSl_encD, cells_encD, cells_agg, cells_bool, cells_int, cells_own, cells_imm, cells_nil, okCell_encD, okCell_bool, okCell_int, okCell_own, okCell_imm, okCell_nil, okCells, okCell_dg, cells_dg, beqI, bneI, le2I, uD, uW, sD, sB, aD, aB, wf0, wf1, allocB, atAddr, nthB, dropN, resP, Ab.encI, h1, h2]
  | negSucc n =>
      have h0 := digs_length_pos.2 (Nat.succ_ne_zero n)
      have e3 : encW (Int.negSucc n) = .agg [.sc (.bool true), encD (digs (n + 1))] := rfl
      rw [e3] at e2
      have e4 : (Int.negSucc n).sign = -1 := rfl
      rw [e4]
      generalize digs (n + 1) = l at *
      have h1 : ((l.length : Int) == 0) = false := by simp; intro h; subst h; simp at h0
      have h2 : l ≠ [] := by intro h; subst h; simp at h0
      simp [Tryz.f172, e1, e2, execC, regP, goOps, operP, valP, wantedP, isCall, calleeP, stepP, evalP, putP, addW, FP.none, binP, binInt, binI, binBool, ofVal, lenP, indexAddrP, fieldAddrP, asNat_nat, asNat_0, asNat_1, asNat_succ, asNat_add, partOf, unP, nth_setN_eq, nth_setN_ne, setN_length, CC_T, CC_P, and_assoc, lenSl_nil, lenSl_imm, lenSl_own, lenSl_encD, cells_encD, cells_agg, cells_bool, cells_int, cells_own, cells_imm, cells_nil, okCell_encD, okCell_bool, okCell_int, okCell_own, okCell_imm, okCell_nil, okCells, okCell_dg, cells_dg, beqI, bneI, le2I, uD, uW, sD, sB, aD, aB, wf0, wf1, allocB, atAddr, nthB, dropN, resP, Ab.encI, h1, h2]
def signF : List PV → Option (List PV)
  | [p] => match decW? p with
    | some z => some [Ab.encI z.sign]
    | none => none
  | _ => none
theorem sign_spec : Ab.Spec base.P 172 signF := Ab.Spec.of_run (C := CC []) (ccOk trivial) fun args rs h => by
  unfold signF at h
  split at h
  · split at h
    · rename_i z hz
      obtain ⟨rfl, -⟩ := decW?_sm hz
      simp only [Option.some.injEq] at h
      subst h
      obtain ⟨st, e1, e2⟩ := sign_exec [] (runK (CC []) 1) 1 z
      exact ⟨2, _, _, _, _, _, body_ret F_of_Sign rfl e1 e2, out_encI _ _, Wk.refl rfl, trivial⟩
    · cases h
  · cases h
/-! Neg -/
noncomputable def L1 : Lst := [(243, trimF), (223, signedF), (246, plusF), (247, minusF), (224, sizeF)]
theorem L1_ok : SpecL base.P L1 := ⟨trim_spec, signed_spec, plus_spec, minus_spec, size_spec, trivial⟩
theorem o1_signed : orcOf L1 223 = fun a => signedF (canonL a) := rfl
theorem o1_plus : orcOf L1 246 = fun a => plusF (canonL a) := rfl
theorem o1_minus : orcOf L1 247 = fun a => minusF (canonL a) := rfl
theorem o1_size : orcOf L1 224 = fun a => sizeF (canonL a) := rfl
theorem call_signed (run : Runs) (dr : Bool) (hp : List Blk) (n : Bool) (l : List Nat) (hd : Dok l) (hl : l.length < 1000000) :
    callP (CC L1) run dr hp 223 [.sc (.bool n), encD l] = some (encW (sgn n (val l)), hp, ⟨[], [], false, false⟩) :=
  call_of sh_signed o1_signed run dr hp _ [encW (sgn n (val l))] (args_BD hp n l) (canon_BD n l) (by simp only [signedF, decD?_enc hd hl])
theorem call_plus (run : Runs) (dr : Bool) (hp : List Blk) (a b : List Nat) (ha : Dok a) (hla : a.length < 1000000) (hb : Dok b) (hlb : b.length < 1000000) :
    callP (CC L1) run dr hp 246 [encD a, encD b] = some (encD (padD (Nat.max a.length b.length + 1) (val a + val b)), hp, ⟨[], [], false, false⟩) :=
  call_of sh_plus o1_plus run dr hp _ [encD (padD (Nat.max a.length b.length + 1) (val a + val b))] (args_DD hp a b) (canon_DD a b) (by simp only [plusF, decD?_enc ha hla, decD?_enc hb hlb])
theorem call_minus (run : Runs) (dr : Bool) (hp : List Blk) (a b : List Nat) (ha : Dok a) (hla : a.length < 1000000) (hb : Dok b) (hlb : b.length < 1000000) (h : val b ≤ val a) (h' : b.length ≤ a.length) (h0 : a.length ≠ 0) :
    callP (CC L1) run dr hp 247 [encD a, encD b] = some (encD (padD a.length (val a - val b)), hp, ⟨[], [], false, false⟩) :=
  call_of sh_minus o1_minus run dr hp _ [encD (padD a.length (val a - val b))] (args_DD hp a b) (canon_DD a b) (by
    have h1 : Nat.ble (val b) (val a) = true := by rw [Nat.ble_eq]; exact h
    have h2 : Nat.ble b.length a.length = true := by rw [Nat.ble_eq]; exact h'
    have h3 : a.length.beq 0 = false := by
      cases e : a.length with
      | zero => exact absurd e h0
      | succ n => rfl
    simp [minusF, decD?_enc ha hla, decD?_enc hb hlb, h1, h2, h3])
theorem call_size (run : Runs) (dr : Bool) (hp : List Blk) (a b : List Nat) (ha : Dok a) (hla : a.length < 1000000) (hb : Dok b) (hlb : b.length < 1000000) :
    callP (CC L1) run dr hp 224 [encD a, encD b] = some (Ab.encI (sizeL a b), hp, ⟨[], [], false, false⟩) :=
  call_of sh_size o1_size run dr hp _ [Ab.encI (sizeL a b)] (args_DD hp a b) (canon_DD a b) (by simp only [sizeF, decD?_enc ha hla, decD?_enc hb hlb])
theorem neg_exec (run : Runs) (k : Nat) (n : Bool) (l : List Nat) (hd : Dok l) (hl : l.length < 1000000) :
    ∃ st, execC (CC L1) run k (Tryz.f244.body.getD .skip) ⟨entry 9 [wh n l], [], []⟩ = some (.ret, st) ∧ resP TT st.fr st.hp Tryz.f244.results.toList = some [encW (sgn (!n) (val l))] := by
  have hc := fun hp dr => call_signed run dr hp (!n) l hd hl
  obtain ⟨e1, e2⟩ := entry1 8 (wh n l)
  generalize entry 9 [wh n l] = fr0 at *
  have e3 : wh n l = .agg [.sc (.bool n), encD l] := rfl
  have e4 : encW (sgn (!n) (val l)) = .agg [.sc (.bool (negB (sgn (!n) (val l)))), encD (digs (sgn (!n) (val l)).natAbs)] := rfl
  rw [e3] at e2
  rw [e4] at hc ⊢
  generalize digs (sgn (!n) (val l)).natAbs = m at *
  generalize negB (sgn (!n) (val l)) = nn at *
  simp [Tryz.f244, e1, e2, execC, regP, goOps, operP, valP, wantedP, isCall, calleeP, stepP, evalP, putP, addW, FP.none, binP, binInt, binI, binBool, ofVal, lenP, indexAddrP, fieldAddrP, asNat_nat, asNat_0, asNat_1, asNat_succ, asNat_add, partOf, unP, nth_setN_eq, nth_setN_ne, setN_length, CC_T, CC_P, and_assoc, lenSl_nil, lenSl_imm, lenSl_own, lenSl_encD, cells_encD, cells_agg, cells_bool, cells_int, cells_own, cells_imm, cells_nil, okCell_encD, okCell_bool, okCell_int, okCell_own, okCell_imm, okCell_nil, okCells, okCell_dg, cells_dg, beqI, bneI, le2I, hc, uD, uW, sD, sB, sW, aD, aB, aW, zW, wf0, wf1, allocB, atAddr, nthB, setB, over?, takeN?, dropN, resP]
theorem sgn_of (z : Int) : sgn (negB z) z.natAbs = z := by
  cases z with
  | ofNat n => rfl
  | negSucc n => rfl
theorem sgn_not (z : Int) : sgn (!negB z) z.natAbs = -z := by
  cases z with
  | ofNat n => show Int.negOfNat n = -(Int.ofNat n); cases n <;> rfl
  | negSucc n => rfl
def negF : List PV → Option (List PV)
  | [p] => match decW? p with
    | some z => some [encW (-z)]
    | none => none
  | _ => none
theorem neg_spec : Ab.Spec base.P 244 negF := Ab.Spec.of_run (C := CC L1) (ccOk L1_ok) fun args rs h => by
  unfold negF at h
  split at h
  · split at h
    · rename_i z hz
      obtain ⟨rfl, hs⟩ := decW?_sm hz
      simp only [Option.some.injEq] at h
      subst h
      obtain ⟨st, e1, e2⟩ := neg_exec (runK (CC L1) 1) 1 (negB z) (digs z.natAbs) (digs_ok _) hs.lt
      rw [val_digs, sgn_not] at e2
      exact ⟨2, _, _, _, _, _, body_ret F_of_Neg rfl e1 e2, out_encW _ _, Wk.refl rfl, trivial⟩
    · cases h
  · cases h
/-! Add -/
noncomputable def addC : Code := Tryz.f176.body.getD .skip
theorem whW (z : Int) : encW z = .agg [.sc (.bool (negB z)), encD (digs z.natAbs)] := rfl
set_option maxHeartbeats 1000000 in
theorem add_exec1 (run : Runs) (k : Nat) (n : Bool) (a b : List Nat) (ha : Dok a) (hla : a.length < 400000) (hb : Dok b) (hlb : b.length < 400000) :
    ∃ st, execC (CC L1) run k addC ⟨entry 42 [wh n a, wh n b], [], []⟩ = some (.ret, st) ∧ resP TT st.fr st.hp Tryz.f176.results.toList = some [encW (sgn n (val a + val b))] := by
  have hm : Nat.max a.length b.length ≤ 400000 := Nat.max_le.2 ⟨by omega, by omega⟩
  have hv : val (padD (Nat.max a.length b.length + 1) (val a + val b)) = val a + val b := val_padD _ _ (by
    have h1 := val_lt ha
    have h2 := val_lt hb
    have h3 := Nat.pow_le_pow_right (n := 1000000000) (by omega) (Nat.le_max_left a.length b.length)
    have h4 := Nat.pow_le_pow_right (n := 1000000000) (by omega) (Nat.le_max_right a.length b.length)
    have h5 : a.length.max b.length = max a.length b.length := rfl
    rw [h5, Nat.pow_succ]; omega)
  have hc := fun hp dr => call_plus run dr hp a b ha (by omega) hb (by omega)
  have hc2 := fun hp dr => call_signed run dr hp n (padD (Nat.max a.length b.length + 1) (val a + val b)) (padD_ok _ _) (by rw [padD_length]; omega)
  rw [hv] at hc2
  generalize padD (Nat.max a.length b.length + 1) (val a + val b) = m at *
  obtain ⟨e1, e2, e3⟩ := entry2 40 (wh n a) (wh n b)
  generalize entry 42 [wh n a, wh n b] = fr0 at *
  have e4 : ∀ l, wh n l = .agg [.sc (.bool n), encD l] := fun _ => rfl
  rw [e4] at e2 e3
  simp only [whW] at hc2 ⊢
  generalize digs (sgn n (val a + val b)).natAbs = r at *
  generalize negB (sgn n (val a + val b)) = nn at *
  simp [addC, Tryz.f176, e1, e2, e3, execC, regP, goOps, operP, valP, wantedP, isCall, calleeP, stepP, evalP, putP, addW, FP.none, binP, binInt, binI, binBool, ofVal, lenP, indexAddrP, fieldAddrP, asNat_nat, asNat_0, asNat_1, asNat_succ, asNat_add, partOf, unP, nth_setN_eq, nth_setN_ne, setN_length, CC_T, CC_P, and_assoc, lenSl_nil, lenSl_imm, lenSl_own, lenSl_encD, cells_encD, cells_agg, cells_bool, cells_int, cells_own, cells_imm, cells_nil, okCell_encD, okCell_bool, okCell_int, okCell_own, okCell_imm, okCell_nil, okCells, okCell_dg, cells_dg, beqI, bneI, le2I, hc, hc2, uB, uD, uW, sD, sB, sW, aD, aB, aW, zW, wf0, wf1, allocB, atAddr, nthB, setB, over?, takeN?, dropN, resP, number, FP.free, pairsOk, FP.apart]
theorem sizeL_digs (x y : Nat) : sizeL (digs x) (digs y) = cmpN x y := by
  unfold sizeL
  by_cases h1 : (digs x).length < (digs y).length
  · rw [if_pos h1, cmpN, if_pos]
    exact Nat.lt_of_not_le fun h => absurd (digs_len_mono h) (by omega)
  · rw [if_neg h1]
    by_cases h2 : (digs y).length < (digs x).length
    · have h3 : y < x := Nat.lt_of_not_le fun h => absurd (digs_len_mono h) (by omega)
      rw [if_pos h2, cmpN, if_neg (by omega), if_neg (by omega)]
    · rw [if_neg h2, val_digs, val_digs]
set_option maxHeartbeats 1000000 in
theorem add_exec2 (run : Runs) (k : Nat) (n : Bool) (x y : Nat) (hla : (digs x).length < 400000) (hlb : (digs y).length < 400000) (hxy : x < y) :
    ∃ st, execC (CC L1) run k addC ⟨entry 42 [wh n (digs x), wh (!n) (digs y)], [], []⟩ = some (.ret, st) ∧ resP TT st.fr st.hp Tryz.f176.results.toList = some [encW (sgn (!n) (y - x))] := by
  have hv : val (padD (digs y).length (y - x)) = y - x := val_padD _ _ (Nat.lt_of_le_of_lt (Nat.sub_le _ _) (lt_digs y))
  have hy0 : (digs y).length ≠ 0 := by
    have := (digs_length_pos (n := y)).2 (by omega)
    omega
  have hc0 := fun hp dr => call_size run dr hp (digs x) (digs y) (digs_ok _) (by omega) (digs_ok _) (by omega)
  rw [sizeL_digs, cmpN, if_pos hxy] at hc0
  have hc := fun hp dr => call_minus run dr hp (digs y) (digs x) (digs_ok _) (by omega) (digs_ok _) (by omega) (by rw [val_digs, val_digs]; omega) (digs_len_mono (Nat.le_of_lt hxy)) hy0
  rw [val_digs, val_digs] at hc
  have hc2 := fun hp dr => call_signed run dr hp (!n) (padD (digs y).length (y - x)) (padD_ok _ _) (by rw [padD_length]; omega)
  rw [hv] at hc2
  generalize padD (digs y).length (y - x) = m at *
  obtain ⟨e1, e2, e3⟩ := entry2 40 (wh n (digs x)) (wh (!n) (digs y))
  generalize entry 42 [wh n (digs x), wh (!n) (digs y)] = fr0 at *
  have e4 : ∀ n l, wh n l = .agg [.sc (.bool n), encD l] := fun _ _ => rfl
  rw [e4] at e2 e3
  simp only [whW] at hc2 ⊢
  generalize digs (sgn (!n) (y - x)).natAbs = r at *
  generalize negB (sgn (!n) (y - x)) = nn at *
  have hnn : (n == !n) = false := by cases n <;> rfl
  simp only [Ab.encI] at hc0
  simp [addC, Tryz.f176, e1, e2, e3, execC, regP, goOps, operP, valP, wantedP, isCall, calleeP, stepP, evalP, putP, addW, FP.none, binP, binInt, binI, binBool, ofVal, lenP, indexAddrP, fieldAddrP, asNat_nat, asNat_0, asNat_1, asNat_succ, asNat_add, partOf, unP, nth_setN_eq, nth_setN_ne, setN_length, CC_T, CC_P, and_assoc, lenSl_nil, lenSl_imm, lenSl_own, lenSl_encD, cells_encD, cells_agg, cells_bool, cells_int, cells_own, cells_imm, cells_nil, okCell_encD, okCell_bool, okCell_int, okCell_own, okCell_imm, okCell_nil, okCells, okCell_dg, cells_dg, beqI, bneI, le2I, hc, hc0, hc2, hnn, uB, uD, uW, sD, sB, sW, aD, aB, aW, zW, wf0, wf1, allocB, atAddr, nthB, setB, over?, takeN?, dropN, resP, number, FP.free, pairsOk, FP.apart]
set_option maxHeartbeats 1000000 in
theorem add_exec3 (run : Runs) (k : Nat) (n : Bool) (x y : Nat) (hla : (digs x).length < 400000) (hlb : (digs y).length < 400000) (hxy : y ≤ x) (hx : x ≠ 0) :
    ∃ st, execC (CC L1) run k addC ⟨entry 42 [wh n (digs x), wh (!n) (digs y)], [], []⟩ = some (.ret, st) ∧ resP TT st.fr st.hp Tryz.f176.results.toList = some [encW (sgn n (x - y))] := by
  have hv : val (padD (digs x).length (x - y)) = x - y := val_padD _ _ (Nat.lt_of_le_of_lt (Nat.sub_le _ _) (lt_digs x))
  have hx0 : (digs x).length ≠ 0 := by
    have := (digs_length_pos (n := x)).2 (by omega)
    omega
  have hc0 := fun hp dr => call_size run dr hp (digs x) (digs y) (digs_ok _) (by omega) (digs_ok _) (by omega)
  have hcz : decide (cmpN x y < 0) = false := by
    apply decide_eq_false
    unfold cmpN
    rw [if_neg (by omega)]
    by_cases h : x = y
    · rw [if_pos h]; omega
    · rw [if_neg h]; omega
  have hcz' : ¬ (cmpN x y < 0) := by simpa using hcz
  rw [sizeL_digs] at hc0
  have hc := fun hp dr => call_minus run dr hp (digs x) (digs y) (digs_ok _) (by omega) (digs_ok _) (by omega) (by rw [val_digs, val_digs]; omega) (digs_len_mono hxy) hx0
  rw [val_digs, val_digs] at hc
  have hc2 := fun hp dr => call_signed run dr hp n (padD (digs x).length (x - y)) (padD_ok _ _) (by rw [padD_length]; omega)
  rw [hv] at hc2
  generalize padD (digs x).length (x - y) = m at *
  obtain ⟨e1, e2, e3⟩ := entry2 40 (wh n (digs x)) (wh (!n) (digs y))
  generalize entry 42 [wh n (digs x), wh (!n) (digs y)] = fr0 at *
  have e4 : ∀ n l, wh n l = .agg [.sc (.bool n), encD l] := fun _ _ => rfl
  rw [e4] at e2 e3
  simp only [whW] at hc2 ⊢
  generalize digs (sgn n (x - y)).natAbs = r at *
  generalize negB (sgn n (x - y)) = nn at *
  have hnn : (n == !n) = false := by cases n <;> rfl
  simp only [Ab.encI] at hc0
  generalize cmpN x y = cc at *
  simp [addC, Tryz.f176, e1, e2, e3, execC, regP, goOps, operP, valP, wantedP, isCall, calleeP, stepP, evalP, putP, addW, FP.none, binP, binInt, binI, binBool, ofVal, lenP, indexAddrP, fieldAddrP, asNat_nat, asNat_0, asNat_1, asNat_succ, asNat_add, partOf, unP, nth_setN_eq, nth_setN_ne, setN_length, CC_T, CC_P, and_assoc, lenSl_nil, lenSl_imm, lenSl_own, lenSl_encD, cells_encD, cells_agg, cells_bool, cells_int, cells_own, cells_imm, cells_nil, okCell_encD, okCell_bool, okCell_int, okCell_own, okCell_imm, okCell_nil, okCells, okCell_dg, cells_dg, beqI, bneI, le2I, hc, hc0, hc2, hnn, hcz', uB, uD, uW, sD, sB, sW, aD, aB, aW, zW, wf0, wf1, allocB, atAddr, nthB, setB, over?, takeN?, dropN, resP, number, FP.free, pairsOk, FP.apart]
theorem sgn_eq (n : Bool) (v : Nat) : sgn n v = if n = true then -(v : Int) else (v : Int) := by
  cases n with
  | false => rfl
  | true =>
    show Int.negOfNat v = _
    cases v <;> rfl
theorem sgn_add {x y : Int} (h : negB x = negB y) : sgn (negB x) (x.natAbs + y.natAbs) = x + y := by
  rw [sgn_eq]
  rw [negB_lt, negB_lt] at h
  rw [negB_lt]
  by_cases hx : x < 0 <;> by_cases hy : y < 0 <;> simp [hx, hy] at h ⊢ <;> omega
theorem sgn_sub1 {x y : Int} (h : ¬ negB x = negB y) (hl : x.natAbs < y.natAbs) : sgn (!negB x) (y.natAbs - x.natAbs) = x + y := by
  rw [sgn_eq]
  rw [negB_lt, negB_lt] at h
  rw [negB_lt]
  by_cases hx : x < 0 <;> by_cases hy : y < 0 <;> simp [hx, hy] at h ⊢ <;> omega
theorem sgn_sub2 {x y : Int} (h : ¬ negB x = negB y) (hl : y.natAbs ≤ x.natAbs) : sgn (negB x) (x.natAbs - y.natAbs) = x + y := by
  rw [sgn_eq]
  rw [negB_lt, negB_lt] at h
  rw [negB_lt]
  by_cases hx : x < 0 <;> by_cases hy : y < 0 <;> simp [hx, hy] at h ⊢ <;> omega
theorem add_exec (run : Runs) (k : Nat) (x y : Int) (hx : Sm x) (hy : Sm y) :
    ∃ st, execC (CC L1) run k addC ⟨entry 42 [encW x, encW y], [], []⟩ = some (.ret, st) ∧ resP TT st.fr st.hp Tryz.f176.results.toList = some [encW (x + y)] := by
  by_cases hn : negB x = negB y
  · have := add_exec1 run k (negB x) (digs x.natAbs) (digs y.natAbs) (digs_ok _) hx (digs_ok _) hy
    rw [val_digs, val_digs] at this
    rw [sgn_add hn] at this
    simp only [encW]
    rw [← hn]; exact this
  · have hn' : negB y = !negB x := by
      revert hn; cases negB x <;> cases negB y <;> simp
    by_cases hxy : x.natAbs < y.natAbs
    · have := add_exec2 run k (negB x) x.natAbs y.natAbs hx hy hxy
      rw [sgn_sub1 hn hxy] at this
      simp only [encW]
      rw [hn']; exact this
    · have hx0 : x.natAbs ≠ 0 := by
        intro h0
        have : y.natAbs = 0 := by omega
        have hx : x = 0 := by omega
        have hy : y = 0 := by omega
        subst hx; subst hy
        exact hn rfl
      have := add_exec3 run k (negB x) x.natAbs y.natAbs hx hy (by omega) hx0
      rw [sgn_sub2 hn (by omega)] at this
      simp only [encW]
      rw [hn']; exact this
def addF : List PV → Option (List PV)
  | [p, q] => match decW? p, decW? q with
    | some x, some y => some [encW (x + y)]
    | _, _ => none
  | _ => none
theorem add_spec : Ab.Spec base.P 176 addF := Ab.Spec.of_run (C := CC L1) (ccOk L1_ok) fun args rs h => by
  unfold addF at h
  split at h
  · split at h
    · rename_i x y ex ey
      obtain ⟨rfl, hx⟩ := decW?_sm ex
      obtain ⟨rfl, hy⟩ := decW?_sm ey
      simp only [Option.some.injEq] at h
      subst h
      obtain ⟨st, e1, e2⟩ := add_exec (runK (CC L1) 1) 1 x y hx hy
      exact ⟨2, _, _, _, _, _, body_ret F_of_Add rfl e1 e2, out_encW _ _, Wk.refl rfl, trivial⟩
    · cases h
  · cases h
end Go.Proofs.YtciabmckldfofaaGreatDoor
namespace Go.Proofs.YtciabmckldfofaaGreatDoor
open Go Go.Ab
/-! Sub -/
noncomputable def L2 : Lst := [(244, negF), (176, addF)]
theorem L2_ok : SpecL base.P L2 := ⟨neg_spec, add_spec, trivial⟩
theorem o2_neg : orcOf L2 244 = fun a => negF (canonL a) := rfl
theorem o2_add : orcOf L2 176 = fun a => addF (canonL a) := rfl
theorem Sm.neg {z : Int} (h : Sm z) : Sm (-z) := by unfold Sm at *; rwa [Int.natAbs_neg]
theorem call_Neg (run : Runs) (dr : Bool) (hp : List Blk) (x : Int) (hx : Sm x) : callP (CC L2) run dr hp 244 [encW x] = some (encW (-x), hp, ⟨[], [], false, false⟩) :=
  call_of sh_Neg o2_neg run dr hp _ [encW (-x)] (args_W hp x) (canon_W x) (by simp only [negF, decW?_of hx])
theorem call_Add (run : Runs) (dr : Bool) (hp : List Blk) (x y : Int) (hx : Sm x) (hy : Sm y) : callP (CC L2) run dr hp 176 [encW x, encW y] = some (encW (x + y), hp, ⟨[], [], false, false⟩) :=
  call_of sh_Add o2_add run dr hp _ [encW (x + y)] (args_WW hp x y) (canon_WW x y) (by simp only [addF, decW?_of hx, decW?_of hy])
noncomputable def subC : Code := Tryz.f288.body.getD .skip
theorem sub_exec (run : Runs) (k : Nat) (x y : Int) (hx : Sm x) (hy : Sm y) :
    ∃ st, execC (CC L2) run k subC ⟨entry 9 [encW x, encW y], [], []⟩ = some (.ret, st) ∧ resP TT st.fr st.hp Tryz.f288.results.toList = some [encW (x - y)] := by
  have hc1 := fun hp dr => call_Neg run dr hp y hy
  have hc2 := fun hp dr => call_Add run dr hp x (-y) hx hy.neg
  rw [← Int.sub_eq_add_neg] at hc2
  obtain ⟨e1, e2, e3⟩ := entry2 7 (encW x) (encW y)
  generalize entry 9 [encW x, encW y] = fr0 at *
  simp only [whW] at hc1 hc2 e2 e3 ⊢
  generalize digs (-y).natAbs = ry at *
  generalize negB (-y) = ny at *
  generalize digs (x - y).natAbs = rz at *
  generalize negB (x - y) = nz at *
  generalize digs x.natAbs = rx at *
  generalize negB x = nx at *
  generalize digs y.natAbs = rw at *
  generalize negB y = nw at *
  simp [subC, Tryz.f288, e1, e2, e3, execC, regP, goOps, operP, valP, wantedP, isCall, calleeP, stepP, evalP, putP, addW, FP.none, binP, binInt, binI, binBool, ofVal, lenP, indexAddrP, fieldAddrP, asNat_nat, asNat_0, asNat_1, asNat_succ, asNat_add, partOf, unP, nth_setN_eq, nth_setN_ne, setN_length, CC_T, CC_P, and_assoc, lenSl_nil, lenSl_imm, lenSl_own, lenSl_encD, cells_encD, cells_agg, cells_bool, cells_int, cells_own, cells_imm, cells_nil, okCell_encD, okCell_bool, okCell_int, okCell_own, okCell_imm, okCell_nil, okCells, okCell_dg, cells_dg, beqI, bneI, le2I, hc1, hc2, uB, uD, uW, sD, sB, sW, aD, aB, aW, zW, wf0, wf1, allocB, atAddr, nthB, setB, over?, takeN?, dropN, resP, number, FP.free, pairsOk, FP.apart]
def subF : List PV → Option (List PV)
  | [p, q] => match decW? p, decW? q with
    | some x, some y => some [encW (x - y)]
    | _, _ => none
  | _ => none
theorem sub_spec : Ab.Spec base.P 288 subF := Ab.Spec.of_run (C := CC L2) (ccOk L2_ok) fun args rs h => by
  unfold subF at h
  split at h
  · split at h
    · rename_i x y ex ey
      obtain ⟨rfl, hx⟩ := decW?_sm ex
      obtain ⟨rfl, hy⟩ := decW?_sm ey
      simp only [Option.some.injEq] at h
      subst h
      obtain ⟨st, e1, e2⟩ := sub_exec (runK (CC L2) 1) 1 x y hx hy
      exact ⟨2, _, _, _, _, _, body_ret F_of_Sub rfl e1 e2, out_encW _ _, Wk.refl rfl, trivial⟩
    · cases h
  · cases h
/-! Cmp -/
noncomputable def cmpC : Code := Tryz.f154.body.getD .skip
theorem cmp_exec1 (L : Lst) (run : Runs) (k : Nat) (n : Bool) (a b : List Nat) :
    ∃ st, execC (CC L) run k cmpC ⟨entry 26 [wh n a, wh (!n) b], [], []⟩ = some (.ret, st) ∧ resP TT st.fr st.hp Tryz.f154.results.toList = some [Ab.encI (bif n then -1 else 1)] := by
  obtain ⟨e1, e2, e3⟩ := entry2 24 (wh n a) (wh (!n) b)
  generalize entry 26 [wh n a, wh (!n) b] = fr0 at *
  have e4 : ∀ n l, wh n l = .agg [.sc (.bool n), encD l] := fun _ _ => rfl
  rw [e4] at e2 e3
  cases n
  · simp [cmpC, Tryz.f154, e1, e2, e3, execC, regP, goOps, operP, valP, wantedP, isCall, calleeP, stepP, evalP, putP, addW, FP.none, binP, binInt, binI, binBool, ofVal, lenP, indexAddrP, fieldAddrP, asNat_nat, asNat_0, asNat_1, asNat_succ, asNat_add, partOf, unP, nth_setN_eq, nth_setN_ne, setN_length, CC_T, CC_P, and_assoc, lenSl_nil, lenSl_imm, lenSl_own, lenSl_encD, cells_encD, cells_agg, cells_bool, cells_int, cells_own, cells_imm, cells_nil, okCell_encD, okCell_bool, okCell_int, okCell_own, okCell_imm, okCell_nil, okCells, okCell_dg, cells_dg, beqI, bneI, le2I, uB, uD, uW, sD, sB, sW, aD, aB, aW, wf0, wf1, allocB, atAddr, nthB, dropN, resP, Ab.encI]
  · simp [cmpC, Tryz.f154, e1, e2, e3, execC, regP, goOps, operP, valP, wantedP, isCall, calleeP, stepP, evalP, putP, addW, FP.none, binP, binInt, binI, binBool, ofVal, lenP, indexAddrP, fieldAddrP, asNat_nat, asNat_0, asNat_1, asNat_succ, asNat_add, partOf, unP, nth_setN_eq, nth_setN_ne, setN_length, CC_T, CC_P, and_assoc, lenSl_nil, lenSl_imm, lenSl_own, lenSl_encD, cells_encD, cells_agg, cells_bool, cells_int, cells_own, cells_imm, cells_nil, okCell_encD, okCell_bool, okCell_int, okCell_own, okCell_imm, okCell_nil, okCells, okCell_dg, cells_dg, beqI, bneI, le2I, uB, uD, uW, sD, sB, sW, aD, aB, aW, wf0, wf1, allocB, atAddr, nthB, dropN, resP, Ab.encI]
theorem cmp_exec2 (run : Runs) (k : Nat) (n : Bool) (x y : Nat) (hla : (digs x).length < 400000) (hlb : (digs y).length < 400000) :
    ∃ st, execC (CC L1) run k cmpC ⟨entry 26 [wh n (digs x), wh n (digs y)], [], []⟩ = some (.ret, st) ∧ resP TT st.fr st.hp Tryz.f154.results.toList = some [Ab.encI (bif n then cmpN y x else cmpN x y)] := by
  have hc0 := fun hp dr => call_size run dr hp (digs x) (digs y) (digs_ok _) (by omega) (digs_ok _) (by omega)
  have hc1 := fun hp dr => call_size run dr hp (digs y) (digs x) (digs_ok _) (by omega) (digs_ok _) (by omega)
  rw [sizeL_digs] at hc0 hc1
  obtain ⟨e1, e2, e3⟩ := entry2 24 (wh n (digs x)) (wh n (digs y))
  generalize entry 26 [wh n (digs x), wh n (digs y)] = fr0 at *
  have e4 : ∀ n l, wh n l = .agg [.sc (.bool n), encD l] := fun _ _ => rfl
  rw [e4] at e2 e3
  simp only [Ab.encI] at hc0 hc1
  generalize cmpN x y = cc at *
  generalize cmpN y x = dd at *
  cases n
  · simp [cmpC, Tryz.f154, e1, e2, e3, execC, regP, goOps, operP, valP, wantedP, isCall, calleeP, stepP, evalP, putP, addW, FP.none, binP, binInt, binI, binBool, ofVal, lenP, indexAddrP, fieldAddrP, asNat_nat, asNat_0, asNat_1, asNat_succ, asNat_add, partOf, unP, nth_setN_eq, nth_setN_ne, setN_length, CC_T, CC_P, and_assoc, lenSl_nil, lenSl_imm, lenSl_own, lenSl_encD, cells_encD, cells_agg, cells_bool, cells_int, cells_own, cells_imm, cells_nil, okCell_encD, okCell_bool, okCell_int, okCell_own, okCell_imm, okCell_nil, okCells, okCell_dg, cells_dg, beqI, bneI, le2I, hc0, uB, uD, uW, sD, sB, sW, aD, aB, aW, wf0, wf1, allocB, atAddr, nthB, dropN, resP, Ab.encI]
  · simp [cmpC, Tryz.f154, e1, e2, e3, execC, regP, goOps, operP, valP, wantedP, isCall, calleeP, stepP, evalP, putP, addW, FP.none, binP, binInt, binI, binBool, ofVal, lenP, indexAddrP, fieldAddrP, asNat_nat, asNat_0, asNat_1, asNat_succ, asNat_add, partOf, unP, nth_setN_eq, nth_setN_ne, setN_length, CC_T, CC_P, and_assoc, lenSl_nil, lenSl_imm, lenSl_own, lenSl_encD, cells_encD, cells_agg, cells_bool, cells_int, cells_own, cells_imm, cells_nil, okCell_encD, okCell_bool, okCell_int, okCell_own, okCell_imm, okCell_nil, okCells, okCell_dg, cells_dg, beqI, bneI, le2I, hc1, uB, uD, uW, sD, sB, sW, aD, aB, aW, wf0, wf1, allocB, atAddr, nthB, dropN, resP, Ab.encI]
def cmpI (x y : Int) : Int := if x < y then -1 else if x = y then 0 else 1
theorem cmp_exec (run : Runs) (k : Nat) (x y : Int) (hx : Sm x) (hy : Sm y) :
    ∃ st, execC (CC L1) run k cmpC ⟨entry 26 [encW x, encW y], [], []⟩ = some (.ret, st) ∧ resP TT st.fr st.hp Tryz.f154.results.toList = some [Ab.encI (cmpI x y)] := by
  by_cases hn : negB x = negB y
  · have := cmp_exec2 run k (negB x) x.natAbs y.natAbs hx hy
    have e : (bif negB x then cmpN y.natAbs x.natAbs else cmpN x.natAbs y.natAbs) = cmpI x y := by
      rw [negB_lt, negB_lt] at hn
      rw [negB_lt]
      unfold cmpI cmpN
      by_cases hx : x < 0 <;> by_cases hy : y < 0 <;> simp [hx, hy] at hn ⊢
      · by_cases h1 : x < y
        · rw [if_pos (by omega), if_pos h1]
        · rw [if_neg (by omega), if_neg h1]
          by_cases h2 : x = y
          · rw [if_pos (by omega), if_pos h2]
          · rw [if_neg (by omega), if_neg h2]
      · by_cases h1 : x < y
        · rw [if_pos (by omega), if_pos h1]
        · rw [if_neg (by omega), if_neg h1]
          by_cases h2 : x = y
          · rw [if_pos (by omega), if_pos h2]
          · rw [if_neg (by omega), if_neg h2]
    rw [e] at this
    simp only [encW]
    rw [← hn]; exact this
  · have hn' : negB y = !negB x := by
      revert hn; cases negB x <;> cases negB y <;> simp
    have := cmp_exec1 L1 run k (negB x) (digs x.natAbs) (digs y.natAbs)
    have e : (bif negB x then (-1 : Int) else 1) = cmpI x y := by
      rw [negB_lt, negB_lt] at hn
      rw [negB_lt]
      unfold cmpI
      by_cases hx : x < 0 <;> by_cases hy : y < 0 <;> simp [hx, hy] at hn ⊢
      · intro h; omega
      · rw [if_neg (by omega), if_neg (by omega)]
    rw [e] at this
    simp only [encW]
    rw [hn']; exact this
def cmpF : List PV → Option (List PV)
  | [p, q] => match decW? p, decW? q with
    | some x, some y => some [Ab.encI (cmpI x y)]
    | _, _ => none
  | _ => none
theorem cmp_spec : Ab.Spec base.P 154 cmpF := Ab.Spec.of_run (C := CC L1) (ccOk L1_ok) fun args rs h => by
  unfold cmpF at h
  split at h
  · split at h
    · rename_i x y ex ey
      obtain ⟨rfl, hx⟩ := decW?_sm ex
      obtain ⟨rfl, hy⟩ := decW?_sm ey
      simp only [Option.some.injEq] at h
      subst h
      obtain ⟨st, e1, e2⟩ := cmp_exec (runK (CC L1) 1) 1 x y hx hy
      exact ⟨2, _, _, _, _, _, body_ret F_of_Cmp rfl e1 e2, out_encI _ _, Wk.refl rfl, trivial⟩
    · cases h
  · cases h
end Go.Proofs.YtciabmckldfofaaGreatDoor
namespace Go.Proofs.YtciabmckldfofaaGreatDoor
open Go Go.Ab
/-! Mul -/
noncomputable def mulC : Code := Tryz.f152.body.getD .skip
noncomputable def mulO : Code := ((Tryz.f152.body).bind loopOf).getD .skip
noncomputable def mulI : Code := (loopOf mulO).getD .skip
abbrev hpM (b0 b1 b2 : Blk) (out : List Nat) : List Blk := [b0, b1, b2, ⟨.live, out.map dg⟩]
theorem mulI_end (L : Lst) (run : Runs) (k : Nat) (fr : List PV) (hp : List Blk) (wr : List Nat) (n : Nat) (h78 : fr.length = 78) (h29 : nth fr 29 = .sc (.int .i64 (n : Int))) (h30 : nth fr 30 = .sc (.int .i64 (n : Int))) :
    ∃ fr', execC (CC L) run k mulI ⟨fr, hp, wr⟩ = some (.exit 2, ⟨fr', hp, wr⟩) ∧ fr'.length = 78 ∧ nth fr' 2 = nth fr 2 ∧ nth fr' 3 = nth fr 3 ∧ nth fr' 4 = nth fr 4 ∧ nth fr' 5 = nth fr 5 ∧ nth fr' 6 = nth fr 6 ∧ nth fr' 8 = nth fr 8 ∧ nth fr' 20 = nth fr 20 ∧ nth fr' 21 = nth fr 21 ∧ nth fr' 22 = nth fr 22 := by
  simp [mulI, mulO, Tryz.f152, loopOf, execC, regP, goOps, operP, valP, wantedP, isCall, calleeP, stepP, evalP, putP, addW, FP.none, binP, binInt, binI, binBool, ofVal, lenP, indexAddrP, fieldAddrP, asNat_nat, asNat_0, asNat_1, asNat_succ, asNat_add, partOf, unP, nth_setN_eq, nth_setN_ne, setN_length, CC_T, CC_P, and_assoc, lenSl_nil, lenSl_imm, lenSl_own, lenSl_encD, cells_encD, cells_agg, cells_bool, cells_int, cells_own, cells_imm, cells_nil, okCell_encD, okCell_bool, okCell_int, okCell_own, okCell_imm, okCell_nil, okCells, okCell_dg, cells_dg, beqI, bneI, le2I, h78, h29, h30]
set_option maxHeartbeats 4000000 in
theorem mulI_round (L : Lst) (run : Runs) (k : Nat) (fr : List PV) (b0 b1 b2 : Blk) (wr : List Nat) (b out : List Nat) (i j c x q r : Nat) (hb : Dok b) (ho : Dok out) (hx : x < 1000000000) (hc : c < 1000000000) (hj : j < b.length) (hij : i + j < out.length) (hl : out.length < 1000000)
    (h78 : fr.length = 78) (h5 : nth fr 5 = .own 3 1 0 out.length true) (h6 : nth fr 6 = .sc (.int .i64 (i : Int))) (h7 : nth fr 7 = .sc (.int .u32 (x : Int))) (h8 : nth fr 8 = .sc (.int .u64 (c : Int)))
    (h28 : nth fr 28 = encD b) (h29 : nth fr 29 = .sc (.int .i64 (b.length : Int))) (h30 : nth fr 30 = .sc (.int .i64 (j : Int))) (hr : r = (c + (x * at0 b j + at0 out (i + j))) % 1000000000) (hq : q = (c + (x * at0 b j + at0 out (i + j))) / 1000000000) :
    ∃ fr' wr', execC (CC L) run k mulI ⟨fr, hpM b0 b1 b2 out, wr⟩ = some (.normal, ⟨fr', hpM b0 b1 b2 (out.set (i + j) r), wr'⟩) ∧ fr'.length = 78 ∧ nth fr' 8 = .sc (.int .u64 (q : Int)) ∧ nth fr' 30 = .sc (.int .i64 ((j + 1 : Nat) : Int))
      ∧ nth fr' 2 = nth fr 2 ∧ nth fr' 3 = nth fr 3 ∧ nth fr' 4 = nth fr 4 ∧ nth fr' 5 = nth fr 5 ∧ nth fr' 6 = nth fr 6 ∧ nth fr' 7 = nth fr 7 ∧ nth fr' 20 = nth fr 20 ∧ nth fr' 21 = nth fr 21 ∧ nth fr' 22 = nth fr 22 ∧ nth fr' 28 = nth fr 28 ∧ nth fr' 29 = nth fr 29 := by
  have hdb := head_dg b j hj
  have hdo := head_dg out (i + j) hij
  have hby := hb.get hj
  have hoy := ho.get hij
  have hov := over_dg out (i + j) r hij
  rw [at0_lt hj, at0_lt hij] at hr hq
  generalize b[j] = y at *
  generalize out[i + j] = o at *
  have e2 : encD b = .imm b.length false (b.map dg) := rfl
  have hdy : dg y = .sc (.int .u32 (y : Int)) := rfl
  have hdo' : dg o = .sc (.int .u32 (o : Int)) := rfl
  rw [e2] at h28; rw [hdy] at hdb; rw [hdo'] at hdo
  have hxy : x * y ≤ 999999999 * 999999999 := Nat.mul_le_mul (by omega) (by omega)
  obtain ⟨s1, hs1⟩ : ∃ s1, s1 = x * y := ⟨_, rfl⟩
  rw [← hs1] at hr hq hxy
  obtain ⟨s2, hs2⟩ : ∃ s2, s2 = s1 + o := ⟨_, rfl⟩
  rw [← hs2] at hr hq
  obtain ⟨s3, hs3⟩ : ∃ s3, s3 = c + s2 := ⟨_, rfl⟩
  rw [← hs3] at hr hq
  have hw0 := wrapI .u64 x (hi64 (by omega))
  have hw1 := wrapI .u64 y (hi64 (by omega))
  have hw2 := wrapI .u64 o (hi64 (by omega))
  have hw3 := wrapM .u64 x y s1 hs1 (hi64 (by omega))
  have hw4 := wrapA .u64 s1 o s2 hs2 (hi64 (by omega))
  have hw5 := wrapA .u64 c s2 s3 hs3 (hi64 (by omega))
  have hw6 := wrapQU .u64 s3 q hq (hi64 (by omega))
  have hw9 : wrapK .u32 (r : Int) = (r : Int) := wrapI .u32 r (hi32 (by omega))
  have hw7 := wrapA .i64 i j (i + j) rfl (hiI (by omega))
  obtain ⟨p, hp⟩ : ∃ p, p = i + j := ⟨_, rfl⟩
  have hwj := wrap_succ j (by omega)
  rw [← hp] at hw7 hdo hov hij ⊢
  have hw8 := tmodU s3 r hr
  simp [mulI, mulO, Tryz.f152, loopOf, execC, regP, goOps, operP, valP, wantedP, isCall, calleeP, stepP, evalP, putP, addW, FP.none, binP, binInt, binI, binBool, ofVal, lenP, indexAddrP, fieldAddrP, asNat_nat, asNat_0, asNat_1, asNat_succ, asNat_add, partOf, unP, nth_setN_eq, nth_setN_ne, setN_length, CC_T, CC_P, and_assoc, lenSl_nil, lenSl_imm, lenSl_own, lenSl_encD, cells_encD, cells_agg, cells_bool, cells_int, cells_own, cells_imm, cells_nil, okCell_encD, okCell_bool, okCell_int, okCell_own, okCell_imm, okCell_nil, okCells, okCell_dg, cells_dg, beqI, bneI, le2I, h78, h5, h6, h7, h8, h28, h29, h30, uD, u32, u64, s32, a32, convP, hj, hij, hdb, hdo, atAddr, nthB, setB, hw0, hw1, hw2, hw3, hw4, hw5, hw6, hw7, hw8, hw9, hwj, hov, sc_dg r]
theorem at0_set_ne {l : List Nat} {p m y : Nat} (h : p ≠ m) : at0 (l.set p y) m = at0 l m := by
  simp [at0, List.getElem?_set_ne h]
theorem val_set0 (l : List Nat) (p y : Nat) (h : p < l.length) : val (l.set p y) + at0 l p * 1000000000 ^ p = val l + y * 1000000000 ^ p := by
  rw [at0_lt h]; exact val_set l p y h
theorem mul_step {V0 vo vo' c x y o P Q q r vb : Nat} (h : vo + c * P = V0 + x * vb * Q) (hv : vo' + o * P = vo + r * P) (hr : r = (c + (x * y + o)) % 1000000000) (hq : q = (c + (x * y + o)) / 1000000000) (R : Nat) (hP : P = R * Q) :
    vo' + q * (P * 1000000000) = V0 + x * (vb + y * R) * Q := by
  have e : c + (x * y + o) = r + 1000000000 * q := by omega
  have e2 : (c + (x * y + o)) * P = (r + 1000000000 * q) * P := by rw [e]
  simp only [Nat.add_mul] at e2
  have e3 : 1000000000 * q * P = q * (P * 1000000000) := by grind
  have e4 : x * (vb + y * R) * Q = x * vb * Q + x * y * P := by subst hP; grind
  rw [e4]
  omega
/-- what stays as it is in the inner loop -/
def Kept (fr fr' : List PV) : Prop := nth fr' 2 = nth fr 2 ∧ nth fr' 3 = nth fr 3 ∧ nth fr' 4 = nth fr 4 ∧ nth fr' 5 = nth fr 5 ∧ nth fr' 6 = nth fr 6 ∧ nth fr' 20 = nth fr 20 ∧ nth fr' 21 = nth fr 21 ∧ nth fr' 22 = nth fr 22
theorem mulI_loop (L : Lst) (run : Runs) (k : Nat) (b0 b1 b2 : Blk) (b : List Nat) (i x V0 : Nat) (hb : Dok b) (hx : x < 1000000000) : ∀ (n j : Nat) (fr : List PV) (wr : List Nat) (out : List Nat) (c : Nat), j + n = b.length → Dok out → c < 1000000000 → i + b.length ≤ out.length → out.length < 1000000 →
    fr.length = 78 → nth fr 5 = .own 3 1 0 out.length true → nth fr 6 = .sc (.int .i64 (i : Int)) → nth fr 7 = .sc (.int .u32 (x : Int)) → nth fr 8 = .sc (.int .u64 (c : Int)) →
    nth fr 28 = encD b → nth fr 29 = .sc (.int .i64 (b.length : Int)) → nth fr 30 = .sc (.int .i64 (j : Int)) → val out + c * 1000000000 ^ (i + j) = V0 + x * val (b.take j) * 1000000000 ^ i →
    ∃ (fr' : List PV) (wr' : List Nat) (out' : List Nat) (c' : Nat), iterL (execC (CC L) run k mulI) (n + 1) ⟨fr, hpM b0 b1 b2 out, wr⟩ = some (.exit 2, ⟨fr', hpM b0 b1 b2 out', wr'⟩) ∧ fr'.length = 78 ∧ Kept fr fr' ∧ nth fr' 8 = .sc (.int .u64 (c' : Int))
      ∧ Dok out' ∧ c' < 1000000000 ∧ out'.length = out.length ∧ val out' + c' * 1000000000 ^ (i + b.length) = V0 + x * val b * 1000000000 ^ i ∧ ∀ m, i + b.length ≤ m → at0 out' m = at0 out m
  | 0, j, fr, wr, out, c, hj, ho, hc, hil, hl, h78, h5, h6, h7, h8, h28, h29, h30, hv => by
    have : j = b.length := by omega
    subst this
    obtain ⟨fr', g1, g2, g3, g4, g5, g6, g7, g8, g9, g10, g11⟩ := mulI_end L run k fr (hpM b0 b1 b2 out) wr b.length h78 h29 h30
    exact ⟨fr', wr, out, c, iter_stop g1, g2, ⟨g3, g4, g5, g6, g7, g9, g10, g11⟩, by rw [g8, h8], ho, hc, rfl, by rw [hv, List.take_length], fun m _ => rfl⟩
  | n + 1, j, fr, wr, out, c, hj, ho, hc, hil, hl, h78, h5, h6, h7, h8, h28, h29, h30, hv => by
    have hy := at0_ok hb j
    have hoo := at0_ok ho (i + j)
    have hxy : x * at0 b j ≤ 999999999 * 999999999 := Nat.mul_le_mul (by omega) (by omega)
    obtain ⟨fr1, wr1, g1, g2, g3, g4, g5, g6, g7, g8, g9, g10, g11, g12, g13, g14, g15⟩ := mulI_round L run k fr b0 b1 b2 wr b out i j c x _ _ hb ho hx hc (by omega) (by omega) hl h78 h5 h6 h7 h8 h28 h29 h30 rfl rfl
    obtain ⟨fr', wr', out', c', q1, q2, q3, q4, q5, q6, q7, q8, q9⟩ := mulI_loop L run k b0 b1 b2 b i x V0 hb hx n (j + 1) fr1 wr1 _ _ (by omega) (ho.set (i + j) (Nat.mod_lt _ (by omega)))
      (show (c + (x * at0 b j + at0 out (i + j))) / 1000000000 < 1000000000 by omega) (by rw [List.length_set]; exact hil) (by rw [List.length_set]; exact hl) g2 (by rw [g8, h5, List.length_set]) (by rw [g9, h6]) (by rw [g10, h7]) g3 (by rw [g14, h28]) (by rw [g15, h29]) g4
      (by
        have hvs := val_set0 out (i + j) ((c + (x * at0 b j + at0 out (i + j))) % 1000000000) (by omega)
        rw [val_take_at0, show i + (j + 1) = i + j + 1 by omega, Nat.pow_succ]
        exact mul_step hv hvs rfl rfl (1000000000 ^ j) (by rw [Nat.pow_add, Nat.mul_comm]))
    obtain ⟨k1, k2, k3, k4, k5, k6, k7, k8⟩ := q3
    refine ⟨fr', wr', out', c', by rw [iter_go g1]; exact q1, q2, ⟨by rw [k1, g5], by rw [k2, g6], by rw [k3, g7], by rw [k4, g8], by rw [k5, g9], by rw [k6, g11], by rw [k7, g12], by rw [k8, g13]⟩, q4, q5, q6, by rw [q7, List.length_set], q8, fun m hm => ?_⟩
    rw [q9 m hm, at0_set_ne (by omega)]
noncomputable def mulO1 : Code := match cspine 2 mulO with | .seq (.block _ c) _ => c | c => c
noncomputable def mulO2 : Code := match cspine 2 mulO with | .seq _ c => c | c => c
theorem mulO_spine : cspine 2 mulO = .seq (.block 1 mulO1) mulO2 := rfl
noncomputable def mulR6 : Code := seq1 (seq1 (cspine 2 mulO1))
theorem mulO1_spine : cspine 2 mulO1 = .seq (.seq mulR6 (.block 2 (.loop mulI))) (cspine 3 mulO1) := rfl
theorem mulO_end (L : Lst) (run : Runs) (k : Nat) (fr : List PV) (hp : List Blk) (wr : List Nat) (n : Nat) (h78 : fr.length = 78) (h21 : nth fr 21 = .sc (.int .i64 (n : Int))) (h22 : nth fr 22 = .sc (.int .i64 (n : Int))) :
    ∃ fr', execC (CC L) run k mulO ⟨fr, hp, wr⟩ = some (.exit 0, ⟨fr', hp, wr⟩) ∧ fr'.length = 78 ∧ nth fr' 2 = nth fr 2 ∧ nth fr' 3 = nth fr 3 ∧ nth fr' 4 = nth fr 4 ∧ nth fr' 5 = nth fr 5 := by
  simp [mulO, Tryz.f152, loopOf, execC, regP, goOps, operP, valP, wantedP, isCall, calleeP, stepP, evalP, putP, addW, FP.none, binP, binInt, binI, binBool, ofVal, lenP, indexAddrP, fieldAddrP, asNat_nat, asNat_0, asNat_1, asNat_succ, asNat_add, partOf, unP, nth_setN_eq, nth_setN_ne, setN_length, CC_T, CC_P, and_assoc, lenSl_nil, lenSl_imm, lenSl_own, lenSl_encD, cells_encD, cells_agg, cells_bool, cells_int, cells_own, cells_imm, cells_nil, okCell_encD, okCell_bool, okCell_int, okCell_own, okCell_imm, okCell_nil, okCells, okCell_dg, cells_dg, beqI, bneI, le2I, h78, h21, h22]
theorem mulO_pre (L : Lst) (run : Runs) (k : Nat) (fr : List PV) (hp : List Blk) (wr : List Nat) (i n : Nat) (hi : i < n) (h78 : fr.length = 78) (h21 : nth fr 21 = .sc (.int .i64 (n : Int))) (h22 : nth fr 22 = .sc (.int .i64 (i : Int))) :
    ∃ fr', runPre (CC L) run k 2 mulO ⟨fr, hp, wr⟩ = some ⟨fr', hp, wr⟩ ∧ fr'.length = 78 ∧ nth fr' 2 = nth fr 2 ∧ nth fr' 3 = nth fr 3 ∧ nth fr' 4 = nth fr 4 ∧ nth fr' 5 = nth fr 5 ∧ nth fr' 20 = nth fr 20 ∧ nth fr' 21 = nth fr 21 ∧ nth fr' 22 = nth fr 22 := by
  simp [mulO, Tryz.f152, loopOf, runPre, execC, regP, goOps, operP, valP, wantedP, isCall, calleeP, stepP, evalP, putP, addW, FP.none, binP, binInt, binI, binBool, ofVal, lenP, indexAddrP, fieldAddrP, asNat_nat, asNat_0, asNat_1, asNat_succ, asNat_add, partOf, unP, nth_setN_eq, nth_setN_ne, setN_length, CC_T, CC_P, and_assoc, lenSl_nil, lenSl_imm, lenSl_own, lenSl_encD, cells_encD, cells_agg, cells_bool, cells_int, cells_own, cells_imm, cells_nil, okCell_encD, okCell_bool, okCell_int, okCell_own, okCell_imm, okCell_nil, okCells, okCell_dg, cells_dg, beqI, bneI, le2I, h78, h21, h22, hi]
theorem mulO_pre1 (L : Lst) (run : Runs) (k : Nat) (fr : List PV) (hp : List Blk) (wr : List Nat) (a : List Nat) (i : Nat) (hi : i < a.length) (h78 : fr.length = 78) (h20 : nth fr 20 = encD a) (h22 : nth fr 22 = .sc (.int .i64 (i : Int))) :
    ∃ fr', runPre (CC L) run k 2 mulO1 ⟨fr, hp, wr⟩ = some ⟨fr', hp, wr⟩ ∧ fr'.length = 78 ∧ nth fr' 6 = .sc (.int .i64 (i : Int)) ∧ nth fr' 7 = .sc (.int .u32 (at0 a i : Int)) ∧ nth fr' 8 = .sc (.int .u64 (0 : Nat)) ∧ nth fr' 2 = nth fr 2 ∧ nth fr' 3 = nth fr 3 ∧ nth fr' 4 = nth fr 4 ∧ nth fr' 5 = nth fr 5 ∧ nth fr' 20 = nth fr 20 ∧ nth fr' 21 = nth fr 21 ∧ nth fr' 22 = nth fr 22 := by
  have hda := head_dg a i hi
  rw [at0_lt hi]
  generalize a[i] = x at *
  have e2 : encD a = .imm a.length false (a.map dg) := rfl
  have hdx : dg x = .sc (.int .u32 (x : Int)) := rfl
  rw [e2] at h20; rw [hdx] at hda
  simp [mulO1, mulO, Tryz.f152, loopOf, cspine, runPre, execC, regP, goOps, operP, valP, wantedP, isCall, calleeP, stepP, evalP, putP, addW, FP.none, binP, binInt, binI, binBool, ofVal, lenP, indexAddrP, fieldAddrP, asNat_nat, asNat_0, asNat_1, asNat_succ, asNat_add, partOf, unP, nth_setN_eq, nth_setN_ne, setN_length, CC_T, CC_P, and_assoc, lenSl_nil, lenSl_imm, lenSl_own, lenSl_encD, cells_encD, cells_agg, cells_bool, cells_int, cells_own, cells_imm, cells_nil, okCell_encD, okCell_bool, okCell_int, okCell_own, okCell_imm, okCell_nil, okCells, okCell_dg, cells_dg, beqI, bneI, le2I, h78, h20, h22, hi, uD, u32, s32, a32, hda, atAddr]
theorem mulR6_ok (L : Lst) (run : Runs) (k : Nat) (fr : List PV) (b0 b2 b3 : Blk) (wr : List Nat) (nb : Bool) (b : List Nat) (h78 : fr.length = 78) (h3 : nth fr 3 = .ptr 1 0) :
    ∃ fr', execC (CC L) run k mulR6 ⟨fr, [b0, ⟨.live, [.sc (.bool nb), encD b]⟩, b2, b3], wr⟩ = some (.normal, ⟨fr', [b0, ⟨.live, [.sc (.bool nb), encD b]⟩, b2, b3], wr⟩) ∧ fr'.length = 78 ∧ nth fr' 28 = encD b ∧ nth fr' 29 = .sc (.int .i64 (b.length : Int)) ∧ nth fr' 30 = .sc (.int .i64 (0 : Nat))
      ∧ nth fr' 2 = nth fr 2 ∧ nth fr' 3 = nth fr 3 ∧ nth fr' 4 = nth fr 4 ∧ nth fr' 5 = nth fr 5 ∧ nth fr' 6 = nth fr 6 ∧ nth fr' 7 = nth fr 7 ∧ nth fr' 8 = nth fr 8 ∧ nth fr' 20 = nth fr 20 ∧ nth fr' 21 = nth fr 21 ∧ nth fr' 22 = nth fr 22 := by
  simp [mulR6, mulO1, mulO, Tryz.f152, loopOf, cspine, seq1, execC, regP, goOps, operP, valP, wantedP, isCall, calleeP, stepP, evalP, putP, addW, FP.none, binP, binInt, binI, binBool, ofVal, lenP, indexAddrP, fieldAddrP, asNat_nat, asNat_0, asNat_1, asNat_succ, asNat_add, partOf, unP, nth_setN_eq, nth_setN_ne, setN_length, CC_T, CC_P, and_assoc, lenSl_nil, lenSl_imm, lenSl_own, lenSl_encD, cells_encD, cells_agg, cells_bool, cells_int, cells_own, cells_imm, cells_nil, okCell_encD, okCell_bool, okCell_int, okCell_own, okCell_imm, okCell_nil, okCells, okCell_dg, cells_dg, beqI, bneI, le2I, h78, h3, uW, uD, sD, aD, wf0, wf1, atAddr, nthB, dropN]
theorem mulO_r13 (L : Lst) (run : Runs) (k : Nat) (fr : List PV) (b0 b2 : Blk) (wr : List Nat) (nb : Bool) (b out : List Nat) (i c : Nat) (hc : c < 1000000000) (hi : i + b.length < out.length) (hl : out.length < 1000000)
    (h78 : fr.length = 78) (h3 : nth fr 3 = .ptr 1 0) (h5 : nth fr 5 = .own 3 1 0 out.length true) (h6 : nth fr 6 = .sc (.int .i64 (i : Int))) (h8 : nth fr 8 = .sc (.int .u64 (c : Int))) :
    ∃ fr' wr', execC (CC L) run k (cspine 3 mulO1) ⟨fr, hpM b0 ⟨.live, [.sc (.bool nb), encD b]⟩ b2 out, wr⟩ = some (.normal, ⟨fr', hpM b0 ⟨.live, [.sc (.bool nb), encD b]⟩ b2 (out.set (i + b.length) c), wr'⟩) ∧ fr'.length = 78
      ∧ nth fr' 2 = nth fr 2 ∧ nth fr' 3 = nth fr 3 ∧ nth fr' 4 = nth fr 4 ∧ nth fr' 5 = nth fr 5 ∧ nth fr' 20 = nth fr 20 ∧ nth fr' 21 = nth fr 21 ∧ nth fr' 22 = nth fr 22 := by
  have hw7 := wrapA .i64 i b.length (i + b.length) rfl (hiI (by omega))
  have hov := over_dg out (i + b.length) c hi
  have hw9 : wrapK .u32 (c : Int) = (c : Int) := wrapI .u32 c (hi32 (by omega))
  obtain ⟨p, hp⟩ : ∃ p, p = i + b.length := ⟨_, rfl⟩
  rw [← hp] at hw7 hov hi ⊢
  simp [mulO1, mulO, Tryz.f152, loopOf, cspine, execC, regP, goOps, operP, valP, wantedP, isCall, calleeP, stepP, evalP, putP, addW, FP.none, binP, binInt, binI, binBool, ofVal, lenP, indexAddrP, fieldAddrP, asNat_nat, asNat_0, asNat_1, asNat_succ, asNat_add, partOf, unP, nth_setN_eq, nth_setN_ne, setN_length, CC_T, CC_P, and_assoc, lenSl_nil, lenSl_imm, lenSl_own, lenSl_encD, cells_encD, cells_agg, cells_bool, cells_int, cells_own, cells_imm, cells_nil, okCell_encD, okCell_bool, okCell_int, okCell_own, okCell_imm, okCell_nil, okCells, okCell_dg, cells_dg, beqI, bneI, le2I, h78, h3, h5, h6, h8, uW, uD, u32, u64, sD, s32, aD, wf0, wf1, convP, atAddr, nthB, setB, dropN, hw7, hw9, hov, hi, sc_dg c]
theorem mulO2_ok (L : Lst) (run : Runs) (k : Nat) (fr : List PV) (hp : List Blk) (wr : List Nat) (i : Nat) (hi : i < 1000000) (h78 : fr.length = 78) (h22 : nth fr 22 = .sc (.int .i64 (i : Int))) :
    ∃ fr', execC (CC L) run k mulO2 ⟨fr, hp, wr⟩ = some (.normal, ⟨fr', hp, wr⟩) ∧ fr'.length = 78 ∧ nth fr' 22 = .sc (.int .i64 ((i + 1 : Nat) : Int)) ∧ nth fr' 2 = nth fr 2 ∧ nth fr' 3 = nth fr 3 ∧ nth fr' 4 = nth fr 4 ∧ nth fr' 5 = nth fr 5 ∧ nth fr' 20 = nth fr 20 ∧ nth fr' 21 = nth fr 21 := by
  have hw := wrap_succ i (by omega)
  simp [mulO2, mulO, Tryz.f152, loopOf, cspine, execC, regP, goOps, operP, valP, wantedP, isCall, calleeP, stepP, evalP, putP, addW, FP.none, binP, binInt, binI, binBool, ofVal, lenP, indexAddrP, fieldAddrP, asNat_nat, asNat_0, asNat_1, asNat_succ, asNat_add, partOf, unP, nth_setN_eq, nth_setN_ne, setN_length, CC_T, CC_P, and_assoc, lenSl_nil, lenSl_imm, lenSl_own, lenSl_encD, cells_encD, cells_agg, cells_bool, cells_int, cells_own, cells_imm, cells_nil, okCell_encD, okCell_bool, okCell_int, okCell_own, okCell_imm, okCell_nil, okCells, okCell_dg, cells_dg, beqI, bneI, le2I, h78, h22, hw]
theorem mulO_round (L : Lst) (run : Runs) (k : Nat) (fr : List PV) (b0 b2 : Blk) (wr : List Nat) (nb : Bool) (a b out : List Nat) (i : Nat) (ha : Dok a) (hb : Dok b) (ho : Dok out) (hi : i < a.length) (hil : out.length = a.length + b.length) (hl : out.length < 1000000) (hk : b.length < k)
    (h78 : fr.length = 78) (h3 : nth fr 3 = .ptr 1 0) (h5 : nth fr 5 = .own 3 1 0 out.length true) (h20 : nth fr 20 = encD a) (h21 : nth fr 21 = .sc (.int .i64 (a.length : Int))) (h22 : nth fr 22 = .sc (.int .i64 (i : Int)))
    (hz : ∀ m, i + b.length ≤ m → at0 out m = 0) (hv : val out = val (a.take i) * val b) :
    ∃ (fr' : List PV) (wr' : List Nat) (out' : List Nat), execC (CC L) run k mulO ⟨fr, hpM b0 ⟨.live, [.sc (.bool nb), encD b]⟩ b2 out, wr⟩ = some (.normal, ⟨fr', hpM b0 ⟨.live, [.sc (.bool nb), encD b]⟩ b2 out', wr'⟩) ∧ fr'.length = 78
      ∧ nth fr' 2 = nth fr 2 ∧ nth fr' 3 = .ptr 1 0 ∧ nth fr' 4 = nth fr 4 ∧ nth fr' 5 = .own 3 1 0 out'.length true ∧ nth fr' 20 = encD a ∧ nth fr' 21 = .sc (.int .i64 (a.length : Int)) ∧ nth fr' 22 = .sc (.int .i64 ((i + 1 : Nat) : Int))
      ∧ Dok out' ∧ out'.length = out.length ∧ (∀ m, i + 1 + b.length ≤ m → at0 out' m = 0) ∧ val out' = val (a.take (i + 1)) * val b := by
  obtain ⟨f1, p1, p2, p3, p4, p5, p6, p7, p8, p9⟩ := mulO_pre L run k fr (hpM b0 ⟨.live, [.sc (.bool nb), encD b]⟩ b2 out) wr i a.length hi h78 h21 h22
  obtain ⟨f2, q1, q2, q3, q4, q5, q6, q7, q8, q9, q10, q11, q12⟩ := mulO_pre1 L run k f1 (hpM b0 ⟨.live, [.sc (.bool nb), encD b]⟩ b2 out) wr a i hi p2 (by rw [p7, h20]) (by rw [p9, h22])
  obtain ⟨f3, r1, r2, r3, r4, r5, r6, r7, r8, r9, r10, r11, r12, r13, r14, r15⟩ := mulR6_ok L run k f2 b0 b2 ⟨.live, out.map dg⟩ wr nb b q2 (by rw [q7, p4, h3])
  have hx := at0_ok ha i
  obtain ⟨f4, wr4, out4, c, t1, t2, t3, t4, t5, t6, t7, t8, t9⟩ := mulI_loop L run k b0 ⟨.live, [.sc (.bool nb), encD b]⟩ b2 b i (at0 a i) (val (a.take i) * val b) hb hx b.length 0 f3 wr out 0 (by omega) ho (by omega) (by omega) hl r2
    (by rw [r9, q9, p6, h5]) (by rw [r10, q3]) (by rw [r11, q4]) (by rw [r12, q5]) r3 r4 r5 (by rw [List.take_zero, hv]; simp [val])
  obtain ⟨k1, k2, k3, k4, k5, k6, k7, k8⟩ := t3
  have h54 : nth f4 5 = .own 3 1 0 out4.length true := by rw [k4, r9, q9, p6, h5, t7]
  obtain ⟨f5, wr5, u1, u2, u3, u4, u5, u6, u7, u8, u9⟩ := mulO_r13 L run k f4 b0 b2 wr4 nb b out4 i c t6 (by omega) (by omega) t2 (by rw [k2, r7, q7, p4, h3]) h54 (by rw [k5, r10, q3]) t4
  obtain ⟨f6, w1, w2, w3, w4, w5, w6, w7, w8, w9⟩ := mulO2_ok L run k f5 (hpM b0 ⟨.live, [.sc (.bool nb), encD b]⟩ b2 (out4.set (i + b.length) c)) wr5 i (by omega) u2 (by rw [u9, k8, r15, q12, p9, h22])
  refine ⟨f6, wr5, out4.set (i + b.length) c, ?_, w2, ?_, ?_, ?_, ?_, ?_, ?_, w3, t5.set _ t6, ?_, ?_, ?_⟩
  · rw [exec_spine 2 p1, mulO_spine]
    have hB : execC (CC L) run k mulO1 ⟨f1, hpM b0 ⟨.live, [.sc (.bool nb), encD b]⟩ b2 out, wr⟩ = some (.normal, ⟨f5, hpM b0 ⟨.live, [.sc (.bool nb), encD b]⟩ b2 (out4.set (i + b.length) c), wr5⟩) := by
      rw [exec_spine 2 q1, mulO1_spine, exec_seq ((exec_seq r1).trans (exec_loop (iter_mono t1 (by omega))))]
      exact u1
    rw [exec_seq (exec_block hB)]
    exact w1
  · rw [w4, u3, k1, r6, q6, p3]
  · rw [w5, u4, k2, r7, q7, p4, h3]
  · rw [w6, u5, k3, r8, q8, p5]
  · rw [w7, u6, h54, List.length_set]
  · rw [w8, u7, k6, r13, q10, p7, h20]
  · rw [w9, u8, k7, r14, q11, p8, h21]
  · rw [List.length_set, t7]
  · intro m hm
    rw [at0_set_ne (by omega), t9 m (by omega), hz m (by omega)]
  · have hs := val_set0 out4 (i + b.length) c (by omega)
    rw [t9 _ (Nat.le_refl _), hz _ (Nat.le_refl _), Nat.zero_mul, Nat.add_zero, t8] at hs
    rw [hs, val_take_at0, Nat.add_mul]
    grind
theorem mulO_loop (L : Lst) (run : Runs) (k : Nat) (b0 b2 : Blk) (nb : Bool) (a b : List Nat) (ha : Dok a) (hb : Dok b) (hl : a.length + b.length < 1000000) (hk : b.length < k) : ∀ (n i : Nat) (fr : List PV) (wr : List Nat) (out : List Nat), i + n = a.length → Dok out → out.length = a.length + b.length →
    fr.length = 78 → nth fr 3 = .ptr 1 0 → nth fr 5 = .own 3 1 0 out.length true → nth fr 20 = encD a → nth fr 21 = .sc (.int .i64 (a.length : Int)) → nth fr 22 = .sc (.int .i64 (i : Int)) → (∀ m, i + b.length ≤ m → at0 out m = 0) → val out = val (a.take i) * val b →
    ∃ (fr' : List PV) (wr' : List Nat) (out' : List Nat), iterL (execC (CC L) run k mulO) (n + 1) ⟨fr, hpM b0 ⟨.live, [.sc (.bool nb), encD b]⟩ b2 out, wr⟩ = some (.exit 0, ⟨fr', hpM b0 ⟨.live, [.sc (.bool nb), encD b]⟩ b2 out', wr'⟩) ∧ fr'.length = 78
      ∧ nth fr' 2 = nth fr 2 ∧ nth fr' 3 = .ptr 1 0 ∧ nth fr' 4 = nth fr 4 ∧ nth fr' 5 = .own 3 1 0 out'.length true ∧ Dok out' ∧ out'.length = a.length + b.length ∧ val out' = val a * val b
  | 0, i, fr, wr, out, hi, ho, hil, h78, h3, h5, h20, h21, h22, hz, hv => by
    have : i = a.length := by omega
    subst this
    obtain ⟨fr', g1, g2, g3, g4, g5, g6⟩ := mulO_end L run k fr (hpM b0 ⟨.live, [.sc (.bool nb), encD b]⟩ b2 out) wr a.length h78 h21 h22
    exact ⟨fr', wr, out, iter_stop g1, g2, g3, by rw [g4, h3], g5, by rw [g6, h5], ho, hil, by rw [hv, List.take_length]⟩
  | n + 1, i, fr, wr, out, hi, ho, hil, h78, h3, h5, h20, h21, h22, hz, hv => by
    obtain ⟨f1, wr1, out1, g1, g2, g3, g4, g5, g6, g7, g8, g9, g10, g11, g12, g13⟩ := mulO_round L run k fr b0 b2 wr nb a b out i ha hb ho (by omega) hil (by omega) hk h78 h3 h5 h20 h21 h22 hz hv
    obtain ⟨fr', wr', out', q1, q2, q3, q4, q5, q6⟩ := mulO_loop L run k b0 b2 nb a b ha hb hl hk n (i + 1) f1 wr1 out1 (by omega) g10 (by omega) g2 g4 g6 g7 g8 g9 g12 g13
    exact ⟨fr', wr', out', by rw [iter_go g1]; exact q1, q2, by rw [q3, g3], q4, by rw [q5, g5], q6⟩
noncomputable def mulR2 : Code := seq1 (seq1 (cspine 2 mulC))
theorem mul_spine : cspine 2 mulC = .seq (.seq mulR2 (.block 0 (.loop mulO))) (cspine 3 mulC) := rfl
theorem mul_pre (L : Lst) (run : Runs) (k : Nat) (na nb : Bool) (a b : List Nat) (hl : a.length + b.length < 1000000) :
    ∃ fr wr, runPre (CC L) run k 2 mulC ⟨entry 78 [wh na a, wh nb b], [], []⟩ = some ⟨fr, hpM ⟨.live, [.sc (.bool na), encD a]⟩ ⟨.live, [.sc (.bool nb), encD b]⟩ ⟨.live, [.sc (.bool false), .sc (.slice none 0 0)]⟩ (List.replicate (a.length + b.length) 0), wr⟩ ∧ fr.length = 78
      ∧ nth fr 2 = .ptr 0 0 ∧ nth fr 3 = .ptr 1 0 ∧ nth fr 4 = .ptr 2 0 ∧ nth fr 5 = .own 3 1 0 (a.length + b.length) true := by
  obtain ⟨e1, e2, e3⟩ := entry2 76 (wh na a) (wh nb b)
  generalize entry 78 [wh na a, wh nb b] = fr0 at *
  have e4 : ∀ n l, wh n l = .agg [.sc (.bool n), encD l] := fun _ _ => rfl
  rw [e4] at e2 e3
  have hw7 := wrapA .i64 a.length b.length (a.length + b.length) rfl (hiI (by omega))
  rw [show hpM ⟨.live, [.sc (.bool na), encD a]⟩ ⟨.live, [.sc (.bool nb), encD b]⟩ ⟨.live, [.sc (.bool false), .sc (.slice none 0 0)]⟩ (List.replicate (a.length + b.length) 0) = [⟨.live, [.sc (.bool na), encD a]⟩, ⟨.live, [.sc (.bool nb), encD b]⟩, ⟨.live, [.sc (.bool false), .sc (.slice none 0 0)]⟩, ⟨.live, rep (a.length + b.length) [dg 0]⟩] by rw [rep_dg]]
  have h1 : a.length + b.length ≤ maxLenA := Nat.le_trans (Nat.le_of_lt hl) (by decide)
  generalize hp : a.length + b.length = p at *
  simp [mulC, Tryz.f152, runPre, e1, e2, e3, execC, regP, goOps, operP, valP, wantedP, isCall, calleeP, stepP, evalP, putP, addW, FP.none, binP, binInt, binI, binBool, ofVal, lenP, indexAddrP, fieldAddrP, asNat_nat, asNat_0, asNat_1, asNat_succ, asNat_add, partOf, unP, nth_setN_eq, nth_setN_ne, setN_length, CC_T, CC_P, and_assoc, lenSl_nil, lenSl_imm, lenSl_own, lenSl_encD, cells_encD, cells_agg, cells_bool, cells_int, cells_own, cells_imm, cells_nil, okCell_encD, okCell_bool, okCell_int, okCell_own, okCell_imm, okCell_nil, okCells, okCell_dg, cells_dg, beqI, bneI, le2I, uD, uW, sD, s32, b32, z32, zW, aD, wf0, wf1, allocB, atAddr, nthB, dropN, hw7, maxBytes, h1]
theorem mul_r2 (L : Lst) (run : Runs) (k : Nat) (fr : List PV) (b1 b2 b3 : Blk) (wr : List Nat) (na : Bool) (a : List Nat) (h78 : fr.length = 78) (h2 : nth fr 2 = .ptr 0 0) :
    ∃ fr', execC (CC L) run k mulR2 ⟨fr, [⟨.live, [.sc (.bool na), encD a]⟩, b1, b2, b3], wr⟩ = some (.normal, ⟨fr', [⟨.live, [.sc (.bool na), encD a]⟩, b1, b2, b3], wr⟩) ∧ fr'.length = 78 ∧ nth fr' 20 = encD a ∧ nth fr' 21 = .sc (.int .i64 (a.length : Int)) ∧ nth fr' 22 = .sc (.int .i64 (0 : Nat))
      ∧ nth fr' 2 = nth fr 2 ∧ nth fr' 3 = nth fr 3 ∧ nth fr' 4 = nth fr 4 ∧ nth fr' 5 = nth fr 5 := by
  simp [mulR2, mulC, Tryz.f152, cspine, seq1, execC, regP, goOps, operP, valP, wantedP, isCall, calleeP, stepP, evalP, putP, addW, FP.none, binP, binInt, binI, binBool, ofVal, lenP, indexAddrP, fieldAddrP, asNat_nat, asNat_0, asNat_1, asNat_succ, asNat_add, partOf, unP, nth_setN_eq, nth_setN_ne, setN_length, CC_T, CC_P, and_assoc, lenSl_nil, lenSl_imm, lenSl_own, lenSl_encD, cells_encD, cells_agg, cells_bool, cells_int, cells_own, cells_imm, cells_nil, okCell_encD, okCell_bool, okCell_int, okCell_own, okCell_imm, okCell_nil, okCells, okCell_dg, cells_dg, beqI, bneI, le2I, h78, h2, uW, uD, sD, aD, wf0, wf1, atAddr, nthB, dropN]
theorem call_signed_own (run : Runs) (dr : Bool) (b0 b1 b2 : Blk) (n : Bool) (l : List Nat) (hd : Dok l) (hl : l.length < 1000000) :
    callP (CC L1) run dr (hpM b0 b1 b2 l) 223 [.sc (.bool n), .own 3 1 0 l.length true] = some (encW (sgn n (val l)), [b0, b1, b2, ⟨.ro, l.map dg⟩], ⟨[3], [3], false, false⟩) := by
  have h1 : mapIds (snap (hpM b0 b1 b2 l) snapDepth) [.sc (.bool n), .own 3 1 0 l.length true] = some ([.sc (.bool n), .imm l.length true (l.map dg)], [3]) := by
    have hs := snap_dgs (hpM b0 b1 b2 l) 10 l
    have : snap (hpM b0 b1 b2 l) 12 (.own 3 1 0 l.length true) = some (.imm l.length true (l.map dg), [3]) := by
      rw [snap]
      have h : nthB (hpM b0 b1 b2 l) 3 = some ⟨.live, l.map dg⟩ := rfl
      simp only [h]
      rw [if_neg (by simp), take_dg1]
      simp only [hs]
    simp only [snapDepth, mapIds, this]
    rfl
  have h2 : canonL [.sc (.bool n), .imm l.length true (l.map dg)] = [.sc (.bool n), encD l] := by
    simp only [canonL, canon, canonL_dgs]; rfl
  have h3 : (CC L1).orc 223 [.sc (.bool n), .imm l.length true (l.map dg)] = some [encW (sgn n (val l))] := by
    show signedF (canonL [.sc (.bool n), .imm l.length true (l.map dg)]) = _
    rw [h2]
    simp only [signedF, decD?_enc hd hl]
  have := callP_orc' (run := run) (dr := dr) sh_signed h1 h3 rfl
  rw [this]
  rfl
theorem mul_post (run : Runs) (k : Nat) (fr : List PV) (wr : List Nat) (na nb : Bool) (a b out : List Nat) (hd : Dok out) (hl : out.length < 1000000) (h78 : fr.length = 78) (h2 : nth fr 2 = .ptr 0 0) (h3 : nth fr 3 = .ptr 1 0) (h4 : nth fr 4 = .ptr 2 0) (h5 : nth fr 5 = .own 3 1 0 out.length true) :
    ∃ st, execC (CC L1) run k (cspine 3 mulC) ⟨fr, hpM ⟨.live, [.sc (.bool na), encD a]⟩ ⟨.live, [.sc (.bool nb), encD b]⟩ ⟨.live, [.sc (.bool false), .sc (.slice none 0 0)]⟩ out, wr⟩ = some (.ret, st) ∧ resP TT st.fr st.hp Tryz.f152.results.toList = some [encW (sgn (na != nb) (val out))] := by
  have hc := fun dr => call_signed_own run dr ⟨.live, [.sc (.bool na), encD a]⟩ ⟨.live, [.sc (.bool nb), encD b]⟩ ⟨.live, [.sc (.bool false), .sc (.slice none 0 0)]⟩ (na != nb) out hd hl
  simp only [whW] at hc ⊢
  generalize digs (sgn (na != nb) (val out)).natAbs = r at *
  generalize negB (sgn (na != nb) (val out)) = nn at *
  cases na <;> cases nb <;> simp only [bne_self_eq_false, Bool.bne_true, Bool.bne_false, Bool.not_false, Bool.not_true] at hc <;>
    simp [mulC, Tryz.f152, cspine, execC, regP, goOps, operP, valP, wantedP, isCall, calleeP, stepP, evalP, putP, addW, FP.none, binP, binInt, binI, binBool, ofVal, lenP, indexAddrP, fieldAddrP, asNat_nat, asNat_0, asNat_1, asNat_succ, asNat_add, partOf, unP, nth_setN_eq, nth_setN_ne, setN_length, CC_T, CC_P, and_assoc, lenSl_nil, lenSl_imm, lenSl_own, lenSl_encD, cells_encD, cells_agg, cells_bool, cells_int, cells_own, cells_imm, cells_nil, okCell_encD, okCell_bool, okCell_int, okCell_own, okCell_imm, okCell_nil, okCells, okCell_dg, cells_dg, beqI, bneI, le2I, hc, h78, h2, h3, h4, h5, uB, uW, sB, sD, sW, aB, aW, wf0, wf1, atAddr, nthB, setB, dropN, over?, takeN?, resP]
theorem sgn_mul (x y : Int) : sgn (negB x != negB y) (x.natAbs * y.natAbs) = x * y := by
  rw [sgn_eq, negB_lt, negB_lt, Int.natCast_mul]
  by_cases hx : x < 0 <;> by_cases hy : y < 0
  · have e1 : (x.natAbs : Int) = -x := by omega
    have e2 : (y.natAbs : Int) = -y := by omega
    simp [hx, hy, e1, e2, Int.neg_mul, Int.mul_neg]
  · have e1 : (x.natAbs : Int) = -x := by omega
    have e2 : (y.natAbs : Int) = y := by omega
    simp [hx, hy, e1, e2, Int.neg_mul, Int.mul_neg]
  · have e1 : (x.natAbs : Int) = x := by omega
    have e2 : (y.natAbs : Int) = -y := by omega
    simp [hx, hy, e1, e2, Int.neg_mul, Int.mul_neg]
  · have e1 : (x.natAbs : Int) = x := by omega
    have e2 : (y.natAbs : Int) = y := by omega
    simp [hx, hy, e1, e2, Int.neg_mul, Int.mul_neg]
theorem at0_zeros (n m : Nat) : at0 (List.replicate n 0) m = 0 := by
  by_cases h : m < n
  · simp [at0, h]
  · simp [at0, h]
def mulF : List PV → Option (List PV)
  | [p, q] => match decW? p, decW? q with
    | some x, some y => some [encW (x * y)]
    | _, _ => none
  | _ => none
theorem mul_exec (run : Runs) (k : Nat) (x y : Int) (hx : Sm x) (hy : Sm y) (hk : (digs x.natAbs).length < k) (hk2 : (digs y.natAbs).length < k) :
    ∃ st, execC (CC L1) run k mulC ⟨entry 78 [encW x, encW y], [], []⟩ = some (.ret, st) ∧ resP TT st.fr st.hp Tryz.f152.results.toList = some [encW (x * y)] := by
  have hl : (digs x.natAbs).length + (digs y.natAbs).length < 1000000 := by unfold Sm at hx hy; omega
  obtain ⟨f1, wr1, p1, p2, p3, p4, p5, p6⟩ := mul_pre L1 run k (negB x) (negB y) (digs x.natAbs) (digs y.natAbs) hl
  obtain ⟨f2, q1, q2, q3, q4, q5, q6, q7, q8, q9⟩ := mul_r2 L1 run k f1 ⟨.live, [.sc (.bool (negB y)), encD (digs y.natAbs)]⟩ ⟨.live, [.sc (.bool false), .sc (.slice none 0 0)]⟩ ⟨.live, (List.replicate ((digs x.natAbs).length + (digs y.natAbs).length) 0).map dg⟩ wr1 (negB x) (digs x.natAbs) p2 p3
  obtain ⟨f3, wr3, out, r1, r2, r3, r4, r5, r6, r7, r8, r9⟩ := mulO_loop L1 run k ⟨.live, [.sc (.bool (negB x)), encD (digs x.natAbs)]⟩ ⟨.live, [.sc (.bool false), .sc (.slice none 0 0)]⟩ (negB y) (digs x.natAbs) (digs y.natAbs) (digs_ok _) (digs_ok _) hl hk2 (digs x.natAbs).length 0 f2 wr1 (List.replicate ((digs x.natAbs).length + (digs y.natAbs).length) 0)
    (by omega) (Dok.zeros _) (by simp) q2 (by rw [q7, p4]) (by rw [q9, p6, List.length_replicate]) q3 q4 q5 (fun m _ => at0_zeros _ _) (by rw [val_zeros]; simp [val])
  obtain ⟨st, e1, e2⟩ := mul_post run k f3 wr3 (negB x) (negB y) (digs x.natAbs) (digs y.natAbs) out r7 (by omega) r2 (by rw [r3, q6, p3]) r4 (by rw [r5, q8, p5]) r6
  refine ⟨st, ?_, ?_⟩
  · rw [encW, encW, exec_spine 2 p1, mul_spine, exec_seq ((exec_seq q1).trans (exec_loop (iter_mono r1 (by omega))))]
    exact e1
  · rw [e2, r9, val_digs, val_digs, sgn_mul]
theorem mul_spec : Ab.Spec base.P 152 mulF := Ab.Spec.of_run (C := CC L1) (ccOk L1_ok) fun args rs h => by
  unfold mulF at h
  split at h
  · split at h
    · rename_i x y ex ey
      obtain ⟨rfl, hx⟩ := decW?_sm ex
      obtain ⟨rfl, hy⟩ := decW?_sm ey
      simp only [Option.some.injEq] at h
      subst h
      obtain ⟨st, e1, e2⟩ := mul_exec (runK (CC L1) 400001) 400001 x y hx hy (by unfold Sm at hx; omega) (by unfold Sm at hy; omega)
      exact ⟨400002, _, _, _, _, _, body_ret F_of_Mul rfl e1 e2, out_encW _ _, Wk.refl rfl, trivial⟩
    · cases h
  · cases h
end Go.Proofs.YtciabmckldfofaaGreatDoor
