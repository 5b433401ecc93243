/- Contracts of HasPrefix, CutPrefix and num.Read. -/
import Derived.Test.YtciabmckldfofaaGreatDoorNumC
import Derived.Test.YtciabmckldfofaaGreatDoorAbE
set_option linter.unusedSimpArgs false
set_option linter.unusedVariables false
namespace Go.Proofs.YtciabmckldfofaaGreatDoor
open Go Go.Ab
theorem uS : und TT 9 = some .string := by kernel_rfl
theorem uAI : und TT 170 = some .string := by kernel_rfl
theorem u8 : und TT 5 = some (.int .u8) := by kernel_rfl
theorem uBs : und TT 151 = some (.slice 5) := by kernel_rfl
theorem s8 : sizeT TT 5 = some 1 := by kernel_rfl
theorem a8 : isAggT TT 5 = some false := by kernel_rfl
theorem F_of_HasPre : base.F.get 158 = some Tryz.f158 := by kernel_rfl
theorem F_of_LCutPre : base.F.get 285 = some Tryz.f285 := by kernel_rfl
theorem F_of_CutPre : base.F.get 239 = some Tryz.f239 := by kernel_rfl
theorem F_of_Read : base.F.get 171 = some Tryz.f171 := by kernel_rfl
theorem sh_HasPre : base.shared 158 = false := by kernel_rfl
theorem sh_LCutPre : base.shared 285 = false := by kernel_rfl
theorem sh_CutPre : base.shared 239 = false := by kernel_rfl
theorem sh_Read : base.shared 171 = false := by kernel_rfl
/-! HasPrefix, CutPrefix -/
def prefB (p s : List UInt8) : Bool := p.length.ble s.length && eqL (s.take p.length) p
theorem geI (a b : Nat) : ((a : Int) ≥ (b : Int)) = (b ≤ a) := by apply propext; omega
theorem hasPre_exec (L : Lst) (run : Runs) (k : Nat) (s p : ByteArray) :
    ∃ st, execC (CC L) run k (Tryz.f158.body.getD .skip) ⟨entry 18 [.sc (.string s), .sc (.string p)], [], []⟩ = some (.ret, st) ∧ resP TT st.fr st.hp Tryz.f158.results.toList = some [.sc (.bool (prefB (strL p) (strL s)))] := by
  obtain ⟨e1, e2, e3⟩ := entry2 16 (.sc (.string s)) (.sc (.string p))
  generalize entry 18 [.sc (.string s), .sc (.string p)] = fr0 at *
  by_cases h : (strL p).length ≤ (strL s).length
  · have hs : sliceStr s none (some (.sc (.int .i64 ((strL p).length : Int)))) none = some (.sc (.string (mkStr ((strL s).take (strL p).length)))) := by
      simp [sliceStr, bnd, bound?, asNat_nat, h]
    have hb : (strL p).length.ble (strL s).length = true := by rw [Nat.ble_eq]; exact h
    have hb2 : (strL p).length ≤ (strL s).length := h
    simp [Tryz.f158, e1, e2, e3, execC, regP, goOps, operP, valP, wantedP, isCall, calleeP, stepP, evalP, putP, addW, FP.none, binP, binInt, binI, binBool, ofVal, lenP, indexAddrP, fieldAddrP, asNat_nat, asNat_0, asNat_1, asNat_succ, asNat_add, partOf, unP, nth_setN_eq, nth_setN_ne, setN_length, CC_T, CC_P, and_assoc, lenSl_nil, lenSl_imm, lenSl_own, lenSl_encD, cells_encD, cells_agg, cells_bool, cells_int, cells_own, cells_imm, cells_nil, okCell_encD, okCell_bool, okCell_int, okCell_own, okCell_imm, okCell_nil, okCells, okCell_dg, cells_dg, beqI, bneI, le2I, uS, h, geI, sliceP, hs, binS, strL_mk, resP, prefB, hb]
  · have hb : (strL p).length.ble (strL s).length = false := by
      cases e : (strL p).length.ble (strL s).length with
      | false => rfl
      | true => rw [Nat.ble_eq] at e; exact absurd e h
    simp [Tryz.f158, e1, e2, e3, execC, regP, goOps, operP, valP, wantedP, isCall, calleeP, stepP, evalP, putP, addW, FP.none, binP, binInt, binI, binBool, ofVal, lenP, indexAddrP, fieldAddrP, asNat_nat, asNat_0, asNat_1, asNat_succ, asNat_add, partOf, unP, nth_setN_eq, nth_setN_ne, setN_length, CC_T, CC_P, and_assoc, lenSl_nil, lenSl_imm, lenSl_own, lenSl_encD, cells_encD, cells_agg, cells_bool, cells_int, cells_own, cells_imm, cells_nil, okCell_encD, okCell_bool, okCell_int, okCell_own, okCell_imm, okCell_nil, okCells, okCell_dg, cells_dg, beqI, bneI, le2I, uS, h, geI, resP, prefB, hb]
def hasPreF : List PV → Option (List PV)
  | [.sc (.string s), .sc (.string p)] => some [.sc (.bool (prefB (strL p) (strL s)))]
  | _ => none
theorem out_bool (hp : List Blk) (b : Bool) : mapIds (snap hp snapDepth) [.sc (.bool b)] = some ([.sc (.bool b)], []) := rfl
theorem hasPre_spec : Ab.Spec base.P 158 hasPreF := Ab.Spec.of_run (C := CC []) (ccOk trivial) fun args rs h => by
  unfold hasPreF at h
  split at h
  · rename_i s p
    simp only [Option.some.injEq] at h
    subst h
    obtain ⟨st, e1, e2⟩ := hasPre_exec [] (runK (CC []) 1) 1 s p
    exact ⟨2, _, _, _, _, _, body_ret F_of_HasPre rfl e1 e2, out_bool _ _, Wk.refl rfl, trivial⟩
  · cases h
noncomputable def L6 : Lst := [(158, hasPreF)]
theorem o6 : orcOf L6 158 = fun a => hasPreF (canonL a) := rfl
theorem call6 (run : Runs) (dr : Bool) (hp : List Blk) (s p : ByteArray) : callP (CC L6) run dr hp 158 [.sc (.string s), .sc (.string p)] = some (.sc (.bool (prefB (strL p) (strL s))), hp, ⟨[], [], false, false⟩) :=
  call_of sh_HasPre o6 run dr hp _ [.sc (.bool (prefB (strL p) (strL s)))] rfl rfl rfl
def cutRes (s p : ByteArray) : List PV := bif prefB (strL p) (strL s) then [.sc (.string (mkStr ((strL s).drop (strL p).length))), .sc (.bool true)] else [.sc (.string s), .sc (.bool false)]
theorem lcut_exec (run : Runs) (k : Nat) (s p : ByteArray) :
    ∃ st, execC (CC L6) run k (Tryz.f285.body.getD .skip) ⟨entry 15 [.sc (.string s), .sc (.string p)], [], []⟩ = some (.ret, st) ∧ resP TT st.fr st.hp Tryz.f285.results.toList = some (cutRes s p) := by
  obtain ⟨e1, e2, e3⟩ := entry2 13 (.sc (.string s)) (.sc (.string p))
  generalize entry 15 [.sc (.string s), .sc (.string p)] = fr0 at *
  have hc := fun dr hp => call6 run dr hp s p
  unfold cutRes
  cases h : prefB (strL p) (strL s) with
  | false =>
    rw [h] at hc
    simp [Tryz.f285, e1, e2, e3, execC, regP, goOps, operP, valP, wantedP, isCall, calleeP, stepP, evalP, putP, addW, FP.none, binP, binInt, binI, binBool, ofVal, lenP, indexAddrP, fieldAddrP, asNat_nat, asNat_0, asNat_1, asNat_succ, asNat_add, partOf, unP, nth_setN_eq, nth_setN_ne, setN_length, CC_T, CC_P, and_assoc, lenSl_nil, lenSl_imm, lenSl_own, lenSl_encD, cells_encD, cells_agg, cells_bool, cells_int, cells_own, cells_imm, cells_nil, okCell_encD, okCell_bool, okCell_int, okCell_own, okCell_imm, okCell_nil, okCells, okCell_dg, cells_dg, beqI, bneI, le2I, hc, resP]
  | true =>
    rw [h] at hc
    have hl : (strL p).length ≤ (strL s).length := by
      simp only [prefB, Bool.and_eq_true, Nat.ble_eq] at h
      exact h.1
    have hs : sliceStr s (some (.sc (.int .i64 ((strL p).length : Int)))) none none = some (.sc (.string (mkStr ((strL s).drop (strL p).length)))) := by
      simp [sliceStr, bnd, bound?, asNat_nat, hl]
    simp [Tryz.f285, e1, e2, e3, execC, regP, goOps, operP, valP, wantedP, isCall, calleeP, stepP, evalP, putP, addW, FP.none, binP, binInt, binI, binBool, ofVal, lenP, indexAddrP, fieldAddrP, asNat_nat, asNat_0, asNat_1, asNat_succ, asNat_add, partOf, unP, nth_setN_eq, nth_setN_ne, setN_length, CC_T, CC_P, and_assoc, lenSl_nil, lenSl_imm, lenSl_own, lenSl_encD, cells_encD, cells_agg, cells_bool, cells_int, cells_own, cells_imm, cells_nil, okCell_encD, okCell_bool, okCell_int, okCell_own, okCell_imm, okCell_nil, okCells, okCell_dg, cells_dg, beqI, bneI, le2I, hc, uS, sliceP, hs, resP]
def cutPreF : List PV → Option (List PV)
  | [.sc (.string s), .sc (.string p)] => some (cutRes s p)
  | _ => none
theorem out_cut (hp : List Blk) (s p : ByteArray) : mapIds (snap hp snapDepth) (cutRes s p) = some (cutRes s p, []) := by
  unfold cutRes; cases prefB (strL p) (strL s) <;> rfl
theorem wk_cut (s p : ByteArray) : WkL (cutRes s p) (cutRes s p) := WkL.refl (by unfold cutRes; cases prefB (strL p) (strL s) <;> rfl)
theorem lcut_spec : Ab.Spec base.P 285 cutPreF := Ab.Spec.of_run (C := CC L6) (ccOk ⟨hasPre_spec, trivial⟩) fun args rs h => by
  unfold cutPreF at h
  split at h
  · rename_i s p
    simp only [Option.some.injEq] at h
    subst h
    obtain ⟨st, e1, e2⟩ := lcut_exec (runK (CC L6) 1) 1 s p
    exact ⟨2, _, _, _, _, _, body_ret F_of_LCutPre rfl e1 e2, out_cut _ _ _, wk_cut _ _⟩
  · cases h
noncomputable def L7 : Lst := [(285, cutPreF)]
theorem o7 : orcOf L7 285 = fun a => cutPreF (canonL a) := rfl
theorem call7 (run : Runs) (dr : Bool) (hp : List Blk) (s p : ByteArray) : callP (CC L7) run dr hp 285 [.sc (.string s), .sc (.string p)] = some (retP (cutRes s p), hp, ⟨[], [], false, false⟩) :=
  call_of sh_LCutPre o7 run dr hp _ (cutRes s p) rfl rfl rfl
theorem cut_exec (run : Runs) (k : Nat) (s p : ByteArray) :
    ∃ st, execC (CC L7) run k (Tryz.f239.body.getD .skip) ⟨entry 11 [.sc (.string s), .sc (.string p)], [], []⟩ = some (.ret, st) ∧ resP TT st.fr st.hp Tryz.f239.results.toList = some (cutRes s p) := by
  obtain ⟨e1, e2, e3⟩ := entry2 9 (.sc (.string s)) (.sc (.string p))
  generalize entry 11 [.sc (.string s), .sc (.string p)] = fr0 at *
  have hc := fun dr hp => call7 run dr hp s p
  unfold cutRes at hc ⊢
  cases h : prefB (strL p) (strL s) <;> rw [h] at hc <;> simp only [cond_true, cond_false, retP] at hc ⊢ <;> simp [Tryz.f239, e1, e2, e3, execC, regP, goOps, operP, valP, wantedP, isCall, calleeP, stepP, evalP, putP, addW, FP.none, binP, binInt, binI, binBool, ofVal, lenP, indexAddrP, fieldAddrP, asNat_nat, asNat_0, asNat_1, asNat_succ, asNat_add, partOf, unP, nth_setN_eq, nth_setN_ne, setN_length, CC_T, CC_P, and_assoc, lenSl_nil, lenSl_imm, lenSl_own, lenSl_encD, cells_encD, cells_agg, cells_bool, cells_int, cells_own, cells_imm, cells_nil, okCell_encD, okCell_bool, okCell_int, okCell_own, okCell_imm, okCell_nil, okCells, okCell_dg, cells_dg, beqI, bneI, le2I, hc, resP]
theorem cut_spec : Ab.Spec base.P 239 cutPreF := Ab.Spec.of_run (C := CC L7) (ccOk ⟨lcut_spec, trivial⟩) fun args rs h => by
  unfold cutPreF at h
  split at h
  · rename_i s p
    simp only [Option.some.injEq] at h
    subst h
    obtain ⟨st, e1, e2⟩ := cut_exec (runK (CC L7) 1) 1 s p
    exact ⟨2, _, _, _, _, _, body_ret F_of_CutPre rfl e1 e2, out_cut _ _ _, wk_cut _ _⟩
  · cases h
end Go.Proofs.YtciabmckldfofaaGreatDoor
namespace Go.Proofs.YtciabmckldfofaaGreatDoor
open Go Go.Ab
/-! Read -/
noncomputable def readC : Code := Tryz.f171.body.getD .skip
noncomputable def readO : Code := ((Tryz.f171.body).bind loopOf).getD .skip
noncomputable def readI : Code := (loopOf readO).getD .skip
theorem readI_end (L : Lst) (run : Runs) (k : Nat) (fr : List PV) (hp : List Blk) (wr : List Nat) (n : Nat) (h71 : fr.length = 71) (h45 : nth fr 45 = .sc (.int .i64 (n : Int))) (h46 : nth fr 46 = .sc (.int .i64 (n : Int))) :
    ∃ fr', execC (CC L) run k readI ⟨fr, hp, wr⟩ = some (.exit 2, ⟨fr', hp, wr⟩) ∧ fr'.length = 71 ∧ nth fr' 2 = nth fr 2 ∧ nth fr' 4 = nth fr 4 ∧ nth fr' 5 = nth fr 5 ∧ nth fr' 6 = nth fr 6 ∧ nth fr' 7 = nth fr 7 ∧ nth fr' 8 = nth fr 8 := by
  simp [readI, readO, Tryz.f171, loopOf, execC, regP, goOps, operP, valP, wantedP, isCall, calleeP, stepP, evalP, putP, addW, FP.none, binP, binInt, binI, binBool, ofVal, lenP, indexAddrP, fieldAddrP, asNat_nat, asNat_0, asNat_1, asNat_succ, asNat_add, partOf, unP, nth_setN_eq, nth_setN_ne, setN_length, CC_T, CC_P, and_assoc, lenSl_nil, lenSl_imm, lenSl_own, lenSl_encD, cells_encD, cells_agg, cells_bool, cells_int, cells_own, cells_imm, cells_nil, okCell_encD, okCell_bool, okCell_int, okCell_own, okCell_imm, okCell_nil, okCells, okCell_dg, cells_dg, beqI, bneI, le2I, h71, h45, h46]
set_option maxHeartbeats 1000000 in
theorem readI_ok (L : Lst) (run : Runs) (k : Nat) (fr : List PV) (hp : List Blk) (wr : List Nat) (c : List Nat) (i x x' : Nat) (hi : i < c.length) (hl : c.length ≤ 9) (hx : x < 10 ^ i) (hd : digB c[i] = true) (hx' : x' = 10 * x + dv c[i])
    (h71 : fr.length = 71) (h44 : nth fr 44 = encU c) (h45 : nth fr 45 = .sc (.int .i64 (c.length : Int))) (h46 : nth fr 46 = .sc (.int .i64 (i : Int))) (h8 : nth fr 8 = .sc (.int .u32 (x : Int))) :
    ∃ fr', execC (CC L) run k readI ⟨fr, hp, wr⟩ = some (.normal, ⟨fr', hp, wr⟩) ∧ fr'.length = 71 ∧ nth fr' 44 = encU c ∧ nth fr' 45 = .sc (.int .i64 (c.length : Int)) ∧ nth fr' 46 = .sc (.int .i64 ((i + 1 : Nat) : Int)) ∧ nth fr' 8 = .sc (.int .u32 (x' : Int)) ∧ nth fr' 2 = nth fr 2 ∧ nth fr' 4 = nth fr 4 ∧ nth fr' 5 = nth fr 5 ∧ nth fr' 6 = nth fr 6 ∧ nth fr' 7 = nth fr 7 := by
  have hh := headU c i hi
  rw [digB_iff] at hd
  generalize c[i] = b at *
  have e1 : encU c = .imm c.length false (c.map u8v) := rfl
  rw [e1] at h44 ⊢
  have hx9 : x < 1000000000 := Nat.lt_of_lt_of_le hx (Nat.le_trans (Nat.pow_le_pow_right (by omega) (show i ≤ 8 by omega)) (by decide))
  have hx8 : x < 100000000 := Nat.lt_of_lt_of_le hx (Nat.le_trans (Nat.pow_le_pow_right (by omega) (show i ≤ 8 by omega)) (by decide))
  obtain ⟨s1, hs1⟩ : ∃ s1, s1 = 10 * x := ⟨_, rfl⟩
  obtain ⟨s2, hs2⟩ : ∃ s2, s2 = dv b := ⟨_, rfl⟩
  rw [← hs1, ← hs2] at hx'
  have hs3 : b = s2 + 48 := by rw [hs2]; unfold dv; omega
  have hw1 := wrapM10 .u32 x s1 hs1 (hi32 (by omega))
  have hw2 := wrapS48 .u8 b s2 hs3 (show s2 ≤ 255 by omega)
  have hw3 : wrapK .u32 (s2 : Int) = (s2 : Int) := wrapI .u32 s2 (hi32 (by omega))
  have hw4 := wrapA .u32 s1 s2 x' hx' (hi32 (by omega))
  have hwi := wrap_succ i (by omega)
  have hb1 : ¬ ((b : Int) < 48) := by omega
  have hb2 : ¬ ((57 : Int) < b) := by omega
  simp [readI, readO, Tryz.f171, loopOf, execC, regP, goOps, operP, valP, wantedP, isCall, calleeP, stepP, evalP, putP, addW, FP.none, binP, binInt, binI, binBool, ofVal, lenP, indexAddrP, fieldAddrP, asNat_nat, asNat_0, asNat_1, asNat_succ, asNat_add, partOf, unP, nth_setN_eq, nth_setN_ne, setN_length, CC_T, CC_P, and_assoc, lenSl_nil, lenSl_imm, lenSl_own, lenSl_encD, cells_encD, cells_agg, cells_bool, cells_int, cells_own, cells_imm, cells_nil, okCell_encD, okCell_bool, okCell_int, okCell_own, okCell_imm, okCell_nil, okCells, okCell_dg, cells_dg, beqI, bneI, le2I, h71, h44, h45, h46, h8, uBs, u8, u32, s8, a8, convP, hi, hh, atAddr, hw1, hw2, hw3, hw4, hwi, hb1, hb2]
set_option maxHeartbeats 1000000 in
theorem readI_bad (L : Lst) (run : Runs) (k : Nat) (fr : List PV) (hp : List Blk) (wr : List Nat) (c : List Nat) (i : Nat) (hi : i < c.length) (hd : digB c[i] = false)
    (hb : nthB hp 0 = some zW2)
    (h71 : fr.length = 71) (h44 : nth fr 44 = encU c) (h45 : nth fr 45 = .sc (.int .i64 (c.length : Int))) (h46 : nth fr 46 = .sc (.int .i64 (i : Int))) (h2 : nth fr 2 = .ptr 0 0) :
    ∃ fr' wr', execC (CC L) run k readI ⟨fr, hp, wr⟩ = some (.ret, ⟨fr', setB hp 0 zW2, wr'⟩) ∧ nth fr' 2 = .ptr 0 0 ∧ nth fr' 3 = .sc (.bool false) := by
  have hh := headU c i hi
  generalize c[i] = b at *
  have e1 : encU c = .imm c.length false (c.map u8v) := rfl
  rw [e1] at h44
  have hd' : (b : Int) < 48 ∨ (57 : Int) < b := by
    have : ¬ (48 ≤ b ∧ b ≤ 57) := fun h => by rw [digB_iff.2 h] at hd; cases hd
    omega
  by_cases hb1 : (b : Int) < 48
  · simp [readI, readO, Tryz.f171, loopOf, execC, regP, goOps, operP, valP, wantedP, isCall, calleeP, stepP, evalP, putP, addW, FP.none, binP, binInt, binI, binBool, ofVal, lenP, indexAddrP, fieldAddrP, asNat_nat, asNat_0, asNat_1, asNat_succ, asNat_add, partOf, unP, nth_setN_eq, nth_setN_ne, setN_length, CC_T, CC_P, and_assoc, lenSl_nil, lenSl_imm, lenSl_own, lenSl_encD, cells_encD, cells_agg, cells_bool, cells_int, cells_own, cells_imm, cells_nil, okCell_encD, okCell_bool, okCell_int, okCell_own, okCell_imm, okCell_nil, okCells, okCell_dg, cells_dg, beqI, bneI, le2I, h71, h44, h45, h46, h2, uBs, u8, uW, sB, sD, sW, zW, wf0, wf1, s8, a8, hi, hh, atAddr, hb1, hb, buildP, fillL, over?]
  · have hb2 : (57 : Int) < b := by omega
    simp [readI, readO, Tryz.f171, loopOf, execC, regP, goOps, operP, valP, wantedP, isCall, calleeP, stepP, evalP, putP, addW, FP.none, binP, binInt, binI, binBool, ofVal, lenP, indexAddrP, fieldAddrP, asNat_nat, asNat_0, asNat_1, asNat_succ, asNat_add, partOf, unP, nth_setN_eq, nth_setN_ne, setN_length, CC_T, CC_P, and_assoc, lenSl_nil, lenSl_imm, lenSl_own, lenSl_encD, cells_encD, cells_agg, cells_bool, cells_int, cells_own, cells_imm, cells_nil, okCell_encD, okCell_bool, okCell_int, okCell_own, okCell_imm, okCell_nil, okCells, okCell_dg, cells_dg, beqI, bneI, le2I, h71, h44, h45, h46, h2, uBs, u8, uW, sB, sD, sW, zW, wf0, wf1, s8, a8, hi, hh, atAddr, hb1, hb2, hb, buildP, fillL, over?]
theorem readI_loop (L : Lst) (run : Runs) (k : Nat) (c : List Nat) (hl : c.length ≤ 9) (hp : List Blk) (hb : nthB hp 0 = some zW2) : ∀ (n i : Nat) (fr : List PV) (wr : List Nat) (x : Nat), i + n = c.length → digL (c.take i) = true → x = dec 0 (c.take i) →
    fr.length = 71 → nth fr 44 = encU c → nth fr 45 = .sc (.int .i64 (c.length : Int)) → nth fr 46 = .sc (.int .i64 (i : Int)) → nth fr 8 = .sc (.int .u32 (x : Int)) → nth fr 2 = .ptr 0 0 →
    (digL c = true ∧ ∃ fr', iterL (execC (CC L) run k readI) (n + 1) ⟨fr, hp, wr⟩ = some (.exit 2, ⟨fr', hp, wr⟩) ∧ fr'.length = 71 ∧ nth fr' 8 = .sc (.int .u32 (dec 0 c : Int)) ∧ nth fr' 2 = nth fr 2 ∧ nth fr' 4 = nth fr 4 ∧ nth fr' 5 = nth fr 5 ∧ nth fr' 6 = nth fr 6 ∧ nth fr' 7 = nth fr 7) ∨
    (digL c = false ∧ ∃ fr' wr', iterL (execC (CC L) run k readI) (n + 1) ⟨fr, hp, wr⟩ = some (.ret, ⟨fr', setB hp 0 zW2, wr'⟩) ∧ nth fr' 2 = .ptr 0 0 ∧ nth fr' 3 = .sc (.bool false))
  | 0, i, fr, wr, x, hi, hd, hx, h71, h44, h45, h46, h8, h2 => by
    have : i = c.length := by omega
    subst this
    rw [List.take_length] at hd hx
    obtain ⟨fr', g1, g2, g3, g4, g5, g6, g7, g8⟩ := readI_end L run k fr hp wr c.length h71 h45 h46
    exact .inl ⟨hd, fr', iter_stop g1, g2, by rw [g8, h8, hx], g3, g4, g5, g6, g7⟩
  | n + 1, i, fr, wr, x, hi, hd, hx, h71, h44, h45, h46, h8, h2 => by
    have hic : i < c.length := by omega
    cases hdb : digB c[i] with
    | true =>
      have hxl : x < 10 ^ i := by
        have := dec_lt _ hd
        rw [List.length_take, Nat.min_eq_left (by omega)] at this
        omega
      obtain ⟨fr1, g1, g2, g3, g4, g5, g6, g7, g8, g9, g10, g11⟩ := readI_ok L run k fr hp wr c i x _ hic hl hxl hdb rfl h71 h44 h45 h46 h8
      have ht : c.take (i + 1) = c.take i ++ [c[i]] := List.take_succ_eq_append_getElem hic
      have := readI_loop L run k c hl hp hb n (i + 1) fr1 wr (10 * x + dv c[i]) (by omega) (by rw [ht, digL_append, hd]; simp [digL, hdb]) (by rw [ht, dec_append, ← hx]; rfl) g2 g3 g4 g5 g6 (by rw [g7, h2])
      rw [iter_go g1]
      rcases this with ⟨h9, fr', q1, q2, q3, q4, q5, q6, q7, q8⟩ | h9
      · exact .inl ⟨h9, fr', q1, q2, q3, by rw [q4, g7], by rw [q5, g8], by rw [q6, g9], by rw [q7, g10], by rw [q8, g11]⟩
      · exact .inr h9
    | false =>
      obtain ⟨fr1, wr1, g1, g2, g3⟩ := readI_bad L run k fr hp wr c i hic hdb hb h71 h44 h45 h46 h2
      refine .inr ⟨?_, fr1, wr1, iter_ret g1, g2, g3⟩
      have : c = c.take i ++ c[i] :: c.drop (i + 1) := by rw [← List.drop_eq_getElem_cons hic, List.take_append_drop]
      rw [this, digL_append, hd, digL, hdb]; rfl
noncomputable def readB : Code := match seq2 readO with | .seq (.block _ c) _ => c | c => c
noncomputable def readR6 : Code := seq1 readO
noncomputable def readR7 : Code := seq2 (seq2 readO)
theorem readO_spine : readO = .seq readR6 (.seq (.block 1 readB) readR7) := rfl
noncomputable def readR9 : Code := seq1 (seq1 (cspine 1 readB))
theorem readB_spine : cspine 1 readB = .seq (.seq readR9 (.block 2 (.loop readI))) (cspine 2 readB) := rfl
theorem readO_end (L : Lst) (run : Runs) (k : Nat) (fr : List PV) (hp : List Blk) (wr : List Nat) (e : Int) (he : e ≤ 0) (h71 : fr.length = 71) (h7 : nth fr 7 = .sc (.int .i64 e)) :
    ∃ fr', execC (CC L) run k readO ⟨fr, hp, wr⟩ = some (.exit 0, ⟨fr', hp, wr⟩) ∧ fr'.length = 71 ∧ nth fr' 2 = nth fr 2 ∧ nth fr' 5 = nth fr 5 ∧ nth fr' 6 = nth fr 6 := by
  have h1 : ¬ (0 < e) := by omega
  simp [readO, Tryz.f171, loopOf, execC, regP, goOps, operP, valP, wantedP, isCall, calleeP, stepP, evalP, putP, addW, FP.none, binP, binInt, binI, binBool, ofVal, lenP, indexAddrP, fieldAddrP, asNat_nat, asNat_0, asNat_1, asNat_succ, asNat_add, partOf, unP, nth_setN_eq, nth_setN_ne, setN_length, CC_T, CC_P, and_assoc, lenSl_nil, lenSl_imm, lenSl_own, lenSl_encD, cells_encD, cells_agg, cells_bool, cells_int, cells_own, cells_imm, cells_nil, okCell_encD, okCell_bool, okCell_int, okCell_own, okCell_imm, okCell_nil, okCells, okCell_dg, cells_dg, beqI, bneI, le2I, h71, h7, h1]
theorem readO_r6 (L : Lst) (run : Runs) (k : Nat) (fr : List PV) (hp : List Blk) (wr : List Nat) (e : Nat) (he : 0 < e) (h71 : fr.length = 71) (h7 : nth fr 7 = .sc (.int .i64 (e : Int))) :
    ∃ fr', execC (CC L) run k readR6 ⟨fr, hp, wr⟩ = some (.normal, ⟨fr', hp, wr⟩) ∧ fr'.length = 71 ∧ nth fr' 2 = nth fr 2 ∧ nth fr' 4 = nth fr 4 ∧ nth fr' 5 = nth fr 5 ∧ nth fr' 6 = nth fr 6 ∧ nth fr' 7 = nth fr 7 := by
  simp [readR6, readO, Tryz.f171, loopOf, seq1, execC, regP, goOps, operP, valP, wantedP, isCall, calleeP, stepP, evalP, putP, addW, FP.none, binP, binInt, binI, binBool, ofVal, lenP, indexAddrP, fieldAddrP, asNat_nat, asNat_0, asNat_1, asNat_succ, asNat_add, partOf, unP, nth_setN_eq, nth_setN_ne, setN_length, CC_T, CC_P, and_assoc, lenSl_nil, lenSl_imm, lenSl_own, lenSl_encD, cells_encD, cells_agg, cells_bool, cells_int, cells_own, cells_imm, cells_nil, okCell_encD, okCell_bool, okCell_int, okCell_own, okCell_imm, okCell_nil, okCells, okCell_dg, cells_dg, beqI, bneI, le2I, h71, h7, he]
theorem readO_r8 (L : Lst) (run : Runs) (k : Nat) (fr : List PV) (hp : List Blk) (wr : List Nat) (h71 : fr.length = 71) :
    ∃ fr', runPre (CC L) run k 1 readB ⟨fr, hp, wr⟩ = some ⟨fr', hp, wr⟩ ∧ fr'.length = 71 ∧ nth fr' 8 = .sc (.int .u32 (0 : Nat)) ∧ nth fr' 2 = nth fr 2 ∧ nth fr' 4 = nth fr 4 ∧ nth fr' 5 = nth fr 5 ∧ nth fr' 6 = nth fr 6 ∧ nth fr' 7 = nth fr 7 := by
  simp [readB, readO, Tryz.f171, loopOf, seq2, runPre, execC, regP, goOps, operP, valP, wantedP, isCall, calleeP, stepP, evalP, putP, addW, FP.none, binP, binInt, binI, binBool, ofVal, lenP, indexAddrP, fieldAddrP, asNat_nat, asNat_0, asNat_1, asNat_succ, asNat_add, partOf, unP, nth_setN_eq, nth_setN_ne, setN_length, CC_T, CC_P, and_assoc, lenSl_nil, lenSl_imm, lenSl_own, lenSl_encD, cells_encD, cells_agg, cells_bool, cells_int, cells_own, cells_imm, cells_nil, okCell_encD, okCell_bool, okCell_int, okCell_own, okCell_imm, okCell_nil, okCells, okCell_dg, cells_dg, beqI, bneI, le2I, h71]
set_option maxHeartbeats 1000000 in
theorem readO_r9 (L : Lst) (run : Runs) (k : Nat) (fr : List PV) (hp : List Blk) (wr : List Nat) (s : ByteArray) (e : Nat) (he : e ≤ (strL s).length) (hl : e < 9000000000000000000) (h71 : fr.length = 71) (h4 : nth fr 4 = .sc (.string s)) (h7 : nth fr 7 = .sc (.int .i64 (e : Int))) :
    ∃ fr', execC (CC L) run k readR9 ⟨fr, hp, wr⟩ = some (.normal, ⟨fr', hp, wr⟩) ∧ fr'.length = 71 ∧ nth fr' 44 = encU (((bys s).take e).drop (e - 9)) ∧ nth fr' 45 = .sc (.int .i64 ((((bys s).take e).drop (e - 9)).length : Int)) ∧ nth fr' 46 = .sc (.int .i64 (0 : Nat))
      ∧ nth fr' 2 = nth fr 2 ∧ nth fr' 4 = nth fr 4 ∧ nth fr' 5 = nth fr 5 ∧ nth fr' 6 = nth fr 6 ∧ nth fr' 7 = nth fr 7 ∧ nth fr' 8 = nth fr 8 := by
  have hw := wrapI9 (e : Int) (by omega) (by omega)
  have hb : ((bys s).take e).drop (e - 9) = (((strL s).take e).drop (e - 9)).map UInt8.toNat := by
    simp [bys, List.map_take, List.map_drop]
  have hs := slice_bys s (e - 9) e (by omega) he
  have hcv := conv_bys (((strL s).take e).drop (e - 9))
  rw [hb]
  generalize (((strL s).take e).drop (e - 9)) = c at *
  have hlen : (strL (mkStr c)).length = (c.map UInt8.toNat).length := by rw [strL_mk]; simp
  have he1 : encU (c.map UInt8.toNat) = .imm (c.map UInt8.toNat).length false ((c.map UInt8.toNat).map u8v) := rfl
  rw [hlen] at hcv
  generalize c.map UInt8.toNat = d at *
  have hlu : lenSl (encU d) = some d.length := rfl
  have hm : (if (9 : Int) < (e : Int) then (e : Int) - 9 else 0) = ((e - 9 : Nat) : Int) := by
    by_cases h : (9 : Int) < (e : Int)
    · rw [if_pos h]; omega
    · rw [if_neg h]; omega
  generalize e - 9 = lo at *
  simp [readR9, readB, readO, Tryz.f171, loopOf, seq1, seq2, cspine, execC, regP, goOps, operP, valP, wantedP, isCall, calleeP, stepP, evalP, putP, addW, FP.none, binP, binInt, binI, binBool, ofVal, lenP, indexAddrP, fieldAddrP, asNat_nat, asNat_0, asNat_1, asNat_succ, asNat_add, partOf, unP, nth_setN_eq, nth_setN_ne, setN_length, CC_T, CC_P, and_assoc, lenSl_nil, lenSl_imm, lenSl_own, lenSl_encD, cells_encD, cells_agg, cells_bool, cells_int, cells_own, cells_imm, cells_nil, okCell_encD, okCell_bool, okCell_int, okCell_own, okCell_imm, okCell_nil, okCells, okCell_dg, cells_dg, beqI, bneI, le2I, h71, h4, h7, hw, minmax, hm, uS, uBs, u8, sliceP, hs, convP, hlen, hcv, hlu, -List.map_drop, -List.map_take]
theorem readB_r16 (L : Lst) (run : Runs) (k : Nat) (fr : List PV) (hp : List Blk) (wr : List Nat) (d : List Nat) (x : Nat) (hl : d.length < 1000000) (h71 : fr.length = 71) (h8 : nth fr 8 = .sc (.int .u32 (x : Int))) (hO : OwnD 1 hp d (nth fr 6)) :
    ∃ fr' hp' wr', execC (CC L) run k (cspine 2 readB) ⟨fr, hp, wr⟩ = some (.normal, ⟨fr', hp', wr'⟩) ∧ fr'.length = 71 ∧ OwnD 1 hp' (d ++ [x]) (nth fr' 6) ∧ nthB hp' 0 = nthB hp 0 ∧ nth fr' 2 = nth fr 2 ∧ nth fr' 4 = nth fr 4 ∧ nth fr' 5 = nth fr 5 ∧ nth fr' 7 = nth fr 7 := by
  obtain ⟨p', hp', fp, h7, h9, h10⟩ := hO.app x (Nat.lt_trans hl (by decide))
  have h11 := h10 0 (by omega)
  simp [readB, readO, Tryz.f171, loopOf, seq2, cspine, execC, regP, goOps, operP, valP, wantedP, isCall, calleeP, stepP, evalP, putP, addW, FP.none, binP, binInt, binI, binBool, ofVal, lenP, indexAddrP, fieldAddrP, asNat_nat, asNat_0, asNat_1, asNat_succ, asNat_add, partOf, unP, nth_setN_eq, nth_setN_ne, setN_length, CC_T, CC_P, and_assoc, lenSl_nil, lenSl_imm, lenSl_own, lenSl_encD, cells_encD, cells_agg, cells_bool, cells_int, cells_own, cells_imm, cells_nil, okCell_encD, okCell_bool, okCell_int, okCell_own, okCell_imm, okCell_nil, okCells, okCell_dg, cells_dg, beqI, bneI, le2I, h71, h8, uD, s32, b32, z32, sc_dg x, hlitD, rd_dg, idf_dg, maxBytes, h7, h9, h11]
theorem readO_r7 (L : Lst) (run : Runs) (k : Nat) (fr : List PV) (hp : List Blk) (wr : List Nat) (e : Nat) (hl : e < 9000000000000000000) (h71 : fr.length = 71) (h7 : nth fr 7 = .sc (.int .i64 (e : Int))) :
    ∃ fr', execC (CC L) run k readR7 ⟨fr, hp, wr⟩ = some (.normal, ⟨fr', hp, wr⟩) ∧ fr'.length = 71 ∧ nth fr' 7 = .sc (.int .i64 ((e : Int) - 9)) ∧ nth fr' 2 = nth fr 2 ∧ nth fr' 4 = nth fr 4 ∧ nth fr' 5 = nth fr 5 ∧ nth fr' 6 = nth fr 6 := by
  have hw := wrapI9 (e : Int) (by omega) (by omega)
  simp [readR7, readO, Tryz.f171, loopOf, seq2, execC, regP, goOps, operP, valP, wantedP, isCall, calleeP, stepP, evalP, putP, addW, FP.none, binP, binInt, binI, binBool, ofVal, lenP, indexAddrP, fieldAddrP, asNat_nat, asNat_0, asNat_1, asNat_succ, asNat_add, partOf, unP, nth_setN_eq, nth_setN_ne, setN_length, CC_T, CC_P, and_assoc, lenSl_nil, lenSl_imm, lenSl_own, lenSl_encD, cells_encD, cells_agg, cells_bool, cells_int, cells_own, cells_imm, cells_nil, okCell_encD, okCell_bool, okCell_int, okCell_own, okCell_imm, okCell_nil, okCells, okCell_dg, cells_dg, beqI, bneI, le2I, h71, h7, hw]
theorem readO_round (L : Lst) (run : Runs) (k : Nat) (hk : 10 < k) (fr : List PV) (hp : List Blk) (wr : List Nat) (s : ByteArray) (e : Nat) (d : List Nat) (he0 : 0 < e) (he : e ≤ (bys s).length) (hl : e < 9000000000000000000) (hdl : d.length < 1000000)
    (h71 : fr.length = 71) (h2 : nth fr 2 = .ptr 0 0) (h4 : nth fr 4 = .sc (.string s)) (h7 : nth fr 7 = .sc (.int .i64 (e : Int))) (hO : OwnD 1 hp d (nth fr 6)) (hb : nthB hp 0 = some zW2) :
    (digL (((bys s).take e).drop (e - 9)) = true ∧ ∃ fr' hp' wr', execC (CC L) run k readO ⟨fr, hp, wr⟩ = some (.normal, ⟨fr', hp', wr'⟩) ∧ fr'.length = 71 ∧ nth fr' 2 = .ptr 0 0 ∧ nth fr' 4 = .sc (.string s) ∧ nth fr' 5 = nth fr 5 ∧ nth fr' 7 = .sc (.int .i64 ((e : Int) - 9)) ∧ OwnD 1 hp' (d ++ [dec 0 (((bys s).take e).drop (e - 9))]) (nth fr' 6) ∧ nthB hp' 0 = some zW2) ∨
    (digL (((bys s).take e).drop (e - 9)) = false ∧ ∃ fr' hp' wr', execC (CC L) run k readO ⟨fr, hp, wr⟩ = some (.ret, ⟨fr', hp', wr'⟩) ∧ nth fr' 2 = .ptr 0 0 ∧ nth fr' 3 = .sc (.bool false) ∧ nthB hp' 0 = some zW2) := by
  have he' : e ≤ (strL s).length := by rw [← bys_len]; exact he
  obtain ⟨f1, a1, a2, a3, a4, a5, a6, a7⟩ := readO_r6 L run k fr hp wr e he0 h71 h7
  obtain ⟨f2, b1, b2, b3, b4, b5, b6, b7, b8⟩ := readO_r8 L run k f1 hp wr a2
  obtain ⟨f3, c1, c2, c3, c4, c5, c6, c7, c8, c9, c10, c11⟩ := readO_r9 L run k f2 hp wr s e he' hl b2 (by rw [b5, a4, h4]) (by rw [b8, a7, h7])
  have hcl : (((bys s).take e).drop (e - 9)).length ≤ 9 := by
    rw [List.length_drop, List.length_take]; omega
  rcases readI_loop L run k _ hcl hp hb (((bys s).take e).drop (e - 9)).length 0 f3 wr 0 (by omega) rfl rfl c2 c3 c4 c5 (by rw [c11, b3]) (by rw [c6, b4, a3, h2]) with ⟨hd, f4, d1, d2, d3, d4, d5, d6, d7, d8⟩ | ⟨hd, f4, wr4, d1, d2, d3⟩
  · obtain ⟨f5, hp5, wr5, e1, e2, e3, e4, e5, e6, e7, e8⟩ := readB_r16 L run k f4 hp wr d _ hdl d2 d3 (by rw [d7, c9, b7, a6]; exact hO)
    obtain ⟨f6, g1, g2, g3, g4, g5, g6, g7⟩ := readO_r7 L run k f5 hp5 wr5 e hl e2 (by rw [e8, d8, c10, b8, a7, h7])
    refine .inl ⟨hd, f6, hp5, wr5, ?_, g2, by rw [g4, e5, d4, c6, b4, a3, h2], by rw [g5, e6, d5, c7, b5, a4, h4], by rw [g6, e7, d6, c8, b6, a5], g3, by rw [g7]; exact e3, by rw [e4, hb]⟩
    have hB : execC (CC L) run k readB ⟨f1, hp, wr⟩ = some (.normal, ⟨f5, hp5, wr5⟩) := by
      rw [exec_spine 1 b1, readB_spine, exec_seq ((exec_seq c1).trans (exec_loop (iter_mono d1 (by omega))))]
      exact e1
    rw [readO_spine, exec_seq a1, exec_seq (exec_block hB)]
    exact g1
  · refine .inr ⟨hd, f4, setB hp 0 zW2, wr4, ?_, d2, d3, by rw [nthB_setB hb, if_pos rfl]⟩
    have hB : execC (CC L) run k readB ⟨f1, hp, wr⟩ = some (.ret, ⟨f4, setB hp 0 zW2, wr4⟩) := by
      rw [exec_spine 1 b1, readB_spine, exec_seq_ret ((exec_seq c1).trans (exec_loop_ret (iter_mono d1 (by omega))))]
    rw [readO_spine, exec_seq a1, exec_seq_ret (exec_block_ret hB)]
theorem readO_loop (L : Lst) (run : Runs) (k : Nat) (hk : 10 < k) (s : ByteArray) (hl : (bys s).length < 3000000) : ∀ (n e : Nat) (fr : List PV) (hp : List Blk) (wr : List Nat) (d : List Nat), e < n → 0 < e → e + 9 * d.length = (bys s).length → Dok d → digL ((bys s).drop e) = true → val d = dec 0 ((bys s).drop e) →
    fr.length = 71 → nth fr 2 = .ptr 0 0 → nth fr 4 = .sc (.string s) → nth fr 7 = .sc (.int .i64 (e : Int)) → OwnD 1 hp d (nth fr 6) → nthB hp 0 = some zW2 →
    (digL (bys s) = true ∧ ∃ fr' hp' wr' d', iterL (execC (CC L) run k readO) (n + 1) ⟨fr, hp, wr⟩ = some (.exit 0, ⟨fr', hp', wr'⟩) ∧ fr'.length = 71 ∧ nth fr' 2 = .ptr 0 0 ∧ nth fr' 5 = nth fr 5 ∧ OwnD 1 hp' d' (nth fr' 6) ∧ nthB hp' 0 = some zW2 ∧ Dok d' ∧ d'.length < 1000000 ∧ val d' = dec 0 (bys s)) ∨
    (digL (bys s) = false ∧ ∃ fr' hp' wr', iterL (execC (CC L) run k readO) (n + 1) ⟨fr, hp, wr⟩ = some (.ret, ⟨fr', hp', wr'⟩) ∧ nth fr' 2 = .ptr 0 0 ∧ nth fr' 3 = .sc (.bool false) ∧ nthB hp' 0 = some zW2)
  | 0, e, fr, hp, wr, d, hn, _, _, _, _, _, _, _, _, _, _, _ => by omega
  | n + 1, e, fr, hp, wr, d, hn, he0, hed, hd, hdg, hv, h71, h2, h4, h7, hO, hb => by
    have hsp := drop_split (bys s) (e - 9) e (by omega) (by omega)
    have hcl : (((bys s).take e).drop (e - 9)).length ≤ 9 := by
      rw [List.length_drop, List.length_take]; omega
    rcases readO_round L run k hk fr hp wr s e d he0 (by omega) (by omega) (by omega) h71 h2 h4 h7 hO hb with ⟨hc, f1, hp1, wr1, a1, a2, a3, a4, a5, a6, a7, a8⟩ | ⟨hc, f1, hp1, wr1, a1, a2, a3, a4⟩
    · have hx : dec 0 (((bys s).take e).drop (e - 9)) < 1000000000 := by
        have h1 := dec_lt _ hc
        have h2 := Nat.pow_le_pow_right (n := 10) (by omega) hcl
        have h3 : (10 : Nat) ^ 9 = 1000000000 := by decide
        omega
      have hd' : Dok (d ++ [dec 0 (((bys s).take e).drop (e - 9))]) := hd.append (Dok.nil.cons hx)
      have hdg' : digL ((bys s).drop (e - 9)) = true := by rw [hsp, digL_append, hc, hdg]; rfl
      have hv' : val (d ++ [dec 0 (((bys s).take e).drop (e - 9))]) = dec 0 ((bys s).drop (e - 9)) := by
        have hacc := dec_acc (dec 0 (((bys s).take e).drop (e - 9))) ((bys s).drop e)
        rw [List.length_drop, show (bys s).length - e = 9 * d.length by omega, Nat.pow_mul, show (10 : Nat) ^ 9 = 1000000000 by decide] at hacc
        rw [val_snoc, hsp, dec_append, hacc, hv, Nat.mul_comm, Nat.add_comm]
      rw [iter_go a1]
      by_cases h9 : e ≤ 9
      · obtain ⟨f2, b1, b2, b3, b4, b5⟩ := readO_end L run k f1 hp1 wr1 ((e : Int) - 9) (by omega) a2 a6
        rw [show e - 9 = 0 by omega, List.drop_zero] at hdg'
        have hv2 : dec 0 ((bys s).drop (e - 9)) = dec 0 (bys s) := by rw [show e - 9 = 0 by omega, List.drop_zero]
        rw [hv2] at hv'
        exact .inl ⟨hdg', f2, hp1, wr1, _, iter_stop b1, b2, by rw [b3, a3], by rw [b4, a5], by rw [b5]; exact a7, a8, hd', by simp; omega, hv'⟩
      · have := readO_loop L run k hk s hl n (e - 9) f1 hp1 wr1 _ (by omega) (by omega) (by simp; omega) hd' hdg' hv' a2 a3 a4 (by rw [a6]; congr 3; omega) a7 a8
        rcases this with ⟨q0, f2, hp2, wr2, d2, q1, q2, q3, q4, q5⟩ | q
        · exact .inl ⟨q0, f2, hp2, wr2, d2, q1, q2, q3, by rw [q4, a5], q5⟩
        · exact .inr q
    · refine .inr ⟨?_, f1, hp1, wr1, iter_ret a1, a2, a3, a4⟩
      have h1 := drop_split (bys s) 0 (e - 9) (by omega) (by omega)
      rw [List.drop_zero, List.drop_zero] at h1
      rw [h1, digL_append, hsp, digL_append, hc]
      simp
noncomputable def L8 : Lst := [(223, signedF), (239, cutPreF)]
theorem L8_ok : SpecL base.P L8 := ⟨signed_spec, cut_spec, trivial⟩
theorem o8_signed : orcOf L8 223 = fun a => signedF (canonL a) := rfl
theorem o8_cut : orcOf L8 239 = fun a => cutPreF (canonL a) := rfl
theorem call8_cut (run : Runs) (dr : Bool) (hp : List Blk) (s p : ByteArray) : callP (CC L8) run dr hp 239 [.sc (.string s), .sc (.string p)] = some (retP (cutRes s p), hp, ⟨[], [], false, false⟩) :=
  call_of sh_CutPre o8_cut run dr hp _ (cutRes s p) rfl rfl rfl
theorem call8_signed (run : Runs) (dr : Bool) (hp : List Blk) (n : Bool) (l : List Nat) (p : PV) (hd : Dok l) (hl : l.length < 1000000) (hO : OwnD 1 hp l p) :
    ∃ hp' ids, callP (CC L8) run dr hp 223 [.sc (.bool n), p] = some (encW (sgn n (val l)), hp', ⟨ids, ids, false, false⟩) ∧ nthB hp' 0 = nthB hp 0 := by
  obtain ⟨q, ids, h1, h2, h3⟩ := hO.arg n
  have h4 : (CC L8).orc 223 [.sc (.bool n), q] = some [encW (sgn n (val l))] := by
    show signedF (canonL [.sc (.bool n), q]) = _
    rw [h2]
    simp only [signedF, decD?_enc hd hl]
  exact ⟨roB hp ids, ids, callP_orc' sh_signed h1 h4 rfl, h3 0 (by omega)⟩
noncomputable def readR17 : Code := cspine 5 readC
theorem read_post (run : Runs) (k : Nat) (fr : List PV) (hp : List Blk) (wr : List Nat) (n : Bool) (d : List Nat) (hd : Dok d) (hl : d.length < 1000000) (h71 : fr.length = 71) (h2 : nth fr 2 = .ptr 0 0) (h5 : nth fr 5 = .sc (.bool n)) (hO : OwnD 1 hp d (nth fr 6)) (hb : nthB hp 0 = some zW2) :
    ∃ st, execC (CC L8) run k readR17 ⟨fr, hp, wr⟩ = some (.ret, st) ∧ resP TT st.fr st.hp Tryz.f171.results.toList = some [encW (sgn n (val d)), .sc (.bool true)] := by
  obtain ⟨hp', ids, hc, h3⟩ := call8_signed run false hp n d _ hd hl hO
  rw [hb] at h3
  simp only [whW] at hc ⊢
  generalize digs (sgn n (val d)).natAbs = r at *
  generalize negB (sgn n (val d)) = nn at *
  have hn : nthB (setB hp' 0 ⟨.live, [.sc (.bool nn), encD r]⟩) 0 = some ⟨.live, [.sc (.bool nn), encD r]⟩ := by rw [nthB_setB h3, if_pos rfl]
  simp [readR17, readC, Tryz.f171, cspine, execC, regP, goOps, operP, valP, wantedP, isCall, calleeP, stepP, evalP, putP, addW, FP.none, binP, binInt, binI, binBool, ofVal, lenP, indexAddrP, fieldAddrP, asNat_nat, asNat_0, asNat_1, asNat_succ, asNat_add, partOf, unP, nth_setN_eq, nth_setN_ne, setN_length, CC_T, CC_P, and_assoc, lenSl_nil, lenSl_imm, lenSl_own, lenSl_encD, cells_encD, cells_agg, cells_bool, cells_int, cells_own, cells_imm, cells_nil, okCell_encD, okCell_bool, okCell_int, okCell_own, okCell_imm, okCell_nil, okCells, okCell_dg, cells_dg, beqI, bneI, le2I, h71, h2, h5, hc, h3, sW, aW, over?, resP, atAddr, hn, dropN, takeN?]
noncomputable def readR5 : Code := seq1 (seq1 (cspine 4 readC))
theorem read_spine : cspine 4 readC = .seq (.seq readR5 (.block 0 (.loop readO))) readR17 := rfl
noncomputable def readR2 : Code := seq1 (cspine 2 readC)
theorem read_spine2 : cspine 2 readC = .seq readR2 (cspine 3 readC) := rfl
/-- the text behind the sign -/
def cutS (s : ByteArray) : ByteArray := bif prefB [45] (strL s) then mkStr ((strL s).drop 1) else s
def cutN (s : ByteArray) : Bool := prefB [45] (strL s)
theorem read_pre (run : Runs) (k : Nat) (s : ByteArray) :
    ∃ fr wr, runPre (CC L8) run k 2 readC ⟨entry 71 [.sc (.string s)], [], []⟩ = some ⟨fr, [zW2], wr⟩ ∧ fr.length = 71 ∧ nth fr 2 = .ptr 0 0 ∧ nth fr 4 = .sc (.string (cutS s)) ∧ nth fr 5 = .sc (.bool (cutN s)) := by
  obtain ⟨e1, e2⟩ := entry1 70 (.sc (.string s))
  generalize entry 71 [.sc (.string s)] = fr0 at *
  have hc := fun dr hp => call8_cut run dr hp s { data := #[45] }
  rw [show cutRes s { data := #[45] } = bif prefB [45] (strL s) then [.sc (.string (mkStr ((strL s).drop 1))), .sc (.bool true)] else [.sc (.string s), .sc (.bool false)] from rfl] at hc
  unfold cutS cutN
  cases h : prefB [45] (strL s) <;> rw [h] at hc <;> simp only [cond_true, cond_false, retP] at hc ⊢ <;> simp [readC, Tryz.f171, runPre, e1, e2, execC, regP, goOps, operP, valP, wantedP, isCall, calleeP, stepP, evalP, putP, addW, FP.none, binP, binInt, binI, binBool, ofVal, lenP, indexAddrP, fieldAddrP, asNat_nat, asNat_0, asNat_1, asNat_succ, asNat_add, partOf, unP, nth_setN_eq, nth_setN_ne, setN_length, CC_T, CC_P, and_assoc, lenSl_nil, lenSl_imm, lenSl_own, lenSl_encD, cells_encD, cells_agg, cells_bool, cells_int, cells_own, cells_imm, cells_nil, okCell_encD, okCell_bool, okCell_int, okCell_own, okCell_imm, okCell_nil, okCells, okCell_dg, cells_dg, beqI, bneI, le2I, zW, allocB, hc]
/-- a text that cannot be an integer's, by its beginning -/
def badHd (n : Bool) : List UInt8 → Bool
  | [] => true
  | [a] => a.toNat.beq 48 && n
  | a :: _ => a.toNat.beq 48
theorem eqL_nil (l : List UInt8) : eqL l [] = l.isEmpty := by cases l <;> rfl
set_option maxHeartbeats 1000000 in
theorem read_r2 (L : Lst) (run : Runs) (k : Nat) (fr : List PV) (wr : List Nat) (s : ByteArray) (n : Bool) (h71 : fr.length = 71) (h2 : nth fr 2 = .ptr 0 0) (h4 : nth fr 4 = .sc (.string s)) (h5 : nth fr 5 = .sc (.bool n)) :
    (badHd n (strL s) = true ∧ ∃ fr' wr', execC (CC L) run k readR2 ⟨fr, [zW2], wr⟩ = some (.ret, ⟨fr', [zW2], wr'⟩) ∧ nth fr' 2 = .ptr 0 0 ∧ nth fr' 3 = .sc (.bool false)) ∨
    (badHd n (strL s) = false ∧ ∃ fr', execC (CC L) run k readR2 ⟨fr, [zW2], wr⟩ = some (.normal, ⟨fr', [zW2], wr⟩) ∧ fr'.length = 71 ∧ nth fr' 2 = .ptr 0 0 ∧ nth fr' 4 = .sc (.string s) ∧ nth fr' 5 = .sc (.bool n)) := by
  have hes : strL { data := #[] } = [] := rfl
  have hidx : ∀ a l, strL s = a :: l → indexP TT 9 (.sc (.string s)) (.sc (.int .i64 0)) = some (.sc (.int .u8 (a.toNat : Int))) := by
    intro a l e
    simp [indexP, uS, asNat_0, e, nthL]
  have hz : nthB [zW2] 0 = some zW2 := rfl
  have hset : setB [zW2] 0 zW2 = [zW2] := rfl
  rcases hS : strL s with _ | ⟨a, _ | ⟨b, l⟩⟩
  · refine .inl ⟨rfl, ?_⟩
    simp [undef, readR2, readC, Tryz.f171, cspine, seq1, execC, regP, goOps, operP, valP, wantedP, isCall, calleeP, stepP, evalP, putP, addW, FP.none, binP, binInt, binI, binBool, ofVal, lenP, indexAddrP, fieldAddrP, asNat_nat, asNat_0, asNat_1, asNat_succ, asNat_add, partOf, unP, nth_setN_eq, nth_setN_ne, setN_length, CC_T, CC_P, and_assoc, lenSl_nil, lenSl_imm, lenSl_own, lenSl_encD, cells_encD, cells_agg, cells_bool, cells_int, cells_own, cells_imm, cells_nil, okCell_encD, okCell_bool, okCell_int, okCell_own, okCell_imm, okCell_nil, okCells, okCell_dg, cells_dg, beqI, bneI, le2I, h71, h2, h4, h5, binS, hS, hes, eqL, uW, sB, sD, sW, zW, buildP, fillL, wf0, wf1, over?, nthB, setB]
  · have hi := hidx a [] hS
    by_cases ha : a.toNat = 48
    · have ha' : ((a.toNat : Int) == 48) = true := by rw [ha]; rfl
      have hab : a.toNat.beq 48 = true := by rw [ha]; rfl
      cases n with
      | true =>
        refine .inl ⟨by simp [badHd, ha], ?_⟩
        simp [undef, readR2, readC, Tryz.f171, cspine, seq1, execC, regP, goOps, operP, valP, wantedP, isCall, calleeP, stepP, evalP, putP, addW, FP.none, binP, binInt, binI, binBool, ofVal, lenP, indexAddrP, fieldAddrP, asNat_nat, asNat_0, asNat_1, asNat_succ, asNat_add, partOf, unP, nth_setN_eq, nth_setN_ne, setN_length, CC_T, CC_P, and_assoc, lenSl_nil, lenSl_imm, lenSl_own, lenSl_encD, cells_encD, cells_agg, cells_bool, cells_int, cells_own, cells_imm, cells_nil, okCell_encD, okCell_bool, okCell_int, okCell_own, okCell_imm, okCell_nil, okCells, okCell_dg, cells_dg, beqI, bneI, le2I, h71, h2, h4, h5, binS, hS, hes, eqL, hi, ha', uS, uW, sB, sD, sW, zW, buildP, fillL, wf0, wf1, over?, nthB, setB]
      | false =>
        refine .inr ⟨by simp [badHd], ?_⟩
        simp [undef, readR2, readC, Tryz.f171, cspine, seq1, execC, regP, goOps, operP, valP, wantedP, isCall, calleeP, stepP, evalP, putP, addW, FP.none, binP, binInt, binI, binBool, ofVal, lenP, indexAddrP, fieldAddrP, asNat_nat, asNat_0, asNat_1, asNat_succ, asNat_add, partOf, unP, nth_setN_eq, nth_setN_ne, setN_length, CC_T, CC_P, and_assoc, lenSl_nil, lenSl_imm, lenSl_own, lenSl_encD, cells_encD, cells_agg, cells_bool, cells_int, cells_own, cells_imm, cells_nil, okCell_encD, okCell_bool, okCell_int, okCell_own, okCell_imm, okCell_nil, okCells, okCell_dg, cells_dg, beqI, bneI, le2I, h71, h2, h4, h5, binS, hS, hes, eqL, hi, ha', uS]
    · have ha' : ((a.toNat : Int) == 48) = false := by simp; omega
      have hab : a.toNat.beq 48 = false := by
        cases e : a.toNat.beq 48 with
        | false => rfl
        | true => exact absurd (Nat.eq_of_beq_eq_true e) ha
      refine .inr ⟨by simp [badHd, hab], ?_⟩
      simp [undef, readR2, readC, Tryz.f171, cspine, seq1, execC, regP, goOps, operP, valP, wantedP, isCall, calleeP, stepP, evalP, putP, addW, FP.none, binP, binInt, binI, binBool, ofVal, lenP, indexAddrP, fieldAddrP, asNat_nat, asNat_0, asNat_1, asNat_succ, asNat_add, partOf, unP, nth_setN_eq, nth_setN_ne, setN_length, CC_T, CC_P, and_assoc, lenSl_nil, lenSl_imm, lenSl_own, lenSl_encD, cells_encD, cells_agg, cells_bool, cells_int, cells_own, cells_imm, cells_nil, okCell_encD, okCell_bool, okCell_int, okCell_own, okCell_imm, okCell_nil, okCells, okCell_dg, cells_dg, beqI, bneI, le2I, h71, h2, h4, h5, binS, hS, hes, eqL, hi, ha', uS]
  · have hi := hidx a (b :: l) hS
    by_cases ha : a.toNat = 48
    · have ha' : ((a.toNat : Int) == 48) = true := by rw [ha]; rfl
      refine .inl ⟨by simp [badHd, ha], ?_⟩
      have hlen : (1 : Int) < (l.length : Int) + 1 + 1 := by omega
      simp [undef, readR2, readC, Tryz.f171, cspine, seq1, execC, regP, goOps, operP, valP, wantedP, isCall, calleeP, stepP, evalP, putP, addW, FP.none, binP, binInt, binI, binBool, ofVal, lenP, indexAddrP, fieldAddrP, asNat_nat, asNat_0, asNat_1, asNat_succ, asNat_add, partOf, unP, nth_setN_eq, nth_setN_ne, setN_length, CC_T, CC_P, and_assoc, lenSl_nil, lenSl_imm, lenSl_own, lenSl_encD, cells_encD, cells_agg, cells_bool, cells_int, cells_own, cells_imm, cells_nil, okCell_encD, okCell_bool, okCell_int, okCell_own, okCell_imm, okCell_nil, okCells, okCell_dg, cells_dg, beqI, bneI, le2I, h71, h2, h4, h5, binS, hS, hes, eqL, hi, ha', hlen, uS, uW, sB, sD, sW, zW, buildP, fillL, wf0, wf1, over?, nthB, setB]
    · have ha' : ((a.toNat : Int) == 48) = false := by simp; omega
      have hab : a.toNat.beq 48 = false := by
        cases e : a.toNat.beq 48 with
        | false => rfl
        | true => exact absurd (Nat.eq_of_beq_eq_true e) ha
      refine .inr ⟨by simp [badHd, hab], ?_⟩
      simp [undef, readR2, readC, Tryz.f171, cspine, seq1, execC, regP, goOps, operP, valP, wantedP, isCall, calleeP, stepP, evalP, putP, addW, FP.none, binP, binInt, binI, binBool, ofVal, lenP, indexAddrP, fieldAddrP, asNat_nat, asNat_0, asNat_1, asNat_succ, asNat_add, partOf, unP, nth_setN_eq, nth_setN_ne, setN_length, CC_T, CC_P, and_assoc, lenSl_nil, lenSl_imm, lenSl_own, lenSl_encD, cells_encD, cells_agg, cells_bool, cells_int, cells_own, cells_imm, cells_nil, okCell_encD, okCell_bool, okCell_int, okCell_own, okCell_imm, okCell_nil, okCells, okCell_dg, cells_dg, beqI, bneI, le2I, h71, h2, h4, h5, binS, hS, hes, eqL, hi, ha', uS]
theorem read_r45 (L : Lst) (run : Runs) (k : Nat) (fr : List PV) (hp : List Blk) (wr : List Nat) (s : ByteArray) (n : Bool) (h71 : fr.length = 71) (h2 : nth fr 2 = .ptr 0 0) (h4 : nth fr 4 = .sc (.string s)) (h5 : nth fr 5 = .sc (.bool n)) :
    ∃ f1 fr', runPre (CC L) run k 1 (cspine 3 readC) ⟨fr, hp, wr⟩ = some ⟨f1, hp, wr⟩ ∧ execC (CC L) run k readR5 ⟨f1, hp, wr⟩ = some (.normal, ⟨fr', hp, wr⟩) ∧ fr'.length = 71 ∧ nth fr' 2 = .ptr 0 0 ∧ nth fr' 4 = .sc (.string s) ∧ nth fr' 5 = .sc (.bool n) ∧ nth fr' 6 = .sc (.slice none 0 0) ∧ nth fr' 7 = .sc (.int .i64 ((bys s).length : Int)) := by
  rw [bys_len]
  refine ⟨setN fr 6 (.sc (.slice none 0 0)), ?_⟩
  simp [readR5, readC, Tryz.f171, cspine, seq1, runPre, execC, regP, goOps, operP, valP, wantedP, isCall, calleeP, stepP, evalP, putP, addW, FP.none, binP, binInt, binI, binBool, ofVal, lenP, indexAddrP, fieldAddrP, asNat_nat, asNat_0, asNat_1, asNat_succ, asNat_add, partOf, unP, nth_setN_eq, nth_setN_ne, setN_length, CC_T, CC_P, and_assoc, lenSl_nil, lenSl_imm, lenSl_own, lenSl_encD, cells_encD, cells_agg, cells_bool, cells_int, cells_own, cells_imm, cells_nil, okCell_encD, okCell_bool, okCell_int, okCell_own, okCell_imm, okCell_nil, okCells, okCell_dg, cells_dg, beqI, bneI, le2I, h71, h2, h4, h5, uS]
/-- the integer of a text -/
def readI? (s : ByteArray) : Option Int :=
  bif badHd (cutN s) (strL (cutS s)) then none else bif digL (bys (cutS s)) then some (sgn (cutN s) (dec 0 (bys (cutS s)))) else none
def readF : List PV → Option (List PV)
  | [.sc (.string s)] => bif (bys s).length.blt 3000000 then (match readI? s with
    | some z => some [encW z, .sc (.bool true)]
    | none => some [encW 0, .sc (.bool false)]) else none
  | _ => none
theorem read_res (fr : List PV) (hp : List Blk) (h2 : nth fr 2 = .ptr 0 0) (h3 : nth fr 3 = .sc (.bool false)) (hb : nthB hp 0 = some zW2) : resP TT fr hp Tryz.f171.results.toList = some [.agg [.sc (.bool false), .sc (.slice none 0 0)], .sc (.bool false)] := by
  simp [Tryz.f171, resP, h2, h3, hb, atAddr, dropN, partOf, aW, sW, takeN?]
theorem out_WB (hp : List Blk) (x : Int) (b : Bool) : mapIds (snap hp snapDepth) [encW x, .sc (.bool b)] = some ([encW x, .sc (.bool b)], []) := rfl
theorem cut_len (s : ByteArray) : (bys (cutS s)).length ≤ (bys s).length := by
  unfold cutS
  cases prefB [45] (strL s) with
  | false => exact Nat.le_refl _
  | true =>
    rw [cond_true, bys_len, strL_mk, bys_len, List.length_drop]
    omega
theorem badHd_pos {n : Bool} {s : ByteArray} (h : badHd n (strL s) = false) : 0 < (bys s).length := by
  rw [bys_len]
  cases e : strL s with
  | nil => rw [e] at h; cases h
  | cons a l => simp
theorem read_spec : Ab.Spec base.P 171 readF := Ab.Spec.of_run (C := CC L8) (ccOk L8_ok) fun args rs h => by
  unfold readF at h
  split at h
  · rename_i s
    cases hb : (bys s).length.blt 3000000 with
    | false => rw [hb] at h; cases h
    | true =>
      rw [hb] at h
      rw [Nat.blt_eq] at hb
      simp only [cond_true] at h
      have hcl := cut_len s
      obtain ⟨f1, wr1, a1, a2, a3, a4, a5⟩ := read_pre (runK (CC L8) 3000001) 3000001 s
      rcases read_r2 L8 (runK (CC L8) 3000001) 3000001 f1 wr1 (cutS s) (cutN s) a2 a3 a4 a5 with ⟨hbad, f2, wr2, b1, b2, b3⟩ | ⟨hbad, f2, b1, b2, b3, b4, b5⟩
      · have hr : readI? s = none := by unfold readI?; rw [hbad]; rfl
        rw [hr] at h
        simp only [Option.some.injEq] at h
        subst h
        have hx : execC (CC L8) (runK (CC L8) 3000001) 3000001 readC ⟨entry 71 [.sc (.string s)], [], []⟩ = some (.ret, ⟨f2, [zW2], wr2⟩) := by
          rw [exec_spine 2 a1, read_spine2, exec_seq_ret b1]
        exact ⟨3000002, _, _, _, [.agg [.sc (.bool false), .sc (.slice none 0 0)], .sc (.bool false)], [], body_ret F_of_Read rfl hx (read_res f2 _ b2 b3 rfl), rfl, Wk.agg ⟨Wk.refl rfl, Wk.nil false, trivial⟩, Wk.refl rfl, trivial⟩
      · obtain ⟨f3, f4, c1, c2, c3, c4, c5, c6, c7, c8⟩ := read_r45 L8 (runK (CC L8) 3000001) 3000001 f2 [zW2] wr1 (cutS s) (cutN s) b2 b3 b4 b5
        have hpos := badHd_pos hbad
        have hx0 : execC (CC L8) (runK (CC L8) 3000001) 3000001 readC ⟨entry 71 [.sc (.string s)], [], []⟩ = execC (CC L8) (runK (CC L8) 3000001) 3000001 (cspine 4 readC) ⟨f3, [zW2], wr1⟩ := by
          rw [exec_spine 2 a1, read_spine2, exec_seq b1, exec_spine 1 c1]; rfl
        rcases readO_loop L8 (runK (CC L8) 3000001) 3000001 (by omega) (cutS s) (by omega) ((bys (cutS s)).length + 1) (bys (cutS s)).length f4 [zW2] wr1 [] (by omega) hpos (by simp) Dok.nil (by rw [List.drop_length]; rfl) (by rw [List.drop_length]; rfl) c3 c4 c5 c8 (by rw [c7]; exact OwnD.nil (by simp)) rfl with ⟨hd, f5, hp5, wr5, d5, g1, g2, g3, g4, g5, g6, g7, g8, g9⟩ | ⟨hd, f5, hp5, wr5, g1, g2, g3, g4⟩
        · have hr : readI? s = some (sgn (cutN s) (dec 0 (bys (cutS s)))) := by unfold readI?; rw [hbad, hd]; rfl
          rw [hr] at h
          simp only [Option.some.injEq] at h
          subst h
          obtain ⟨st, e1, e2⟩ := read_post (runK (CC L8) 3000001) 3000001 f5 hp5 wr5 (cutN s) d5 g7 g8 g2 g3 (by rw [g4, c6]) g5 g6
          rw [g9] at e2
          have hx : execC (CC L8) (runK (CC L8) 3000001) 3000001 readC ⟨entry 71 [.sc (.string s)], [], []⟩ = some (.ret, st) := by
            rw [hx0, read_spine, exec_seq ((exec_seq c2).trans (exec_loop (iter_mono g1 (by omega))))]
            exact e1
          exact ⟨3000002, _, _, _, _, _, body_ret F_of_Read rfl hx e2, out_WB _ _ _, Wk.refl rfl, Wk.refl rfl, trivial⟩
        · have hr : readI? s = none := by unfold readI?; rw [hbad, hd]; rfl
          rw [hr] at h
          simp only [Option.some.injEq] at h
          subst h
          have hx : execC (CC L8) (runK (CC L8) 3000001) 3000001 readC ⟨entry 71 [.sc (.string s)], [], []⟩ = some (.ret, ⟨f5, hp5, wr5⟩) := by
            rw [hx0, read_spine, exec_seq_ret ((exec_seq c2).trans (exec_loop_ret (iter_mono g1 (by omega))))]
          exact ⟨3000002, _, _, _, [.agg [.sc (.bool false), .sc (.slice none 0 0)], .sc (.bool false)], [], body_ret F_of_Read rfl hx (read_res f5 _ g2 g3 g4), rfl, Wk.agg ⟨Wk.refl rfl, Wk.nil false, trivial⟩, Wk.refl rfl, trivial⟩
  · cases h
end Go.Proofs.YtciabmckldfofaaGreatDoor
