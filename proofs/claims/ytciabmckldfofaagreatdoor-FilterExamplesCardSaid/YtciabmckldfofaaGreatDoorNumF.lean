/- Contracts of Cut at a slash, num.ReadRat, digits, Long. -/
import Derived.Test.YtciabmckldfofaaGreatDoorNumE
set_option linter.unusedSimpArgs false
set_option linter.unusedVariables false
namespace Go.Proofs.YtciabmckldfofaaGreatDoor
open Go Go.Ab
theorem F_of_Cut : base.F.get 170 = some Tryz.f170 := by kernel_rfl
theorem F_of_LCut : base.F.get 238 = some Tryz.f238 := by kernel_rfl
theorem F_of_LIndex : base.F.get 284 = some Tryz.f284 := by kernel_rfl
theorem F_of_ReadRat : base.F.get 108 = some Tryz.f108 := by kernel_rfl
theorem sh_Cut : base.shared 170 = false := by kernel_rfl
theorem sh_LCut : base.shared 238 = false := by kernel_rfl
theorem sh_LIndex : base.shared 284 = false := by kernel_rfl
theorem sh_IndexByte : base.shared 311 = false := by kernel_rfl
/-! Cut at a slash -/
abbrev slash : ByteArray := { data := #[47] }
theorem strL_slash : strL slash = [47] := rfl
def idx (s : ByteArray) : Int := bif eqL [47] (strL s) then 0 else Lib.indexByte (strL s) 47
theorem lindex_exec (L : Lst) (run : Runs) (k : Nat) (s : ByteArray) (g1 : Gives L run 311 [.sc (.string s), .sc (.int .u8 47)] (.sc (.int .i64 (Lib.indexByte (strL s) 47)))) :
    ∃ st, execC (CC L) run k (Tryz.f284.body.getD .skip) ⟨entry 143 [.sc (.string s), .sc (.string slash)], [], []⟩ = some (.ret, st) ∧ resP TT st.fr st.hp Tryz.f284.results.toList = some [Ab.encI (idx s)] := by
  obtain ⟨h1, h2, h3⟩ := entry2 141 (.sc (.string s)) (.sc (.string slash))
  generalize entry 143 [.sc (.string s), .sc (.string slash)] = fr0 at *
  unfold Gives at g1
  unfold idx
  have hix : indexP TT 9 (.sc (.string slash)) (.sc (.int .i64 0)) = some (.sc (.int .u8 47)) := by
    simp [indexP, uS, asNat_0, strL_slash, nthL]
  have hst := strL_slash
  generalize slash = sl at *
  generalize Lib.indexByte (strL s) 47 = i at *
  cases he : eqL [47] (strL s) with
  | true => simp [Tryz.f284, h1, h2, h3, execC, regP, goOps, operP, valP, wantedP, isCall, calleeP, stepP, evalP, putP, addW, FP.none, binP, binInt, binI, binBool, ofVal, lenP, indexAddrP, fieldAddrP, asNat_nat, asNat_0, asNat_1, asNat_succ, asNat_add, partOf, unP, nth_setN_eq, nth_setN_ne, setN_length, CC_T, CC_P, and_assoc, lenSl_nil, lenSl_imm, lenSl_own, lenSl_encD, cells_encD, cells_agg, cells_bool, cells_int, cells_own, cells_imm, cells_nil, okCell_encD, okCell_bool, okCell_int, okCell_own, okCell_imm, okCell_nil, okCells, okCell_dg, cells_dg, beqI, bneI, le2I, uS, hst, binS, he, resP, Ab.encI]
  | false => simp [Tryz.f284, h1, h2, h3, execC, regP, goOps, operP, valP, wantedP, isCall, calleeP, stepP, evalP, putP, addW, FP.none, binP, binInt, binI, binBool, ofVal, lenP, indexAddrP, fieldAddrP, asNat_nat, asNat_0, asNat_1, asNat_succ, asNat_add, partOf, unP, nth_setN_eq, nth_setN_ne, setN_length, CC_T, CC_P, and_assoc, lenSl_nil, lenSl_imm, lenSl_own, lenSl_encD, cells_encD, cells_agg, cells_bool, cells_int, cells_own, cells_imm, cells_nil, okCell_encD, okCell_bool, okCell_int, okCell_own, okCell_imm, okCell_nil, okCells, okCell_dg, cells_dg, beqI, bneI, le2I, uS, hst, binS, he, g1, hix, resP, Ab.encI]
def lindexF : List PV → Option (List PV)
  | [.sc (.string s), .sc (.string p)] => bif eqL (strL p) [47] then some [Ab.encI (idx s)] else none
  | _ => none
theorem eqL_eq : ∀ {a b : List UInt8}, eqL a b = true → a = b
  | [], [], _ => rfl
  | a :: x, b :: y, h => by
    simp only [eqL, Bool.and_eq_true, beq_iff_eq] at h
    rw [eqL_eq h.2, UInt8.toNat_inj.1 h.1]
  | [], _ :: _, h => by simp [eqL] at h
  | _ :: _, [], h => by simp [eqL] at h
theorem slash_of {p : ByteArray} (h : eqL (strL p) [47] = true) : p = slash := by
  have := eqL_eq h
  rw [← mk_strL p, this]; rfl
noncomputable def L12 : Lst := [(311, ibF)]
theorem g12 (run : Runs) (s : ByteArray) : Gives L12 run 311 [.sc (.string s), .sc (.int .u8 47)] (.sc (.int .i64 (Lib.indexByte (strL s) 47))) := fun dr hp =>
  call_of (L := L12) (f := ibF) sh_IndexByte rfl run dr hp _ [.sc (.int .i64 (Lib.indexByte (strL s) 47))] rfl rfl rfl
theorem lindex_spec : Ab.Spec base.P 284 lindexF := Ab.Spec.of_run (C := CC L12) (ccOk ⟨ib_spec, trivial⟩) fun args rs h => by
  unfold lindexF at h
  split at h
  · rename_i s p
    cases hb : eqL (strL p) [47] with
    | false => rw [hb] at h; cases h
    | true =>
      rw [hb] at h
      simp only [cond_true, Option.some.injEq] at h
      subst h
      rw [slash_of hb]
      obtain ⟨st, e1, e2⟩ := lindex_exec L12 (runK (CC L12) 1) 1 s (g12 _ s)
      exact ⟨2, _, _, _, _, _, body_ret F_of_LIndex rfl e1 e2, out_encI _ _, Wk.refl rfl, trivial⟩
  · cases h
def cut3 (s : ByteArray) : List PV := match idx s with
  | .ofNat i => [.sc (.string (mkStr ((strL s).take i))), .sc (.string (mkStr ((strL s).drop (i + 1)))), .sc (.bool true)]
  | .negSucc _ => [.sc (.string s), .sc (.string { data := #[] }), .sc (.bool false)]
def cutOk (s : ByteArray) : Bool := match idx s with
  | .ofNat i => (i + 1).ble (strL s).length && (strL s).length.ble 1000000000
  | .negSucc _ => true
noncomputable def lcutC : Code := Tryz.f238.body.getD .skip
noncomputable def lcutR1 : Code := seq1 (seq1 (cspine 1 lcutC))
noncomputable def lcutR2 : Code := seq2 (seq1 (cspine 1 lcutC))
theorem lcut_spine : cspine 1 lcutC = .seq (.seq lcutR1 lcutR2) (cspine 2 lcutC) := rfl
theorem lcut_pre (L : Lst) (run : Runs) (k : Nat) (s sl : ByteArray) : ∃ fr, runPre (CC L) run k 1 lcutC ⟨entry 23 [.sc (.string s), .sc (.string sl)], [], []⟩ = some ⟨fr, [], []⟩ ∧ fr.length = 23 ∧ nth fr 0 = .sc (.string s) ∧ nth fr 1 = .sc (.string sl) := by
  obtain ⟨h1, h2, h3⟩ := entry2 21 (.sc (.string s)) (.sc (.string sl))
  generalize entry 23 [.sc (.string s), .sc (.string sl)] = fr0 at *
  simp [lcutC, Tryz.f238, runPre, h1, h2, h3, execC, regP, goOps, operP, valP, wantedP, isCall, calleeP, stepP, evalP, putP, addW, FP.none, binP, binInt, binI, binBool, ofVal, lenP, indexAddrP, fieldAddrP, asNat_nat, asNat_0, asNat_1, asNat_succ, asNat_add, partOf, unP, nth_setN_eq, nth_setN_ne, setN_length, CC_T, CC_P, and_assoc, lenSl_nil, lenSl_imm, lenSl_own, lenSl_encD, cells_encD, cells_agg, cells_bool, cells_int, cells_own, cells_imm, cells_nil, okCell_encD, okCell_bool, okCell_int, okCell_own, okCell_imm, okCell_nil, okCells, okCell_dg, cells_dg, beqI, bneI, le2I]
theorem lcut_r1 (L : Lst) (run : Runs) (k : Nat) (fr : List PV) (s sl : ByteArray) (z : Int) (g1 : Gives L run 284 [.sc (.string s), .sc (.string sl)] (Ab.encI z)) (h1 : fr.length = 23) (h2 : nth fr 0 = .sc (.string s)) (h3 : nth fr 1 = .sc (.string sl)) :
    ∃ fr', execC (CC L) run k lcutR1 ⟨fr, [], []⟩ = some (.normal, ⟨fr', [], []⟩) ∧ fr'.length = 23 ∧ nth fr' 0 = .sc (.string s) ∧ nth fr' 1 = .sc (.string sl) ∧ nth fr' 7 = .sc (.int .i64 z) := by
  unfold Gives at g1
  simp only [Ab.encI] at g1
  simp [lcutR1, lcutC, Tryz.f238, cspine, seq1, h1, h2, h3, execC, regP, goOps, operP, valP, wantedP, isCall, calleeP, stepP, evalP, putP, addW, FP.none, binP, binInt, binI, binBool, ofVal, lenP, indexAddrP, fieldAddrP, asNat_nat, asNat_0, asNat_1, asNat_succ, asNat_add, partOf, unP, nth_setN_eq, nth_setN_ne, setN_length, CC_T, CC_P, and_assoc, lenSl_nil, lenSl_imm, lenSl_own, lenSl_encD, cells_encD, cells_agg, cells_bool, cells_int, cells_own, cells_imm, cells_nil, okCell_encD, okCell_bool, okCell_int, okCell_own, okCell_imm, okCell_nil, okCells, okCell_dg, cells_dg, beqI, bneI, le2I, g1]
theorem lcut_r2a (L : Lst) (run : Runs) (k : Nat) (fr : List PV) (s sl a b : ByteArray) (z j : Int) (n : Nat) (hz : ¬ (z < 0)) (hj : wrapK .i64 (z + n) = j) (hn : (strL sl).length = n) (hs1 : sliceStr s none (some (.sc (.int .i64 z))) none = some (.sc (.string a))) (hs2 : sliceStr s (some (.sc (.int .i64 j))) none none = some (.sc (.string b)))
    (h1 : fr.length = 23) (h2 : nth fr 0 = .sc (.string s)) (h3 : nth fr 1 = .sc (.string sl)) (h7 : nth fr 7 = .sc (.int .i64 z)) :
    ∃ st, execC (CC L) run k lcutR2 ⟨fr, [], []⟩ = some (.ret, st) ∧ resP TT st.fr st.hp Tryz.f238.results.toList = some [.sc (.string a), .sc (.string b), .sc (.bool true)] := by
  have hz' : 0 ≤ z := by omega
  simp [lcutR2, lcutC, Tryz.f238, cspine, seq1, seq2, h1, h2, h3, h7, execC, regP, goOps, operP, valP, wantedP, isCall, calleeP, stepP, evalP, putP, addW, FP.none, binP, binInt, binI, binBool, ofVal, lenP, indexAddrP, fieldAddrP, asNat_nat, asNat_0, asNat_1, asNat_succ, asNat_add, partOf, unP, nth_setN_eq, nth_setN_ne, setN_length, CC_T, CC_P, and_assoc, lenSl_nil, lenSl_imm, lenSl_own, lenSl_encD, cells_encD, cells_agg, cells_bool, cells_int, cells_own, cells_imm, cells_nil, okCell_encD, okCell_bool, okCell_int, okCell_own, okCell_imm, okCell_nil, okCells, okCell_dg, cells_dg, beqI, bneI, le2I, uS, hz', hn, hj, sliceP, hs1, hs2, resP, number, FP.free]
theorem lcut_r2b (L : Lst) (run : Runs) (k : Nat) (fr : List PV) (s sl : ByteArray) (z : Int) (hz : z < 0) (h1 : fr.length = 23) (h2 : nth fr 0 = .sc (.string s)) (h3 : nth fr 1 = .sc (.string sl)) (h7 : nth fr 7 = .sc (.int .i64 z)) :
    ∃ st fr', execC (CC L) run k lcutR2 ⟨fr, [], []⟩ = some (.normal, ⟨fr', [], []⟩) ∧ execC (CC L) run k (cspine 2 lcutC) ⟨fr', [], []⟩ = some (.ret, st) ∧ resP TT st.fr st.hp Tryz.f238.results.toList = some [.sc (.string s), .sc (.string { data := #[] }), .sc (.bool false)] := by
  have hz' : ¬ (0 ≤ z) := by omega
  have e : ∃ fr', execC (CC L) run k lcutR2 ⟨fr, [], []⟩ = some (.normal, ⟨fr', [], []⟩) ∧ fr'.length = 23 ∧ nth fr' 0 = .sc (.string s) := by
    simp [lcutR2, lcutC, Tryz.f238, cspine, seq1, seq2, h1, h2, h3, h7, execC, regP, goOps, operP, valP, wantedP, isCall, calleeP, stepP, evalP, putP, addW, FP.none, binP, binInt, binI, binBool, ofVal, lenP, indexAddrP, fieldAddrP, asNat_nat, asNat_0, asNat_1, asNat_succ, asNat_add, partOf, unP, nth_setN_eq, nth_setN_ne, setN_length, CC_T, CC_P, and_assoc, lenSl_nil, lenSl_imm, lenSl_own, lenSl_encD, cells_encD, cells_agg, cells_bool, cells_int, cells_own, cells_imm, cells_nil, okCell_encD, okCell_bool, okCell_int, okCell_own, okCell_imm, okCell_nil, okCells, okCell_dg, cells_dg, beqI, bneI, le2I, uS, hz']
  obtain ⟨fr', e1, e2, e3⟩ := e
  have e' : ∃ st, execC (CC L) run k (cspine 2 lcutC) ⟨fr', [], []⟩ = some (.ret, st) ∧ resP TT st.fr st.hp Tryz.f238.results.toList = some [.sc (.string s), .sc (.string { data := #[] }), .sc (.bool false)] := by
    simp [lcutC, Tryz.f238, cspine, e2, e3, execC, regP, goOps, operP, valP, wantedP, isCall, calleeP, stepP, evalP, putP, addW, FP.none, binP, binInt, binI, binBool, ofVal, lenP, indexAddrP, fieldAddrP, asNat_nat, asNat_0, asNat_1, asNat_succ, asNat_add, partOf, unP, nth_setN_eq, nth_setN_ne, setN_length, CC_T, CC_P, and_assoc, lenSl_nil, lenSl_imm, lenSl_own, lenSl_encD, cells_encD, cells_agg, cells_bool, cells_int, cells_own, cells_imm, cells_nil, okCell_encD, okCell_bool, okCell_int, okCell_own, okCell_imm, okCell_nil, okCells, okCell_dg, cells_dg, beqI, bneI, le2I, resP]
  obtain ⟨st, e4, e5⟩ := e'
  exact ⟨st, fr', e1, e4, e5⟩
theorem lcut3_exec (L : Lst) (run : Runs) (k : Nat) (s : ByteArray) (hk : cutOk s = true) (g1 : Gives L run 284 [.sc (.string s), .sc (.string slash)] (Ab.encI (idx s))) :
    ∃ st, execC (CC L) run k lcutC ⟨entry 23 [.sc (.string s), .sc (.string slash)], [], []⟩ = some (.ret, st) ∧ resP TT st.fr st.hp Tryz.f238.results.toList = some (cut3 s) := by
  obtain ⟨f1, a1, a2, a3, a4⟩ := lcut_pre L run k s slash
  obtain ⟨f2, b1, b2, b3, b4, b5⟩ := lcut_r1 L run k f1 s slash (idx s) g1 a2 a3 a4
  unfold cut3
  unfold cutOk at hk
  cases hi : idx s with
  | ofNat i =>
    rw [hi] at b5 hk
    simp only [Bool.and_eq_true, Nat.ble_eq] at hk
    have hw := wrap_succ i (Nat.lt_of_lt_of_le hk.1 (Nat.le_trans hk.2 (by decide)))
    have hs1 : sliceStr s none (some (.sc (.int .i64 (Int.ofNat i)))) none = some (.sc (.string (mkStr ((strL s).take i)))) := by
      have : i ≤ (strL s).length := Nat.le_of_succ_le hk.1
      simp [sliceStr, bnd, bound?, asNat_nat, this]
    have hs2 : sliceStr s (some (.sc (.int .i64 ((i : Int) + 1)))) none none = some (.sc (.string (mkStr ((strL s).drop (i + 1))))) := by
      have : i + 1 ≤ (strL s).length := hk.1
      simp [sliceStr, bnd, bound?, asNat_succ, this]
    obtain ⟨st, c1, c2⟩ := lcut_r2a L run k f2 s slash _ _ (Int.ofNat i) _ 1 (by simp) hw rfl hs1 hs2 b2 b3 b4 b5
    exact ⟨st, by rw [exec_spine 1 a1, lcut_spine, exec_seq_ret ((exec_seq b1).trans c1)], c2⟩
  | negSucc i =>
    rw [hi] at b5
    obtain ⟨st, f3, c1, c2, c3⟩ := lcut_r2b L run k f2 s slash (Int.negSucc i) (by simp) b2 b3 b4 b5
    exact ⟨st, by rw [exec_spine 1 a1, lcut_spine, exec_seq ((exec_seq b1).trans c1)]; exact c2, c3⟩
def cut3F : List PV → Option (List PV)
  | [.sc (.string s), .sc (.string p)] => bif eqL (strL p) [47] && cutOk s then some (cut3 s) else none
  | _ => none
theorem out_cut3 (hp : List Blk) (s : ByteArray) : mapIds (snap hp snapDepth) (cut3 s) = some (cut3 s, []) := by
  unfold cut3; cases idx s <;> rfl
theorem wk_cut3 (s : ByteArray) : WkL (cut3 s) (cut3 s) := WkL.refl (by unfold cut3; cases idx s <;> rfl)
noncomputable def L13 : Lst := [(284, lindexF)]
theorem g13 (run : Runs) (s : ByteArray) : Gives L13 run 284 [.sc (.string s), .sc (.string slash)] (Ab.encI (idx s)) := fun dr hp =>
  call_of (L := L13) (f := lindexF) sh_LIndex rfl run dr hp _ [Ab.encI (idx s)] rfl rfl rfl
theorem lcut3_spec : Ab.Spec base.P 238 cut3F := Ab.Spec.of_run (C := CC L13) (ccOk ⟨lindex_spec, trivial⟩) fun args rs h => by
  unfold cut3F at h
  split at h
  · rename_i s p
    cases hb : eqL (strL p) [47] && cutOk s with
    | false => rw [hb] at h; cases h
    | true =>
      rw [hb] at h
      simp only [cond_true, Option.some.injEq] at h
      subst h
      rw [Bool.and_eq_true] at hb
      rw [slash_of hb.1]
      obtain ⟨st, e1, e2⟩ := lcut3_exec L13 (runK (CC L13) 1) 1 s hb.2 (g13 _ s)
      exact ⟨2, _, _, _, _, _, body_ret F_of_LCut rfl e1 e2, out_cut3 _ _, wk_cut3 _⟩
  · cases h
noncomputable def L14 : Lst := [(238, cut3F)]
theorem g14 (run : Runs) (s : ByteArray) (hk : cutOk s = true) : Gives L14 run 238 [.sc (.string s), .sc (.string slash)] (retP (cut3 s)) := fun dr hp =>
  call_of (L := L14) (f := cut3F) sh_LCut rfl run dr hp _ (cut3 s) rfl rfl (by
    show (bif true && cutOk s then some (cut3 s) else none) = _
    rw [hk]; rfl)
theorem cut3_exec (L : Lst) (run : Runs) (k : Nat) (s : ByteArray) (g1 : Gives L run 238 [.sc (.string s), .sc (.string slash)] (retP (cut3 s))) :
    ∃ st, execC (CC L) run k (Tryz.f170.body.getD .skip) ⟨entry 13 [.sc (.string s), .sc (.string slash)], [], []⟩ = some (.ret, st) ∧ resP TT st.fr st.hp Tryz.f170.results.toList = some (cut3 s) := by
  obtain ⟨h1, h2, h3⟩ := entry2 11 (.sc (.string s)) (.sc (.string slash))
  generalize entry 13 [.sc (.string s), .sc (.string slash)] = fr0 at *
  unfold Gives at g1
  unfold cut3 at g1 ⊢
  cases hi : idx s <;> rw [hi] at g1 <;> simp only [retP] at g1 ⊢ <;> simp [Tryz.f170, h1, h2, h3, execC, regP, goOps, operP, valP, wantedP, isCall, calleeP, stepP, evalP, putP, addW, FP.none, binP, binInt, binI, binBool, ofVal, lenP, indexAddrP, fieldAddrP, asNat_nat, asNat_0, asNat_1, asNat_succ, asNat_add, partOf, unP, nth_setN_eq, nth_setN_ne, setN_length, CC_T, CC_P, and_assoc, lenSl_nil, lenSl_imm, lenSl_own, lenSl_encD, cells_encD, cells_agg, cells_bool, cells_int, cells_own, cells_imm, cells_nil, okCell_encD, okCell_bool, okCell_int, okCell_own, okCell_imm, okCell_nil, okCells, okCell_dg, cells_dg, beqI, bneI, le2I, g1, resP]
theorem cut3_spec : Ab.Spec base.P 170 cut3F := Ab.Spec.of_run (C := CC L14) (ccOk ⟨lcut3_spec, trivial⟩) fun args rs h => by
  unfold cut3F at h
  split at h
  · rename_i s p
    cases hb : eqL (strL p) [47] && cutOk s with
    | false => rw [hb] at h; cases h
    | true =>
      rw [hb] at h
      simp only [cond_true, Option.some.injEq] at h
      subst h
      rw [Bool.and_eq_true] at hb
      rw [slash_of hb.1]
      obtain ⟨st, e1, e2⟩ := cut3_exec L14 (runK (CC L14) 1) 1 s (g14 _ s hb.2)
      exact ⟨2, _, _, _, _, _, body_ret F_of_Cut rfl e1 e2, out_cut3 _ _, wk_cut3 _⟩
  · cases h
end Go.Proofs.YtciabmckldfofaaGreatDoor
namespace Go.Proofs.YtciabmckldfofaaGreatDoor
open Go Go.Ab
/-! ReadRat -/
noncomputable def rrC : Code := Tryz.f108.body.getD .skip
noncomputable def rrR3 : Code := seq1 (cspine 3 rrC)
noncomputable def rrR6 : Code := seq1 (cspine 5 rrC)
theorem rr_spine3 : cspine 3 rrC = .seq rrR3 (cspine 4 rrC) := rfl
theorem rr_spine5 : cspine 5 rrC = .seq rrR6 (cspine 6 rrC) := rfl
theorem rr_pre (L : Lst) (run : Runs) (k : Nat) (s s1 t1 : ByteArray) (sl ok : Bool) (n : Int) (g1 : Gives L run 170 [.sc (.string s), .sc (.string slash)] (.tup [.sc (.string s1), .sc (.string t1), .sc (.bool sl)])) (g2 : Gives L run 171 [.sc (.string s1)] (.tup [encW n, .sc (.bool ok)])) :
    ∃ fr wr, runPre (CC L) run k 3 rrC ⟨entry 61 [.sc (.string s)], [], []⟩ = some ⟨fr, [zR4, bW n], wr⟩ ∧ fr.length = 61 ∧ nth fr 2 = .ptr 0 0 ∧ nth fr 5 = .sc (.string t1) ∧ nth fr 6 = .sc (.bool sl) ∧ nth fr 7 = .ptr 1 0 ∧ nth fr 8 = .sc (.bool ok) := by
  obtain ⟨h1, h2⟩ := entry1 60 (.sc (.string s))
  generalize entry 61 [.sc (.string s)] = fr0 at *
  unfold Gives at g1 g2
  simp only [whW, bW] at g2 ⊢
  generalize digs n.natAbs = rn at *
  generalize negB n = nn at *
  simp [rrC, Tryz.f108, runPre, h1, h2, execC, regP, goOps, operP, valP, wantedP, isCall, calleeP, stepP, evalP, putP, addW, FP.none, binP, binInt, binI, binBool, ofVal, lenP, indexAddrP, fieldAddrP, asNat_nat, asNat_0, asNat_1, asNat_succ, asNat_add, partOf, unP, nth_setN_eq, nth_setN_ne, setN_length, CC_T, CC_P, and_assoc, lenSl_nil, lenSl_imm, lenSl_own, lenSl_encD, cells_encD, cells_agg, cells_bool, cells_int, cells_own, cells_imm, cells_nil, okCell_encD, okCell_bool, okCell_int, okCell_own, okCell_imm, okCell_nil, okCells, okCell_dg, cells_dg, beqI, bneI, le2I, g1, g2, zR, zW, sW, allocB, nthB, setB, over?]
theorem rr_r3a (L : Lst) (run : Runs) (k : Nat) (fr : List PV) (wr : List Nat) (sl ok : Bool) (n : Int) (hb : ok = false ∨ sl = false) (g1 : Gives L run 167 [.sc (.int .i64 1)] (encW 1))
    (h1 : fr.length = 61) (h2 : nth fr 2 = .ptr 0 0) (h6 : nth fr 6 = .sc (.bool sl)) (h7 : nth fr 7 = .ptr 1 0) (h8 : nth fr 8 = .sc (.bool ok)) :
    ∃ st, execC (CC L) run k rrR3 ⟨fr, [zR4, bW n], wr⟩ = some (.ret, st) ∧ resP TT st.fr st.hp Tryz.f108.results.toList = some [encR n 1, .sc (.bool ok)] := by
  unfold Gives at g1
  rw [encR_eq]
  simp only [whW, bW] at g1 ⊢
  generalize digs n.natAbs = rn at *
  generalize negB n = nn at *
  generalize digs (1 : Int).natAbs = r1 at *
  generalize negB 1 = n1 at *
  rcases hb with rfl | rfl
  · simp [rrR3, rrC, Tryz.f108, cspine, seq1, h1, h2, h6, h7, h8, execC, regP, goOps, operP, valP, wantedP, isCall, calleeP, stepP, evalP, putP, addW, FP.none, binP, binInt, binI, binBool, ofVal, lenP, indexAddrP, fieldAddrP, asNat_nat, asNat_0, asNat_1, asNat_succ, asNat_add, partOf, unP, nth_setN_eq, nth_setN_ne, setN_length, CC_T, CC_P, and_assoc, lenSl_nil, lenSl_imm, lenSl_own, lenSl_encD, cells_encD, cells_agg, cells_bool, cells_int, cells_own, cells_imm, cells_nil, okCell_encD, okCell_bool, okCell_int, okCell_own, okCell_imm, okCell_nil, okCells, okCell_dg, cells_dg, beqI, bneI, le2I, undef, g1, uR, uW, sR, sW, aR, aW, zR, rf0, rf1, buildP, fillL, placeP, atAddr, nthB, setB, over?, takeN?, dropN, resP, number, FP.free, pairsOk, FP.apart]
  · cases ok <;> simp [rrR3, rrC, Tryz.f108, cspine, seq1, h1, h2, h6, h7, h8, execC, regP, goOps, operP, valP, wantedP, isCall, calleeP, stepP, evalP, putP, addW, FP.none, binP, binInt, binI, binBool, ofVal, lenP, indexAddrP, fieldAddrP, asNat_nat, asNat_0, asNat_1, asNat_succ, asNat_add, partOf, unP, nth_setN_eq, nth_setN_ne, setN_length, CC_T, CC_P, and_assoc, lenSl_nil, lenSl_imm, lenSl_own, lenSl_encD, cells_encD, cells_agg, cells_bool, cells_int, cells_own, cells_imm, cells_nil, okCell_encD, okCell_bool, okCell_int, okCell_own, okCell_imm, okCell_nil, okCells, okCell_dg, cells_dg, beqI, bneI, le2I, undef, g1, uR, uW, sR, sW, aR, aW, zR, rf0, rf1, buildP, fillL, placeP, atAddr, nthB, setB, over?, takeN?, dropN, resP, number, FP.free, pairsOk, FP.apart]
theorem rr_r3b (L : Lst) (run : Runs) (k : Nat) (fr : List PV) (wr : List Nat) (n : Int) (h1 : fr.length = 61) (h2 : nth fr 2 = .ptr 0 0) (h6 : nth fr 6 = .sc (.bool true)) (h7 : nth fr 7 = .ptr 1 0) (h8 : nth fr 8 = .sc (.bool true)) :
    ∃ fr', execC (CC L) run k rrR3 ⟨fr, [zR4, bW n], wr⟩ = some (.normal, ⟨fr', [zR4, bW n], wr⟩) ∧ fr'.length = 61 ∧ nth fr' 2 = .ptr 0 0 ∧ nth fr' 5 = nth fr 5 ∧ nth fr' 7 = .ptr 1 0 := by
  simp [rrR3, rrC, Tryz.f108, cspine, seq1, h1, h2, h6, h7, h8, execC, regP, goOps, operP, valP, wantedP, isCall, calleeP, stepP, evalP, putP, addW, FP.none, binP, binInt, binI, binBool, ofVal, lenP, indexAddrP, fieldAddrP, asNat_nat, asNat_0, asNat_1, asNat_succ, asNat_add, partOf, unP, nth_setN_eq, nth_setN_ne, setN_length, CC_T, CC_P, and_assoc, lenSl_nil, lenSl_imm, lenSl_own, lenSl_encD, cells_encD, cells_agg, cells_bool, cells_int, cells_own, cells_imm, cells_nil, okCell_encD, okCell_bool, okCell_int, okCell_own, okCell_imm, okCell_nil, okCells, okCell_dg, cells_dg, beqI, bneI, le2I, undef]
theorem rr_r5 (L : Lst) (run : Runs) (k : Nat) (fr : List PV) (wr : List Nat) (t1 : ByteArray) (ok : Bool) (n d : Int) (g1 : Gives L run 171 [.sc (.string t1)] (.tup [encW d, .sc (.bool ok)])) (h1 : fr.length = 61) (h2 : nth fr 2 = .ptr 0 0) (h5 : nth fr 5 = .sc (.string t1)) (h7 : nth fr 7 = .ptr 1 0) :
    ∃ fr' wr', runPre (CC L) run k 1 (cspine 4 rrC) ⟨fr, [zR4, bW n], wr⟩ = some ⟨fr', [zR4, bW n, bW d], wr'⟩ ∧ fr'.length = 61 ∧ nth fr' 2 = .ptr 0 0 ∧ nth fr' 7 = .ptr 1 0 ∧ nth fr' 9 = .ptr 2 0 ∧ nth fr' 8 = .sc (.bool ok) := by
  unfold Gives at g1
  simp only [whW, bW] at g1 ⊢
  generalize digs n.natAbs = rn at *
  generalize negB n = nn at *
  generalize digs d.natAbs = rd at *
  generalize negB d = nd at *
  simp [rrC, Tryz.f108, cspine, runPre, h1, h2, h5, h7, execC, regP, goOps, operP, valP, wantedP, isCall, calleeP, stepP, evalP, putP, addW, FP.none, binP, binInt, binI, binBool, ofVal, lenP, indexAddrP, fieldAddrP, asNat_nat, asNat_0, asNat_1, asNat_succ, asNat_add, partOf, unP, nth_setN_eq, nth_setN_ne, setN_length, CC_T, CC_P, and_assoc, lenSl_nil, lenSl_imm, lenSl_own, lenSl_encD, cells_encD, cells_agg, cells_bool, cells_int, cells_own, cells_imm, cells_nil, okCell_encD, okCell_bool, okCell_int, okCell_own, okCell_imm, okCell_nil, okCells, okCell_dg, cells_dg, beqI, bneI, le2I, g1, zW, sW, allocB, nthB, setB, over?]
/-- is d no denominator of n? by what the calls tell -/
def rrBad (ok : Bool) (s c1 c2 : Int) : Bool := !ok || (s == 0 || (decide (c1 ≤ 0) || c2 != 0))
set_option maxHeartbeats 4000000 in
theorem rr_r6 (L : Lst) (run : Runs) (k : Nat) (fr : List PV) (wr : List Nat) (ok : Bool) (n d g : Int) (s c1 c2 : Int) (g1 : ok = true → Gives L run 172 [encW n] (Ab.encI s)) (g0 : Gives L run 167 [.sc (.int .i64 1)] (encW 1)) (g2 : ok = true → s ≠ 0 → Gives L run 154 [encW d, encW 1] (Ab.encI c1))
    (g3 : ok = true → s ≠ 0 → ¬ (c1 ≤ 0) → Gives L run 173 [encW n, encW d] (encW g)) (g4 : ok = true → s ≠ 0 → ¬ (c1 ≤ 0) → Gives L run 154 [encW g, encW 1] (Ab.encI c2))
    (h1 : fr.length = 61) (h2 : nth fr 2 = .ptr 0 0) (h7 : nth fr 7 = .ptr 1 0) (h9 : nth fr 9 = .ptr 2 0) (h8 : nth fr 8 = .sc (.bool ok)) :
    (rrBad ok s c1 c2 = true ∧ ∃ st, execC (CC L) run k rrR6 ⟨fr, [zR4, bW n, bW d], wr⟩ = some (.ret, st) ∧ resP TT st.fr st.hp Tryz.f108.results.toList = some [.agg [.sc (.bool false), .sc (.slice none 0 0), .sc (.bool false), .sc (.slice none 0 0)], .sc (.bool false)]) ∨
    (rrBad ok s c1 c2 = false ∧ ∃ fr', execC (CC L) run k rrR6 ⟨fr, [zR4, bW n, bW d], wr⟩ = some (.normal, ⟨fr', [zR4, bW n, bW d], wr⟩) ∧ fr'.length = 61 ∧ nth fr' 2 = .ptr 0 0 ∧ nth fr' 7 = .ptr 1 0 ∧ nth fr' 9 = .ptr 2 0) := by
  unfold rrBad
  unfold Gives at *
  simp only [whW, bW, Ab.encI] at *
  generalize digs n.natAbs = rn at *
  generalize negB n = nn at *
  generalize digs d.natAbs = rd at *
  generalize negB d = nd at *
  generalize digs g.natAbs = rg at *
  generalize negB g = ng at *
  generalize digs (1 : Int).natAbs = r1 at *
  generalize negB 1 = n1 at *
  cases ok with
  | false =>
    refine .inl ⟨rfl, ?_⟩
    simp [rrR6, rrC, Tryz.f108, cspine, seq1, h1, h2, h7, h8, h9, execC, regP, goOps, operP, valP, wantedP, isCall, calleeP, stepP, evalP, putP, addW, FP.none, binP, binInt, binI, binBool, ofVal, lenP, indexAddrP, fieldAddrP, asNat_nat, asNat_0, asNat_1, asNat_succ, asNat_add, partOf, unP, nth_setN_eq, nth_setN_ne, setN_length, CC_T, CC_P, and_assoc, lenSl_nil, lenSl_imm, lenSl_own, lenSl_encD, cells_encD, cells_agg, cells_bool, cells_int, cells_own, cells_imm, cells_nil, okCell_encD, okCell_bool, okCell_int, okCell_own, okCell_imm, okCell_nil, okCells, okCell_dg, cells_dg, beqI, bneI, le2I, undef, uR, uW, sR, sW, aR, aW, zR, rf0, rf1, buildP, fillL, placeP, atAddr, nthB, setB, over?, takeN?, dropN, resP, number, FP.free, pairsOk, FP.apart]
  | true =>
    have g1 := g1 rfl
    by_cases hs : s = 0
    · refine .inl ⟨by simp [hs], ?_⟩
      have hs' : (s == 0) = true := by simpa using hs
      simp [rrR6, rrC, Tryz.f108, cspine, seq1, h1, h2, h7, h8, h9, g1, hs', execC, regP, goOps, operP, valP, wantedP, isCall, calleeP, stepP, evalP, putP, addW, FP.none, binP, binInt, binI, binBool, ofVal, lenP, indexAddrP, fieldAddrP, asNat_nat, asNat_0, asNat_1, asNat_succ, asNat_add, partOf, unP, nth_setN_eq, nth_setN_ne, setN_length, CC_T, CC_P, and_assoc, lenSl_nil, lenSl_imm, lenSl_own, lenSl_encD, cells_encD, cells_agg, cells_bool, cells_int, cells_own, cells_imm, cells_nil, okCell_encD, okCell_bool, okCell_int, okCell_own, okCell_imm, okCell_nil, okCells, okCell_dg, cells_dg, beqI, bneI, le2I, undef, uR, uW, sR, sW, aR, aW, zR, rf0, rf1, buildP, fillL, placeP, atAddr, nthB, setB, over?, takeN?, dropN, resP, number, FP.free, pairsOk, FP.apart]
    · have g2 := g2 rfl hs
      have hs' : (s == 0) = false := by simpa using hs
      by_cases hc : c1 ≤ 0
      · refine .inl ⟨by simp [hc], ?_⟩
        simp [rrR6, rrC, Tryz.f108, cspine, seq1, h1, h2, h7, h8, h9, g1, g0, g2, hs', hc, execC, regP, goOps, operP, valP, wantedP, isCall, calleeP, stepP, evalP, putP, addW, FP.none, binP, binInt, binI, binBool, ofVal, lenP, indexAddrP, fieldAddrP, asNat_nat, asNat_0, asNat_1, asNat_succ, asNat_add, partOf, unP, nth_setN_eq, nth_setN_ne, setN_length, CC_T, CC_P, and_assoc, lenSl_nil, lenSl_imm, lenSl_own, lenSl_encD, cells_encD, cells_agg, cells_bool, cells_int, cells_own, cells_imm, cells_nil, okCell_encD, okCell_bool, okCell_int, okCell_own, okCell_imm, okCell_nil, okCells, okCell_dg, cells_dg, beqI, bneI, le2I, undef, uR, uW, sR, sW, aR, aW, zR, rf0, rf1, buildP, fillL, placeP, atAddr, nthB, setB, over?, takeN?, dropN, resP, number, FP.free, pairsOk, FP.apart]
      · have g3 := g3 rfl hs hc
        have g4 := g4 rfl hs hc
        by_cases hc2 : c2 = 0
        · have hc2' : (c2 != 0) = false := by simpa using hc2
          refine .inr ⟨by simp [hc, hc2, hs], ?_⟩
          simp [rrR6, rrC, Tryz.f108, cspine, seq1, h1, h2, h7, h8, h9, g1, g0, g2, g3, g4, hs', hc, hc2', execC, regP, goOps, operP, valP, wantedP, isCall, calleeP, stepP, evalP, putP, addW, FP.none, binP, binInt, binI, binBool, ofVal, lenP, indexAddrP, fieldAddrP, asNat_nat, asNat_0, asNat_1, asNat_succ, asNat_add, partOf, unP, nth_setN_eq, nth_setN_ne, setN_length, CC_T, CC_P, and_assoc, lenSl_nil, lenSl_imm, lenSl_own, lenSl_encD, cells_encD, cells_agg, cells_bool, cells_int, cells_own, cells_imm, cells_nil, okCell_encD, okCell_bool, okCell_int, okCell_own, okCell_imm, okCell_nil, okCells, okCell_dg, cells_dg, beqI, bneI, le2I, undef, uR, uW, sR, sW, aR, aW, zR, rf0, rf1, buildP, fillL, placeP, atAddr, nthB, setB, over?, takeN?, dropN, resP, number, FP.free, pairsOk, FP.apart]
        · have hc2' : (c2 != 0) = true := by simpa using hc2
          refine .inl ⟨by simp [hc, hc2, hs], ?_⟩
          simp [rrR6, rrC, Tryz.f108, cspine, seq1, h1, h2, h7, h8, h9, g1, g0, g2, g3, g4, hs', hc, hc2', execC, regP, goOps, operP, valP, wantedP, isCall, calleeP, stepP, evalP, putP, addW, FP.none, binP, binInt, binI, binBool, ofVal, lenP, indexAddrP, fieldAddrP, asNat_nat, asNat_0, asNat_1, asNat_succ, asNat_add, partOf, unP, nth_setN_eq, nth_setN_ne, setN_length, CC_T, CC_P, and_assoc, lenSl_nil, lenSl_imm, lenSl_own, lenSl_encD, cells_encD, cells_agg, cells_bool, cells_int, cells_own, cells_imm, cells_nil, okCell_encD, okCell_bool, okCell_int, okCell_own, okCell_imm, okCell_nil, okCells, okCell_dg, cells_dg, beqI, bneI, le2I, undef, uR, uW, sR, sW, aR, aW, zR, rf0, rf1, buildP, fillL, placeP, atAddr, nthB, setB, over?, takeN?, dropN, resP, number, FP.free, pairsOk, FP.apart]
theorem rr_post (L : Lst) (run : Runs) (k : Nat) (fr : List PV) (wr : List Nat) (n d : Int) (h1 : fr.length = 61) (h2 : nth fr 2 = .ptr 0 0) (h7 : nth fr 7 = .ptr 1 0) (h9 : nth fr 9 = .ptr 2 0) :
    ∃ st, execC (CC L) run k (cspine 6 rrC) ⟨fr, [zR4, bW n, bW d], wr⟩ = some (.ret, st) ∧ resP TT st.fr st.hp Tryz.f108.results.toList = some [encR n d, .sc (.bool true)] := by
  rw [encR_eq]
  simp only [bW]
  generalize digs n.natAbs = rn at *
  generalize negB n = nn at *
  generalize digs d.natAbs = rd at *
  generalize negB d = nd at *
  simp [rrC, Tryz.f108, cspine, h1, h2, h7, h9, execC, regP, goOps, operP, valP, wantedP, isCall, calleeP, stepP, evalP, putP, addW, FP.none, binP, binInt, binI, binBool, ofVal, lenP, indexAddrP, fieldAddrP, asNat_nat, asNat_0, asNat_1, asNat_succ, asNat_add, partOf, unP, nth_setN_eq, nth_setN_ne, setN_length, CC_T, CC_P, and_assoc, lenSl_nil, lenSl_imm, lenSl_own, lenSl_encD, cells_encD, cells_agg, cells_bool, cells_int, cells_own, cells_imm, cells_nil, okCell_encD, okCell_bool, okCell_int, okCell_own, okCell_imm, okCell_nil, okCells, okCell_dg, cells_dg, beqI, bneI, le2I, uR, uW, sR, sW, aR, aW, zR, rf0, rf1, buildP, fillL, placeP, atAddr, nthB, setB, over?, takeN?, dropN, resP, number, FP.free, pairsOk, FP.apart]
noncomputable def L15 : Lst := [(170, cut3F), (171, readF), (167, ofF), (172, signF), (154, cmpF), (173, gcdF)]
theorem L15_ok : SpecL base.P L15 := ⟨cut3_spec, read_spec, of_spec, sign_spec, cmp_spec, gcd_spec, trivial⟩
theorem o15_cut : orcOf L15 170 = fun a => cut3F (canonL a) := rfl
theorem o15_read : orcOf L15 171 = fun a => readF (canonL a) := rfl
theorem o15_of : orcOf L15 167 = fun a => ofF (canonL a) := rfl
theorem o15_sign : orcOf L15 172 = fun a => signF (canonL a) := rfl
theorem o15_cmp : orcOf L15 154 = fun a => cmpF (canonL a) := rfl
theorem o15_gcd : orcOf L15 173 = fun a => gcdF (canonL a) := rfl
def cutA (s : ByteArray) : ByteArray := match idx s with
  | .ofNat i => mkStr ((strL s).take i)
  | .negSucc _ => s
def cutB (s : ByteArray) : ByteArray := match idx s with
  | .ofNat i => mkStr ((strL s).drop (i + 1))
  | .negSucc _ => { data := #[] }
def cutT (s : ByteArray) : Bool := match idx s with
  | .ofNat _ => true
  | .negSucc _ => false
theorem cut3_eq (s : ByteArray) : cut3 s = [.sc (.string (cutA s)), .sc (.string (cutB s)), .sc (.bool (cutT s))] := by
  unfold cut3 cutA cutB cutT
  cases idx s <;> rfl
theorem cutA_len (s : ByteArray) : (bys (cutA s)).length ≤ (bys s).length := by
  unfold cutA
  cases idx s with
  | ofNat i => simp only [bys_len, strL_mk, List.length_take]; omega
  | negSucc i => exact Nat.le_refl _
theorem cutB_len (s : ByteArray) : (bys (cutB s)).length ≤ (bys s).length := by
  unfold cutB
  cases idx s with
  | ofNat i => simp only [bys_len, strL_mk, List.length_drop]; omega
  | negSucc i => exact Nat.zero_le _
/-- what Read hands back -/
def readV (s : ByteArray) : Int := match readI? s with
  | some z => z
  | none => 0
def readK (s : ByteArray) : Bool := match readI? s with
  | some _ => true
  | none => false
theorem g15_cut (run : Runs) (s : ByteArray) (hk : cutOk s = true) : Gives L15 run 170 [.sc (.string s), .sc (.string slash)] (.tup [.sc (.string (cutA s)), .sc (.string (cutB s)), .sc (.bool (cutT s))]) := fun dr hp =>
  call_of (L := L15) (f := cut3F) sh_Cut o15_cut run dr hp _ [.sc (.string (cutA s)), .sc (.string (cutB s)), .sc (.bool (cutT s))] rfl rfl (by
    rw [← cut3_eq]
    show (bif true && cutOk s then some (cut3 s) else none) = _
    rw [hk]; rfl)
theorem g15_read (run : Runs) (s : ByteArray) (hl : (bys s).length < 3000000) : Gives L15 run 171 [.sc (.string s)] (.tup [encW (readV s), .sc (.bool (readK s))]) := fun dr hp =>
  call_of (L := L15) (f := readF) sh_Read o15_read run dr hp _ [encW (readV s), .sc (.bool (readK s))] rfl rfl (by
    have h : (bys s).length.blt 3000000 = true := by rw [Nat.blt_eq]; exact hl
    simp only [readF, h, cond_true]
    unfold readV readK
    cases readI? s <;> rfl)
theorem g15_of (run : Runs) : Gives L15 run 167 [.sc (.int .i64 1)] (encW 1) := fun dr hp =>
  call_of (L := L15) (f := ofF) sh_Of o15_of run dr hp _ [encW 1] rfl rfl rfl
theorem g15_sign (run : Runs) (x : Int) (hx : Sm x) : Gives L15 run 172 [encW x] (Ab.encI x.sign) := fun dr hp =>
  call_of (L := L15) (f := signF) sh_Sign o15_sign run dr hp _ [Ab.encI x.sign] (args_W hp x) (canon_W x) (by simp only [signF, decW?_of hx])
theorem g15_cmp (run : Runs) (x y : Int) (hx : Sm x) (hy : Sm y) : Gives L15 run 154 [encW x, encW y] (Ab.encI (cmpI x y)) := fun dr hp =>
  call_of (L := L15) (f := cmpF) sh_Cmp o15_cmp run dr hp _ [Ab.encI (cmpI x y)] (args_WW hp x y) (canon_WW x y) (by simp only [cmpF, decW?_of hx, decW?_of hy])
theorem g15_gcd (run : Runs) (x y : Int) (hx : Sm x) (hy : Sm y) (h : gcdP x.natAbs y.natAbs = true) : Gives L15 run 173 [encW x, encW y] (encW (Int.ofNat (Nat.gcd x.natAbs y.natAbs))) := fun dr hp =>
  call_of (L := L15) (f := gcdF) sh_Gcd o15_gcd run dr hp _ [encW (Int.ofNat (Nat.gcd x.natAbs y.natAbs))] (args_WW hp x y) (canon_WW x y) (by simp only [gcdF, decW?_of hx, decW?_of hy, h, cond_true])
def rrF2 (n d : Int) (ok : Bool) : Option (List PV) :=
  bif smB n && (smB d && (gcdP n.natAbs d.natAbs && smB (Int.ofNat (Nat.gcd n.natAbs d.natAbs)))) then
    bif rrBad ok n.sign (cmpI d 1) (cmpI (Int.ofNat (Nat.gcd n.natAbs d.natAbs)) 1) then some [encR 0 0, .sc (.bool false)] else some [encR n d, .sc (.bool true)]
  else none
def rrF : List PV → Option (List PV)
  | [.sc (.string s)] => bif (bys s).length.blt 3000000 && cutOk s then
      (bif readK (cutA s) && cutT s then rrF2 (readV (cutA s)) (readV (cutB s)) (readK (cutB s)) else some [encR (readV (cutA s)) 1, .sc (.bool (readK (cutA s)))]) else none
  | _ => none
theorem out_RB (hp : List Blk) (n d : Int) (b : Bool) : mapIds (snap hp snapDepth) [encR n d, .sc (.bool b)] = some ([encR n d, .sc (.bool b)], []) := rfl
theorem rr_spec : Ab.Spec base.P 108 rrF := Ab.Spec.of_run (C := CC L15) (ccOk L15_ok) fun args rs h => by
  unfold rrF at h
  split at h
  · rename_i s
    cases hb : (bys s).length.blt 3000000 && cutOk s with
    | false => rw [hb] at h; cases h
    | true =>
      rw [hb] at h
      simp only [cond_true] at h
      simp only [Bool.and_eq_true, Nat.blt_eq] at hb
      have hA := Nat.lt_of_le_of_lt (cutA_len s) hb.1
      have hB := Nat.lt_of_le_of_lt (cutB_len s) hb.1
      obtain ⟨f1, wr1, a1, a2, a3, a4, a5, a6, a7⟩ := rr_pre L15 (runK (CC L15) 1) 1 s _ _ _ _ _ (g15_cut _ s hb.2) (g15_read _ _ hA)
      cases hc : readK (cutA s) && cutT s with
      | false =>
        rw [hc] at h
        simp only [cond_false, Option.some.injEq] at h
        subst h
        have hor : readK (cutA s) = false ∨ cutT s = false := by
          revert hc; cases readK (cutA s) <;> cases cutT s <;> simp
        obtain ⟨st, e1, e2⟩ := rr_r3a L15 (runK (CC L15) 1) 1 f1 wr1 _ _ _ hor (g15_of _) a2 a3 a5 a6 a7
        have hx : execC (CC L15) (runK (CC L15) 1) 1 rrC ⟨entry 61 [.sc (.string s)], [], []⟩ = some (.ret, st) := by
          rw [exec_spine 3 a1, rr_spine3, exec_seq_ret e1]
        exact ⟨2, _, _, _, _, _, body_ret F_of_ReadRat rfl hx e2, out_RB _ _ _ _, Wk.refl rfl, Wk.refl rfl, trivial⟩
      | true =>
        rw [hc] at h
        simp only [cond_true] at h
        rw [Bool.and_eq_true] at hc
        rw [hc.1] at a7
        rw [hc.2] at a5
        obtain ⟨f2, b1, b2, b3, b4, b5⟩ := rr_r3b L15 (runK (CC L15) 1) 1 f1 wr1 (readV (cutA s)) a2 a3 a5 a6 a7
        obtain ⟨f3, wr3, c1, c2, c3, c4, c5, c6⟩ := rr_r5 L15 (runK (CC L15) 1) 1 f2 wr1 (cutB s) _ (readV (cutA s)) _ (g15_read _ _ hB) b2 b3 (by rw [b4, a4]) b5
        generalize readV (cutA s) = n at *
        generalize readV (cutB s) = d at *
        generalize readK (cutB s) = ok at *
        unfold rrF2 at h
        cases hg : smB n && (smB d && (gcdP n.natAbs d.natAbs && smB (Int.ofNat (Nat.gcd n.natAbs d.natAbs)))) with
        | false => rw [hg] at h; cases h
        | true =>
          rw [hg] at h
          simp only [cond_true] at h
          simp only [Bool.and_eq_true] at hg
          obtain ⟨s1, s2, s3, s4⟩ := hg
          have hx0 : execC (CC L15) (runK (CC L15) 1) 1 rrC ⟨entry 61 [.sc (.string s)], [], []⟩ = execC (CC L15) (runK (CC L15) 1) 1 (cspine 5 rrC) ⟨f3, [zR4, bW n, bW d], wr3⟩ := by
            rw [exec_spine 3 a1, rr_spine3, exec_seq b1, exec_spine 1 c1]; rfl
          rcases rr_r6 L15 (runK (CC L15) 1) 1 f3 wr3 ok n d (Int.ofNat (Nat.gcd n.natAbs d.natAbs)) n.sign (cmpI d 1) (cmpI (Int.ofNat (Nat.gcd n.natAbs d.natAbs)) 1) (fun _ => g15_sign _ n (smB_ok s1)) (g15_of _) (fun _ _ => g15_cmp _ d 1 (smB_ok s2) Sm_one)
            (fun _ _ _ => g15_gcd _ n d (smB_ok s1) (smB_ok s2) s3) (fun _ _ _ => g15_cmp _ _ 1 (smB_ok s4) Sm_one) c2 c3 c4 c5 c6 with ⟨hbad, st, e1, e2⟩ | ⟨hbad, f4, d1, d2, d3, d4, d5⟩
          · rw [hbad] at h
            simp only [cond_true, Option.some.injEq] at h
            subst h
            have hx : execC (CC L15) (runK (CC L15) 1) 1 rrC ⟨entry 61 [.sc (.string s)], [], []⟩ = some (.ret, st) := by
              rw [hx0, rr_spine5, exec_seq_ret e1]
            exact ⟨2, _, _, _, [.agg [.sc (.bool false), .sc (.slice none 0 0), .sc (.bool false), .sc (.slice none 0 0)], .sc (.bool false)], [], body_ret F_of_ReadRat rfl hx e2, rfl, Wk.agg ⟨Wk.refl rfl, Wk.nil false, Wk.refl rfl, Wk.nil false, trivial⟩, Wk.refl rfl, trivial⟩
          · rw [hbad] at h
            simp only [cond_false, Option.some.injEq] at h
            subst h
            obtain ⟨st, e1, e2⟩ := rr_post L15 (runK (CC L15) 1) 1 f4 wr3 n d d2 d3 d4 d5
            have hx : execC (CC L15) (runK (CC L15) 1) 1 rrC ⟨entry 61 [.sc (.string s)], [], []⟩ = some (.ret, st) := by
              rw [hx0, rr_spine5, exec_seq d1]; exact e1
            exact ⟨2, _, _, _, _, _, body_ret F_of_ReadRat rfl hx e2, out_RB _ _ _ _, Wk.refl rfl, Wk.refl rfl, trivial⟩
  · cases h
end Go.Proofs.YtciabmckldfofaaGreatDoor
namespace Go.Proofs.YtciabmckldfofaaGreatDoor
open Go Go.Ab
theorem F_of_digits : base.F.get 236 = some Tryz.f236 := by kernel_rfl
theorem F_of_Long : base.F.get 166 = some Tryz.f166 := by kernel_rfl
theorem F_of_RLong : base.F.get 101 = some Tryz.f101 := by kernel_rfl
theorem sh_digits : base.shared 236 = false := by kernel_rfl
theorem sh_Long : base.shared 166 = false := by kernel_rfl
/-- decimal digits of a number, of at most k -/
def nd : Nat → Nat → Nat
  | 0, _ => 0
  | k + 1, x => bif x.beq 0 then 0 else nd k (x / 10) + 1
noncomputable def digitsC : Code := Tryz.f236.body.getD .skip
noncomputable def digitsB : Code := ((Tryz.f236.body).bind loopOf).getD .skip
theorem digits_end (L : Lst) (run : Runs) (k : Nat) (fr : List PV) (hp : List Blk) (wr : List Nat) (h29 : fr.length = 29) (h4 : nth fr 4 = .sc (.int .u32 (0 : Nat))) :
    ∃ fr', execC (CC L) run k digitsB ⟨fr, hp, wr⟩ = some (.exit 0, ⟨fr', hp, wr⟩) ∧ fr'.length = 29 ∧ nth fr' 3 = nth fr 3 := by
  simp [digitsB, Tryz.f236, loopOf, execC, regP, goOps, operP, valP, wantedP, isCall, calleeP, stepP, evalP, putP, addW, FP.none, binP, binInt, binI, binBool, ofVal, lenP, indexAddrP, fieldAddrP, asNat_nat, asNat_0, asNat_1, asNat_succ, asNat_add, partOf, unP, nth_setN_eq, nth_setN_ne, setN_length, CC_T, CC_P, and_assoc, lenSl_nil, lenSl_imm, lenSl_own, lenSl_encD, cells_encD, cells_agg, cells_bool, cells_int, cells_own, cells_imm, cells_nil, okCell_encD, okCell_bool, okCell_int, okCell_own, okCell_imm, okCell_nil, okCells, okCell_dg, cells_dg, beqI, bneI, le2I, h29, h4]
theorem wrapQ10 (k : IntKind) (a s : Nat) (h : s = a / 10) (hs : s ≤ hiN k) : wrapK k ((a : Int) / 10) = (s : Int) := by
  have e : ((a : Int) / 10) = (s : Int) := by omega
  rw [e]; exact wrap_nat k _ hs
theorem digits_round (L : Lst) (run : Runs) (k : Nat) (fr : List PV) (hp : List Blk) (wr : List Nat) (c x y : Nat) (hc : c < 100000000) (hx : 0 < x) (hx2 : x ≤ 4294967295) (hy : y = x / 10) (h29 : fr.length = 29) (h3 : nth fr 3 = .sc (.int .i64 (c : Int))) (h4 : nth fr 4 = .sc (.int .u32 (x : Int))) :
    ∃ fr', execC (CC L) run k digitsB ⟨fr, hp, wr⟩ = some (.normal, ⟨fr', hp, wr⟩) ∧ fr'.length = 29 ∧ nth fr' 3 = .sc (.int .i64 ((c + 1 : Nat) : Int)) ∧ nth fr' 4 = .sc (.int .u32 (y : Int)) := by
  have hw := wrap_succ c (Nat.lt_trans hc (by decide))
  have hw2 := wrapQ10 .u32 x y hy (hi32 (by omega))
  simp [digitsB, Tryz.f236, loopOf, execC, regP, goOps, operP, valP, wantedP, isCall, calleeP, stepP, evalP, putP, addW, FP.none, binP, binInt, binI, binBool, ofVal, lenP, indexAddrP, fieldAddrP, asNat_nat, asNat_0, asNat_1, asNat_succ, asNat_add, partOf, unP, nth_setN_eq, nth_setN_ne, setN_length, CC_T, CC_P, and_assoc, lenSl_nil, lenSl_imm, lenSl_own, lenSl_encD, cells_encD, cells_agg, cells_bool, cells_int, cells_own, cells_imm, cells_nil, okCell_encD, okCell_bool, okCell_int, okCell_own, okCell_imm, okCell_nil, okCells, okCell_dg, cells_dg, beqI, bneI, le2I, h29, h3, h4, hx, hw, hw2]
theorem digits_loop (L : Lst) (run : Runs) (k : Nat) (hp : List Blk) (wr : List Nat) : ∀ (n x c : Nat) (fr : List PV), x < 10 ^ n → c + n < 100000000 → x ≤ 4294967295 → fr.length = 29 → nth fr 3 = .sc (.int .i64 (c : Int)) → nth fr 4 = .sc (.int .u32 (x : Int)) →
    ∃ fr', iterL (execC (CC L) run k digitsB) (n + 1) ⟨fr, hp, wr⟩ = some (.exit 0, ⟨fr', hp, wr⟩) ∧ fr'.length = 29 ∧ nth fr' 3 = .sc (.int .i64 ((c + nd n x : Nat) : Int))
  | n, x, c, fr, hx, hc, hx2, h29, h3, h4 => by
    by_cases h0 : x = 0
    · subst h0
      obtain ⟨fr', g1, g2, g3⟩ := digits_end L run k fr hp wr h29 h4
      refine ⟨fr', iter_stop g1, g2, ?_⟩
      rw [g3, h3]
      cases n <;> rfl
    · cases n with
      | zero => simp at hx; exact absurd hx h0
      | succ n =>
        obtain ⟨fr1, g1, g2, g3, g4⟩ := digits_round L run k fr hp wr c x _ (by omega) (by omega) hx2 rfl h29 h3 h4
        obtain ⟨fr', q1, q2, q3⟩ := digits_loop L run k hp wr n (x / 10) (c + 1) fr1 (by rw [Nat.pow_succ] at hx; omega) (by omega) (by omega) g2 g3 g4
        refine ⟨fr', by rw [iter_go g1]; exact q1, q2, ?_⟩
        rw [q3]
        have hb : x.beq 0 = false := by
          cases x with
          | zero => exact absurd rfl h0
          | succ x => rfl
        rw [nd, hb, cond_false]
        congr 3; omega
noncomputable def digitsR4 : Code := seq1 (seq1 (cspine 3 digitsC))
theorem digits_spine : cspine 3 digitsC = .seq (.seq digitsR4 (.block 0 (.loop digitsB))) (cspine 4 digitsC) := rfl
theorem digits_nil (L : Lst) (run : Runs) (k : Nat) (n : Bool) : ∃ st, execC (CC L) run k digitsC ⟨entry 29 [wh n []], [], []⟩ = some (.ret, st) ∧ resP TT st.fr st.hp Tryz.f236.results.toList = some [Ab.encI 0] := by
  obtain ⟨e1, e2⟩ := entry1 28 (wh n [])
  generalize entry 29 [wh n []] = fr0 at *
  rw [show wh n [] = .agg [.sc (.bool n), encD []] from rfl] at e2
  simp [digitsC, Tryz.f236, e1, e2, execC, regP, goOps, operP, valP, wantedP, isCall, calleeP, stepP, evalP, putP, addW, FP.none, binP, binInt, binI, binBool, ofVal, lenP, indexAddrP, fieldAddrP, asNat_nat, asNat_0, asNat_1, asNat_succ, asNat_add, partOf, unP, nth_setN_eq, nth_setN_ne, setN_length, CC_T, CC_P, and_assoc, lenSl_nil, lenSl_imm, lenSl_own, lenSl_encD, cells_encD, cells_agg, cells_bool, cells_int, cells_own, cells_imm, cells_nil, okCell_encD, okCell_bool, okCell_int, okCell_own, okCell_imm, okCell_nil, okCells, okCell_dg, cells_dg, beqI, bneI, le2I, uW, uD, sD, aD, wf0, wf1, allocB, atAddr, nthB, dropN, resP, Ab.encI]
set_option maxHeartbeats 1000000 in
theorem digits_pre (L : Lst) (run : Runs) (k : Nat) (n : Bool) (l : List Nat) (a c : Nat) (hc : c = 9 * l.length) (hl : l.length < 1000000) :
    ∃ f1 fr, runPre (CC L) run k 3 digitsC ⟨entry 29 [wh n (l ++ [a])], [], []⟩ = some ⟨f1, [⟨.live, [.sc (.bool n), encD (l ++ [a])]⟩], [0]⟩ ∧ execC (CC L) run k digitsR4 ⟨f1, [⟨.live, [.sc (.bool n), encD (l ++ [a])]⟩], [0]⟩ = some (.normal, ⟨fr, [⟨.live, [.sc (.bool n), encD (l ++ [a])]⟩], [0]⟩) ∧ fr.length = 29
      ∧ nth fr 3 = .sc (.int .i64 (c : Int)) ∧ nth fr 4 = .sc (.int .u32 (a : Int)) := by
  obtain ⟨e1, e2⟩ := entry1 28 (wh n (l ++ [a]))
  generalize entry 29 [wh n (l ++ [a])] = fr0 at *
  have hd : (dropN ((l ++ [a]).map dg) l.length).head? = some (.sc (.int .u32 a)) := by
    rw [head_dg _ _ (by simp)]; simp [dg]
  have hE : encD (l ++ [a]) = .imm (l.length + 1) false ((l ++ [a]).map dg) := by simp [encD]
  rw [show wh n (l ++ [a]) = .agg [.sc (.bool n), encD (l ++ [a])] from rfl, hE] at e2
  rw [hE]
  obtain ⟨m, hm⟩ : ∃ m, m = l.length := ⟨_, rfl⟩
  rw [← hm] at hd hc e2 hl ⊢
  have hw : wrapK .i64 (m : Int) = (m : Int) := wrapI .i64 m (hiI (by omega))
  have hw2 : wrapK .i64 (9 * (m : Int)) = (c : Int) := by
    have e : (9 * (m : Int)) = (c : Int) := by omega
    rw [e]; exact wrapI .i64 c (hiI (by omega))
  have hne : ((m : Int) + 1 == 0) = false := by
    rw [beq_eq_false_iff_ne]; omega
  have hlt : m < m + 1 := by omega
  generalize (l ++ [a]).map dg = cs at *
  have p1 : ∃ f1, runPre (CC L) run k 3 digitsC ⟨fr0, [], []⟩ = some ⟨f1, [⟨.live, [.sc (.bool n), .imm (m + 1) false cs]⟩], [0]⟩ ∧ f1.length = 29 ∧ nth f1 1 = .ptr 0 0 ∧ nth f1 3 = .sc (.int .i64 (c : Int)) := by
    simp [digitsC, Tryz.f236, runPre, e1, e2, execC, regP, goOps, operP, valP, wantedP, isCall, calleeP, stepP, evalP, putP, addW, FP.none, binP, binInt, binI, binBool, ofVal, lenP, indexAddrP, fieldAddrP, asNat_nat, asNat_0, asNat_1, asNat_succ, asNat_add, partOf, unP, nth_setN_eq, nth_setN_ne, setN_length, CC_T, CC_P, and_assoc, lenSl_nil, lenSl_imm, lenSl_own, lenSl_encD, cells_encD, cells_agg, cells_bool, cells_int, cells_own, cells_imm, cells_nil, okCell_encD, okCell_bool, okCell_int, okCell_own, okCell_imm, okCell_nil, okCells, okCell_dg, cells_dg, beqI, bneI, le2I, uW, uD, sD, aD, wf0, wf1, allocB, atAddr, nthB, dropN, hne, hw, hw2]
  obtain ⟨f1, q1, q2, q3, q4⟩ := p1
  refine ⟨f1, ?_⟩
  rw [q1]
  have p2 : ∃ fr, execC (CC L) run k digitsR4 ⟨f1, [⟨.live, [.sc (.bool n), .imm (m + 1) false cs]⟩], [0]⟩ = some (.normal, ⟨fr, [⟨.live, [.sc (.bool n), .imm (m + 1) false cs]⟩], [0]⟩) ∧ fr.length = 29 ∧ nth fr 3 = .sc (.int .i64 (c : Int)) ∧ nth fr 4 = .sc (.int .u32 (a : Int)) := by
    simp [digitsR4, digitsC, Tryz.f236, cspine, seq1, q2, q3, q4, execC, regP, goOps, operP, valP, wantedP, isCall, calleeP, stepP, evalP, putP, addW, FP.none, binP, binInt, binI, binBool, ofVal, lenP, indexAddrP, fieldAddrP, asNat_nat, asNat_0, asNat_1, asNat_succ, asNat_add, partOf, unP, nth_setN_eq, nth_setN_ne, setN_length, CC_T, CC_P, and_assoc, lenSl_nil, lenSl_imm, lenSl_own, lenSl_encD, cells_encD, cells_agg, cells_bool, cells_int, cells_own, cells_imm, cells_nil, okCell_encD, okCell_bool, okCell_int, okCell_own, okCell_imm, okCell_nil, okCells, okCell_dg, cells_dg, beqI, bneI, le2I, uW, uD, sD, s32, aD, a32, wf0, wf1, atAddr, nthB, dropN, hw, hlt, hd]
  obtain ⟨fr, r1, r2⟩ := p2
  exact ⟨fr, rfl, r1, r2⟩
theorem digits_post (L : Lst) (run : Runs) (k : Nat) (fr : List PV) (hp : List Blk) (wr : List Nat) (z : Int) (h29 : fr.length = 29) (h3 : nth fr 3 = .sc (.int .i64 z)) :
    ∃ st, execC (CC L) run k (cspine 4 digitsC) ⟨fr, hp, wr⟩ = some (.ret, st) ∧ resP TT st.fr st.hp Tryz.f236.results.toList = some [Ab.encI z] := by
  simp [digitsC, Tryz.f236, cspine, h29, h3, execC, regP, goOps, operP, valP, wantedP, isCall, calleeP, stepP, evalP, putP, addW, FP.none, binP, binInt, binI, binBool, ofVal, lenP, indexAddrP, fieldAddrP, asNat_nat, asNat_0, asNat_1, asNat_succ, asNat_add, partOf, unP, nth_setN_eq, nth_setN_ne, setN_length, CC_T, CC_P, and_assoc, lenSl_nil, lenSl_imm, lenSl_own, lenSl_encD, cells_encD, cells_agg, cells_bool, cells_int, cells_own, cells_imm, cells_nil, okCell_encD, okCell_bool, okCell_int, okCell_own, okCell_imm, okCell_nil, okCells, okCell_dg, cells_dg, beqI, bneI, le2I, resP, Ab.encI]
def digN (l : List Nat) : Nat := match l.getLast? with
  | none => 0
  | some a => 9 * (l.length - 1) + nd 9 a
def digitsF : List PV → Option (List PV)
  | [.agg [.sc (.bool _), p]] => match decD? p with
    | some l => some [Ab.encI (Int.ofNat (digN l))]
    | none => none
  | _ => none
theorem digits_spec : Ab.Spec base.P 236 digitsF := Ab.Spec.of_run (C := CC []) (ccOk trivial) fun args rs h => by
  unfold digitsF at h
  split at h
  · split at h
    · rename_i n p _ l hl
      obtain ⟨rfl, hd, hlen⟩ := decD?_some hl
      simp only [Option.some.injEq] at h
      subst h
      by_cases h0 : l = []
      · subst h0
        obtain ⟨st, e1, e2⟩ := digits_nil [] (runK (CC []) 1) 1 n
        exact ⟨2, _, _, _, _, _, body_ret F_of_digits rfl e1 e2, out_encI _ _, Wk.refl rfl, trivial⟩
      · obtain ⟨m, a, rfl⟩ : ∃ m a, l = m ++ [a] := ⟨l.dropLast, l.getLast h0, (List.dropLast_concat_getLast h0).symm⟩
        have ha : a < 1000000000 := hd a (by simp)
        have hm : m.length < 1000000 := by simp at hlen; omega
        obtain ⟨f1, f2, a1, a2, a3, a4, a5⟩ := digits_pre [] (runK (CC []) 10) 10 n m a (9 * m.length) rfl hm
        obtain ⟨f3, b1, b2, b3⟩ := digits_loop [] (runK (CC []) 10) 10 [⟨.live, [.sc (.bool n), encD (m ++ [a])]⟩] [0] 9 a (9 * m.length) f2 (Nat.lt_of_lt_of_le ha (by decide)) (by omega) (Nat.le_trans (Nat.le_of_lt ha) (by decide)) a3 a4 a5
        obtain ⟨st, e1, e2⟩ := digits_post [] (runK (CC []) 10) 10 f3 _ _ _ b2 b3
        have hx : execC (CC []) (runK (CC []) 10) 10 digitsC ⟨entry 29 [wh n (m ++ [a])], [], []⟩ = some (.ret, st) := by
          rw [exec_spine 3 a1, digits_spine, exec_seq ((exec_seq a2).trans (exec_loop b1))]
          exact e1
        have hN : digN (m ++ [a]) = 9 * m.length + nd 9 a := by simp [digN]
        rw [hN]
        exact ⟨11, _, _, _, _, _, body_ret F_of_digits rfl hx e2, out_encI _ (9 * m.length + nd 9 a : Nat), Wk.refl rfl, trivial⟩
    · cases h
  · cases h
noncomputable def L16 : Lst := [(236, digitsF)]
theorem o16 : orcOf L16 236 = fun a => digitsF (canonL a) := rfl
theorem g16 (run : Runs) (n : Bool) (l : List Nat) (hd : Dok l) (hl : l.length < 1000000) : Gives L16 run 236 [.agg [.sc (.bool n), encD l]] (Ab.encI (Int.ofNat (digN l))) := fun dr hp =>
  call_of (L := L16) (f := digitsF) sh_digits o16 run dr hp _ [Ab.encI (Int.ofNat (digN l))] rfl (by simp only [canonL, canon, canonL_dgs, encD]) (by simp only [digitsF, decD?_enc hd hl])
theorem long_exec (L : Lst) (run : Runs) (k : Nat) (n : Bool) (l : List Nat) (c : Nat) (g1 : Gives L run 236 [.agg [.sc (.bool n), encD l]] (Ab.encI (Int.ofNat c))) :
    ∃ st, execC (CC L) run k (Tryz.f166.body.getD .skip) ⟨entry 6 [wh n l], [], []⟩ = some (.ret, st) ∧ resP TT st.fr st.hp Tryz.f166.results.toList = some [.sc (.bool (decide (1000 < c)))] := by
  obtain ⟨e1, e2⟩ := entry1 5 (wh n l)
  generalize entry 6 [wh n l] = fr0 at *
  rw [show wh n l = .agg [.sc (.bool n), encD l] from rfl] at e2
  unfold Gives at g1
  simp only [Ab.encI, Int.ofNat_eq_natCast] at g1
  have hc : ((c : Int) > 1000) = (1000 < c) := by apply propext; omega
  have hc2 : ((1000 : Int) < c) = (1000 < c) := by apply propext; omega
  simp [Tryz.f166, e1, e2, execC, regP, goOps, operP, valP, wantedP, isCall, calleeP, stepP, evalP, putP, addW, FP.none, binP, binInt, binI, binBool, ofVal, lenP, indexAddrP, fieldAddrP, asNat_nat, asNat_0, asNat_1, asNat_succ, asNat_add, partOf, unP, nth_setN_eq, nth_setN_ne, setN_length, CC_T, CC_P, and_assoc, lenSl_nil, lenSl_imm, lenSl_own, lenSl_encD, cells_encD, cells_agg, cells_bool, cells_int, cells_own, cells_imm, cells_nil, okCell_encD, okCell_bool, okCell_int, okCell_own, okCell_imm, okCell_nil, okCells, okCell_dg, cells_dg, beqI, bneI, le2I, g1, hc, hc2, sW, aW, allocB, atAddr, nthB, dropN, takeN?, resP]
def longF : List PV → Option (List PV)
  | [.agg [.sc (.bool _), p]] => match decD? p with
    | some l => some [.sc (.bool (decide (1000 < digN l)))]
    | none => none
  | _ => none
theorem long_spec : Ab.Spec base.P 166 longF := Ab.Spec.of_run (C := CC L16) (ccOk ⟨digits_spec, trivial⟩) fun args rs h => by
  unfold longF at h
  split at h
  · split at h
    · rename_i n p _ l hl
      obtain ⟨rfl, hd, hlen⟩ := decD?_some hl
      simp only [Option.some.injEq] at h
      subst h
      obtain ⟨st, e1, e2⟩ := long_exec L16 (runK (CC L16) 1) 1 n l _ (g16 _ n l hd hlen)
      exact ⟨2, _, _, _, _, _, body_ret F_of_Long rfl e1 e2, out_bool _ _, Wk.refl rfl, trivial⟩
    · cases h
  · cases h
noncomputable def L17 : Lst := [(166, longF)]
theorem o17 : orcOf L17 166 = fun a => longF (canonL a) := rfl
theorem g17 (run : Runs) (z : Int) (hz : Sm z) : Gives L17 run 166 [encW z] (.sc (.bool (decide (1000 < digN (digs z.natAbs))))) := fun dr hp =>
  call_of (L := L17) (f := longF) sh_Long o17 run dr hp _ [.sc (.bool (decide (1000 < digN (digs z.natAbs))))] (args_W hp z) (canon_W z) (by
    show (match decD? (encD (digs z.natAbs)) with | some l => some [PV.sc (.bool (decide (1000 < digN l)))] | none => none) = _
    rw [decD?_enc (digs_ok _) hz.lt])
theorem rlong_exec (L : Lst) (run : Runs) (k : Nat) (a b : Int) (p q : Bool) (g1 : Gives L run 166 [encW a] (.sc (.bool p))) (g2 : Gives L run 166 [encW b] (.sc (.bool q))) :
    ∃ st, execC (CC L) run k (Tryz.f101.body.getD .skip) ⟨entry 11 [encR a b], [], []⟩ = some (.ret, st) ∧ resP TT st.fr st.hp Tryz.f101.results.toList = some [.sc (.bool (p || q))] := by
  obtain ⟨h1, h2⟩ := entry1 10 (encR a b)
  generalize entry 11 [encR a b] = fr0 at *
  unfold Gives at *
  simp only [whW, encR_eq] at *
  cases p <;> simp [Tryz.f101, h1, h2, execC, regP, goOps, operP, valP, wantedP, isCall, calleeP, stepP, evalP, putP, addW, FP.none, binP, binInt, binI, binBool, ofVal, lenP, indexAddrP, fieldAddrP, asNat_nat, asNat_0, asNat_1, asNat_succ, asNat_add, partOf, unP, nth_setN_eq, nth_setN_ne, setN_length, CC_T, CC_P, and_assoc, lenSl_nil, lenSl_imm, lenSl_own, lenSl_encD, cells_encD, cells_agg, cells_bool, cells_int, cells_own, cells_imm, cells_nil, okCell_encD, okCell_bool, okCell_int, okCell_own, okCell_imm, okCell_nil, okCells, okCell_dg, cells_dg, beqI, bneI, le2I, g1, g2, undef, uR, uW, sW, aW, rf0, rf1, allocB, atAddr, nthB, takeN?, dropN, resP]
def rlongF : List PV → Option (List PV)
  | [p] => match decR? p with
    | some (a, b) => some [.sc (.bool (decide (1000 < digN (digs a.natAbs)) || decide (1000 < digN (digs b.natAbs))))]
    | none => none
  | _ => none
theorem rlong_spec : Ab.Spec base.P 101 rlongF := Ab.Spec.of_run (C := CC L17) (ccOk ⟨long_spec, trivial⟩) fun args rs h => by
  unfold rlongF at h
  split at h
  · split at h
    · rename_i a b ex
      obtain ⟨rfl, ha, hb⟩ := decR?_some ex
      simp only [Option.some.injEq] at h
      subst h
      obtain ⟨st, e1, e2⟩ := rlong_exec L17 (runK (CC L17) 1) 1 a b _ _ (g17 _ a ha) (g17 _ b hb)
      exact ⟨2, _, _, _, _, _, body_ret F_of_RLong rfl e1 e2, out_bool _ _, Wk.refl rfl, trivial⟩
    · cases h
  · cases h
end Go.Proofs.YtciabmckldfofaaGreatDoor
