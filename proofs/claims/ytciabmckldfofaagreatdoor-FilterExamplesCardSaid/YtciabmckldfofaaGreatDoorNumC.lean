/- Contracts of num.short, word, small, parts, Gcd, DivMod, where no long division is wanted. -/
import Derived.Test.YtciabmckldfofaaGreatDoorNumB
set_option linter.unusedSimpArgs false
set_option linter.unusedVariables false
namespace Go.Proofs.YtciabmckldfofaaGreatDoor
open Go Go.Ab
/-! short -/
noncomputable def shortC : Code := Tryz.f286.body.getD .skip
noncomputable def shortB : Code := ((Tryz.f286.body).bind loopOf).getD .skip
abbrev hp1 (out : List Nat) : List Blk := [⟨.live, out.map dg⟩]
theorem short_end (L : Lst) (run : Runs) (k : Nat) (fr : List PV) (hp : List Blk) (wr : List Nat) (h42 : fr.length = 42) (h8 : nth fr 8 = .sc (.int .i64 (-1))) :
    ∃ fr', execC (CC L) run k shortB ⟨fr, hp, wr⟩ = some (.exit 0, ⟨fr', hp, wr⟩) ∧ fr'.length = 42 ∧ nth fr' 6 = nth fr 6 ∧ nth fr' 7 = nth fr 7 := by
  simp [shortB, Tryz.f286, loopOf, execC, regP, goOps, operP, valP, wantedP, isCall, calleeP, stepP, evalP, putP, addW, FP.none, binP, binInt, binI, binBool, ofVal, lenP, indexAddrP, fieldAddrP, asNat_nat, asNat_0, asNat_1, asNat_succ, asNat_add, partOf, unP, nth_setN_eq, nth_setN_ne, setN_length, CC_T, CC_P, and_assoc, lenSl_nil, lenSl_imm, lenSl_own, lenSl_encD, cells_encD, cells_agg, cells_bool, cells_int, cells_own, cells_imm, cells_nil, okCell_encD, okCell_bool, okCell_int, okCell_own, okCell_imm, okCell_nil, okCells, okCell_dg, cells_dg, beqI, bneI, le2I, h42, h8]
set_option maxHeartbeats 2000000 in
theorem short_round (L : Lst) (run : Runs) (k : Nat) (fr : List PV) (wr : List Nat) (a out : List Nat) (b m R q r : Nat) (ha : Dok a) (hb : 0 < b) (hb2 : b < 1000000000) (hR : R < b) (hm : m < a.length) (hl : out.length = a.length) (hl2 : a.length < 1000000)
    (h42 : fr.length = 42) (h0 : nth fr 0 = encD a) (h1 : nth fr 1 = dg b) (h6 : nth fr 6 = .own 0 1 0 a.length true) (h7 : nth fr 7 = .sc (.int .u64 (R : Int))) (h8 : nth fr 8 = .sc (.int .i64 (m : Int)))
    (hq : q = (R * 1000000000 + at0 a m) / b) (hr : r = (R * 1000000000 + at0 a m) % b) :
    ∃ fr' wr', execC (CC L) run k shortB ⟨fr, hp1 out, wr⟩ = some (.normal, ⟨fr', hp1 (out.set m q), wr'⟩) ∧ fr'.length = 42 ∧ nth fr' 0 = encD a ∧ nth fr' 1 = dg b ∧ nth fr' 6 = .own 0 1 0 a.length true ∧ nth fr' 7 = .sc (.int .u64 (r : Int)) ∧ nth fr' 8 = .sc (.int .i64 ((m : Int) - 1)) := by
  have hda := head_dg a m hm
  have hax := ha.get hm
  have hov := over_dg out m q (by omega)
  rw [at0_lt hm] at hq hr
  generalize a[m] = x at *
  have e1 : encD a = .imm a.length false (a.map dg) := rfl
  have hdx : dg x = .sc (.int .u32 (x : Int)) := rfl
  have hdb : dg b = .sc (.int .u32 (b : Int)) := rfl
  rw [e1] at h0 ⊢; rw [hdx] at hda; rw [hdb] at h1 ⊢
  obtain ⟨s1, hs1⟩ : ∃ s1, s1 = R * 1000000000 := ⟨_, rfl⟩
  obtain ⟨s2, hs2⟩ : ∃ s2, s2 = s1 + x := ⟨_, rfl⟩
  rw [← hs1, ← hs2] at hq hr
  have hq9 : q < 1000000000 := by
    rw [hq]
    refine Nat.div_lt_of_lt_mul ?_
    have : (R + 1) * 1000000000 ≤ b * 1000000000 := Nat.mul_le_mul_right _ hR
    rw [Nat.add_mul] at this
    omega
  have hw0 := wrapI .u64 x (hi64 (by omega))
  have hwb := wrapI .u64 b (hi64 (by omega))
  have hw1 := wrapMU .u64 R s1 hs1 (hi64 (by omega))
  have hw2 := wrapA .u64 s1 x s2 hs2 (hi64 (by omega))
  have hw3 := wrapQ .u64 s2 b q hq (hi64 (by omega))
  have hw4 := tmodN s2 b r hr
  have hw5 : wrapK .u32 (q : Int) = (q : Int) := wrapI .u32 q (hi32 (by omega))
  have hwm := wrap_pred m (by omega)
  have hb0 : ¬ (b = 0) := by omega
  simp [shortB, Tryz.f286, loopOf, execC, regP, goOps, operP, valP, wantedP, isCall, calleeP, stepP, evalP, putP, addW, FP.none, binP, binInt, binI, binBool, ofVal, lenP, indexAddrP, fieldAddrP, asNat_nat, asNat_0, asNat_1, asNat_succ, asNat_add, partOf, unP, nth_setN_eq, nth_setN_ne, setN_length, CC_T, CC_P, and_assoc, lenSl_nil, lenSl_imm, lenSl_own, lenSl_encD, cells_encD, cells_agg, cells_bool, cells_int, cells_own, cells_imm, cells_nil, okCell_encD, okCell_bool, okCell_int, okCell_own, okCell_imm, okCell_nil, okCells, okCell_dg, cells_dg, beqI, bneI, le2I, h42, h0, h1, h6, h7, h8, uD, u32, u64, s32, a32, convP, hm, hda, atAddr, nthB, setB, hw0, hwb, hw1, hw2, hw3, hw4, hw5, hwm, hov, hb0, sc_dg q, number, FP.free]
theorem short_loop (L : Lst) (run : Runs) (k : Nat) (a : List Nat) (b : Nat) (ha : Dok a) (hb : 0 < b) (hb2 : b < 1000000000) (hl2 : a.length < 1000000) : ∀ (m : Nat) (fr : List PV) (wr : List Nat) (out : List Nat) (R : Nat), m ≤ a.length → out.length = a.length →
    fr.length = 42 → nth fr 0 = encD a → nth fr 1 = dg b → nth fr 6 = .own 0 1 0 a.length true → nth fr 7 = .sc (.int .u64 (R : Int)) → nth fr 8 = .sc (.int .i64 ((m : Int) - 1)) →
    R = val (a.drop m) % b → val (out.drop m) = val (a.drop m) / b → Dok out →
    ∃ (fr' : List PV) (wr' : List Nat) (out' : List Nat), iterL (execC (CC L) run k shortB) (m + 1) ⟨fr, hp1 out, wr⟩ = some (.exit 0, ⟨fr', hp1 out', wr'⟩) ∧ fr'.length = 42 ∧ nth fr' 6 = .own 0 1 0 a.length true ∧ nth fr' 7 = .sc (.int .u64 ((val a % b : Nat) : Int)) ∧ out'.length = a.length ∧ Dok out' ∧ val out' = val a / b
  | 0, fr, wr, out, R, hm, hl, h42, h0, h1, h6, h7, h8, hR, hv, ho => by
    obtain ⟨fr', g1, g2, g3, g4⟩ := short_end L run k fr (hp1 out) wr h42 (by rw [h8]; rfl)
    simp only [List.drop_zero] at hR hv
    exact ⟨fr', wr, out, iter_stop g1, g2, by rw [g3, h6], by rw [g4, h7, hR], hl, ho, hv⟩
  | m + 1, fr, wr, out, R, hm, hl, h42, h0, h1, h6, h7, h8, hR, hv, ho => by
    have h8' : nth fr 8 = .sc (.int .i64 (m : Int)) := by rw [h8]; simp
    have hRb : R < b := by rw [hR]; exact Nat.mod_lt _ hb
    obtain ⟨fr1, wr1, g1, g2, g3, g4, g5, g6, g7⟩ := short_round L run k fr wr a out b m R _ _ ha hb hb2 hRb (by omega) hl hl2 h42 h0 h1 h6 h7 h8' rfl rfl
    have hax := at0_ok ha m
    obtain ⟨d1, d2⟩ := div_step (Q := val (a.drop (m + 1)) / b) (R := val (a.drop (m + 1)) % b) hb (val_drop_at0 a m (by omega)) rfl rfl
    rw [← hR] at d1 d2
    obtain ⟨fr', wr', out', q1, q2⟩ := short_loop L run k a b ha hb hb2 hl2 m fr1 wr1 (out.set m ((R * 1000000000 + at0 a m) / b)) ((R * 1000000000 + at0 a m) % b) (by omega) (by rw [List.length_set]; exact hl) g2 g3 g4 g5 g6 g7 d2
      (by rw [drop_set_self (by omega), val, hv]; exact d1)
      (ho.set _ (by
        refine Nat.div_lt_of_lt_mul ?_
        have : (R + 1) * 1000000000 ≤ b * 1000000000 := Nat.mul_le_mul_right _ hRb
        rw [Nat.add_mul] at this
        omega))
    exact ⟨fr', wr', out', by rw [iter_go g1]; exact q1, q2⟩
noncomputable def shortR : Code := seq1 (seq1 (cspine 2 shortC))
theorem short_spine : cspine 2 shortC = .seq (.seq shortR (.block 0 (.loop shortB))) (cspine 3 shortC) := rfl
theorem short_pre (L : Lst) (run : Runs) (k : Nat) (a : List Nat) (p : PV) (hl : a.length < 1000000) :
    ∃ fr wr, runPre (CC L) run k 2 shortC ⟨entry 42 [encD a, p], [], []⟩ = some ⟨fr, hp1 (List.replicate a.length 0), wr⟩ ∧ fr.length = 42 ∧ nth fr 0 = encD a ∧ nth fr 1 = p ∧ nth fr 6 = .own 0 1 0 a.length true ∧ nth fr 7 = .sc (.int .u64 (0 : Nat)) := by
  obtain ⟨e1, e2, e3⟩ := entry2 40 (encD a) p
  generalize entry 42 [encD a, p] = fr0 at *
  have h1 : a.length ≤ maxLenA := Nat.le_trans (Nat.le_of_lt hl) (by decide)
  rw [show hp1 (List.replicate a.length 0) = [⟨.live, rep a.length [dg 0]⟩] by rw [rep_dg]]
  simp [shortC, Tryz.f286, runPre, e1, e2, e3, execC, regP, goOps, operP, valP, wantedP, isCall, calleeP, stepP, evalP, putP, addW, FP.none, binP, binInt, binI, binBool, ofVal, lenP, indexAddrP, fieldAddrP, asNat_nat, asNat_0, asNat_1, asNat_succ, asNat_add, partOf, unP, nth_setN_eq, nth_setN_ne, setN_length, CC_T, CC_P, and_assoc, lenSl_nil, lenSl_imm, lenSl_own, lenSl_encD, cells_encD, cells_agg, cells_bool, cells_int, cells_own, cells_imm, cells_nil, okCell_encD, okCell_bool, okCell_int, okCell_own, okCell_imm, okCell_nil, okCells, okCell_dg, cells_dg, beqI, bneI, le2I, uD, s32, b32, z32, allocB, maxBytes, h1]
theorem short_r (L : Lst) (run : Runs) (k : Nat) (fr : List PV) (hp : List Blk) (wr : List Nat) (a : List Nat) (hl : a.length < 1000000) (h42 : fr.length = 42) (h0 : nth fr 0 = encD a) :
    ∃ fr', execC (CC L) run k shortR ⟨fr, hp, wr⟩ = some (.normal, ⟨fr', hp, wr⟩) ∧ fr'.length = 42 ∧ nth fr' 0 = encD a ∧ nth fr' 1 = nth fr 1 ∧ nth fr' 6 = nth fr 6 ∧ nth fr' 7 = nth fr 7 ∧ nth fr' 8 = .sc (.int .i64 ((a.length : Int) - 1)) := by
  have hw := wrap_pred a.length (by omega)
  simp [shortR, shortC, Tryz.f286, cspine, seq1, execC, regP, goOps, operP, valP, wantedP, isCall, calleeP, stepP, evalP, putP, addW, FP.none, binP, binInt, binI, binBool, ofVal, lenP, indexAddrP, fieldAddrP, asNat_nat, asNat_0, asNat_1, asNat_succ, asNat_add, partOf, unP, nth_setN_eq, nth_setN_ne, setN_length, CC_T, CC_P, and_assoc, lenSl_nil, lenSl_imm, lenSl_own, lenSl_encD, cells_encD, cells_agg, cells_bool, cells_int, cells_own, cells_imm, cells_nil, okCell_encD, okCell_bool, okCell_int, okCell_own, okCell_imm, okCell_nil, okCells, okCell_dg, cells_dg, beqI, bneI, le2I, uD, h42, h0, hw]
theorem short_post (L : Lst) (run : Runs) (k : Nat) (fr : List PV) (hp : List Blk) (wr : List Nat) (p : PV) (r : Nat) (hr : r < 1000000000) (h42 : fr.length = 42) (h6 : nth fr 6 = p) (h7 : nth fr 7 = .sc (.int .u64 (r : Int))) :
    ∃ st, execC (CC L) run k (cspine 3 shortC) ⟨fr, hp, wr⟩ = some (.ret, st) ∧ resP TT st.fr st.hp Tryz.f286.results.toList = some [p, dg r] ∧ st.hp = hp := by
  have hw5 : wrapK .u32 (r : Int) = (r : Int) := wrapI .u32 r (hi32 (by omega))
  simp [shortC, Tryz.f286, cspine, execC, regP, goOps, operP, valP, wantedP, isCall, calleeP, stepP, evalP, putP, addW, FP.none, binP, binInt, binI, binBool, ofVal, lenP, indexAddrP, fieldAddrP, asNat_nat, asNat_0, asNat_1, asNat_succ, asNat_add, partOf, unP, nth_setN_eq, nth_setN_ne, setN_length, CC_T, CC_P, and_assoc, lenSl_nil, lenSl_imm, lenSl_own, lenSl_encD, cells_encD, cells_agg, cells_bool, cells_int, cells_own, cells_imm, cells_nil, okCell_encD, okCell_bool, okCell_int, okCell_own, okCell_imm, okCell_nil, okCells, okCell_dg, cells_dg, beqI, bneI, le2I, u32, u64, convP, h42, h6, h7, hw5, resP, sc_dg r]
def dg? : PV → Option Nat
  | .sc (.int .u32 (.ofNat n)) => bif n.blt 1000000000 then some n else none
  | _ => none
theorem dg?_some {p : PV} {n : Nat} (h : dg? p = some n) : p = dg n ∧ n < 1000000000 := by
  unfold dg? at h
  split at h
  · rename_i m
    cases hb : m.blt 1000000000 with
    | false => rw [hb] at h; cases h
    | true =>
      rw [hb] at h
      simp at h; subst h
      exact ⟨rfl, by simpa [Nat.blt_eq] using hb⟩
  · cases h
theorem dg?_of {n : Nat} (h : n < 1000000000) : dg? (dg n) = some n := by
  have : n.blt 1000000000 = true := by rw [Nat.blt_eq]; exact h
  show (bif n.blt 1000000000 then some n else none) = some n
  rw [this]; rfl
def shortF : List PV → Option (List PV)
  | [p, q] => match decD? p, dg? q with
    | some a, some (b + 1) => some [encD (padD a.length (val a / (b + 1))), dg (val a % (b + 1))]
    | _, _ => none
  | _ => none
theorem short_spec : Ab.Spec base.P 286 shortF := Ab.Spec.of_run (C := CC []) (ccOk trivial) fun args rs h => by
  unfold shortF at h
  split at h
  · split at h
    · rename_i a b ea eb
      obtain ⟨rfl, ha, hla⟩ := decD?_some ea
      obtain ⟨rfl, hb⟩ := dg?_some eb
      simp only [Option.some.injEq] at h
      subst h
      obtain ⟨f1, wr1, p1, p2, p3, p4, p5, p6⟩ := short_pre [] (runK (CC []) (a.length + 1)) (a.length + 1) a (dg (b + 1)) hla
      obtain ⟨f2, q1, q2, q3, q4, q5, q6, q7⟩ := short_r [] (runK (CC []) (a.length + 1)) (a.length + 1) f1 (hp1 (List.replicate a.length 0)) wr1 a hla p2 p3
      obtain ⟨f3, wr3, out, r1, r2, r3, r4, r5, r6, r7⟩ := short_loop [] (runK (CC []) (a.length + 1)) (a.length + 1) a (b + 1) ha (by omega) hb hla a.length f2 wr1 (List.replicate a.length 0) 0 (Nat.le_refl _) (by simp) q2 q3 (by rw [q4, p4]) (by rw [q5, p5]) (by rw [q6, p6]) q7 (by simp [val]) (by simp [val]) (Dok.zeros _)
      obtain ⟨st, e1, e2, e3⟩ := short_post [] (runK (CC []) (a.length + 1)) (a.length + 1) f3 (hp1 out) wr3 _ (val a % (b + 1)) (Nat.lt_of_lt_of_le (Nat.mod_lt _ (by omega)) (by omega)) r2 r3 r4
      have hx : execC (CC []) (runK (CC []) (a.length + 1)) (a.length + 1) shortC ⟨entry 42 [encD a, dg (b + 1)], [], []⟩ = some (.ret, st) := by
        rw [exec_spine 2 p1, short_spine, exec_seq ((exec_seq q1).trans (exec_loop r1))]
        exact e1
      have hout : out = padD a.length (val a / (b + 1)) := r6.eq_pad r5 r7
      refine ⟨a.length + 2, _, _, _, [.imm a.length true (out.map dg), dg (val a % (b + 1))], [0], body_ret F_of_short rfl hx e2, ?_, ?_⟩
      · rw [e3, ← r5]
        have hs := snap_dgs (hp1 out) 10 out
        have : snap (hp1 out) 12 (.own 0 1 0 out.length true) = some (.imm out.length true (out.map dg), [0]) := by
          rw [snap]
          have h : nthB (hp1 out) 0 = some ⟨.live, out.map dg⟩ := rfl
          simp only [h]
          rw [if_neg (by simp), take_dg1]
          simp only [hs]
        simp only [snapDepth, mapIds, this]
        rfl
      · refine ⟨?_, Wk.refl rfl, trivial⟩
        rw [← hout]
        have := Wk.imm a.length true (out.map dg)
        rw [← r5] at this ⊢
        exact this
    · cases h
  · cases h
end Go.Proofs.YtciabmckldfofaaGreatDoor
namespace Go.Proofs.YtciabmckldfofaaGreatDoor
open Go Go.Ab
/-! word -/
noncomputable def wordC : Code := Tryz.f241.body.getD .skip
noncomputable def wordB : Code := ((Tryz.f241.body).bind loopOf).getD .skip
theorem word_end (L : Lst) (run : Runs) (k : Nat) (fr : List PV) (hp : List Blk) (wr : List Nat) (h21 : fr.length = 21) (h4 : nth fr 4 = .sc (.int .i64 (-1))) :
    ∃ fr', execC (CC L) run k wordB ⟨fr, hp, wr⟩ = some (.exit 0, ⟨fr', hp, wr⟩) ∧ fr'.length = 21 ∧ nth fr' 3 = nth fr 3 := by
  simp [wordB, Tryz.f241, loopOf, execC, regP, goOps, operP, valP, wantedP, isCall, calleeP, stepP, evalP, putP, addW, FP.none, binP, binInt, binI, binBool, ofVal, lenP, indexAddrP, fieldAddrP, asNat_nat, asNat_0, asNat_1, asNat_succ, asNat_add, partOf, unP, nth_setN_eq, nth_setN_ne, setN_length, CC_T, CC_P, and_assoc, lenSl_nil, lenSl_imm, lenSl_own, lenSl_encD, cells_encD, cells_agg, cells_bool, cells_int, cells_own, cells_imm, cells_nil, okCell_encD, okCell_bool, okCell_int, okCell_own, okCell_imm, okCell_nil, okCells, okCell_dg, cells_dg, beqI, bneI, le2I, h21, h4]
theorem word_round (L : Lst) (run : Runs) (k : Nat) (fr : List PV) (hp : List Blk) (wr : List Nat) (a : List Nat) (m N M : Nat) (ha : Dok a) (hm : m < a.length) (hl : a.length < 1000000) (hM : M = N * 1000000000 + at0 a m) (hM2 : M < 9223372036854775808)
    (h21 : fr.length = 21) (h0 : nth fr 0 = encD a) (h3 : nth fr 3 = .sc (.int .i64 (N : Int))) (h4 : nth fr 4 = .sc (.int .i64 (m : Int))) :
    ∃ fr', execC (CC L) run k wordB ⟨fr, hp, wr⟩ = some (.normal, ⟨fr', hp, wr⟩) ∧ fr'.length = 21 ∧ nth fr' 0 = encD a ∧ nth fr' 3 = .sc (.int .i64 (M : Int)) ∧ nth fr' 4 = .sc (.int .i64 ((m : Int) - 1)) := by
  have hda := head_dg a m hm
  have hax := ha.get hm
  rw [at0_lt hm] at hM
  generalize a[m] = x at *
  have e1 : encD a = .imm a.length false (a.map dg) := rfl
  have hdx : dg x = .sc (.int .u32 (x : Int)) := rfl
  rw [e1] at h0 ⊢; rw [hdx] at hda
  obtain ⟨s1, hs1⟩ : ∃ s1, s1 = N * 1000000000 := ⟨_, rfl⟩
  rw [← hs1] at hM
  have hw0 : wrapK .i64 (x : Int) = (x : Int) := wrapI .i64 x (hiI (by omega))
  have hw1 := wrapMU .i64 N s1 hs1 (hiI (by omega))
  have hw2 := wrapA .i64 s1 x M hM (hiI (by omega))
  have hwm := wrap_pred m (by omega)
  simp [wordB, Tryz.f241, loopOf, execC, regP, goOps, operP, valP, wantedP, isCall, calleeP, stepP, evalP, putP, addW, FP.none, binP, binInt, binI, binBool, ofVal, lenP, indexAddrP, fieldAddrP, asNat_nat, asNat_0, asNat_1, asNat_succ, asNat_add, partOf, unP, nth_setN_eq, nth_setN_ne, setN_length, CC_T, CC_P, and_assoc, lenSl_nil, lenSl_imm, lenSl_own, lenSl_encD, cells_encD, cells_agg, cells_bool, cells_int, cells_own, cells_imm, cells_nil, okCell_encD, okCell_bool, okCell_int, okCell_own, okCell_imm, okCell_nil, okCells, okCell_dg, cells_dg, beqI, bneI, le2I, h21, h0, h3, h4, uD, uI, u32, s32, a32, convP, hm, hda, atAddr, hw0, hw1, hw2, hwm]
theorem word_loop (L : Lst) (run : Runs) (k : Nat) (a : List Nat) (ha : Dok a) (hl : a.length ≤ 2) : ∀ (m : Nat) (fr : List PV) (hp : List Blk) (wr : List Nat), m ≤ a.length →
    fr.length = 21 → nth fr 0 = encD a → nth fr 3 = .sc (.int .i64 ((val (a.drop m) : Nat) : Int)) → nth fr 4 = .sc (.int .i64 ((m : Int) - 1)) →
    ∃ (fr' : List PV), iterL (execC (CC L) run k wordB) (m + 1) ⟨fr, hp, wr⟩ = some (.exit 0, ⟨fr', hp, wr⟩) ∧ fr'.length = 21 ∧ nth fr' 3 = .sc (.int .i64 ((val a : Nat) : Int))
  | 0, fr, hp, wr, hm, h21, h0, h3, h4 => by
    obtain ⟨fr', g1, g2, g3⟩ := word_end L run k fr hp wr h21 (by rw [h4]; rfl)
    exact ⟨fr', iter_stop g1, g2, by rw [g3, h3, List.drop_zero]⟩
  | m + 1, fr, hp, wr, hm, h21, h0, h3, h4 => by
    have h4' : nth fr 4 = .sc (.int .i64 (m : Int)) := by rw [h4]; simp
    have hb : val (a.drop m) < 9223372036854775808 := by
      have h1 := val_lt (ha.drop m)
      have h2 : (a.drop m).length ≤ 2 := by rw [List.length_drop]; omega
      have h3 := Nat.pow_le_pow_right (n := 1000000000) (by omega) h2
      have h4 : 1000000000 ^ 2 < 9223372036854775808 := by decide
      omega
    obtain ⟨fr1, g1, g2, g3, g4, g5⟩ := word_round L run k fr hp wr a m (val (a.drop (m + 1))) (val (a.drop m)) ha (by omega) (by omega) (by rw [val_drop_at0 a m (by omega)]; omega) hb h21 h0 h3 h4'
    obtain ⟨fr', q1, q2⟩ := word_loop L run k a ha hl m fr1 hp wr (by omega) g2 g3 g4 g5
    exact ⟨fr', by rw [iter_go g1]; exact q1, q2⟩
noncomputable def wordR : Code := seq1 (seq1 (cspine 2 wordC))
theorem word_spine : cspine 2 wordC = .seq (.seq wordR (.block 0 (.loop wordB))) (cspine 3 wordC) := rfl
theorem word_pre (L : Lst) (run : Runs) (k : Nat) (p : PV) :
    ∃ fr, runPre (CC L) run k 2 wordC ⟨entry 21 [p], [], []⟩ = some ⟨fr, [], []⟩ ∧ fr.length = 21 ∧ nth fr 0 = p ∧ nth fr 3 = .sc (.int .i64 (0 : Nat)) := by
  obtain ⟨e1, e2⟩ := entry1 20 p
  generalize entry 21 [p] = fr0 at *
  simp [wordC, Tryz.f241, runPre, e1, e2, execC, regP, goOps, operP, valP, wantedP, isCall, calleeP, stepP, evalP, putP, addW, FP.none, binP, binInt, binI, binBool, ofVal, lenP, indexAddrP, fieldAddrP, asNat_nat, asNat_0, asNat_1, asNat_succ, asNat_add, partOf, unP, nth_setN_eq, nth_setN_ne, setN_length, CC_T, CC_P, and_assoc, lenSl_nil, lenSl_imm, lenSl_own, lenSl_encD, cells_encD, cells_agg, cells_bool, cells_int, cells_own, cells_imm, cells_nil, okCell_encD, okCell_bool, okCell_int, okCell_own, okCell_imm, okCell_nil, okCells, okCell_dg, cells_dg, beqI, bneI, le2I]
theorem word_r (L : Lst) (run : Runs) (k : Nat) (fr : List PV) (a : List Nat) (hl : a.length < 1000000) (h21 : fr.length = 21) (h0 : nth fr 0 = encD a) :
    ∃ fr', execC (CC L) run k wordR ⟨fr, [], []⟩ = some (.normal, ⟨fr', [], []⟩) ∧ fr'.length = 21 ∧ nth fr' 0 = encD a ∧ nth fr' 3 = nth fr 3 ∧ nth fr' 4 = .sc (.int .i64 ((a.length : Int) - 1)) := by
  have hw := wrap_pred a.length (by omega)
  simp [wordR, wordC, Tryz.f241, cspine, seq1, execC, regP, goOps, operP, valP, wantedP, isCall, calleeP, stepP, evalP, putP, addW, FP.none, binP, binInt, binI, binBool, ofVal, lenP, indexAddrP, fieldAddrP, asNat_nat, asNat_0, asNat_1, asNat_succ, asNat_add, partOf, unP, nth_setN_eq, nth_setN_ne, setN_length, CC_T, CC_P, and_assoc, lenSl_nil, lenSl_imm, lenSl_own, lenSl_encD, cells_encD, cells_agg, cells_bool, cells_int, cells_own, cells_imm, cells_nil, okCell_encD, okCell_bool, okCell_int, okCell_own, okCell_imm, okCell_nil, okCells, okCell_dg, cells_dg, beqI, bneI, le2I, uD, h21, h0, hw]
theorem word_post (L : Lst) (run : Runs) (k : Nat) (fr : List PV) (p : PV) (h21 : fr.length = 21) (h3 : nth fr 3 = p) :
    ∃ st, execC (CC L) run k (cspine 3 wordC) ⟨fr, [], []⟩ = some (.ret, st) ∧ resP TT st.fr st.hp Tryz.f241.results.toList = some [p] := by
  simp [wordC, Tryz.f241, cspine, execC, regP, goOps, operP, valP, wantedP, isCall, calleeP, stepP, evalP, putP, addW, FP.none, binP, binInt, binI, binBool, ofVal, lenP, indexAddrP, fieldAddrP, asNat_nat, asNat_0, asNat_1, asNat_succ, asNat_add, partOf, unP, nth_setN_eq, nth_setN_ne, setN_length, CC_T, CC_P, and_assoc, lenSl_nil, lenSl_imm, lenSl_own, lenSl_encD, cells_encD, cells_agg, cells_bool, cells_int, cells_own, cells_imm, cells_nil, okCell_encD, okCell_bool, okCell_int, okCell_own, okCell_imm, okCell_nil, okCells, okCell_dg, cells_dg, beqI, bneI, le2I, h21, h3, resP]
def wordF : List PV → Option (List PV)
  | [p] => match decD? p with
    | some a => bif a.length.ble 2 then some [Ab.encI (Int.ofNat (val a))] else none
    | _ => none
  | _ => none
theorem word_spec : Ab.Spec base.P 241 wordF := Ab.Spec.of_run (C := CC []) (ccOk trivial) fun args rs h => by
  unfold wordF at h
  split at h
  · split at h
    · rename_i a ea
      obtain ⟨rfl, ha, hla⟩ := decD?_some ea
      cases hb : a.length.ble 2 with
      | false => rw [hb] at h; cases h
      | true =>
        rw [hb] at h
        simp only [cond_true, Option.some.injEq] at h
        subst h
        rw [Nat.ble_eq] at hb
        obtain ⟨f1, p1, p2, p3, p4⟩ := word_pre [] (runK (CC []) 3) 3 (encD a)
        obtain ⟨f2, q1, q2, q3, q4, q5⟩ := word_r [] (runK (CC []) 3) 3 f1 a hla p2 p3
        obtain ⟨f3, r1, r2, r3⟩ := word_loop [] (runK (CC []) 3) 3 a ha hb a.length f2 [] [] (Nat.le_refl _) q2 q3 (by rw [q4, p4]; simp [val]) q5
        obtain ⟨st, e1, e2⟩ := word_post [] (runK (CC []) 3) 3 f3 _ r2 r3
        have hx : execC (CC []) (runK (CC []) 3) 3 wordC ⟨entry 21 [encD a], [], []⟩ = some (.ret, st) := by
          rw [exec_spine 2 p1, word_spine, exec_seq ((exec_seq q1).trans (exec_loop (iter_mono r1 (by omega))))]
          exact e1
        exact ⟨4, _, _, _, _, _, body_ret F_of_word rfl hx e2, out_encI _ (val a), Wk.refl rfl, trivial⟩
    · cases h
  · cases h
/-! small -/
noncomputable def smallC : Code := Tryz.f240.body.getD .skip
noncomputable def smallB : Code := ((Tryz.f240.body).bind loopOf).getD .skip
theorem small_end (L : Lst) (run : Runs) (k : Nat) (fr : List PV) (h12 : fr.length = 12) (h1 : nth fr 1 = .sc (.int .i64 (0 : Nat))) :
    ∃ fr', execC (CC L) run k smallB ⟨fr, [], []⟩ = some (.exit 0, ⟨fr', [], []⟩) ∧ fr'.length = 12 ∧ nth fr' 0 = nth fr 0 := by
  simp [smallB, Tryz.f240, loopOf, execC, regP, goOps, operP, valP, wantedP, isCall, calleeP, stepP, evalP, putP, addW, FP.none, binP, binInt, binI, binBool, ofVal, lenP, indexAddrP, fieldAddrP, asNat_nat, asNat_0, asNat_1, asNat_succ, asNat_add, partOf, unP, nth_setN_eq, nth_setN_ne, setN_length, CC_T, CC_P, and_assoc, lenSl_nil, lenSl_imm, lenSl_own, lenSl_encD, cells_encD, cells_agg, cells_bool, cells_int, cells_own, cells_imm, cells_nil, okCell_encD, okCell_bool, okCell_int, okCell_own, okCell_imm, okCell_nil, okCells, okCell_dg, cells_dg, beqI, bneI, le2I, h12, h1]
theorem small_round (L : Lst) (run : Runs) (k : Nat) (fr : List PV) (x y r : Nat) (hy : 0 < y) (hr : r = x % y) (h12 : fr.length = 12) (h0 : nth fr 0 = .sc (.int .i64 (x : Int))) (h1 : nth fr 1 = .sc (.int .i64 (y : Int))) :
    ∃ fr', execC (CC L) run k smallB ⟨fr, [], []⟩ = some (.normal, ⟨fr', [], []⟩) ∧ fr'.length = 12 ∧ nth fr' 0 = .sc (.int .i64 (y : Int)) ∧ nth fr' 1 = .sc (.int .i64 (r : Int)) := by
  have hw := tmodN x y r hr
  have hy0 : ¬ (y = 0) := by omega
  simp [smallB, Tryz.f240, loopOf, execC, regP, goOps, operP, valP, wantedP, isCall, calleeP, stepP, evalP, putP, addW, FP.none, binP, binInt, binI, binBool, ofVal, lenP, indexAddrP, fieldAddrP, asNat_nat, asNat_0, asNat_1, asNat_succ, asNat_add, partOf, unP, nth_setN_eq, nth_setN_ne, setN_length, CC_T, CC_P, and_assoc, lenSl_nil, lenSl_imm, lenSl_own, lenSl_encD, cells_encD, cells_agg, cells_bool, cells_int, cells_own, cells_imm, cells_nil, okCell_encD, okCell_bool, okCell_int, okCell_own, okCell_imm, okCell_nil, okCells, okCell_dg, cells_dg, beqI, bneI, le2I, h12, h0, h1, hy, hy0, hw, number, FP.free]
theorem small_loop (L : Lst) (run : Runs) (k : Nat) : ∀ (n y x : Nat) (fr : List PV), y < n → fr.length = 12 → nth fr 0 = .sc (.int .i64 (x : Int)) → nth fr 1 = .sc (.int .i64 (y : Int)) →
    ∃ fr', iterL (execC (CC L) run k smallB) n ⟨fr, [], []⟩ = some (.exit 0, ⟨fr', [], []⟩) ∧ fr'.length = 12 ∧ nth fr' 0 = .sc (.int .i64 ((Nat.gcd x y : Nat) : Int))
  | 0, y, x, fr, hn, h12, h0, h1 => by omega
  | n + 1, y, x, fr, hn, h12, h0, h1 => by
    by_cases hy : y = 0
    · subst hy
      obtain ⟨fr', g1, g2, g3⟩ := small_end L run k fr h12 h1
      exact ⟨fr', iter_stop g1, g2, by rw [g3, h0, Nat.gcd_zero_right]⟩
    · obtain ⟨fr1, g1, g2, g3, g4⟩ := small_round L run k fr x y _ (by omega) rfl h12 h0 h1
      obtain ⟨fr', q1, q2, q3⟩ := small_loop L run k n (x % y) y fr1 (by have := Nat.mod_lt x (show 0 < y by omega); omega) g2 g3 g4
      refine ⟨fr', by rw [iter_go g1]; exact q1, q2, ?_⟩
      rw [q3, Nat.gcd_comm y (x % y), ← Nat.gcd_rec, Nat.gcd_comm]
theorem small_spine : cspine 1 smallC = .seq (.block 0 (.loop smallB)) (cspine 2 smallC) := rfl
theorem small_pre (L : Lst) (run : Runs) (k : Nat) (p q : PV) :
    ∃ fr, runPre (CC L) run k 1 smallC ⟨entry 12 [p, q], [], []⟩ = some ⟨fr, [], []⟩ ∧ fr.length = 12 ∧ nth fr 0 = p ∧ nth fr 1 = q := by
  obtain ⟨e1, e2, e3⟩ := entry2 10 p q
  generalize entry 12 [p, q] = fr0 at *
  simp [smallC, Tryz.f240, runPre, e1, e2, e3, execC, regP, goOps, operP, valP, wantedP, isCall, calleeP, stepP, evalP, putP, addW, FP.none, binP, binInt, binI, binBool, ofVal, lenP, indexAddrP, fieldAddrP, asNat_nat, asNat_0, asNat_1, asNat_succ, asNat_add, partOf, unP, nth_setN_eq, nth_setN_ne, setN_length, CC_T, CC_P, and_assoc, lenSl_nil, lenSl_imm, lenSl_own, lenSl_encD, cells_encD, cells_agg, cells_bool, cells_int, cells_own, cells_imm, cells_nil, okCell_encD, okCell_bool, okCell_int, okCell_own, okCell_imm, okCell_nil, okCells, okCell_dg, cells_dg, beqI, bneI, le2I]
theorem small_post (L : Lst) (run : Runs) (k : Nat) (fr : List PV) (p : PV) (h12 : fr.length = 12) (h0 : nth fr 0 = p) :
    ∃ st, execC (CC L) run k (cspine 2 smallC) ⟨fr, [], []⟩ = some (.ret, st) ∧ resP TT st.fr st.hp Tryz.f240.results.toList = some [p] := by
  simp [smallC, Tryz.f240, cspine, execC, regP, goOps, operP, valP, wantedP, isCall, calleeP, stepP, evalP, putP, addW, FP.none, binP, binInt, binI, binBool, ofVal, lenP, indexAddrP, fieldAddrP, asNat_nat, asNat_0, asNat_1, asNat_succ, asNat_add, partOf, unP, nth_setN_eq, nth_setN_ne, setN_length, CC_T, CC_P, and_assoc, lenSl_nil, lenSl_imm, lenSl_own, lenSl_encD, cells_encD, cells_agg, cells_bool, cells_int, cells_own, cells_imm, cells_nil, okCell_encD, okCell_bool, okCell_int, okCell_own, okCell_imm, okCell_nil, okCells, okCell_dg, cells_dg, beqI, bneI, le2I, h12, h0, resP]
def smallF : List PV → Option (List PV)
  | [.sc (.int .i64 (.ofNat x)), .sc (.int .i64 (.ofNat y))] => some [Ab.encI (Int.ofNat (Nat.gcd x y))]
  | _ => none
theorem small_spec : Ab.Spec base.P 240 smallF := Ab.Spec.of_run (C := CC []) (ccOk trivial) fun args rs h => by
  unfold smallF at h
  split at h
  · rename_i x y
    simp only [Option.some.injEq] at h
    subst h
    obtain ⟨f1, p1, p2, p3, p4⟩ := small_pre [] (runK (CC []) (y + 1)) (y + 1) (.sc (.int .i64 (x : Int))) (.sc (.int .i64 (y : Int)))
    obtain ⟨f2, q1, q2, q3⟩ := small_loop [] (runK (CC []) (y + 1)) (y + 1) (y + 1) y x f1 (by omega) p2 p3 p4
    obtain ⟨st, e1, e2⟩ := small_post [] (runK (CC []) (y + 1)) (y + 1) f2 _ q2 q3
    have hx : execC (CC []) (runK (CC []) (y + 1)) (y + 1) smallC ⟨entry 12 [.sc (.int .i64 (x : Int)), .sc (.int .i64 (y : Int))], [], []⟩ = some (.ret, st) := by
      rw [exec_spine 1 p1, small_spine, exec_seq (exec_loop q1)]
      exact e1
    exact ⟨y + 2, _, _, _, _, _, body_ret F_of_small rfl hx e2, out_encI _ (Nat.gcd x y), Wk.refl rfl, trivial⟩
  · cases h
end Go.Proofs.YtciabmckldfofaaGreatDoor
namespace Go.Proofs.YtciabmckldfofaaGreatDoor
open Go Go.Ab
/-! parts, as far as long is not wanted -/
def decN? (p : PV) : Option Nat := match decD? p with
  | some l => bif topB l then some (val l) else none
  | none => none
theorem decN?_some {p : PV} {n : Nat} (h : decN? p = some n) : p = encD (digs n) ∧ (digs n).length < 1000000 := by
  unfold decN? at h
  split at h
  · rename_i l e
    obtain ⟨h1, h2, h3⟩ := decD?_some e
    cases ht : topB l with
    | false => rw [ht] at h; cases h
    | true =>
      rw [ht] at h
      simp at h; subst h
      rw [digs_val h2 (topB_top ht)]
      exact ⟨h1, h3⟩
  · cases h
theorem decN?_of {n : Nat} (h : (digs n).length < 1000000) : decN? (encD (digs n)) = some n := by
  simp [decN?, decD?_enc (digs_ok n) h, top_topB (digs_top n), val_digs]
noncomputable def L3 : Lst := [(243, trimF), (224, sizeF), (286, shortF)]
theorem L3_ok : SpecL base.P L3 := ⟨trim_spec, size_spec, short_spec, trivial⟩
theorem o3_trim : orcOf L3 243 = fun a => trimF (canonL a) := rfl
theorem o3_size : orcOf L3 224 = fun a => sizeF (canonL a) := rfl
theorem o3_short : orcOf L3 286 = fun a => shortF (canonL a) := rfl
theorem call3_size (run : Runs) (dr : Bool) (hp : List Blk) (x y : Nat) (hx : (digs x).length < 1000000) (hy : (digs y).length < 1000000) :
    callP (CC L3) run dr hp 224 [encD (digs x), encD (digs y)] = some (Ab.encI (cmpN x y), hp, ⟨[], [], false, false⟩) :=
  call_of sh_size o3_size run dr hp _ [Ab.encI (cmpN x y)] (args_DD hp _ _) (canon_DD _ _) (by simp only [sizeF, decD?_enc (digs_ok _) hx, decD?_enc (digs_ok _) hy, sizeL_digs])
theorem call3_short (run : Runs) (dr : Bool) (hp : List Blk) (x b : Nat) (hx : (digs x).length < 1000000) (hb : 0 < b) (hb2 : b < 1000000000) :
    callP (CC L3) run dr hp 286 [encD (digs x), dg b] = some (.tup [encD (padD (digs x).length (x / b)), dg (x % b)], hp, ⟨[], [], false, false⟩) := by
  obtain ⟨b, rfl⟩ : ∃ c, b = c + 1 := ⟨b - 1, by omega⟩
  exact call_of sh_short o3_short run dr hp [encD (digs x), dg (b + 1)] [encD (padD (digs x).length (x / (b + 1))), dg (x % (b + 1))] rfl (by simp only [canonL, canon_encD]; rfl) (by simp only [shortF, decD?_enc (digs_ok _) hx, dg?_of hb2, val_digs])
theorem call3_trim (run : Runs) (dr : Bool) (hp : List Blk) (r : Nat) (hr : r < 1000000000) :
    callP (CC L3) run dr hp 243 [.imm 1 true [dg r]] = some (encD (digs r), hp, ⟨[], [], false, false⟩) := by
  have h3 : (CC L3).orc 243 [.imm 1 true [dg r]] = some [encD (digs r)] := by
    show trimF (canonL [.imm 1 true [dg r]]) = _
    have h1 : canonL [.imm 1 true [dg r]] = [encD [r]] := rfl
    have h2 : Dok [r] := Dok.nil.cons hr
    rw [h1]
    simp only [trimF, decD?_enc h2 (by simp), trimL_digs h2]
    simp [val]
  have h4 : mapIds (snap hp snapDepth) [.imm 1 true [dg r]] = some ([.imm 1 true [dg r]], []) := rfl
  exact callP_orc' sh_trim h4 h3 rfl
noncomputable def partsC : Code := Tryz.f242.body.getD .skip
theorem parts_exec1 (run : Runs) (k : Nat) (x y : Nat) (hx : (digs x).length < 1000000) (hy : (digs y).length < 1000000) (hxy : x < y) :
    ∃ st, execC (CC L3) run k partsC ⟨entry 35 [encD (digs x), encD (digs y)], [], []⟩ = some (.ret, st) ∧ resP TT st.fr st.hp Tryz.f242.results.toList = some [.sc (.slice none 0 0), encD (digs x)] := by
  have hc := fun hp dr => call3_size run dr hp x y hx hy
  rw [cmpN, if_pos hxy] at hc
  simp only [Ab.encI] at hc
  obtain ⟨e1, e2, e3⟩ := entry2 33 (encD (digs x)) (encD (digs y))
  generalize entry 35 [encD (digs x), encD (digs y)] = fr0 at *
  generalize digs x = a at *
  generalize digs y = b at *
  simp [partsC, Tryz.f242, execC, regP, goOps, operP, valP, wantedP, isCall, calleeP, stepP, evalP, putP, addW, FP.none, binP, binInt, binI, binBool, ofVal, lenP, indexAddrP, fieldAddrP, asNat_nat, asNat_0, asNat_1, asNat_succ, asNat_add, partOf, unP, nth_setN_eq, nth_setN_ne, setN_length, CC_T, CC_P, and_assoc, lenSl_nil, lenSl_imm, lenSl_own, lenSl_encD, cells_encD, cells_agg, cells_bool, cells_int, cells_own, cells_imm, cells_nil, okCell_encD, okCell_bool, okCell_int, okCell_own, okCell_imm, okCell_nil, okCells, okCell_dg, cells_dg, beqI, bneI, le2I, e1, e2, e3, hc, resP]
theorem digs_one {y : Nat} (h : 0 < y) (h2 : y < 1000000000) : digs y = [y] := by
  rw [digs_step (by omega), Nat.mod_eq_of_lt h2, Nat.div_eq_of_lt h2, digs_zero]
set_option maxHeartbeats 1000000 in
theorem parts_exec2 (run : Runs) (k : Nat) (x y : Nat) (hx : (digs x).length < 1000000) (hy0 : 0 < y) (hy : y < 1000000000) (hxy : y ≤ x) :
    ∃ st, execC (CC L3) run k partsC ⟨entry 35 [encD (digs x), encD (digs y)], [], []⟩ = some (.ret, st) ∧ resP TT st.fr st.hp Tryz.f242.results.toList = some [encD (padD (digs x).length (x / y)), encD (digs (x % y))] := by
  have hly : (digs y).length < 1000000 := by rw [digs_one hy0 hy]; simp
  have hc := fun hp dr => call3_size run dr hp x y hx hly
  have hcz : ¬ (cmpN x y < 0) := by
    unfold cmpN
    rw [if_neg (by omega)]
    by_cases h : x = y
    · rw [if_pos h]; omega
    · rw [if_neg h]; omega
  have hc2 := fun hp dr => call3_short run dr hp x y hx hy0 hy
  have hc3 := fun hp dr => call3_trim run dr hp (x % y) (Nat.lt_trans (Nat.mod_lt _ hy0) hy)
  rw [digs_one hy0 hy] at hc ⊢
  simp only [Ab.encI] at hc
  obtain ⟨e1, e2, e3⟩ := entry2 33 (encD (digs x)) (encD [y])
  generalize entry 35 [encD (digs x), encD [y]] = fr0 at *
  generalize digs (x % y) = rr at *
  generalize padD (digs x).length (x / y) = qq at *
  generalize digs x = a at *
  generalize cmpN x y = cc at *
  generalize x % y = r at *
  have e4 : encD [y] = .imm 1 false [dg y] := rfl
  rw [e4] at hc e3
  simp [partsC, Tryz.f242, execC, regP, goOps, operP, valP, wantedP, isCall, calleeP, stepP, evalP, putP, addW, FP.none, binP, binInt, binI, binBool, ofVal, lenP, indexAddrP, fieldAddrP, asNat_nat, asNat_0, asNat_1, asNat_succ, asNat_add, partOf, unP, nth_setN_eq, nth_setN_ne, setN_length, CC_T, CC_P, and_assoc, lenSl_nil, lenSl_imm, lenSl_own, lenSl_encD, cells_encD, cells_agg, cells_bool, cells_int, cells_own, cells_imm, cells_nil, okCell_encD, okCell_bool, okCell_int, okCell_own, okCell_imm, okCell_nil, okCells, okCell_dg, cells_dg, beqI, bneI, le2I, e1, e2, e3, hc, hc2, hc3, hcz, uD, s32, a32, z32, atAddr, dropN, hlitD, idf_dg, resP]
def partsF : List PV → Option (List PV)
  | [p, q] => match decN? p, decN? q with
    | some x, some y => bif x.blt y then some [encD [], encD (digs x)] else bif y.blt 1000000000 && !(y.beq 0) then some [encD (padD (digs x).length (x / y)), encD (digs (x % y))] else none
    | _, _ => none
  | _ => none
theorem parts_spec : Ab.Spec base.P 242 partsF := Ab.Spec.of_run (C := CC L3) (ccOk L3_ok) fun args rs h => by
  unfold partsF at h
  split at h
  · split at h
    · rename_i x y ex ey
      obtain ⟨rfl, hx⟩ := decN?_some ex
      obtain ⟨rfl, hy⟩ := decN?_some ey
      cases hb : x.blt y with
      | true =>
        rw [hb] at h
        simp only [cond_true, Option.some.injEq] at h
        subst h
        rw [Nat.blt_eq] at hb
        obtain ⟨st, e1, e2⟩ := parts_exec1 (runK (CC L3) 1) 1 x y hx hy hb
        exact ⟨2, _, _, _, [.sc (.slice none 0 0), encD (digs x)], [], body_ret F_of_parts rfl e1 e2, rfl, Wk.nil false, Wk.refl rfl, trivial⟩
      | false =>
        rw [hb] at h
        have hb' : ¬ (x < y) := fun h => by rw [← Nat.blt_eq, hb] at h; cases h
        cases hc : y.blt 1000000000 && !(y.beq 0) with
        | false => rw [hc] at h; cases h
        | true =>
          rw [hc] at h
          simp only [cond_true, cond_false, Option.some.injEq] at h
          subst h
          simp only [Bool.and_eq_true, Nat.blt_eq, Bool.not_eq_true'] at hc
          have hy0 : 0 < y := by
            cases y with
            | zero => simp at hc
            | succ y => omega
          obtain ⟨st, e1, e2⟩ := parts_exec2 (runK (CC L3) 1) 1 x y hx hy0 hc.1 (by omega)
          exact ⟨2, _, _, _, _, _, body_ret F_of_parts rfl e1 e2, rfl, Wk.refl rfl, Wk.refl rfl, trivial⟩
    · cases h
  · cases h
end Go.Proofs.YtciabmckldfofaaGreatDoor
namespace Go.Proofs.YtciabmckldfofaaGreatDoor
open Go Go.Ab
/-! Gcd -/
noncomputable def L4 : Lst := [(243, trimF), (242, partsF), (241, wordF), (240, smallF), (167, ofF)]
theorem L4_ok : SpecL base.P L4 := ⟨trim_spec, parts_spec, word_spec, small_spec, of_spec, trivial⟩
theorem o4_trim : orcOf L4 243 = fun a => trimF (canonL a) := rfl
theorem o4_parts : orcOf L4 242 = fun a => partsF (canonL a) := rfl
theorem o4_word : orcOf L4 241 = fun a => wordF (canonL a) := rfl
theorem o4_small : orcOf L4 240 = fun a => smallF (canonL a) := rfl
theorem o4_of : orcOf L4 167 = fun a => ofF (canonL a) := rfl
theorem trimL_digsN (n : Nat) : trimL (digs n) = digs n := by rw [trimL_digs (digs_ok n), val_digs]
theorem call4_trim (run : Runs) (dr : Bool) (hp : List Blk) (r : Nat) (hr : (digs r).length < 1000000) :
    callP (CC L4) run dr hp 243 [encD (digs r)] = some (encD (digs r), hp, ⟨[], [], false, false⟩) :=
  call_of sh_trim o4_trim run dr hp _ [encD (digs r)] rfl (by simp only [canonL, canon_encD]) (by simp only [trimF, decD?_enc (digs_ok _) hr, trimL_digsN])
theorem call4_parts (run : Runs) (dr : Bool) (hp : List Blk) (x y : Nat) (hx : (digs x).length < 1000000) (hy : (digs y).length < 1000000) (hy0 : y ≠ 0) (h : x < y ∨ y < 1000000000) :
    ∃ q, callP (CC L4) run dr hp 242 [encD (digs x), encD (digs y)] = some (.tup [q, encD (digs (x % y))], hp, ⟨[], [], false, false⟩) := by
  by_cases hxy : x < y
  · refine ⟨encD [], call_of sh_parts o4_parts run dr hp [encD (digs x), encD (digs y)] [encD [], encD (digs (x % y))] (args_DD hp _ _) (canon_DD _ _) ?_⟩
    have hb : x.blt y = true := by rw [Nat.blt_eq]; exact hxy
    simp only [partsF, decN?_of hx, decN?_of hy, hb, cond_true, Nat.mod_eq_of_lt hxy]
  · refine ⟨encD (padD (digs x).length (x / y)), call_of sh_parts o4_parts run dr hp [encD (digs x), encD (digs y)] [encD (padD (digs x).length (x / y)), encD (digs (x % y))] (args_DD hp _ _) (canon_DD _ _) ?_⟩
    have hb : x.blt y = false := by
      cases e : x.blt y with
      | false => rfl
      | true => rw [Nat.blt_eq] at e; exact absurd e hxy
    have hb2 : y.blt 1000000000 = true := by rw [Nat.blt_eq]; omega
    have hb3 : y.beq 0 = false := by
      cases y with
      | zero => exact absurd rfl hy0
      | succ y => rfl
    simp only [partsF, decN?_of hx, decN?_of hy, hb, hb2, hb3, cond_true, cond_false, Bool.not_false, Bool.and_self]
theorem call4_word (run : Runs) (dr : Bool) (hp : List Blk) (x : Nat) (hx : (digs x).length ≤ 2) :
    callP (CC L4) run dr hp 241 [encD (digs x)] = some (Ab.encI (Int.ofNat x), hp, ⟨[], [], false, false⟩) :=
  call_of sh_word o4_word run dr hp _ [Ab.encI (Int.ofNat x)] rfl (by simp only [canonL, canon_encD]) (by
    have : (digs x).length.ble 2 = true := by rw [Nat.ble_eq]; exact hx
    simp only [wordF, decD?_enc (digs_ok x) (show (digs x).length < 1000000 by omega), this, cond_true, val_digs])
theorem call4_small (run : Runs) (dr : Bool) (hp : List Blk) (x y : Nat) :
    callP (CC L4) run dr hp 240 [.sc (.int .i64 (x : Int)), .sc (.int .i64 (y : Int))] = some (.sc (.int .i64 ((Nat.gcd x y : Nat) : Int)), hp, ⟨[], [], false, false⟩) :=
  call_of sh_small o4_small run dr hp _ [Ab.encI (Int.ofNat (Nat.gcd x y))] rfl rfl rfl
theorem call4_of (run : Runs) (dr : Bool) (hp : List Blk) (x : Nat) (hx : x < 9223372036854775808) :
    callP (CC L4) run dr hp 167 [.sc (.int .i64 (x : Int))] = some (encW (Int.ofNat x), hp, ⟨[], [], false, false⟩) :=
  call_of sh_Of o4_of run dr hp _ [encW (Int.ofNat x)] rfl rfl (by
    have h1 : decide (-9223372036854775808 ≤ (x : Int)) = true := decide_eq_true (by omega)
    have h2 : decide ((x : Int) < 9223372036854775808) = true := decide_eq_true (by omega)
    simp only [ofF, h1, h2, Bool.and_self, cond_true]; rfl)
noncomputable def gcdC : Code := Tryz.f173.body.getD .skip
noncomputable def gcdB : Code := ((Tryz.f173.body).bind loopOf).getD .skip
abbrev zW2 : Blk := ⟨.live, [.sc (.bool false), .sc (.slice none 0 0)]⟩
theorem gcd_end (L : Lst) (run : Runs) (k : Nat) (fr : List PV) (hp : List Blk) (wr : List Nat) (h41 : fr.length = 41) (h6 : nth fr 6 = encD []) :
    ∃ fr', execC (CC L) run k gcdB ⟨fr, hp, wr⟩ = some (.exit 0, ⟨fr', hp, wr⟩) ∧ fr'.length = 41 ∧ nth fr' 4 = nth fr 4 ∧ nth fr' 5 = nth fr 5 := by
  simp [gcdB, Tryz.f173, loopOf, execC, regP, goOps, operP, valP, wantedP, isCall, calleeP, stepP, evalP, putP, addW, FP.none, binP, binInt, binI, binBool, ofVal, lenP, indexAddrP, fieldAddrP, asNat_nat, asNat_0, asNat_1, asNat_succ, asNat_add, partOf, unP, nth_setN_eq, nth_setN_ne, setN_length, CC_T, CC_P, and_assoc, lenSl_nil, lenSl_imm, lenSl_own, lenSl_encD, cells_encD, cells_agg, cells_bool, cells_int, cells_own, cells_imm, cells_nil, okCell_encD, okCell_bool, okCell_int, okCell_own, okCell_imm, okCell_nil, okCells, okCell_dg, cells_dg, beqI, bneI, le2I, h41, h6, uD]
set_option maxHeartbeats 1000000 in
theorem gcd_round (run : Runs) (k : Nat) (fr : List PV) (hp : List Blk) (wr : List Nat) (x y : Nat) (hx : (digs x).length < 1000000) (hy : (digs y).length < 1000000) (hy0 : y ≠ 0) (hxy : x < y ∨ y < 1000000000) (hns : ¬ ((digs x).length ≤ 2 ∧ (digs y).length ≤ 2))
    (h41 : fr.length = 41) (h5 : nth fr 5 = encD (digs x)) (h6 : nth fr 6 = encD (digs y)) :
    ∃ fr', execC (CC L4) run k gcdB ⟨fr, hp, wr⟩ = some (.normal, ⟨fr', hp, wr⟩) ∧ fr'.length = 41 ∧ nth fr' 4 = nth fr 4 ∧ nth fr' 5 = encD (digs y) ∧ nth fr' 6 = encD (digs (x % y)) := by
  obtain ⟨q, hc⟩ := call4_parts run false hp x y hx hy hy0 hxy
  have hr : (digs (x % y)).length < 1000000 := Nat.lt_of_le_of_lt (digs_len_mono (Nat.le_of_lt (Nat.mod_lt _ (by omega)))) hy
  have hc2 := fun dr => call4_trim run dr hp (x % y) hr
  have hp0 := (digs_length_pos (n := y)).2 hy0
  have hne : digs y ≠ [] := by intro e; rw [e] at hp0; simp at hp0
  generalize digs (x % y) = r at *
  generalize digs x = a at *
  generalize digs y = b at *
  by_cases h2 : a.length ≤ 2
  · have h3 : ¬ (b.length ≤ 2) := fun h => hns ⟨h2, h⟩
    simp [gcdB, Tryz.f173, loopOf, execC, regP, goOps, operP, valP, wantedP, isCall, calleeP, stepP, evalP, putP, addW, FP.none, binP, binInt, binI, binBool, ofVal, lenP, indexAddrP, fieldAddrP, asNat_nat, asNat_0, asNat_1, asNat_succ, asNat_add, partOf, unP, nth_setN_eq, nth_setN_ne, setN_length, CC_T, CC_P, and_assoc, lenSl_nil, lenSl_imm, lenSl_own, lenSl_encD, cells_encD, cells_agg, cells_bool, cells_int, cells_own, cells_imm, cells_nil, okCell_encD, okCell_bool, okCell_int, okCell_own, okCell_imm, okCell_nil, okCells, okCell_dg, cells_dg, beqI, bneI, le2I, h41, h5, h6, uD, hp0, hne, h2, h3, hc, hc2]
  · simp [gcdB, Tryz.f173, loopOf, execC, regP, goOps, operP, valP, wantedP, isCall, calleeP, stepP, evalP, putP, addW, FP.none, binP, binInt, binI, binBool, ofVal, lenP, indexAddrP, fieldAddrP, asNat_nat, asNat_0, asNat_1, asNat_succ, asNat_add, partOf, unP, nth_setN_eq, nth_setN_ne, setN_length, CC_T, CC_P, and_assoc, lenSl_nil, lenSl_imm, lenSl_own, lenSl_encD, cells_encD, cells_agg, cells_bool, cells_int, cells_own, cells_imm, cells_nil, okCell_encD, okCell_bool, okCell_int, okCell_own, okCell_imm, okCell_nil, okCells, okCell_dg, cells_dg, beqI, bneI, le2I, h41, h5, h6, uD, hp0, hne, h2, hc, hc2]
set_option maxHeartbeats 1000000 in
theorem gcd_ret (run : Runs) (k : Nat) (fr : List PV) (b0 b1 : Blk) (wr : List Nat) (x y : Nat) (hx : (digs x).length ≤ 2) (hy : (digs y).length ≤ 2) (hy0 : y ≠ 0) (h41 : fr.length = 41) (h4 : nth fr 4 = .ptr 2 0) (h5 : nth fr 5 = encD (digs x)) (h6 : nth fr 6 = encD (digs y)) :
    ∃ fr' wr', execC (CC L4) run k gcdB ⟨fr, [b0, b1, zW2], wr⟩ = some (.ret, ⟨fr', [b0, b1, ⟨.live, [.sc (.bool false), encD (digs (Nat.gcd x y))]⟩], wr'⟩) ∧ nth fr' 4 = .ptr 2 0 := by
  have hc1 := fun dr => call4_word run dr [b0, b1, zW2] x hx
  have hc2 := fun dr => call4_word run dr [b0, b1, zW2] y hy
  have hc3 := fun dr => call4_small run dr [b0, b1, zW2] x y
  have hg : Nat.gcd x y < 9223372036854775808 := by
    have h1 := lt_digs y
    have h2 := Nat.pow_le_pow_right (n := 1000000000) (by omega) hy
    have h3 := Nat.gcd_le_right x (show 0 < y by omega)
    have h4 : 1000000000 ^ 2 < 9223372036854775808 := by decide
    omega
  have hc4 := fun dr => call4_of run dr [b0, b1, zW2] (Nat.gcd x y) hg
  simp only [Ab.encI, Int.ofNat_eq_natCast] at hc1 hc2
  rw [show encW (Int.ofNat (Nat.gcd x y)) = .agg [.sc (.bool false), encD (digs (Nat.gcd x y))] from rfl] at hc4
  have hp0 := (digs_length_pos (n := y)).2 hy0
  have hne : digs y ≠ [] := by intro e; rw [e] at hp0; simp at hp0
  generalize digs (Nat.gcd x y) = g at *
  generalize Nat.gcd x y = gg at *
  generalize digs x = a at *
  generalize digs y = b at *
  simp [gcdB, Tryz.f173, loopOf, execC, regP, goOps, operP, valP, wantedP, isCall, calleeP, stepP, evalP, putP, addW, FP.none, binP, binInt, binI, binBool, ofVal, lenP, indexAddrP, fieldAddrP, asNat_nat, asNat_0, asNat_1, asNat_succ, asNat_add, partOf, unP, nth_setN_eq, nth_setN_ne, setN_length, CC_T, CC_P, and_assoc, lenSl_nil, lenSl_imm, lenSl_own, lenSl_encD, cells_encD, cells_agg, cells_bool, cells_int, cells_own, cells_imm, cells_nil, okCell_encD, okCell_bool, okCell_int, okCell_own, okCell_imm, okCell_nil, okCells, okCell_dg, cells_dg, beqI, bneI, le2I, h41, h4, h5, h6, uD, hp0, hne, hx, hy, hc1, hc2, hc3, hc4, nthB, setB, over?, sW]
theorem gcd_loop (run : Runs) (k : Nat) (b0 b1 : Blk) (P : Nat → Nat → Prop) (hP : ∀ x y, P x y → y ≠ 0 → ¬ ((digs x).length ≤ 2 ∧ (digs y).length ≤ 2) → (x < y ∨ y < 1000000000) ∧ P y (x % y)) :
    ∀ (n y x : Nat) (fr : List PV) (wr : List Nat), y < n → P x y → (digs x).length < 1000000 → (digs y).length < 1000000 → fr.length = 41 → nth fr 4 = .ptr 2 0 → nth fr 5 = encD (digs x) → nth fr 6 = encD (digs y) →
    (∃ fr' wr', iterL (execC (CC L4) run k gcdB) n ⟨fr, [b0, b1, zW2], wr⟩ = some (.exit 0, ⟨fr', [b0, b1, zW2], wr'⟩) ∧ fr'.length = 41 ∧ nth fr' 4 = .ptr 2 0 ∧ nth fr' 5 = encD (digs (Nat.gcd x y))) ∨
    (∃ fr' wr', iterL (execC (CC L4) run k gcdB) n ⟨fr, [b0, b1, zW2], wr⟩ = some (.ret, ⟨fr', [b0, b1, ⟨.live, [.sc (.bool false), encD (digs (Nat.gcd x y))]⟩], wr'⟩) ∧ nth fr' 4 = .ptr 2 0)
  | 0, y, x, fr, wr, hn, _, _, _, _, _, _, _ => by omega
  | n + 1, y, x, fr, wr, hn, hp, hx, hy, h41, h4, h5, h6 => by
    by_cases hy0 : y = 0
    · subst hy0
      obtain ⟨fr', g1, g2, g3, g4⟩ := gcd_end L4 run k fr [b0, b1, zW2] wr h41 h6
      exact .inl ⟨fr', wr, iter_stop g1, g2, by rw [g3, h4], by rw [g4, h5, Nat.gcd_zero_right]⟩
    · by_cases hs : (digs x).length ≤ 2 ∧ (digs y).length ≤ 2
      · obtain ⟨fr', wr', g1, g2⟩ := gcd_ret run k fr b0 b1 wr x y hs.1 hs.2 hy0 h41 h4 h5 h6
        exact .inr ⟨fr', wr', iter_ret g1, g2⟩
      · obtain ⟨h7, h8⟩ := hP x y hp hy0 hs
        obtain ⟨fr1, g1, g2, g3, g4, g5⟩ := gcd_round run k fr [b0, b1, zW2] wr x y hx hy hy0 h7 hs h41 h5 h6
        have hm := Nat.mod_lt x (show 0 < y by omega)
        have := gcd_loop run k b0 b1 P hP n (x % y) y fr1 wr (by omega) h8 hy (Nat.lt_of_le_of_lt (digs_len_mono (Nat.le_of_lt hm)) hy) g2 (by rw [g3, h4]) g4 g5
        rw [iter_go g1]
        rw [Nat.gcd_comm y (x % y), ← Nat.gcd_rec, Nat.gcd_comm y x] at this
        exact this
theorem gcd_spine : cspine 2 gcdC = .seq (.block 0 (.loop gcdB)) (cspine 3 gcdC) := rfl
theorem gcd_pre (L : Lst) (run : Runs) (k : Nat) (na nb : Bool) (a b : List Nat) :
    ∃ fr wr, runPre (CC L) run k 2 gcdC ⟨entry 41 [wh na a, wh nb b], [], []⟩ = some ⟨fr, [⟨.live, [.sc (.bool na), encD a]⟩, ⟨.live, [.sc (.bool nb), encD b]⟩, zW2], wr⟩ ∧ fr.length = 41 ∧ nth fr 4 = .ptr 2 0 ∧ nth fr 5 = encD a ∧ nth fr 6 = encD b := by
  obtain ⟨e1, e2, e3⟩ := entry2 39 (wh na a) (wh nb b)
  generalize entry 41 [wh na a, wh nb b] = fr0 at *
  have e4 : ∀ n l, wh n l = .agg [.sc (.bool n), encD l] := fun _ _ => rfl
  rw [e4] at e2 e3
  simp [gcdC, Tryz.f173, runPre, e1, e2, e3, execC, regP, goOps, operP, valP, wantedP, isCall, calleeP, stepP, evalP, putP, addW, FP.none, binP, binInt, binI, binBool, ofVal, lenP, indexAddrP, fieldAddrP, asNat_nat, asNat_0, asNat_1, asNat_succ, asNat_add, partOf, unP, nth_setN_eq, nth_setN_ne, setN_length, CC_T, CC_P, and_assoc, lenSl_nil, lenSl_imm, lenSl_own, lenSl_encD, cells_encD, cells_agg, cells_bool, cells_int, cells_own, cells_imm, cells_nil, okCell_encD, okCell_bool, okCell_int, okCell_own, okCell_imm, okCell_nil, okCells, okCell_dg, cells_dg, beqI, bneI, le2I, uD, uW, sD, zW, aD, wf0, wf1, allocB, atAddr, nthB, dropN, number, FP.free, pairsOk, FP.apart]
theorem gcd_post (L : Lst) (run : Runs) (k : Nat) (fr : List PV) (b0 b1 : Blk) (wr : List Nat) (a : List Nat) (h41 : fr.length = 41) (h4 : nth fr 4 = .ptr 2 0) (h5 : nth fr 5 = encD a) :
    ∃ st, execC (CC L) run k (cspine 3 gcdC) ⟨fr, [b0, b1, zW2], wr⟩ = some (.ret, st) ∧ resP TT st.fr st.hp Tryz.f173.results.toList = some [.agg [.sc (.bool false), encD a]] := by
  simp [gcdC, Tryz.f173, cspine, execC, regP, goOps, operP, valP, wantedP, isCall, calleeP, stepP, evalP, putP, addW, FP.none, binP, binInt, binI, binBool, ofVal, lenP, indexAddrP, fieldAddrP, asNat_nat, asNat_0, asNat_1, asNat_succ, asNat_add, partOf, unP, nth_setN_eq, nth_setN_ne, setN_length, CC_T, CC_P, and_assoc, lenSl_nil, lenSl_imm, lenSl_own, lenSl_encD, cells_encD, cells_agg, cells_bool, cells_int, cells_own, cells_imm, cells_nil, okCell_encD, okCell_bool, okCell_int, okCell_own, okCell_imm, okCell_nil, okCells, okCell_dg, cells_dg, beqI, bneI, le2I, h41, h4, h5, buildP, zW, uW, wf0, wf1, sB, sD, sW, aW, fillL, placeP, over?, resP, atAddr, nthB, setB, dropN, takeN?]
theorem gcd_res (fr : List PV) (b0 b1 : Blk) (a : List Nat) (h4 : nth fr 4 = .ptr 2 0) : resP TT fr [b0, b1, ⟨.live, [.sc (.bool false), encD a]⟩] Tryz.f173.results.toList = some [.agg [.sc (.bool false), encD a]] := by
  simp [Tryz.f173, resP, h4, atAddr, nthB, dropN, partOf, aW, sW, takeN?]
/-- no long division is wanted -/
def gcdP (x y : Nat) : Bool := x.blt 1000000000 || y.blt 1000000000 || (x.blt 1000000000000000000 && y.blt 1000000000000000000)
theorem digs_le2 {x : Nat} (h : x < 1000000000000000000) : (digs x).length ≤ 2 := digs_length_le (show x < 1000000000 ^ 2 from h)
theorem gcdP_step (x y : Nat) (h : gcdP x y = true) (hy : y ≠ 0) (hs : ¬ ((digs x).length ≤ 2 ∧ (digs y).length ≤ 2)) : (x < y ∨ y < 1000000000) ∧ gcdP y (x % y) = true := by
  have hm := Nat.mod_lt x (show 0 < y by omega)
  simp only [gcdP, Bool.or_eq_true, Bool.and_eq_true, Nat.blt_eq] at h ⊢
  rcases h with (h | h) | h
  · by_cases hxy : y < 1000000000
    · exact ⟨.inr hxy, .inl (.inl hxy)⟩
    · refine ⟨.inl (by omega), .inl (.inr ?_)⟩
      have := Nat.mod_le x y
      omega
  · exact ⟨.inr h, .inl (.inl h)⟩
  · exact absurd ⟨digs_le2 h.1, digs_le2 h.2⟩ hs
def gcdF : List PV → Option (List PV)
  | [p, q] => match decW? p, decW? q with
    | some x, some y => bif gcdP x.natAbs y.natAbs then some [encW (Int.ofNat (Nat.gcd x.natAbs y.natAbs))] else none
    | _, _ => none
  | _ => none
theorem gcd_spec : Ab.Spec base.P 173 gcdF := Ab.Spec.of_run (C := CC L4) (ccOk L4_ok) fun args rs h => by
  unfold gcdF at h
  split at h
  · split at h
    · rename_i x y ex ey
      obtain ⟨rfl, hx⟩ := decW?_sm ex
      obtain ⟨rfl, hy⟩ := decW?_sm ey
      cases hb : gcdP x.natAbs y.natAbs with
      | false => rw [hb] at h; cases h
      | true =>
        rw [hb] at h
        simp only [cond_true, Option.some.injEq] at h
        subst h
        obtain ⟨f1, wr1, p1, p2, p3, p4, p5⟩ := gcd_pre L4 (runK (CC L4) (y.natAbs + 1)) (y.natAbs + 1) (negB x) (negB y) (digs x.natAbs) (digs y.natAbs)
        rcases gcd_loop (runK (CC L4) (y.natAbs + 1)) (y.natAbs + 1) ⟨.live, [.sc (.bool (negB x)), encD (digs x.natAbs)]⟩ ⟨.live, [.sc (.bool (negB y)), encD (digs y.natAbs)]⟩ (fun x y => gcdP x y = true) gcdP_step (y.natAbs + 1) y.natAbs x.natAbs f1 wr1 (by omega) hb hx.lt hy.lt p2 p3 p4 p5 with ⟨f2, wr2, q1, q2, q3, q4⟩ | ⟨f2, wr2, q1, q2⟩
        · obtain ⟨st, e1, e2⟩ := gcd_post L4 (runK (CC L4) (y.natAbs + 1)) (y.natAbs + 1) f2 _ _ wr2 _ q2 q3 q4
          have hx : execC (CC L4) (runK (CC L4) (y.natAbs + 1)) (y.natAbs + 1) gcdC ⟨entry 41 [encW x, encW y], [], []⟩ = some (.ret, st) := by
            rw [encW, encW, exec_spine 2 p1, gcd_spine, exec_seq (exec_loop q1)]
            exact e1
          exact ⟨y.natAbs + 2, _, _, _, _, _, body_ret F_of_Gcd rfl hx e2, out_encW _ (Int.ofNat (Nat.gcd x.natAbs y.natAbs)), Wk.refl rfl, trivial⟩
        · have hx : execC (CC L4) (runK (CC L4) (y.natAbs + 1)) (y.natAbs + 1) gcdC ⟨entry 41 [encW x, encW y], [], []⟩ = some (.ret, ⟨f2, [⟨.live, [.sc (.bool (negB x)), encD (digs x.natAbs)]⟩, ⟨.live, [.sc (.bool (negB y)), encD (digs y.natAbs)]⟩, ⟨.live, [.sc (.bool false), encD (digs (Nat.gcd x.natAbs y.natAbs))]⟩], wr2⟩) := by
            rw [encW, encW, exec_spine 2 p1, gcd_spine, exec_seq_ret (exec_loop_ret q1)]
          exact ⟨y.natAbs + 2, _, _, _, _, _, body_ret F_of_Gcd rfl hx (gcd_res f2 _ _ _ q2), out_encW _ (Int.ofNat (Nat.gcd x.natAbs y.natAbs)), Wk.refl rfl, trivial⟩
    · cases h
  · cases h
end Go.Proofs.YtciabmckldfofaaGreatDoor
namespace Go.Proofs.YtciabmckldfofaaGreatDoor
open Go Go.Ab
/-! DivMod -/
noncomputable def L5 : Lst := [(242, partsF), (223, signedF), (172, signF), (167, ofF), (288, subF), (176, addF)]
theorem L5_ok : SpecL base.P L5 := ⟨parts_spec, signed_spec, sign_spec, of_spec, sub_spec, add_spec, trivial⟩
theorem o5_parts : orcOf L5 242 = fun a => partsF (canonL a) := rfl
theorem o5_signed : orcOf L5 223 = fun a => signedF (canonL a) := rfl
theorem o5_sign : orcOf L5 172 = fun a => signF (canonL a) := rfl
theorem o5_of : orcOf L5 167 = fun a => ofF (canonL a) := rfl
theorem o5_sub : orcOf L5 288 = fun a => subF (canonL a) := rfl
theorem o5_add : orcOf L5 176 = fun a => addF (canonL a) := rfl
theorem call5_parts (run : Runs) (dr : Bool) (x y : Nat) (hx : (digs x).length < 1000000) (hy : (digs y).length < 1000000) (hy0 : y ≠ 0) (h : x < y ∨ y < 1000000000) :
    ∃ q, (∀ hp, callP (CC L5) run dr hp 242 [encD (digs x), encD (digs y)] = some (.tup [encD q, encD (digs (x % y))], hp, ⟨[], [], false, false⟩)) ∧ Dok q ∧ val q = x / y ∧ q.length < 1000000 := by
  by_cases hxy : x < y
  · refine ⟨[], fun hp => call_of sh_parts o5_parts run dr hp [encD (digs x), encD (digs y)] [encD [], encD (digs (x % y))] (args_DD hp _ _) (canon_DD _ _) ?_, Dok.nil, (Nat.div_eq_of_lt hxy).symm, by simp⟩
    have hb : x.blt y = true := by rw [Nat.blt_eq]; exact hxy
    simp only [partsF, decN?_of hx, decN?_of hy, hb, cond_true, Nat.mod_eq_of_lt hxy]
  · refine ⟨padD (digs x).length (x / y), fun hp => call_of sh_parts o5_parts run dr hp [encD (digs x), encD (digs y)] [encD (padD (digs x).length (x / y)), encD (digs (x % y))] (args_DD hp _ _) (canon_DD _ _) ?_, padD_ok _ _, val_padD _ _ (Nat.lt_of_le_of_lt (Nat.div_le_self x y) (lt_digs x)), by rw [padD_length]; exact hx⟩
    have hb : x.blt y = false := by
      cases e : x.blt y with
      | false => rfl
      | true => rw [Nat.blt_eq] at e; exact absurd e hxy
    have hb2 : y.blt 1000000000 = true := by rw [Nat.blt_eq]; omega
    have hb3 : y.beq 0 = false := by
      cases y with
      | zero => exact absurd rfl hy0
      | succ y => rfl
    simp only [partsF, decN?_of hx, decN?_of hy, hb, hb2, hb3, cond_true, cond_false, Bool.not_false, Bool.and_self]
theorem call5_signed (run : Runs) (dr : Bool) (hp : List Blk) (n : Bool) (l : List Nat) (hd : Dok l) (hl : l.length < 1000000) :
    callP (CC L5) run dr hp 223 [.sc (.bool n), encD l] = some (encW (sgn n (val l)), hp, ⟨[], [], false, false⟩) :=
  call_of sh_signed o5_signed run dr hp _ [encW (sgn n (val l))] (args_BD hp n l) (canon_BD n l) (by simp only [signedF, decD?_enc hd hl])
theorem call5_sign (run : Runs) (dr : Bool) (hp : List Blk) (x : Int) (hx : Sm x) : callP (CC L5) run dr hp 172 [encW x] = some (Ab.encI x.sign, hp, ⟨[], [], false, false⟩) :=
  call_of sh_Sign o5_sign run dr hp _ [Ab.encI x.sign] (args_W hp x) (canon_W x) (by simp only [signF, decW?_of hx])
theorem call5_of (run : Runs) (dr : Bool) (hp : List Blk) : callP (CC L5) run dr hp 167 [.sc (.int .i64 1)] = some (encW 1, hp, ⟨[], [], false, false⟩) :=
  call_of sh_Of o5_of run dr hp _ [encW 1] rfl rfl rfl
theorem call5_sub (run : Runs) (dr : Bool) (hp : List Blk) (x y : Int) (hx : Sm x) (hy : Sm y) : callP (CC L5) run dr hp 288 [encW x, encW y] = some (encW (x - y), hp, ⟨[], [], false, false⟩) :=
  call_of sh_Sub o5_sub run dr hp _ [encW (x - y)] (args_WW hp x y) (canon_WW x y) (by simp only [subF, decW?_of hx, decW?_of hy])
theorem call5_add (run : Runs) (dr : Bool) (hp : List Blk) (x y : Int) (hx : Sm x) (hy : Sm y) : callP (CC L5) run dr hp 176 [encW x, encW y] = some (encW (x + y), hp, ⟨[], [], false, false⟩) :=
  call_of sh_Add o5_add run dr hp _ [encW (x + y)] (args_WW hp x y) (canon_WW x y) (by simp only [addF, decW?_of hx, decW?_of hy])
noncomputable def divC : Code := Tryz.f245.body.getD .skip
def divA (x y : Int) : Bool := !(x.natAbs % y.natAbs).beq 0 && (negB x != negB y)
def divQ (x y : Int) : Int := bif divA x y then sgn (negB x != negB y) (x.natAbs / y.natAbs) - 1 else sgn (negB x != negB y) (x.natAbs / y.natAbs)
def divR (x y : Int) : Int := bif divA x y then sgn (negB x) (x.natAbs % y.natAbs) + y else sgn (negB x) (x.natAbs % y.natAbs)
theorem Sm.of_le {x y : Int} (h : Sm y) (hl : x.natAbs ≤ y.natAbs) : Sm x := Nat.lt_of_le_of_lt (digs_len_mono hl) h
theorem sgn_natAbs (n : Bool) (v : Nat) : (sgn n v).natAbs = v := by
  rw [sgn_eq]; cases n <;> simp
set_option maxHeartbeats 4000000 in
theorem div_pre (run : Runs) (k : Nat) (nx ny nq nr : Bool) (a b qd rd qq rr : List Nat)
    (hc1 : ∀ hp, callP (CC L5) run false hp 242 [encD a, encD b] = some (.tup [encD qd, encD rd], hp, ⟨[], [], false, false⟩))
    (hc2 : ∀ dr hp, callP (CC L5) run dr hp 223 [.sc (.bool (nx != ny)), encD qd] = some (.agg [.sc (.bool nq), encD qq], hp, ⟨[], [], false, false⟩))
    (hc3 : ∀ dr hp, callP (CC L5) run dr hp 223 [.sc (.bool nx), encD rd] = some (.agg [.sc (.bool nr), encD rr], hp, ⟨[], [], false, false⟩)) :
    ∃ fr wr, runPre (CC L5) run k 3 divC ⟨entry 45 [wh nx a, wh ny b], [], []⟩ = some ⟨fr, [⟨.live, [.sc (.bool nx), encD a]⟩, ⟨.live, [.sc (.bool ny), encD b]⟩, ⟨.live, [.sc (.bool nq), encD qq]⟩, ⟨.live, [.sc (.bool nr), encD rr]⟩], wr⟩ ∧ fr.length = 45 ∧ nth fr 2 = .ptr 0 0 ∧ nth fr 3 = .ptr 1 0 ∧ nth fr 4 = .ptr 2 0 ∧ nth fr 5 = .ptr 3 0 := by
  obtain ⟨e1, e2, e3⟩ := entry2 43 (wh nx a) (wh ny b)
  generalize entry 45 [wh nx a, wh ny b] = fr0 at *
  have e4 : ∀ n l, wh n l = .agg [.sc (.bool n), encD l] := fun _ _ => rfl
  rw [e4] at e2 e3
  cases nx <;> cases ny <;> simp only [bne_self_eq_false, Bool.bne_true, Bool.bne_false, Bool.not_false, Bool.not_true] at hc2 <;>
  simp [divC, Tryz.f245, runPre, e1, e2, e3, execC, regP, goOps, operP, valP, wantedP, isCall, calleeP, stepP, evalP, putP, addW, FP.none, binP, binInt, binI, binBool, ofVal, lenP, indexAddrP, fieldAddrP, asNat_nat, asNat_0, asNat_1, asNat_succ, asNat_add, partOf, unP, nth_setN_eq, nth_setN_ne, setN_length, CC_T, CC_P, and_assoc, lenSl_nil, lenSl_imm, lenSl_own, lenSl_encD, cells_encD, cells_agg, cells_bool, cells_int, cells_own, cells_imm, cells_nil, okCell_encD, okCell_bool, okCell_int, okCell_own, okCell_imm, okCell_nil, okCells, okCell_dg, cells_dg, beqI, bneI, le2I, hc1, hc2, hc3, uB, uD, uW, sB, sD, sW, zW, aB, aD, aW, wf0, wf1, allocB, atAddr, nthB, setB, dropN, over?, takeN?, number, FP.free, pairsOk, FP.apart]
def regOps : Code → Array Oper
  | .region _ ops _ => ops
  | .cond _ a _ => regOps a
  | _ => #[]
noncomputable def divR3 : Code := seq1 (cspine 3 divC)
theorem div_spine : cspine 3 divC = .seq divR3 (cspine 4 divC) := rfl
set_option maxHeartbeats 4000000 in
theorem div_mid1 (run : Runs) (k : Nat) (fr : List PV) (wr : List Nat) (nx ny nq nr : Bool) (a b qq rr : List Nat) (s : Int) (hne : s = 0 ∨ nx = ny)
    (hc4 : ∀ dr hp, callP (CC L5) run dr hp 172 [.agg [.sc (.bool nr), encD rr]] = some (.sc (.int .i64 s), hp, ⟨[], [], false, false⟩))
    (h45 : fr.length = 45) (h2 : nth fr 2 = .ptr 0 0) (h3 : nth fr 3 = .ptr 1 0) (h4 : nth fr 4 = .ptr 2 0) (h5 : nth fr 5 = .ptr 3 0) :
    ∃ fr' wr', execC (CC L5) run k divR3 ⟨fr, [⟨.live, [.sc (.bool nx), encD a]⟩, ⟨.live, [.sc (.bool ny), encD b]⟩, ⟨.live, [.sc (.bool nq), encD qq]⟩, ⟨.live, [.sc (.bool nr), encD rr]⟩], wr⟩ = some (.normal, ⟨fr', [⟨.live, [.sc (.bool nx), encD a]⟩, ⟨.live, [.sc (.bool ny), encD b]⟩, ⟨.live, [.sc (.bool nq), encD qq]⟩, ⟨.live, [.sc (.bool nr), encD rr]⟩], wr'⟩) ∧ fr'.length = 45 ∧ nth fr' 4 = .ptr 2 0 ∧ nth fr' 5 = .ptr 3 0 := by
  by_cases hs : s = 0
  · subst hs
    simp [divR3, divC, Tryz.f245, seq1, cspine, h45, h2, h3, h4, h5, execC, regP, goOps, operP, valP, wantedP, isCall, calleeP, stepP, evalP, putP, addW, FP.none, binP, binInt, binI, binBool, ofVal, lenP, indexAddrP, fieldAddrP, asNat_nat, asNat_0, asNat_1, asNat_succ, asNat_add, partOf, unP, nth_setN_eq, nth_setN_ne, setN_length, CC_T, CC_P, and_assoc, lenSl_nil, lenSl_imm, lenSl_own, lenSl_encD, cells_encD, cells_agg, cells_bool, cells_int, cells_own, cells_imm, cells_nil, okCell_encD, okCell_bool, okCell_int, okCell_own, okCell_imm, okCell_nil, okCells, okCell_dg, cells_dg, beqI, bneI, le2I, hc4, uB, uD, uW, sB, sD, sW, aB, aD, aW, wf0, wf1, atAddr, nthB, dropN, takeN?]
  · have hn : nx = ny := by rcases hne with h | h; exact absurd h hs; exact h
    subst hn
    have hs2 : (s != 0) = true := by simpa using hs
    cases nx <;> simp [divR3, divC, Tryz.f245, seq1, cspine, h45, h2, h3, h4, h5, execC, regP, goOps, operP, valP, wantedP, isCall, calleeP, stepP, evalP, putP, addW, FP.none, binP, binInt, binI, binBool, ofVal, lenP, indexAddrP, fieldAddrP, asNat_nat, asNat_0, asNat_1, asNat_succ, asNat_add, partOf, unP, nth_setN_eq, nth_setN_ne, setN_length, CC_T, CC_P, and_assoc, lenSl_nil, lenSl_imm, lenSl_own, lenSl_encD, cells_encD, cells_agg, cells_bool, cells_int, cells_own, cells_imm, cells_nil, okCell_encD, okCell_bool, okCell_int, okCell_own, okCell_imm, okCell_nil, okCells, okCell_dg, cells_dg, beqI, bneI, le2I, hc4, hs2, uB, uD, uW, sB, sD, sW, aB, aD, aW, wf0, wf1, atAddr, nthB, dropN, takeN?]
theorem div_b1 : ((Region.before (regOps (seq2 divR3)))[6]?.getD 0).testBit 0 = true := by kernel_rfl
theorem div_b2 : ((Region.before (regOps (seq2 divR3)))[7]?.getD 0).testBit 3 = true := by kernel_rfl
theorem div_b3 : ((Region.before (regOps (seq1 (cspine 4 divC))))[2]?.getD 0).testBit 0 = true := by kernel_rfl
theorem div_b4 : ((Region.before (regOps (seq1 (cspine 4 divC))))[3]?.getD 0).testBit 1 = true := by kernel_rfl
set_option maxHeartbeats 4000000 in
theorem div_mid2 (run : Runs) (k : Nat) (fr : List PV) (wr : List Nat) (nx nq nr nq2 nr2 : Bool) (a b qq rr qq2 rr2 one : List Nat) (s : Int) (hs : s ≠ 0)
    (hc4 : ∀ dr hp, callP (CC L5) run dr hp 172 [.agg [.sc (.bool nr), encD rr]] = some (.sc (.int .i64 s), hp, ⟨[], [], false, false⟩))
    (hc5 : ∀ dr hp, callP (CC L5) run dr hp 167 [.sc (.int .i64 1)] = some (.agg [.sc (.bool false), encD one], hp, ⟨[], [], false, false⟩))
    (hc6 : ∀ dr hp, callP (CC L5) run dr hp 288 [.agg [.sc (.bool nq), encD qq], .agg [.sc (.bool false), encD one]] = some (.agg [.sc (.bool nq2), encD qq2], hp, ⟨[], [], false, false⟩))
    (hc7 : ∀ dr hp, callP (CC L5) run dr hp 176 [.agg [.sc (.bool nr), encD rr], .agg [.sc (.bool (!nx)), encD b]] = some (.agg [.sc (.bool nr2), encD rr2], hp, ⟨[], [], false, false⟩))
    (h45 : fr.length = 45) (h2 : nth fr 2 = .ptr 0 0) (h3 : nth fr 3 = .ptr 1 0) (h4 : nth fr 4 = .ptr 2 0) (h5 : nth fr 5 = .ptr 3 0) :
    ∃ fr' wr', execC (CC L5) run k divR3 ⟨fr, [⟨.live, [.sc (.bool nx), encD a]⟩, ⟨.live, [.sc (.bool (!nx)), encD b]⟩, ⟨.live, [.sc (.bool nq), encD qq]⟩, ⟨.live, [.sc (.bool nr), encD rr]⟩], wr⟩ = some (.normal, ⟨fr', [⟨.live, [.sc (.bool nx), encD a]⟩, ⟨.live, [.sc (.bool (!nx)), encD b]⟩, ⟨.live, [.sc (.bool nq2), encD qq2]⟩, ⟨.live, [.sc (.bool nr2), encD rr2]⟩], wr'⟩) ∧ fr'.length = 45 ∧ nth fr' 4 = .ptr 2 0 ∧ nth fr' 5 = .ptr 3 0 := by
  have hs2 : (s != 0) = true := by simpa using hs
  have hb1 := div_b1
  have hb2 := div_b2
  simp only [divR3, divC, Tryz.f245, seq1, seq2, cspine, regOps, Option.getD_some] at hb1 hb2
  cases nx <;> simp only [Bool.not_true, Bool.not_false] at hc7 ⊢ <;> simp [-Nat.testBit_zero, hb1, hb2, divR3, divC, Tryz.f245, seq1, cspine, h45, h2, h3, h4, h5, execC, regP, goOps, operP, valP, wantedP, isCall, calleeP, stepP, evalP, putP, addW, FP.none, binP, binInt, binI, binBool, ofVal, lenP, indexAddrP, fieldAddrP, asNat_nat, asNat_0, asNat_1, asNat_succ, asNat_add, partOf, unP, nth_setN_eq, nth_setN_ne, setN_length, CC_T, CC_P, and_assoc, lenSl_nil, lenSl_imm, lenSl_own, lenSl_encD, cells_encD, cells_agg, cells_bool, cells_int, cells_own, cells_imm, cells_nil, okCell_encD, okCell_bool, okCell_int, okCell_own, okCell_imm, okCell_nil, okCells, okCell_dg, cells_dg, beqI, bneI, le2I, hc4, hc5, hc6, hc7, hs2, uB, uD, uW, sB, sD, sW, aB, aD, aW, wf0, wf1, atAddr, nthB, setB, over?, dropN, takeN?, number, FP.free, pairsOk, FP.apart]
set_option maxHeartbeats 4000000 in
theorem div_post (L : Lst) (run : Runs) (k : Nat) (fr : List PV) (wr : List Nat) (b0 b1 : Blk) (nq nr : Bool) (qq rr : List Nat) (h45 : fr.length = 45) (h4 : nth fr 4 = .ptr 2 0) (h5 : nth fr 5 = .ptr 3 0) :
    ∃ st, execC (CC L) run k (cspine 4 divC) ⟨fr, [b0, b1, ⟨.live, [.sc (.bool nq), encD qq]⟩, ⟨.live, [.sc (.bool nr), encD rr]⟩], wr⟩ = some (.ret, st) ∧ resP TT st.fr st.hp Tryz.f245.results.toList = some [.agg [.sc (.bool nq), encD qq], .agg [.sc (.bool nr), encD rr]] := by
  have hb1 := div_b3
  have hb2 := div_b4
  simp only [divC, Tryz.f245, seq1, cspine, regOps, Option.getD_some] at hb1 hb2
  simp [-Nat.testBit_zero, hb1, hb2, divC, Tryz.f245, cspine, h45, h4, h5, execC, regP, goOps, operP, valP, wantedP, isCall, calleeP, stepP, evalP, putP, addW, FP.none, binP, binInt, binI, binBool, ofVal, lenP, indexAddrP, fieldAddrP, asNat_nat, asNat_0, asNat_1, asNat_succ, asNat_add, partOf, unP, nth_setN_eq, nth_setN_ne, setN_length, CC_T, CC_P, and_assoc, lenSl_nil, lenSl_imm, lenSl_own, lenSl_encD, cells_encD, cells_agg, cells_bool, cells_int, cells_own, cells_imm, cells_nil, okCell_encD, okCell_bool, okCell_int, okCell_own, okCell_imm, okCell_nil, okCells, okCell_dg, cells_dg, beqI, bneI, le2I, sW, aW, atAddr, nthB, setB, over?, dropN, takeN?, resP, number, FP.free, pairsOk, FP.apart]
theorem sgn_zero (n : Bool) : sgn n 0 = 0 := by cases n <;> rfl
theorem sign_sgn {n : Bool} {v : Nat} (h : v ≠ 0) : (sgn n v).sign ≠ 0 := by
  intro h'
  have h2 := Int.sign_eq_zero_iff_zero.1 h'
  rw [sgn_eq] at h2
  cases n <;> simp at h2 <;> omega
theorem div_exec (run : Runs) (k : Nat) (x y : Int) (hx : Sm x) (hy : Sm y) (hy0 : y.natAbs ≠ 0) (h : x.natAbs < y.natAbs ∨ y.natAbs < 1000000000) :
    ∃ st, execC (CC L5) run k divC ⟨entry 45 [encW x, encW y], [], []⟩ = some (.ret, st) ∧ resP TT st.fr st.hp Tryz.f245.results.toList = some [encW (divQ x y), encW (divR x y)] := by
  obtain ⟨q, hc1, hq1, hq2, hq3⟩ := call5_parts run false x.natAbs y.natAbs hx.lt hy.lt hy0 h
  have hm := Nat.mod_lt x.natAbs (show 0 < y.natAbs by omega)
  have hrl : (digs (x.natAbs % y.natAbs)).length < 1000000 := Nat.lt_of_le_of_lt (digs_len_mono (Nat.le_of_lt hm)) hy.lt
  have hc2 := fun dr hp => call5_signed run dr hp (negB x != negB y) q hq1 hq3
  have hc3 := fun dr hp => call5_signed run dr hp (negB x) (digs (x.natAbs % y.natAbs)) (digs_ok _) hrl
  rw [hq2] at hc2
  rw [val_digs] at hc3
  have hRS : Sm (sgn (negB x) (x.natAbs % y.natAbs)) := hy.of_le (by rw [sgn_natAbs]; omega)
  have hQS : Sm (sgn (negB x != negB y) (x.natAbs / y.natAbs)) := hx.of_le (by rw [sgn_natAbs]; exact Nat.div_le_self _ _)
  have hc4 := fun dr hp => call5_sign run dr hp _ hRS
  have hsg : x.natAbs % y.natAbs ≠ 0 → (sgn (negB x) (x.natAbs % y.natAbs)).sign ≠ 0 := fun h => sign_sgn h
  have hsg0 : x.natAbs % y.natAbs = 0 → (sgn (negB x) (x.natAbs % y.natAbs)).sign = 0 := fun h => by rw [h, sgn_zero]; rfl
  obtain ⟨Q, hQ⟩ : ∃ Q, Q = sgn (negB x != negB y) (x.natAbs / y.natAbs) := ⟨_, rfl⟩
  obtain ⟨R, hR⟩ : ∃ R, R = sgn (negB x) (x.natAbs % y.natAbs) := ⟨_, rfl⟩
  have hdq : divQ x y = bif divA x y then Q - 1 else Q := by rw [hQ]; rfl
  have hdr : divR x y = bif divA x y then R + y else R := by rw [hR]; rfl
  rw [hdq, hdr]
  rw [← hQ] at hc2 hQS
  rw [← hR] at hc3 hc4 hRS hsg hsg0
  simp only [whW, Ab.encI] at hc2 hc3 hc4
  obtain ⟨f1, wr1, p1, p2, p3, p4, p5, p6⟩ := div_pre run k (negB x) (negB y) (negB Q) (negB R) (digs x.natAbs) (digs y.natAbs) q (digs (x.natAbs % y.natAbs)) (digs Q.natAbs) (digs R.natAbs) hc1 hc2 hc3
  by_cases hd : x.natAbs % y.natAbs ≠ 0 ∧ negB x ≠ negB y
  · have hA : divA x y = true := by
      have h1 : (x.natAbs % y.natAbs).beq 0 = false := by
        cases e : x.natAbs % y.natAbs with
        | zero => exact absurd e hd.1
        | succ n => rfl
      have h2 : (negB x != negB y) = true := by simpa using hd.2
      simp [divA, h1, h2]
    have hn : negB y = !negB x := by
      revert hd; cases negB x <;> cases negB y <;> simp
    have hc5 := fun dr hp => call5_of run dr hp
    have hc6 := fun dr hp => call5_sub run dr hp Q 1 hQS (show Sm 1 by unfold Sm; decide)
    have hc7 := fun dr hp => call5_add run dr hp R y hRS hy
    rw [hA]
    simp only [cond_true]
    simp only [whW] at hc5 hc6 hc7
    rw [show negB (1 : Int) = false from rfl] at hc5 hc6
    rw [hn] at hc7 p1
    obtain ⟨f2, wr2, q1, q2, q3, q4⟩ := div_mid2 run k f1 wr1 (negB x) (negB Q) (negB R) (negB (Q - 1)) (negB (R + y)) (digs x.natAbs) (digs y.natAbs) (digs Q.natAbs) (digs R.natAbs) (digs (Q - 1).natAbs) (digs (R + y).natAbs) (digs (1 : Int).natAbs) R.sign (hsg hd.1) hc4 hc5 hc6 hc7 p2 p3 p4 p5 p6
    obtain ⟨st, e1, e2⟩ := div_post L5 run k f2 wr2 ⟨.live, [.sc (.bool (negB x)), encD (digs x.natAbs)]⟩ ⟨.live, [.sc (.bool (!negB x)), encD (digs y.natAbs)]⟩ (negB (Q - 1)) (negB (R + y)) (digs (Q - 1).natAbs) (digs (R + y).natAbs) q2 q3 q4
    refine ⟨st, ?_, e2⟩
    rw [encW, encW, hn, exec_spine 3 p1, div_spine, exec_seq q1]
    exact e1
  · have hA : divA x y = false := by
      by_cases h0 : x.natAbs % y.natAbs = 0
      · simp [divA, h0]
      · have h2 : negB x = negB y := by
          refine Classical.byContradiction fun h3 => hd ⟨h0, h3⟩
        simp [divA, h2]
    have hne : R.sign = 0 ∨ negB x = negB y := by
      by_cases h0 : x.natAbs % y.natAbs = 0
      · exact .inl (hsg0 h0)
      · exact .inr (Classical.byContradiction fun h3 => hd ⟨h0, h3⟩)
    rw [hA]
    simp only [cond_false]
    obtain ⟨f2, wr2, q1, q2, q3, q4⟩ := div_mid1 run k f1 wr1 (negB x) (negB y) (negB Q) (negB R) (digs x.natAbs) (digs y.natAbs) (digs Q.natAbs) (digs R.natAbs) R.sign hne hc4 p2 p3 p4 p5 p6
    obtain ⟨st, e1, e2⟩ := div_post L5 run k f2 wr2 ⟨.live, [.sc (.bool (negB x)), encD (digs x.natAbs)]⟩ ⟨.live, [.sc (.bool (negB y)), encD (digs y.natAbs)]⟩ (negB Q) (negB R) (digs Q.natAbs) (digs R.natAbs) q2 q3 q4
    refine ⟨st, ?_, e2⟩
    rw [encW, encW, exec_spine 3 p1, div_spine, exec_seq q1]
    exact e1
def divF : List PV → Option (List PV)
  | [p, q] => match decW? p, decW? q with
    | some x, some y => bif !(y.natAbs.beq 0) && (x.natAbs.blt y.natAbs || y.natAbs.blt 1000000000) then some [encW (divQ x y), encW (divR x y)] else none
    | _, _ => none
  | _ => none
theorem out_WW (hp : List Blk) (x y : Int) : mapIds (snap hp snapDepth) [encW x, encW y] = some ([encW x, encW y], []) := rfl
theorem div_spec : Ab.Spec base.P 245 divF := Ab.Spec.of_run (C := CC L5) (ccOk L5_ok) fun args rs h => by
  unfold divF at h
  split at h
  · split at h
    · rename_i x y ex ey
      obtain ⟨rfl, hx⟩ := decW?_sm ex
      obtain ⟨rfl, hy⟩ := decW?_sm ey
      cases hb : !(y.natAbs.beq 0) && (x.natAbs.blt y.natAbs || y.natAbs.blt 1000000000) with
      | false => rw [hb] at h; cases h
      | true =>
        rw [hb] at h
        simp only [cond_true, Option.some.injEq] at h
        subst h
        simp only [Bool.and_eq_true, Bool.or_eq_true, Nat.blt_eq, Bool.not_eq_true'] at hb
        have hy0 : y.natAbs ≠ 0 := by
          intro e; rw [e] at hb; simp at hb
        obtain ⟨st, e1, e2⟩ := div_exec (runK (CC L5) 1) 1 x y hx hy hy0 hb.2
        exact ⟨2, _, _, _, _, _, body_ret F_of_DivMod rfl e1 e2, out_WW _ _ _, Wk.refl rfl, Wk.refl rfl, trivial⟩
    · cases h
  · cases h
end Go.Proofs.YtciabmckldfofaaGreatDoor
