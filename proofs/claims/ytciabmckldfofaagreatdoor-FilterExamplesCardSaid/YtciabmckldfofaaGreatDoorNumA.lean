/- Contracts of num.Of, trim, signed, size, plus, minus, where lengths are below a million. -/
import Derived.Test.YtciabmckldfofaaGreatDoorCfg
import Derived.Test.YtciabmckldfofaaGreatDoorAbE
set_option linter.unusedSimpArgs false
set_option linter.unusedVariables false
namespace Go.Proofs.YtciabmckldfofaaGreatDoor
open Go Go.Ab
noncomputable def TT : Tab := base.T.get
noncomputable def CC (L : List (Nat × (List PV → Option (List PV)))) : Cfg := base.cfg (orcOf L)
theorem CC_T (L : List (Nat × (List PV → Option (List PV)))) : (CC L).T = TT := (rfl)
theorem CC_P (L : List (Nat × (List PV → Option (List PV)))) : (CC L).P = base.P := (rfl)
theorem CC_F (L : List (Nat × (List PV → Option (List PV)))) : (CC L).F = base.F.get := rfl
theorem ccOk {L : List (Nat × (List PV → Option (List PV)))} (h : SpecL base.P L) : CfgOk (CC L) := baseOk.cfg (orcOf_ok h)
theorem nth_setN_eq {fr : List PV} {d : Nat} {v : PV} (h : d < fr.length) : nth (setN fr d v) d = v := by
  rw [nth_eq, setN_eq]; simp [h]
theorem nth_setN_ne {fr : List PV} {d t : Nat} {v : PV} (h : t ≠ d) : nth (setN fr d v) t = nth fr t := nth_setN h
theorem setN_length (fr : List PV) (d : Nat) (v : PV) : (setN fr d v).length = fr.length := by
  rw [setN_eq]; simp

def wf0 : Field := { name := "neg", type := 4, offset := 0, embedded := false, tag := "", pkgPath := "torus/num", byteOffset := 0 }
def wf1 : Field := { name := "d", type := 131, offset := 1, embedded := false, tag := "", pkgPath := "torus/num", byteOffset := 8 }
theorem uW : und TT 133 = some (.struct #[wf0, wf1]) := by kernel_rfl
theorem uD : und TT 131 = some (.slice 230) := by kernel_rfl
theorem u32 : und TT 230 = some (.int .u32) := by kernel_rfl
theorem u64 : und TT 233 = some (.int .u64) := by kernel_rfl
theorem uI : und TT 3 = some (.int .i64) := by kernel_rfl
theorem uB : und TT 4 = some .bool := by kernel_rfl
theorem sB : sizeT TT 4 = some 1 := by kernel_rfl
theorem sD : sizeT TT 131 = some 1 := by kernel_rfl
theorem sW : sizeT TT 133 = some 2 := by kernel_rfl
theorem s32 : sizeT TT 230 = some 1 := by kernel_rfl
theorem b32 : bytesT TT 230 = some 4 := by kernel_rfl
theorem z32 : zeroT TT 230 = some [dg 0] := by kernel_rfl
theorem zW : zeroT TT 133 = some [.sc (.bool false), .sc (.slice none 0 0)] := by kernel_rfl
theorem aW : isAggT TT 133 = some true := by kernel_rfl
theorem aB : isAggT TT 4 = some false := by kernel_rfl
theorem aD : isAggT TT 131 = some false := by kernel_rfl
theorem a32 : isAggT TT 230 = some false := by kernel_rfl
theorem F_of_trim : base.F.get 243 = some Tryz.f243 := by kernel_rfl
theorem F_of_signed : base.F.get 223 = some Tryz.f223 := by kernel_rfl
theorem F_of_Of : base.F.get 167 = some Tryz.f167 := by kernel_rfl
theorem F_of_Sign : base.F.get 172 = some Tryz.f172 := by kernel_rfl
theorem F_of_Neg : base.F.get 244 = some Tryz.f244 := by kernel_rfl
theorem F_of_Cmp : base.F.get 154 = some Tryz.f154 := by kernel_rfl
theorem F_of_size : base.F.get 224 = some Tryz.f224 := by kernel_rfl
theorem F_of_plus : base.F.get 246 = some Tryz.f246 := by kernel_rfl
theorem F_of_minus : base.F.get 247 = some Tryz.f247 := by kernel_rfl
theorem F_of_Add : base.F.get 176 = some Tryz.f176 := by kernel_rfl
theorem F_of_Sub : base.F.get 288 = some Tryz.f288 := by kernel_rfl
theorem F_of_Mul : base.F.get 152 = some Tryz.f152 := by kernel_rfl
theorem F_of_short : base.F.get 286 = some Tryz.f286 := by kernel_rfl
theorem F_of_parts : base.F.get 242 = some Tryz.f242 := by kernel_rfl
theorem F_of_DivMod : base.F.get 245 = some Tryz.f245 := by kernel_rfl
theorem F_of_Gcd : base.F.get 173 = some Tryz.f173 := by kernel_rfl
theorem F_of_word : base.F.get 241 = some Tryz.f241 := by kernel_rfl
theorem F_of_small : base.F.get 240 = some Tryz.f240 := by kernel_rfl
theorem sh_trim : base.shared 243 = false := by kernel_rfl
theorem sh_signed : base.shared 223 = false := by kernel_rfl
theorem sh_Of : base.shared 167 = false := by kernel_rfl
theorem sh_Sign : base.shared 172 = false := by kernel_rfl
theorem sh_Neg : base.shared 244 = false := by kernel_rfl
theorem sh_Cmp : base.shared 154 = false := by kernel_rfl
theorem sh_size : base.shared 224 = false := by kernel_rfl
theorem sh_plus : base.shared 246 = false := by kernel_rfl
theorem sh_minus : base.shared 247 = false := by kernel_rfl
theorem sh_Add : base.shared 176 = false := by kernel_rfl
theorem sh_Sub : base.shared 288 = false := by kernel_rfl
theorem sh_Mul : base.shared 152 = false := by kernel_rfl
theorem sh_short : base.shared 286 = false := by kernel_rfl
theorem sh_parts : base.shared 242 = false := by kernel_rfl
theorem sh_DivMod : base.shared 245 = false := by kernel_rfl
theorem sh_Gcd : base.shared 173 = false := by kernel_rfl
theorem sh_word : base.shared 241 = false := by kernel_rfl
theorem sh_small : base.shared 240 = false := by kernel_rfl
end Go.Proofs.YtciabmckldfofaaGreatDoor
namespace Go.Proofs.YtciabmckldfofaaGreatDoor
open Go Go.Ab
noncomputable def ofB : Code := ((Tryz.f167.body).bind loopOf).getD .skip
set_option maxHeartbeats 1000000 in
theorem of_round (L : List (Nat × (List PV → Option (List PV)))) (run : Runs) (k : Nat) (fr : List PV) (hp : List Blk) (wr : List Nat) (u : Nat) (l : List Nat)
    (hu : u ≠ 0) (hu2 : u < 18446744073709551616) (h20 : fr.length = 26) (h3 : nth fr 3 = .sc (.int .u64 (Int.ofNat u))) (hO : OwnD 1 hp l (nth fr 5)) (hl : l.length < 1000) :
    ∃ fr' hp' wr', execC (CC L) run k ofB ⟨fr, hp, wr⟩ = some (.normal, ⟨fr', hp', wr'⟩) ∧ fr'.length = 26 ∧ nth fr' 3 = .sc (.int .u64 (Int.ofNat (u / 1000000000)))
      ∧ OwnD 1 hp' (l ++ [u % 1000000000]) (nth fr' 5) ∧ nth fr' 2 = nth fr 2 ∧ nth fr' 4 = nth fr 4 ∧ nthB hp' 0 = nthB hp 0 := by
  have hq : wrapK .u64 ((u : Int) / 1000000000) = Int.ofNat (u / 1000000000) := wrap_nat .u64 (u / 1000000000) (by simp [hiN]; omega)
  have hc : wrapK .u32 ((u : Int).tmod 1000000000) = Int.ofNat (u % 1000000000) := wrap_nat .u32 (u % 1000000000) (by simp [hiN]; omega)
  generalize u / 1000000000 = q at *
  generalize u % 1000000000 = r at *
  obtain ⟨p', hp', fp, ha, hO', hk⟩ := hO.app r (by omega)
  have hu0 : 0 < u := by omega
  have hdg : PV.sc (.int .u32 (r : Int)) = dg r := rfl
  have hlit : litP TT 131 1 [(0, dg r)] = some (1, [dg r]) := by
    simp [litP, uD, s32, z32, rep, fillL, cells_dg, over?]
  have hrd : rdSl hp 1 (.imm 1 true [dg r]) = some (1, [dg r], []) := by simp [rdSl]
  have hif : idfreeL [dg r] = true := rfl
  have hk0 := hk 0 (by omega)
  simp [ofB, Tryz.f167, loopOf, execC, regP, goOps, operP, valP, wantedP, isCall, calleeP, stepP, evalP, putP, addW, FP.none, binP, binInt, binI, binBool, ofVal, lenP, indexAddrP, fieldAddrP, asNat_nat, asNat_0, asNat_1, asNat_succ, asNat_add, partOf, unP, nth_setN_eq, nth_setN_ne, setN_length, CC_T, CC_P, and_assoc, lenSl_nil, lenSl_imm, lenSl_own, lenSl_encD, cells_encD, cells_agg, cells_bool, cells_int, cells_own, cells_imm, cells_nil, okCell_encD, okCell_bool, okCell_int, okCell_own, okCell_imm, okCell_nil, okCells, okCell_dg, cells_dg, beqI, bneI, le2I, h20, h3, convP, u32, u64, uD, s32, b32, z32, hq, hc, hu0, hdg, hlit, hrd, hif, maxBytes, okCells_dg1, ha, hO', hk0]
theorem of_stop (L : List (Nat × (List PV → Option (List PV)))) (run : Runs) (k : Nat) (fr : List PV) (hp : List Blk) (wr : List Nat)
    (h20 : fr.length = 26) (h3 : nth fr 3 = .sc (.int .u64 (Int.ofNat 0))) :
    ∃ fr', execC (CC L) run k ofB ⟨fr, hp, wr⟩ = some (.exit 0, ⟨fr', hp, wr⟩) ∧ nth fr' 5 = nth fr 5 ∧ nth fr' 2 = nth fr 2 ∧ nth fr' 4 = nth fr 4 ∧ fr'.length = 26 := by
  simp [ofB, Tryz.f167, loopOf, execC, regP, goOps, operP, valP, wantedP, isCall, calleeP, stepP, evalP, putP, addW, FP.none, binP, binInt, binI, binBool, ofVal, lenP, indexAddrP, fieldAddrP, asNat_nat, asNat_0, asNat_1, asNat_succ, asNat_add, partOf, unP, nth_setN_eq, nth_setN_ne, setN_length, CC_T, CC_P, and_assoc, lenSl_nil, lenSl_imm, lenSl_own, lenSl_encD, cells_encD, cells_agg, cells_bool, cells_int, cells_own, cells_imm, cells_nil, okCell_encD, okCell_bool, okCell_int, okCell_own, okCell_imm, okCell_nil, okCells, okCell_dg, cells_dg, beqI, bneI, le2I, h20, h3]
theorem of_loop (L : List (Nat × (List PV → Option (List PV)))) (run : Runs) (k : Nat) : ∀ (j u : Nat) (l : List Nat) (fr : List PV) (hp : List Blk) (wr : List Nat),
    u < 1000000000 ^ j → l.length + j < 1000 → u < 18446744073709551616 → fr.length = 26 → nth fr 3 = .sc (.int .u64 (Int.ofNat u)) → OwnD 1 hp l (nth fr 5) →
    ∃ fr' hp' wr', iterL (execC (CC L) run k ofB) (j + 1) ⟨fr, hp, wr⟩ = some (.exit 0, ⟨fr', hp', wr'⟩) ∧ fr'.length = 26
      ∧ OwnD 1 hp' (l ++ digs u) (nth fr' 5) ∧ nth fr' 2 = nth fr 2 ∧ nth fr' 4 = nth fr 4 ∧ nthB hp' 0 = nthB hp 0
  | j, u, l, fr, hp, wr, hu, hl, hu2, h20, h3, hO => by
    by_cases h0 : u = 0
    · subst h0
      obtain ⟨fr', h1, h2, h4, h5, h6⟩ := of_stop L run k fr hp wr h20 h3
      refine ⟨fr', hp, wr, iter_stop h1, h6, ?_, h4, h5, rfl⟩
      rw [h2, digs_zero, List.append_nil]; exact hO
    · cases j with
      | zero => simp at hu; omega
      | succ j =>
        obtain ⟨fr1, hp1, wr1, h1, h2, h4, h5, h6, h7, h8⟩ := of_round L run k fr hp wr u l h0 hu2 h20 h3 hO (by omega)
        obtain ⟨fr', hp', wr', g1, g2, g3, g4, g5, g6⟩ := of_loop L run k j (u / 1000000000) (l ++ [u % 1000000000]) fr1 hp1 wr1 (by rw [Nat.pow_succ] at hu; omega) (by simp; omega) (by omega) h2 h4 h5
        refine ⟨fr', hp', wr', by rw [iter_go h1]; exact g1, g2, ?_, by rw [g4, h6], by rw [g5, h7], by rw [g6, h8]⟩
        rw [digs_step h0]
        simpa using g3
noncomputable def ofC : Code := Tryz.f167.body.getD .skip
theorem of_spine : cspine 4 ofC = .seq (.block 0 (.loop ofB)) (cspine 5 ofC) := rfl
theorem of_pre (L : List (Nat × (List PV → Option (List PV)))) (run : Runs) (k : Nat) (z : Int) (h1 : -9223372036854775808 ≤ z) (h2 : z < 9223372036854775808) :
    ∃ fr hp wr, runPre (CC L) run k 4 ofC ⟨entry 26 [Ab.encI z], [], []⟩ = some ⟨fr, hp, wr⟩ ∧ fr.length = 26 ∧ nth fr 3 = .sc (.int .u64 (Int.ofNat z.natAbs)) ∧ nth fr 5 = .sc (.slice none 0 0)
      ∧ nth fr 2 = .ptr 0 0 ∧ nth fr 4 = .sc (.bool (negB z)) ∧ hp = [⟨.live, [.sc (.bool false), .sc (.slice none 0 0)]⟩] := by
  cases z with
  | ofNat n =>
    have hw : wrapK .u64 (n : Int) = Int.ofNat n := wrap_nat .u64 n (by simp [hiN]; simp at h2; omega)
    have hlt : ((n : Int) < 0) = False := by simp
    simp [ofC, Tryz.f167, runPre, entry, nth, setN, Ab.encI, execC, regP, goOps, operP, valP, wantedP, isCall, calleeP, stepP, evalP, putP, addW, FP.none, binP, binInt, binI, binBool, ofVal, lenP, indexAddrP, fieldAddrP, asNat_nat, asNat_0, asNat_1, asNat_succ, asNat_add, partOf, unP, nth_setN_eq, nth_setN_ne, setN_length, CC_T, CC_P, and_assoc, lenSl_nil, lenSl_imm, lenSl_own, lenSl_encD, cells_encD, cells_agg, cells_bool, cells_int, cells_own, cells_imm, cells_nil, okCell_encD, okCell_bool, okCell_int, okCell_own, okCell_imm, okCell_nil, okCells, okCell_dg, cells_dg, beqI, bneI, le2I, convP, uI, u64, zW, allocB, hw, negB, hlt]
  | negSucc n =>
    have hw : wrapK .u64 (Int.negSucc n) = Int.ofNat (18446744073709551616 - (n + 1)) := by
      have := wrap_neg64 (n := n + 1) (by omega) (by omega)
      rw [← this]; rfl
    have hlt : (Int.negSucc n < 0) = True := by simp
    have hw2 : wrapK .u64 (-((18446744073709551616 - (n + 1) : Nat) : Int)) = (n : Int) + 1 := by
      rw [wrap_neg64 (by omega) (by omega)]
      simp; omega
    simp only [Int.ofNat_eq_natCast] at hw
    generalize 18446744073709551616 - (n + 1) = m at *
    simp [ofC, Tryz.f167, runPre, entry, nth, setN, Ab.encI, execC, regP, goOps, operP, valP, wantedP, isCall, calleeP, stepP, evalP, putP, addW, FP.none, binP, binInt, binI, binBool, ofVal, lenP, indexAddrP, fieldAddrP, asNat_nat, asNat_0, asNat_1, asNat_succ, asNat_add, partOf, unP, nth_setN_eq, nth_setN_ne, setN_length, CC_T, CC_P, and_assoc, lenSl_nil, lenSl_imm, lenSl_own, lenSl_encD, cells_encD, cells_agg, cells_bool, cells_int, cells_own, cells_imm, cells_nil, okCell_encD, okCell_bool, okCell_int, okCell_own, okCell_imm, okCell_nil, okCells, okCell_dg, cells_dg, beqI, bneI, le2I, convP, uI, u64, zW, allocB, hw, hw2, negB, hlt]
theorem of_post (L : List (Nat × (List PV → Option (List PV)))) (run : Runs) (k : Nat) (fr : List PV) (hp : List Blk) (wr : List Nat) (n : Bool) (l : List Nat) (p : PV)
    (h20 : fr.length = 26) (h2 : nth fr 2 = .ptr 0 0) (h4 : nth fr 4 = .sc (.bool n)) (h5 : nth fr 5 = p) (hO : OwnD 1 hp l p) (hb : nthB hp 0 = some ⟨.live, [.sc (.bool false), .sc (.slice none 0 0)]⟩) :
    ∃ st, execC (CC L) run k (cspine 5 ofC) ⟨fr, hp, wr⟩ = some (.ret, st) ∧ resP TT st.fr st.hp Tryz.f167.results.toList = some [.agg [.sc (.bool n), p]] ∧ st.hp = setB hp 0 ⟨.live, [.sc (.bool n), p]⟩ := by
  have hc := hO.cells
  have hk := hO.okc
  have hokb : ∀ b, okCell (PV.sc (.bool b)) = true := fun _ => rfl
  have hcb : ∀ b, (PV.sc (.bool b)).cells? = some [.sc (.bool b)] := fun _ => rfl
  have hca : ∀ cs, (PV.agg cs).cells? = some cs := fun _ => rfl
  have hn : nthB (setB hp 0 ⟨.live, [.sc (.bool n), p]⟩) 0 = some ⟨.live, [.sc (.bool n), p]⟩ := by rw [nthB_setB hb, if_pos rfl]
  simp [ofC, cspine, Tryz.f167, execC, regP, goOps, operP, valP, wantedP, isCall, calleeP, stepP, evalP, putP, addW, FP.none, binP, binInt, binI, binBool, ofVal, lenP, indexAddrP, fieldAddrP, asNat_nat, asNat_0, asNat_1, asNat_succ, asNat_add, partOf, unP, nth_setN_eq, nth_setN_ne, setN_length, CC_T, CC_P, and_assoc, lenSl_nil, lenSl_imm, lenSl_own, lenSl_encD, cells_encD, cells_agg, cells_bool, cells_int, cells_own, cells_imm, cells_nil, okCell_encD, okCell_bool, okCell_int, okCell_own, okCell_imm, okCell_nil, okCells, okCell_dg, cells_dg, beqI, bneI, le2I, h20, h2, h4, h5, buildP, zW, uW, wf0, wf1, sB, sD, sW, aW, fillL, placeP, hc, hk, over?, hb, resP, atAddr, hn, dropN, takeN?]
def ofF : List PV → Option (List PV)
  | [.sc (.int .i64 z)] => bif decide (-9223372036854775808 ≤ z) && decide (z < 9223372036854775808) then some [encW z] else none
  | _ => none
theorem of_spec : Ab.Spec base.P 167 ofF := Ab.Spec.of_run (C := CC []) (ccOk trivial) fun args rs h => by
  unfold ofF at h
  split at h
  · rename_i z
    cases hd : decide (-9223372036854775808 ≤ z) && decide (z < 9223372036854775808) with
    | false => rw [hd] at h; cases h
    | true =>
      rw [hd] at h
      simp only [cond_true, Option.some.injEq] at h
      subst h
      simp only [Bool.and_eq_true, decide_eq_true_eq] at hd
      obtain ⟨fr1, hp1, wr1, h1, h20, h3, h5, h2, h4, hhp⟩ := of_pre [] (runK (CC []) 4) 4 z hd.1 hd.2
      obtain ⟨fr2, hp2, wr2, g1, g2, g3, g4, g5, g6⟩ := of_loop [] (runK (CC []) 4) 4 3 z.natAbs [] fr1 hp1 wr1 (by omega) (by simp) (by omega) h20 h3 (by rw [h5]; exact OwnD.nil (by rw [hhp]; simp))
      obtain ⟨st, e1, e2, e3⟩ := of_post [] (runK (CC []) 4) 4 fr2 hp2 wr2 (negB z) _ _ g2 (by rw [g4, h2]) (by rw [g5, h4]) rfl g3 (by rw [g6, hhp]; rfl)
      have hx : execC (CC []) (runK (CC []) 4) 4 ofC ⟨entry 26 [Ab.encI z], [], []⟩ = some (.ret, st) := by
        rw [exec_spine 4 h1, of_spine, exec_seq (exec_loop g1)]
        exact e1
      obtain ⟨rs2, ids, q1, q2⟩ := (g3.set 0 ⟨.live, [.sc (.bool (negB z)), nth fr2 5]⟩ (by omega)).out (negB z)
      rw [← e3] at q1
      exact ⟨5, _, _, _, rs2, ids, body_ret F_of_Of rfl hx e2, q1, q2⟩
  · cases h
end Go.Proofs.YtciabmckldfofaaGreatDoor
namespace Go.Proofs.YtciabmckldfofaaGreatDoor
open Go Go.Ab
abbrev Lst := List (Nat × (List PV → Option (List PV)))
noncomputable def trimB : Code := ((Tryz.f243.body).bind loopOf).getD .skip
theorem sl_enc (l : List Nat) (a : Nat) (hp : List Blk) : sliceP TT hp 131 (encD (l ++ [a])) none (some (.sc (.int .i64 (l.length : Int)))) none = some (encD l) := by
  have h : encD (l ++ [a]) = .imm (l.length + 1) false ((l ++ [a]).map dg) := by simp [encD]
  rw [h]
  simp only [sliceP, uD, sliceSl, s32, bnd, bound?, asNat?, Option.map]
  simp [fullB, dropN]
  rw [takeN?_of (by simp)]
  simp [encD]
set_option maxHeartbeats 1000000 in
theorem trim_stop (L : Lst) (run : Runs) (k : Nat) (fr : List PV) (hp : List Blk) (wr : List Nat) (l : List Nat) (a : Nat) (hl : l.length < 10000000) (ha : a ≠ 0)
    (h21 : fr.length = 21) (h0 : nth fr 0 = encD (l ++ [a])) :
    ∃ fr', execC (CC L) run k trimB ⟨fr, hp, wr⟩ = some (.exit 0, ⟨fr', hp, wr⟩) ∧ nth fr' 0 = nth fr 0 ∧ fr'.length = 21 := by
  have hw : wrapK .i64 ((l.length + 1 : Nat) - 1 : Int) = Int.ofNat l.length := by
    have := wrap_nat .i64 l.length (by simp [hiN]; omega)
    rw [← this]; congr 1; omega
  have hw' : wrapK .i64 (l.length : Int) = Int.ofNat l.length := wrap_nat .i64 l.length (by simp [hiN]; omega)
  have h : encD (l ++ [a]) = .imm (l.length + 1) false ((l ++ [a]).map dg) := by simp [encD]
  have hd : (dropN ((l ++ [a]).map dg) l.length).head? = some (.sc (.int .u32 a)) := by
    rw [head_dg _ _ (by simp)]; simp [dg]
  rw [h] at h0
  have ha' : ((a : Int) == 0) = false := by simp; exact ha
  simp [trimB, Tryz.f243, loopOf, execC, regP, goOps, operP, valP, wantedP, isCall, calleeP, stepP, evalP, putP, addW, FP.none, binP, binInt, binI, binBool, ofVal, lenP, indexAddrP, fieldAddrP, asNat_nat, asNat_0, asNat_1, asNat_succ, asNat_add, partOf, unP, nth_setN_eq, nth_setN_ne, setN_length, CC_T, CC_P, and_assoc, lenSl_nil, lenSl_imm, lenSl_own, lenSl_encD, cells_encD, cells_agg, cells_bool, cells_int, cells_own, cells_imm, cells_nil, okCell_encD, okCell_bool, okCell_int, okCell_own, okCell_imm, okCell_nil, okCells, okCell_dg, cells_dg, beqI, bneI, le2I, h21, h0, uD, u32, s32, a32, hw, hw', hd, ha', ha, atAddr, -List.map_append]
set_option maxHeartbeats 1000000 in
theorem trim_nil (L : Lst) (run : Runs) (k : Nat) (fr : List PV) (hp : List Blk) (wr : List Nat) (h21 : fr.length = 21) (h0 : nth fr 0 = encD []) :
    ∃ fr', execC (CC L) run k trimB ⟨fr, hp, wr⟩ = some (.exit 0, ⟨fr', hp, wr⟩) ∧ nth fr' 0 = nth fr 0 ∧ fr'.length = 21 := by
  have h : encD [] = .imm 0 false [] := rfl
  rw [h] at h0
  simp [trimB, Tryz.f243, loopOf, execC, regP, goOps, operP, valP, wantedP, isCall, calleeP, stepP, evalP, putP, addW, FP.none, binP, binInt, binI, binBool, ofVal, lenP, indexAddrP, fieldAddrP, asNat_nat, asNat_0, asNat_1, asNat_succ, asNat_add, partOf, unP, nth_setN_eq, nth_setN_ne, setN_length, CC_T, CC_P, and_assoc, lenSl_nil, lenSl_imm, lenSl_own, lenSl_encD, cells_encD, cells_agg, cells_bool, cells_int, cells_own, cells_imm, cells_nil, okCell_encD, okCell_bool, okCell_int, okCell_own, okCell_imm, okCell_nil, okCells, okCell_dg, cells_dg, beqI, bneI, le2I, h21, h0, uD, u32, s32, a32, atAddr, -List.map_append]
set_option maxHeartbeats 1000000 in
theorem trim_go (L : Lst) (run : Runs) (k : Nat) (fr : List PV) (hp : List Blk) (wr : List Nat) (l : List Nat) (hl : l.length < 10000000)
    (h21 : fr.length = 21) (h0 : nth fr 0 = encD (l ++ [0])) :
    ∃ fr', execC (CC L) run k trimB ⟨fr, hp, wr⟩ = some (.normal, ⟨fr', hp, wr⟩) ∧ nth fr' 0 = encD l ∧ fr'.length = 21 := by
  have hw' : wrapK .i64 (l.length : Int) = Int.ofNat l.length := wrap_nat .i64 l.length (by simp [hiN]; omega)
  have h : encD (l ++ [0]) = .imm (l.length + 1) false ((l ++ [0]).map dg) := by simp [encD]
  have hd : (dropN ((l ++ [0]).map dg) l.length).head? = some (.sc (.int .u32 0)) := by
    rw [head_dg _ _ (by simp)]; simp [dg]
  have hs := sl_enc l 0
  rw [h] at h0 hs
  simp [trimB, Tryz.f243, loopOf, execC, regP, goOps, operP, valP, wantedP, isCall, calleeP, stepP, evalP, putP, addW, FP.none, binP, binInt, binI, binBool, ofVal, lenP, indexAddrP, fieldAddrP, asNat_nat, asNat_0, asNat_1, asNat_succ, asNat_add, partOf, unP, nth_setN_eq, nth_setN_ne, setN_length, CC_T, CC_P, and_assoc, lenSl_nil, lenSl_imm, lenSl_own, lenSl_encD, cells_encD, cells_agg, cells_bool, cells_int, cells_own, cells_imm, cells_nil, okCell_encD, okCell_bool, okCell_int, okCell_own, okCell_imm, okCell_nil, okCells, okCell_dg, cells_dg, beqI, bneI, le2I, h21, h0, uD, u32, s32, a32, hw', hd, hs, atAddr, -List.map_append]
theorem trim_loop (L : Lst) (run : Runs) (k : Nat) : ∀ (n : Nat) (l : List Nat) (fr : List PV) (hp : List Blk) (wr : List Nat), l.length = n → n < 10000000 → fr.length = 21 → nth fr 0 = encD l →
    ∃ fr', iterL (execC (CC L) run k trimB) (n + 1) ⟨fr, hp, wr⟩ = some (.exit 0, ⟨fr', hp, wr⟩) ∧ nth fr' 0 = encD (trimL l) ∧ fr'.length = 21
  | 0, l, fr, hp, wr, hl, hn, h21, h0 => by
    have : l = [] := List.length_eq_zero_iff.1 hl
    subst this
    obtain ⟨fr', h1, h2, h3⟩ := trim_nil L run k fr hp wr h21 h0
    exact ⟨fr', iter_stop h1, by rw [h2, h0]; rfl, h3⟩
  | n + 1, l, fr, hp, wr, hl, hn, h21, h0 => by
    obtain ⟨l', a, rfl, hl'⟩ := snoc_of hl
    by_cases ha : a = 0
    · subst ha
      obtain ⟨fr1, h1, h2, h3⟩ := trim_go L run k fr hp wr l' (by omega) h21 h0
      obtain ⟨fr', g1, g2, g3⟩ := trim_loop L run k n l' fr1 hp wr hl' (by omega) h3 h2
      exact ⟨fr', by rw [iter_go h1]; exact g1, by rw [g2, trimL_snoc, if_pos rfl], g3⟩
    · obtain ⟨fr', h1, h2, h3⟩ := trim_stop L run k fr hp wr l' a (by omega) ha h21 h0
      exact ⟨fr', iter_stop h1, by rw [h2, h0, trimL_snoc, if_neg ha], h3⟩
noncomputable def trimC : Code := Tryz.f243.body.getD .skip
theorem trim_spine : cspine 1 trimC = .seq (.block 0 (.loop trimB)) (cspine 2 trimC) := rfl
theorem trim_pre (L : Lst) (run : Runs) (k : Nat) (p : PV) : ∃ fr, runPre (CC L) run k 1 trimC ⟨entry 21 [p], [], []⟩ = some ⟨fr, [], []⟩ ∧ fr.length = 21 ∧ nth fr 0 = p := by
  simp [trimC, Tryz.f243, runPre, entry, nth, setN, execC, regP, goOps, operP, valP, wantedP, isCall, calleeP, stepP, evalP, putP, addW, FP.none, binP, binInt, binI, binBool, ofVal, lenP, indexAddrP, fieldAddrP, asNat_nat, asNat_0, asNat_1, asNat_succ, asNat_add, partOf, unP, nth_setN_eq, nth_setN_ne, setN_length, CC_T, CC_P, and_assoc, lenSl_nil, lenSl_imm, lenSl_own, lenSl_encD, cells_encD, cells_agg, cells_bool, cells_int, cells_own, cells_imm, cells_nil, okCell_encD, okCell_bool, okCell_int, okCell_own, okCell_imm, okCell_nil, okCells, okCell_dg, cells_dg, beqI, bneI, le2I]
theorem trim_post (L : Lst) (run : Runs) (k : Nat) (fr : List PV) (hp : List Blk) (wr : List Nat) (p : PV) (h21 : fr.length = 21) (h0 : nth fr 0 = p) :
    ∃ st, execC (CC L) run k (cspine 2 trimC) ⟨fr, hp, wr⟩ = some (.ret, st) ∧ resP TT st.fr st.hp Tryz.f243.results.toList = some [p] := by
  simp [trimC, cspine, Tryz.f243, execC, regP, goOps, operP, valP, wantedP, isCall, calleeP, stepP, evalP, putP, addW, FP.none, binP, binInt, binI, binBool, ofVal, lenP, indexAddrP, fieldAddrP, asNat_nat, asNat_0, asNat_1, asNat_succ, asNat_add, partOf, unP, nth_setN_eq, nth_setN_ne, setN_length, CC_T, CC_P, and_assoc, lenSl_nil, lenSl_imm, lenSl_own, lenSl_encD, cells_encD, cells_agg, cells_bool, cells_int, cells_own, cells_imm, cells_nil, okCell_encD, okCell_bool, okCell_int, okCell_own, okCell_imm, okCell_nil, okCells, okCell_dg, cells_dg, beqI, bneI, le2I, h21, h0, resP]
def trimF : List PV → Option (List PV)
  | [p] => match decD? p with
    | some l => some [encD (trimL l)]
    | none => none
  | _ => none
theorem out_encD (hp : List Blk) (l : List Nat) : mapIds (snap hp snapDepth) [encD l] = some ([encD l], []) := rfl
theorem out_encW (hp : List Blk) (z : Int) : mapIds (snap hp snapDepth) [encW z] = some ([encW z], []) := rfl
theorem trim_spec : Ab.Spec base.P 243 trimF := Ab.Spec.of_run (C := CC []) (ccOk trivial) fun args rs h => by
  unfold trimF at h
  split at h
  · split at h
    · rename_i l hl
      obtain ⟨rfl, _, hlen⟩ := decD?_some hl
      simp only [Option.some.injEq] at h
      subst h
      obtain ⟨fr1, h1, h20, h0⟩ := trim_pre [] (runK (CC []) (l.length + 1)) (l.length + 1) (encD l)
      obtain ⟨fr2, g1, g2, g3⟩ := trim_loop [] (runK (CC []) (l.length + 1)) (l.length + 1) l.length l fr1 [] [] rfl (by omega) h20 h0
      obtain ⟨st, e1, e2⟩ := trim_post [] (runK (CC []) (l.length + 1)) (l.length + 1) fr2 [] [] _ g3 g2
      have hx : execC (CC []) (runK (CC []) (l.length + 1)) (l.length + 1) trimC ⟨entry 21 [encD l], [], []⟩ = some (.ret, st) := by
        rw [exec_spine 1 h1, trim_spine, exec_seq (exec_loop g1)]
        exact e1
      exact ⟨l.length + 2, _, _, _, _, _, body_ret F_of_trim rfl hx e2, out_encD _ _, Wk.refl rfl, trivial⟩
    · cases h
  · cases h
/-- signed: the integer of a sign and digits -/
def sgn (n : Bool) (v : Nat) : Int := bif n then Int.negOfNat v else Int.ofNat v
theorem wh_sgn {l : List Nat} (h : Dok l) (n : Bool) : wh (n && decide (0 < (trimL l).length)) (trimL l) = encW (sgn n (val l)) := by
  rw [trimL_digs h]
  cases n with
  | false => rfl
  | true =>
    by_cases h0 : val l = 0
    · rw [h0]; rfl
    · rw [sgn, cond_true, encW_neg h0]
      have := digs_length_pos.2 h0
      simp [this]
def signedF : List PV → Option (List PV)
  | [.sc (.bool n), p] => match decD? p with
    | some l => some [encW (sgn n (val l))]
    | none => none
  | _ => none
def LTrim : Lst := [(243, trimF)]
theorem call_trim (run : Runs) (dr : Bool) (hp : List Blk) (l : List Nat) (hd : Dok l) (hl : l.length < 1000000) : callP (CC LTrim) run dr hp 243 [encD l] = some (encD (trimL l), hp, ⟨[], [], false, false⟩) := by
  have h3 : (CC LTrim).orc 243 [encD l] = some [encD (trimL l)] := by
    show trimF (canonL [encD l]) = _
    simp only [canonL, canon_encD, trimF, decD?_enc hd hl]
  exact callP_orc' sh_trim (out_encD hp l) h3 rfl
noncomputable def signedC : Code := Tryz.f223.body.getD .skip
theorem signed_exec (neg : Bool) (l : List Nat) (hd : Dok l) (hl : l.length < 1000000) (run : Runs) (k : Nat) :
    ∃ st, execC (CC LTrim) run k signedC ⟨entry 15 [.sc (.bool neg), encD l], [], []⟩ = some (.ret, st) ∧ resP TT st.fr st.hp Tryz.f223.results.toList = some [encW (sgn neg (val l))] := by
  rw [← wh_sgn hd]
  have hc : ∀ hp dr, callP (CC LTrim) run dr hp 243 [encD l] = some (encD (trimL l), hp, ⟨[], [], false, false⟩) := fun hp dr => call_trim run dr hp l hd hl
  cases neg <;> simp [signedC, Tryz.f223, entry, nth, setN, execC, regP, goOps, operP, valP, wantedP, isCall, calleeP, stepP, evalP, putP, addW, FP.none, binP, binInt, binI, binBool, ofVal, lenP, indexAddrP, fieldAddrP, asNat_nat, asNat_0, asNat_1, asNat_succ, asNat_add, partOf, unP, nth_setN_eq, nth_setN_ne, setN_length, CC_T, CC_P, and_assoc, lenSl_nil, lenSl_imm, lenSl_own, lenSl_encD, cells_encD, cells_agg, cells_bool, cells_int, cells_own, cells_imm, cells_nil, okCell_encD, okCell_bool, okCell_int, okCell_own, okCell_imm, okCell_nil, okCells, okCell_dg, cells_dg, beqI, bneI, le2I, hc, zW, allocB, uD, buildP, uW, wf0, wf1, sB, sD, sW, aW, fillL, placeP, over?, resP, atAddr, nthB, setB, dropN, takeN?, wh]
theorem signed_spec : Ab.Spec base.P 223 signedF := Ab.Spec.of_run (C := CC LTrim) (ccOk ⟨trim_spec, trivial⟩) fun args rs h => by
  unfold signedF at h
  split at h
  · split at h
    · rename_i n p _ l hl
      obtain ⟨rfl, hd, hlen⟩ := decD?_some hl
      simp only [Option.some.injEq] at h
      subst h
      obtain ⟨st, e1, e2⟩ := signed_exec n l hd hlen (runK (CC LTrim) 1) 1
      exact ⟨2, _, _, _, _, _, body_ret F_of_signed rfl e1 e2, out_encW _ _, Wk.refl rfl, trivial⟩
    · cases h
  · cases h
end Go.Proofs.YtciabmckldfofaaGreatDoor
namespace Go.Proofs.YtciabmckldfofaaGreatDoor
open Go Go.Ab
/-! size -/
noncomputable def sizeB : Code := ((Tryz.f224.body).bind loopOf).getD .skip
noncomputable def sizeC : Code := Tryz.f224.body.getD .skip
set_option maxHeartbeats 1000000 in
theorem size_end (L : Lst) (run : Runs) (k : Nat) (fr : List PV) (h41 : fr.length = 41) (h5 : nth fr 5 = .sc (.int .i64 (-1))) :
    ∃ fr', execC (CC L) run k sizeB ⟨fr, [], []⟩ = some (.exit 0, ⟨fr', [], []⟩) ∧ fr'.length = 41 := by
  simp [sizeB, Tryz.f224, loopOf, execC, regP, goOps, operP, valP, wantedP, isCall, calleeP, stepP, evalP, putP, addW, FP.none, binP, binInt, binI, binBool, ofVal, lenP, indexAddrP, fieldAddrP, asNat_nat, asNat_0, asNat_1, asNat_succ, asNat_add, partOf, unP, nth_setN_eq, nth_setN_ne, setN_length, CC_T, CC_P, and_assoc, lenSl_nil, lenSl_imm, lenSl_own, lenSl_encD, cells_encD, cells_agg, cells_bool, cells_int, cells_own, cells_imm, cells_nil, okCell_encD, okCell_bool, okCell_int, okCell_own, okCell_imm, okCell_nil, okCells, okCell_dg, cells_dg, beqI, bneI, le2I, h41, h5]
set_option maxHeartbeats 1000000 in
theorem size_eq (L : Lst) (run : Runs) (k : Nat) (fr : List PV) (a b : List Nat) (m : Nat) (hma : m < a.length) (hmb : m < b.length) (hl : a.length < 1000000)
    (h41 : fr.length = 41) (h0 : nth fr 0 = encD a) (h1 : nth fr 1 = encD b) (h5 : nth fr 5 = .sc (.int .i64 (m : Int))) (h : a[m] = b[m]) :
    ∃ fr', execC (CC L) run k sizeB ⟨fr, [], []⟩ = some (.normal, ⟨fr', [], []⟩) ∧ fr'.length = 41 ∧ nth fr' 0 = encD a ∧ nth fr' 1 = encD b ∧ nth fr' 5 = .sc (.int .i64 ((m : Int) - 1)) := by
  have hw : wrapK .i64 ((m : Int) - 1) = (m : Int) - 1 := wrap_pred m (by omega)
  have hda := head_dg a m hma
  have hdb := head_dg b m hmb
  rw [h] at hda
  generalize b[m] = y at *
  have e1 : encD a = .imm a.length false (a.map dg) := rfl
  have e2 : encD b = .imm b.length false (b.map dg) := rfl
  have hdg : dg y = .sc (.int .u32 (y : Int)) := rfl
  rw [e1] at h0 ⊢; rw [e2] at h1 ⊢; rw [hdg] at hda hdb
  simp [sizeB, Tryz.f224, loopOf, execC, regP, goOps, operP, valP, wantedP, isCall, calleeP, stepP, evalP, putP, addW, FP.none, binP, binInt, binI, binBool, ofVal, lenP, indexAddrP, fieldAddrP, asNat_nat, asNat_0, asNat_1, asNat_succ, asNat_add, partOf, unP, nth_setN_eq, nth_setN_ne, setN_length, CC_T, CC_P, and_assoc, lenSl_nil, lenSl_imm, lenSl_own, lenSl_encD, cells_encD, cells_agg, cells_bool, cells_int, cells_own, cells_imm, cells_nil, okCell_encD, okCell_bool, okCell_int, okCell_own, okCell_imm, okCell_nil, okCells, okCell_dg, cells_dg, beqI, bneI, le2I, h41, h0, h1, h5, uD, u32, s32, a32, hma, hmb, hda, hdb, atAddr, number, FP.free, hw]
set_option maxHeartbeats 1000000 in
theorem size_ne (L : Lst) (run : Runs) (k : Nat) (fr : List PV) (a b : List Nat) (m : Nat) (hma : m < a.length) (hmb : m < b.length) (hl : a.length < 1000000)
    (h41 : fr.length = 41) (h0 : nth fr 0 = encD a) (h1 : nth fr 1 = encD b) (h5 : nth fr 5 = .sc (.int .i64 (m : Int))) (h : a[m] ≠ b[m]) :
    ∃ fr', execC (CC L) run k sizeB ⟨fr, [], []⟩ = some (.ret, ⟨fr', [], []⟩) ∧ fr'.length = 41 ∧ nth fr' 4 = .sc (.int .i64 (if a[m] < b[m] then -1 else 1)) := by
  have hda := head_dg a m hma
  have hdb := head_dg b m hmb
  generalize b[m] = y at *
  generalize a[m] = x at *
  have e1 : encD a = .imm a.length false (a.map dg) := rfl
  have e2 : encD b = .imm b.length false (b.map dg) := rfl
  have hdx : dg x = .sc (.int .u32 (x : Int)) := rfl
  have hdy : dg y = .sc (.int .u32 (y : Int)) := rfl
  rw [e1] at h0; rw [e2] at h1; rw [hdx] at hda; rw [hdy] at hdb
  by_cases hxy : x < y
  · simp [sizeB, Tryz.f224, loopOf, execC, regP, goOps, operP, valP, wantedP, isCall, calleeP, stepP, evalP, putP, addW, FP.none, binP, binInt, binI, binBool, ofVal, lenP, indexAddrP, fieldAddrP, asNat_nat, asNat_0, asNat_1, asNat_succ, asNat_add, partOf, unP, nth_setN_eq, nth_setN_ne, setN_length, CC_T, CC_P, and_assoc, lenSl_nil, lenSl_imm, lenSl_own, lenSl_encD, cells_encD, cells_agg, cells_bool, cells_int, cells_own, cells_imm, cells_nil, okCell_encD, okCell_bool, okCell_int, okCell_own, okCell_imm, okCell_nil, okCells, okCell_dg, cells_dg, beqI, bneI, le2I, h41, h0, h1, h5, uD, u32, s32, a32, hma, hmb, hda, hdb, atAddr, number, FP.free, h, hxy]
  · simp [sizeB, Tryz.f224, loopOf, execC, regP, goOps, operP, valP, wantedP, isCall, calleeP, stepP, evalP, putP, addW, FP.none, binP, binInt, binI, binBool, ofVal, lenP, indexAddrP, fieldAddrP, asNat_nat, asNat_0, asNat_1, asNat_succ, asNat_add, partOf, unP, nth_setN_eq, nth_setN_ne, setN_length, CC_T, CC_P, and_assoc, lenSl_nil, lenSl_imm, lenSl_own, lenSl_encD, cells_encD, cells_agg, cells_bool, cells_int, cells_own, cells_imm, cells_nil, okCell_encD, okCell_bool, okCell_int, okCell_own, okCell_imm, okCell_nil, okCells, okCell_dg, cells_dg, beqI, bneI, le2I, h41, h0, h1, h5, uD, u32, s32, a32, hma, hmb, hda, hdb, atAddr, number, FP.free, h, hxy]
theorem size_loop (L : Lst) (run : Runs) (k : Nat) (a b : List Nat) (hab : a.length = b.length) (hl : a.length < 1000000) (ha : Dok a) (hb : Dok b) : ∀ (m : Nat) (fr : List PV), m ≤ a.length →
    fr.length = 41 → nth fr 0 = encD a → nth fr 1 = encD b → nth fr 5 = .sc (.int .i64 ((m : Int) - 1)) → a.drop m = b.drop m →
    (∃ fr', iterL (execC (CC L) run k sizeB) (m + 1) ⟨fr, [], []⟩ = some (.exit 0, ⟨fr', [], []⟩) ∧ fr'.length = 41 ∧ cmpN (val a) (val b) = 0) ∨
    (∃ fr', iterL (execC (CC L) run k sizeB) (m + 1) ⟨fr, [], []⟩ = some (.ret, ⟨fr', [], []⟩) ∧ nth fr' 4 = .sc (.int .i64 (cmpN (val a) (val b))))
  | 0, fr, hm, h41, h0, h1, h5, hd => by
    obtain ⟨fr', g1, g2⟩ := size_end L run k fr h41 h5
    refine .inl ⟨fr', iter_stop g1, g2, ?_⟩
    simp at hd
    simp [cmpN, hd]
  | m + 1, fr, hm, h41, h0, h1, h5, hd => by
    have h5' : nth fr 5 = .sc (.int .i64 (m : Int)) := by rw [h5]; simp
    have hmb : m < b.length := by omega
    have hma : m < a.length := by omega
    by_cases h : a[m] = b[m]
    · obtain ⟨fr1, g1, g2, g3, g4, g5⟩ := size_eq L run k fr a b m hma hmb hl h41 h0 h1 h5' h
      have hd' : a.drop m = b.drop m := by rw [List.drop_eq_getElem_cons hma, List.drop_eq_getElem_cons hmb, hd, h]
      rw [iter_go g1]
      exact size_loop L run k a b hab hl ha hb m fr1 (by omega) g2 g3 g4 g5 hd'
    · obtain ⟨fr1, g1, g2, g3⟩ := size_ne L run k fr a b m hma hmb hl h41 h0 h1 h5' h
      refine .inr ⟨fr1, iter_ret g1, ?_⟩
      rw [g3]
      by_cases hxy : a[m] < b[m]
      · have := val_lt_at ha hma hmb hd hxy
        rw [if_pos hxy, cmpN, if_pos this]
      · have := val_lt_at hb hmb hma hd.symm (by omega)
        rw [if_neg hxy, cmpN, if_neg (by omega), if_neg (by omega)]
def sizeL (a b : List Nat) : Int := if a.length < b.length then -1 else if b.length < a.length then 1 else cmpN (val a) (val b)
theorem size_pre1 (L : Lst) (run : Runs) (k : Nat) (a b : List Nat) (h : a.length ≠ b.length) :
    ∃ st, execC (CC L) run k sizeC ⟨entry 41 [encD a, encD b], [], []⟩ = some (.ret, st) ∧ resP TT st.fr st.hp Tryz.f224.results.toList = some [Ab.encI (sizeL a b)] := by
  by_cases hx : a.length < b.length
  · simp [sizeC, Tryz.f224, entry, nth, setN, execC, regP, goOps, operP, valP, wantedP, isCall, calleeP, stepP, evalP, putP, addW, FP.none, binP, binInt, binI, binBool, ofVal, lenP, indexAddrP, fieldAddrP, asNat_nat, asNat_0, asNat_1, asNat_succ, asNat_add, partOf, unP, nth_setN_eq, nth_setN_ne, setN_length, CC_T, CC_P, and_assoc, lenSl_nil, lenSl_imm, lenSl_own, lenSl_encD, cells_encD, cells_agg, cells_bool, cells_int, cells_own, cells_imm, cells_nil, okCell_encD, okCell_bool, okCell_int, okCell_own, okCell_imm, okCell_nil, okCells, okCell_dg, cells_dg, beqI, bneI, le2I, uD, h, hx, resP, sizeL, Ab.encI]
  · have : b.length < a.length := by omega
    simp [sizeC, Tryz.f224, entry, nth, setN, execC, regP, goOps, operP, valP, wantedP, isCall, calleeP, stepP, evalP, putP, addW, FP.none, binP, binInt, binI, binBool, ofVal, lenP, indexAddrP, fieldAddrP, asNat_nat, asNat_0, asNat_1, asNat_succ, asNat_add, partOf, unP, nth_setN_eq, nth_setN_ne, setN_length, CC_T, CC_P, and_assoc, lenSl_nil, lenSl_imm, lenSl_own, lenSl_encD, cells_encD, cells_agg, cells_bool, cells_int, cells_own, cells_imm, cells_nil, okCell_encD, okCell_bool, okCell_int, okCell_own, okCell_imm, okCell_nil, okCells, okCell_dg, cells_dg, beqI, bneI, le2I, uD, h, hx, this, resP, sizeL, Ab.encI]
theorem size_pre2 (L : Lst) (run : Runs) (k : Nat) (a b : List Nat) (h : a.length = b.length) (hl : a.length < 1000000) :
    ∃ fr, runPre (CC L) run k 2 sizeC ⟨entry 41 [encD a, encD b], [], []⟩ = some ⟨fr, [], []⟩ ∧ fr.length = 41 ∧ nth fr 0 = encD a ∧ nth fr 1 = encD b := by
  simp [sizeC, Tryz.f224, runPre, entry, nth, setN, execC, regP, goOps, operP, valP, wantedP, isCall, calleeP, stepP, evalP, putP, addW, FP.none, binP, binInt, binI, binBool, ofVal, lenP, indexAddrP, fieldAddrP, asNat_nat, asNat_0, asNat_1, asNat_succ, asNat_add, partOf, unP, nth_setN_eq, nth_setN_ne, setN_length, CC_T, CC_P, and_assoc, lenSl_nil, lenSl_imm, lenSl_own, lenSl_encD, cells_encD, cells_agg, cells_bool, cells_int, cells_own, cells_imm, cells_nil, okCell_encD, okCell_bool, okCell_int, okCell_own, okCell_imm, okCell_nil, okCells, okCell_dg, cells_dg, beqI, bneI, le2I, uD, h]
noncomputable def sizeR5 : Code := seq1 (seq1 (cspine 2 sizeC))
theorem size_spine : cspine 2 sizeC = .seq (.seq sizeR5 (.block 0 (.loop sizeB))) (cspine 3 sizeC) := rfl
theorem size_r5 (L : Lst) (run : Runs) (k : Nat) (fr : List PV) (a b : List Nat) (hl : a.length < 1000000) (h41 : fr.length = 41) (h0 : nth fr 0 = encD a) (h1 : nth fr 1 = encD b) :
    ∃ fr', execC (CC L) run k sizeR5 ⟨fr, [], []⟩ = some (.normal, ⟨fr', [], []⟩) ∧ fr'.length = 41 ∧ nth fr' 0 = encD a ∧ nth fr' 1 = encD b ∧ nth fr' 5 = .sc (.int .i64 ((a.length : Int) - 1)) := by
  have hw : wrapK .i64 ((a.length : Int) - 1) = (a.length : Int) - 1 := wrap_pred _ (by omega)
  simp [sizeR5, sizeC, cspine, seq1, Tryz.f224, execC, regP, goOps, operP, valP, wantedP, isCall, calleeP, stepP, evalP, putP, addW, FP.none, binP, binInt, binI, binBool, ofVal, lenP, indexAddrP, fieldAddrP, asNat_nat, asNat_0, asNat_1, asNat_succ, asNat_add, partOf, unP, nth_setN_eq, nth_setN_ne, setN_length, CC_T, CC_P, and_assoc, lenSl_nil, lenSl_imm, lenSl_own, lenSl_encD, cells_encD, cells_agg, cells_bool, cells_int, cells_own, cells_imm, cells_nil, okCell_encD, okCell_bool, okCell_int, okCell_own, okCell_imm, okCell_nil, okCells, okCell_dg, cells_dg, beqI, bneI, le2I, uD, h41, h0, h1, hw]
theorem size_post (L : Lst) (run : Runs) (k : Nat) (fr : List PV) (h41 : fr.length = 41) :
    ∃ st, execC (CC L) run k (cspine 3 sizeC) ⟨fr, [], []⟩ = some (.ret, st) ∧ resP TT st.fr st.hp Tryz.f224.results.toList = some [Ab.encI 0] := by
  simp [sizeC, cspine, Tryz.f224, execC, regP, goOps, operP, valP, wantedP, isCall, calleeP, stepP, evalP, putP, addW, FP.none, binP, binInt, binI, binBool, ofVal, lenP, indexAddrP, fieldAddrP, asNat_nat, asNat_0, asNat_1, asNat_succ, asNat_add, partOf, unP, nth_setN_eq, nth_setN_ne, setN_length, CC_T, CC_P, and_assoc, lenSl_nil, lenSl_imm, lenSl_own, lenSl_encD, cells_encD, cells_agg, cells_bool, cells_int, cells_own, cells_imm, cells_nil, okCell_encD, okCell_bool, okCell_int, okCell_own, okCell_imm, okCell_nil, okCells, okCell_dg, cells_dg, beqI, bneI, le2I, h41, resP, Ab.encI]
theorem exec_loop_ret {C : Cfg} {run : Runs} {k i : Nat} {b : Code} {st st' : St} (h : iterL (execC C run k b) k st = some (.ret, st')) : execC C run k (.block i (.loop b)) st = some (.ret, st') := by
  simp only [execC, h]
theorem exec_seq_ret {C : Cfg} {run : Runs} {k : Nat} {a b : Code} {st st' : St} (h : execC C run k a st = some (.ret, st')) : execC C run k (.seq a b) st = some (.ret, st') := by
  simp only [execC, h]
def sizeF : List PV → Option (List PV)
  | [p, q] => match decD? p, decD? q with
    | some a, some b => some [Ab.encI (sizeL a b)]
    | _, _ => none
  | _ => none
theorem out_encI (hp : List Blk) (z : Int) : mapIds (snap hp snapDepth) [Ab.encI z] = some ([Ab.encI z], []) := rfl
theorem size_spec : Ab.Spec base.P 224 sizeF := Ab.Spec.of_run (C := CC []) (ccOk trivial) fun args rs h => by
  unfold sizeF at h
  split at h
  · split at h
    · rename_i a b ea eb
      obtain ⟨rfl, ha, hla⟩ := decD?_some ea
      obtain ⟨rfl, hb, hlb⟩ := decD?_some eb
      simp only [Option.some.injEq] at h
      subst h
      by_cases hab : a.length = b.length
      · obtain ⟨fr1, h1, h2, h3, h4⟩ := size_pre2 [] (runK (CC []) (a.length + 1)) (a.length + 1) a b hab hla
        obtain ⟨fr2, g1, g2, g3, g4, g5⟩ := size_r5 [] (runK (CC []) (a.length + 1)) (a.length + 1) fr1 a b hla h2 h3 h4
        have hs : sizeL a b = cmpN (val a) (val b) := by simp [sizeL, hab]
        rcases size_loop [] (runK (CC []) (a.length + 1)) (a.length + 1) a b hab hla ha hb a.length fr2 (Nat.le_refl _) g2 g3 g4 g5 (by simp [hab]) with ⟨fr3, q1, q2, q3⟩ | ⟨fr3, q1, q2⟩
        · obtain ⟨st, e1, e2⟩ := size_post [] (runK (CC []) (a.length + 1)) (a.length + 1) fr3 q2
          have hx : execC (CC []) (runK (CC []) (a.length + 1)) (a.length + 1) sizeC ⟨entry 41 [encD a, encD b], [], []⟩ = some (.ret, st) := by
            rw [exec_spine 2 h1, size_spine, exec_seq ((exec_seq g1).trans (exec_loop q1))]
            exact e1
          rw [hs, q3]
          exact ⟨a.length + 2, _, _, _, _, _, body_ret F_of_size rfl hx e2, out_encI _ _, Wk.refl rfl, trivial⟩
        · have hx : execC (CC []) (runK (CC []) (a.length + 1)) (a.length + 1) sizeC ⟨entry 41 [encD a, encD b], [], []⟩ = some (.ret, ⟨fr3, [], []⟩) := by
            rw [exec_spine 2 h1, size_spine, exec_seq_ret ((exec_seq g1).trans (exec_loop_ret q1))]
          have e2 : resP TT fr3 [] Tryz.f224.results.toList = some [Ab.encI (cmpN (val a) (val b))] := by
            simp [Tryz.f224, resP, q2, Ab.encI]
          rw [hs]
          exact ⟨a.length + 2, _, _, _, _, _, body_ret F_of_size rfl hx e2, out_encI _ _, Wk.refl rfl, trivial⟩
      · obtain ⟨st, e1, e2⟩ := size_pre1 [] (runK (CC []) 1) 1 a b hab
        exact ⟨2, _, _, _, _, _, body_ret F_of_size rfl e1 e2, out_encI _ _, Wk.refl rfl, trivial⟩
    · cases h
  · cases h
end Go.Proofs.YtciabmckldfofaaGreatDoor
namespace Go.Proofs.YtciabmckldfofaaGreatDoor
open Go Go.Ab
theorem hlitD (n : Nat) : litP TT 131 1 [(0, dg n)] = some (1, [dg n]) := lit_dg uD s32 z32 n
/-! plus -/
noncomputable def plusB : Code := ((Tryz.f246.body).bind loopOf).getD .skip
noncomputable def plusC : Code := Tryz.f246.body.getD .skip
theorem plus_end (L : Lst) (run : Runs) (k : Nat) (fr : List PV) (hp : List Blk) (wr : List Nat) (n : Nat) (h52 : fr.length = 52)
    (h21 : nth fr 21 = .sc (.int .i64 (n : Int))) (h22 : nth fr 22 = .sc (.int .i64 (n : Int))) :
    ∃ fr', execC (CC L) run k plusB ⟨fr, hp, wr⟩ = some (.exit 0, ⟨fr', hp, wr⟩) ∧ fr'.length = 52 ∧ nth fr' 5 = nth fr 5 ∧ nth fr' 6 = nth fr 6 := by
  simp [plusB, Tryz.f246, loopOf, execC, regP, goOps, operP, valP, wantedP, isCall, calleeP, stepP, evalP, putP, addW, FP.none, binP, binInt, binI, binBool, ofVal, lenP, indexAddrP, fieldAddrP, asNat_nat, asNat_0, asNat_1, asNat_succ, asNat_add, partOf, unP, nth_setN_eq, nth_setN_ne, setN_length, CC_T, CC_P, and_assoc, lenSl_nil, lenSl_imm, lenSl_own, lenSl_encD, cells_encD, cells_agg, cells_bool, cells_int, cells_own, cells_imm, cells_nil, okCell_encD, okCell_bool, okCell_int, okCell_own, okCell_imm, okCell_nil, okCells, okCell_dg, cells_dg, beqI, bneI, le2I, h52, h21, h22]
set_option maxHeartbeats 2000000 in
theorem plus_round (L : Lst) (run : Runs) (k : Nat) (fr : List PV) (hp : List Blk) (wr : List Nat) (a b out : List Nat) (i c s : Nat) (ha : Dok a) (hb : Dok b) (hc : c ≤ 1) (hi : i < a.length) (hl : a.length < 1000000)
    (h52 : fr.length = 52) (h20 : nth fr 20 = encD a) (h21 : nth fr 21 = .sc (.int .i64 (a.length : Int))) (h22 : nth fr 22 = .sc (.int .i64 (i : Int))) (h1 : nth fr 1 = encD b)
    (h6 : nth fr 6 = .sc (.int .u32 (c : Int))) (hO : OwnD 0 hp out (nth fr 5)) (ho : out.length = i) (hs : s = at0 a i + c + at0 b i) :
    ∃ fr' hp' wr', execC (CC L) run k plusB ⟨fr, hp, wr⟩ = some (.normal, ⟨fr', hp', wr'⟩) ∧ fr'.length = 52 ∧ nth fr' 20 = encD a ∧ nth fr' 21 = .sc (.int .i64 (a.length : Int))
      ∧ nth fr' 22 = .sc (.int .i64 ((i + 1 : Nat) : Int)) ∧ nth fr' 1 = encD b ∧ nth fr' 6 = .sc (.int .u32 ((s / 1000000000 : Nat) : Int)) ∧ OwnD 0 hp' (out ++ [s % 1000000000]) (nth fr' 5) := by
  have hda := head_dg a i hi
  have hax := ha.get hi
  rw [at0_lt hi] at hs
  generalize a[i] = x at *
  have e1 : encD a = .imm a.length false (a.map dg) := rfl
  have e2 : encD b = .imm b.length false (b.map dg) := rfl
  have hdx : dg x = .sc (.int .u32 (x : Int)) := rfl
  rw [e1] at h20 ⊢; rw [e2] at h1 ⊢; rw [hdx] at hda
  obtain ⟨s1, hs1⟩ : ∃ s1, s1 = x + c := ⟨_, rfl⟩
  have hw1 : wrapK .u32 ((x : Int) + (c : Int)) = (s1 : Int) := wrapA .u32 x c s1 hs1 (hi32 (by omega))
  have hwi := wrap_succ i (by omega)
  have hb9 := at0_ok hb i
  obtain ⟨q, hq⟩ : ∃ q, q = s / 1000000000 := ⟨_, rfl⟩
  obtain ⟨r, hr⟩ : ∃ r, r = s % 1000000000 := ⟨_, rfl⟩
  have hw3 : wrapK .u32 ((s : Int) / 1000000000) = (q : Int) := wrapQU .u32 s q hq (hi32 (by omega))
  obtain ⟨p', hp', fp, h7, h8, h9⟩ := hO.app r (ho ▸ Nat.lt_trans hi (Nat.lt_trans hl (by decide)))
  rw [← hq, ← hr]
  by_cases hib : i < b.length
  · have hdb := head_dg b i hib
    rw [at0_lt hib] at hs hb9
    generalize b[i] = y at *
    have hdy : dg y = .sc (.int .u32 (y : Int)) := rfl
    rw [hdy] at hdb
    have hw2 : wrapK .u32 ((s1 : Int) + (y : Int)) = (s : Int) := wrapA .u32 s1 y s (by omega) (hi32 (by omega))
    have hw4 : ((s : Int).tmod 1000000000) = (r : Int) := tmodU s r hr
    simp [plusB, Tryz.f246, loopOf, execC, regP, goOps, operP, valP, wantedP, isCall, calleeP, stepP, evalP, putP, addW, FP.none, binP, binInt, binI, binBool, ofVal, lenP, indexAddrP, fieldAddrP, asNat_nat, asNat_0, asNat_1, asNat_succ, asNat_add, partOf, unP, nth_setN_eq, nth_setN_ne, setN_length, CC_T, CC_P, and_assoc, lenSl_nil, lenSl_imm, lenSl_own, lenSl_encD, cells_encD, cells_agg, cells_bool, cells_int, cells_own, cells_imm, cells_nil, okCell_encD, okCell_bool, okCell_int, okCell_own, okCell_imm, okCell_nil, okCells, okCell_dg, cells_dg, beqI, bneI, le2I, h52, h20, h21, h22, h1, h6, uD, u32, s32, b32, z32, a32, hi, hib, hda, hdb, atAddr, hw1, hw2, hw3, hw4, hwi, sc_dg r, hlitD, rd_dg, idf_dg, maxBytes, h7, h8]
  · rw [at0_ge (Nat.le_of_not_lt hib)] at hs
    have : s1 = s := by omega
    subst this
    have hw4 : ((s1 : Int).tmod 1000000000) = (r : Int) := tmodU s1 r hr
    simp [plusB, Tryz.f246, loopOf, execC, regP, goOps, operP, valP, wantedP, isCall, calleeP, stepP, evalP, putP, addW, FP.none, binP, binInt, binI, binBool, ofVal, lenP, indexAddrP, fieldAddrP, asNat_nat, asNat_0, asNat_1, asNat_succ, asNat_add, partOf, unP, nth_setN_eq, nth_setN_ne, setN_length, CC_T, CC_P, and_assoc, lenSl_nil, lenSl_imm, lenSl_own, lenSl_encD, cells_encD, cells_agg, cells_bool, cells_int, cells_own, cells_imm, cells_nil, okCell_encD, okCell_bool, okCell_int, okCell_own, okCell_imm, okCell_nil, okCells, okCell_dg, cells_dg, beqI, bneI, le2I, h52, h20, h21, h22, h1, h6, uD, u32, s32, b32, z32, a32, hi, hib, hda, atAddr, hw1, hw3, hw4, hwi, sc_dg r, hlitD, rd_dg, idf_dg, maxBytes, h7, h8]
theorem plus_step {va vb vo x c y P s q r : Nat} (h : vo + c * P = va + vb) (hs : s = x + c + y) (hq : q = s / 1000000000) (hr : r = s % 1000000000) :
    vo + P * r + q * (P * 1000000000) = va + x * P + (vb + y * P) := by
  have e : s = r + 1000000000 * q := by omega
  have e2 : s * P = (r + 1000000000 * q) * P := by rw [e]
  subst hs
  simp only [Nat.add_mul] at e2 ⊢
  have e3 : 1000000000 * q * P = q * (P * 1000000000) := by grind
  have e4 : r * P = P * r := Nat.mul_comm _ _
  omega
theorem plus_loop (L : Lst) (run : Runs) (k : Nat) (a b : List Nat) (ha : Dok a) (hb : Dok b) (hl : a.length < 1000000) : ∀ (n i : Nat) (fr : List PV) (hp : List Blk) (wr : List Nat) (out : List Nat) (c : Nat), i + n = a.length →
    fr.length = 52 → nth fr 20 = encD a → nth fr 21 = .sc (.int .i64 (a.length : Int)) → nth fr 22 = .sc (.int .i64 (i : Int)) → nth fr 1 = encD b → nth fr 6 = .sc (.int .u32 (c : Int)) → OwnD 0 hp out (nth fr 5) → out.length = i →
    Dok out → c ≤ 1 → val out + c * 1000000000 ^ i = val (a.take i) + val (b.take i) →
    ∃ (fr' : List PV) (hp' : List Blk) (wr' : List Nat) (out' : List Nat) (c' : Nat), iterL (execC (CC L) run k plusB) (n + 1) ⟨fr, hp, wr⟩ = some (.exit 0, ⟨fr', hp', wr'⟩) ∧ fr'.length = 52 ∧ nth fr' 6 = .sc (.int .u32 (c' : Int)) ∧ OwnD 0 hp' out' (nth fr' 5) ∧ out'.length = a.length
      ∧ Dok out' ∧ c' ≤ 1 ∧ val out' + c' * 1000000000 ^ a.length = val a + val (b.take a.length)
  | 0, i, fr, hp, wr, out, c, hi, h52, h20, h21, h22, h1, h6, hO, ho, hd, hc, hv => by
    have : i = a.length := by omega
    subst this
    obtain ⟨fr', g1, g2, g3, g4⟩ := plus_end L run k fr hp wr a.length h52 h21 h22
    exact ⟨fr', hp, wr, out, c, iter_stop g1, g2, by rw [g4, h6], by rw [g3]; exact hO, ho, hd, hc, by rw [hv, List.take_length]⟩
  | n + 1, i, fr, hp, wr, out, c, hi, h52, h20, h21, h22, h1, h6, hO, ho, hd, hc, hv => by
    obtain ⟨fr1, hp1, wr1, g1, g2, g3, g4, g5, g6, g7, g8⟩ := plus_round L run k fr hp wr a b out i c _ ha hb hc (by omega) hl h52 h20 h21 h22 h1 h6 hO ho rfl
    obtain ⟨fr', hp', wr', out', c', q1, q2⟩ := plus_loop L run k a b ha hb hl n (i + 1) fr1 hp1 wr1 _ _ (by omega) g2 g3 g4 g5 g6 g7 g8 (by simp [ho]) (hd.append (Dok.nil.cons (Nat.mod_lt _ (by omega))))
      (by have := at0_ok ha i; have := at0_ok hb i; omega)
      (by
        rw [val_take_at0, val_take_at0, val_snoc, ho, Nat.pow_succ]
        exact plus_step hv rfl rfl rfl)
    exact ⟨fr', hp', wr', out', c', by rw [iter_go g1]; exact q1, q2⟩
noncomputable def plusR : Code := seq1 (seq1 (cspine 4 plusC))
theorem plus_spine : cspine 4 plusC = .seq (.seq plusR (.block 0 (.loop plusB))) (cspine 5 plusC) := rfl
theorem plus_pre1 (L : Lst) (run : Runs) (k : Nat) (a b : List Nat) (a' b' : List Nat) (hab : (b.length ≤ a.length ∧ a' = a ∧ b' = b) ∨ (a.length < b.length ∧ a' = b ∧ b' = a)) :
    ∃ fr wr, runPre (CC L) run k 2 plusC ⟨entry 52 [encD a, encD b], [], []⟩ = some ⟨fr, [], wr⟩ ∧ fr.length = 52 ∧ nth fr 0 = encD a' ∧ nth fr 1 = encD b' := by
  obtain ⟨e1, e2, e3⟩ := entry2 50 (encD a) (encD b)
  generalize entry 52 [encD a, encD b] = fr0 at *
  rcases hab with ⟨h, rfl, rfl⟩ | ⟨h, rfl, rfl⟩
  · have hn : ¬ (a'.length < b'.length) := by omega
    simp [plusC, Tryz.f246, runPre, e1, e2, e3, execC, regP, goOps, operP, valP, wantedP, isCall, calleeP, stepP, evalP, putP, addW, FP.none, binP, binInt, binI, binBool, ofVal, lenP, indexAddrP, fieldAddrP, asNat_nat, asNat_0, asNat_1, asNat_succ, asNat_add, partOf, unP, nth_setN_eq, nth_setN_ne, setN_length, CC_T, CC_P, and_assoc, lenSl_nil, lenSl_imm, lenSl_own, lenSl_encD, cells_encD, cells_agg, cells_bool, cells_int, cells_own, cells_imm, cells_nil, okCell_encD, okCell_bool, okCell_int, okCell_own, okCell_imm, okCell_nil, okCells, okCell_dg, cells_dg, beqI, bneI, le2I, uD, hn]
  · simp [plusC, Tryz.f246, runPre, e1, e2, e3, execC, regP, goOps, operP, valP, wantedP, isCall, calleeP, stepP, evalP, putP, addW, FP.none, binP, binInt, binI, binBool, ofVal, lenP, indexAddrP, fieldAddrP, asNat_nat, asNat_0, asNat_1, asNat_succ, asNat_add, partOf, unP, nth_setN_eq, nth_setN_ne, setN_length, CC_T, CC_P, and_assoc, lenSl_nil, lenSl_imm, lenSl_own, lenSl_encD, cells_encD, cells_agg, cells_bool, cells_int, cells_own, cells_imm, cells_nil, okCell_encD, okCell_bool, okCell_int, okCell_own, okCell_imm, okCell_nil, okCells, okCell_dg, cells_dg, beqI, bneI, le2I, uD, h]
theorem plus_pre2 (L : Lst) (run : Runs) (k : Nat) (a : List Nat) (fr0 : List PV) (wr0 : List Nat) (hl : a.length < 1000000) (e1 : fr0.length = 52) (e2 : nth fr0 0 = encD a) :
    ∃ fr hp wr, runPre (CC L) run k 2 (cspine 2 plusC) ⟨fr0, [], wr0⟩ = some ⟨fr, hp, wr⟩ ∧ fr.length = 52 ∧ nth fr 0 = encD a ∧ nth fr 1 = nth fr0 1 ∧ nth fr 6 = .sc (.int .u32 (0 : Nat)) ∧ OwnD 0 hp [] (nth fr 5) := by
  have hO : ∀ n, OwnD 0 [⟨.live, rep n [dg 0]⟩] [] (.own 0 1 0 0 false) := fun n => ⟨Nat.zero_le _, .inr ⟨0, List.replicate n 0, Nat.le_refl _, by simp, rfl, by rw [rep_dg]; rfl⟩⟩
  have hw := wrap_succ a.length (by omega)
  have h1 : a.length + 1 ≤ maxLenA := Nat.le_trans (show a.length + 1 ≤ 1000000 by assumption) (by decide)
  simp [plusC, cspine, Tryz.f246, runPre, e1, e2, execC, regP, goOps, operP, valP, wantedP, isCall, calleeP, stepP, evalP, putP, addW, FP.none, binP, binInt, binI, binBool, ofVal, lenP, indexAddrP, fieldAddrP, asNat_nat, asNat_0, asNat_1, asNat_succ, asNat_add, partOf, unP, nth_setN_eq, nth_setN_ne, setN_length, CC_T, CC_P, and_assoc, lenSl_nil, lenSl_imm, lenSl_own, lenSl_encD, cells_encD, cells_agg, cells_bool, cells_int, cells_own, cells_imm, cells_nil, okCell_encD, okCell_bool, okCell_int, okCell_own, okCell_imm, okCell_nil, okCells, okCell_dg, cells_dg, beqI, bneI, le2I, uD, hw, s32, b32, z32, maxBytes, h1, allocB, hO]
theorem plus_r (L : Lst) (run : Runs) (k : Nat) (fr : List PV) (hp : List Blk) (wr : List Nat) (a : List Nat) (h52 : fr.length = 52) (h0 : nth fr 0 = encD a) :
    ∃ fr', execC (CC L) run k plusR ⟨fr, hp, wr⟩ = some (.normal, ⟨fr', hp, wr⟩) ∧ fr'.length = 52 ∧ nth fr' 20 = encD a ∧ nth fr' 21 = .sc (.int .i64 (a.length : Int)) ∧ nth fr' 22 = .sc (.int .i64 (0 : Nat))
      ∧ nth fr' 1 = nth fr 1 ∧ nth fr' 6 = nth fr 6 ∧ nth fr' 5 = nth fr 5 := by
  simp [plusR, plusC, cspine, seq1, Tryz.f246, execC, regP, goOps, operP, valP, wantedP, isCall, calleeP, stepP, evalP, putP, addW, FP.none, binP, binInt, binI, binBool, ofVal, lenP, indexAddrP, fieldAddrP, asNat_nat, asNat_0, asNat_1, asNat_succ, asNat_add, partOf, unP, nth_setN_eq, nth_setN_ne, setN_length, CC_T, CC_P, and_assoc, lenSl_nil, lenSl_imm, lenSl_own, lenSl_encD, cells_encD, cells_agg, cells_bool, cells_int, cells_own, cells_imm, cells_nil, okCell_encD, okCell_bool, okCell_int, okCell_own, okCell_imm, okCell_nil, okCells, okCell_dg, cells_dg, beqI, bneI, le2I, uD, h52, h0]
theorem plus_post (L : Lst) (run : Runs) (k : Nat) (fr : List PV) (hp : List Blk) (wr : List Nat) (out : List Nat) (c : Nat) (hl : out.length < 1000000) (h52 : fr.length = 52) (h6 : nth fr 6 = .sc (.int .u32 (c : Int))) (hO : OwnD 0 hp out (nth fr 5)) :
    ∃ st p', execC (CC L) run k (cspine 5 plusC) ⟨fr, hp, wr⟩ = some (.ret, st) ∧ resP TT st.fr st.hp Tryz.f246.results.toList = some [p'] ∧ OwnD 0 st.hp (out ++ [c]) p' := by
  obtain ⟨p', hp', fp, h7, h8, h9⟩ := hO.app c (by omega)
  simp [plusC, cspine, Tryz.f246, execC, regP, goOps, operP, valP, wantedP, isCall, calleeP, stepP, evalP, putP, addW, FP.none, binP, binInt, binI, binBool, ofVal, lenP, indexAddrP, fieldAddrP, asNat_nat, asNat_0, asNat_1, asNat_succ, asNat_add, partOf, unP, nth_setN_eq, nth_setN_ne, setN_length, CC_T, CC_P, and_assoc, lenSl_nil, lenSl_imm, lenSl_own, lenSl_encD, cells_encD, cells_agg, cells_bool, cells_int, cells_own, cells_imm, cells_nil, okCell_encD, okCell_bool, okCell_int, okCell_own, okCell_imm, okCell_nil, okCells, okCell_dg, cells_dg, beqI, bneI, le2I, uD, h52, h6, s32, b32, z32, sc_dg c, hlitD, rd_dg, idf_dg, maxBytes, h7, h8, resP]
def plusF : List PV → Option (List PV)
  | [p, q] => match decD? p, decD? q with
    | some a, some b => some [encD (padD (Nat.max a.length b.length + 1) (val a + val b))]
    | _, _ => none
  | _ => none
theorem plus_spec : Ab.Spec base.P 246 plusF := Ab.Spec.of_run (C := CC []) (ccOk trivial) fun args rs h => by
  unfold plusF at h
  split at h
  · split at h
    · rename_i a b ea eb
      obtain ⟨rfl, ha, hla⟩ := decD?_some ea
      obtain ⟨rfl, hb, hlb⟩ := decD?_some eb
      simp only [Option.some.injEq] at h
      subst h
      obtain ⟨a', b', hab, hsum, hmax, ha', hb', hla', hle⟩ : ∃ a' b', ((b.length ≤ a.length ∧ a' = a ∧ b' = b) ∨ (a.length < b.length ∧ a' = b ∧ b' = a)) ∧ val a' + val b' = val a + val b ∧ a'.length = Nat.max a.length b.length ∧ Dok a' ∧ Dok b' ∧ a'.length < 1000000 ∧ b'.length ≤ a'.length := by
        by_cases hx : b.length ≤ a.length
        · exact ⟨a, b, .inl ⟨hx, rfl, rfl⟩, rfl, (Nat.max_eq_left hx).symm, ha, hb, hla, hx⟩
        · exact ⟨b, a, .inr ⟨by omega, rfl, rfl⟩, Nat.add_comm _ _, (Nat.max_eq_right (by omega)).symm, hb, ha, hlb, by omega⟩
      obtain ⟨fr0, wr0, h01, h02, h03, h04⟩ := plus_pre1 [] (runK (CC []) (a'.length + 1)) (a'.length + 1) a b a' b' hab
      obtain ⟨fr1, hp1, wr1, h1, h2, h3, h4, h5, h6⟩ := plus_pre2 [] (runK (CC []) (a'.length + 1)) (a'.length + 1) a' fr0 wr0 hla' h02 h03
      obtain ⟨fr2, g1, g2, g3, g4, g5, g6, g7, g8⟩ := plus_r [] (runK (CC []) (a'.length + 1)) (a'.length + 1) fr1 hp1 wr1 a' h2 h3
      obtain ⟨fr3, hp3, wr3, out, c, q1, q2, q3, q4, q5, q6, q7, q8⟩ := plus_loop [] (runK (CC []) (a'.length + 1)) (a'.length + 1) a' b' ha' hb' hla' a'.length 0 fr2 hp1 wr1 [] 0 (by simp) g2 g3 g4 g5 (by rw [g6, h4, h04]) (by rw [g7, h5]) (by rw [g8]; exact h6) rfl Dok.nil (by omega) (by simp [val])
      obtain ⟨st, p', e1, e2, e3⟩ := plus_post [] (runK (CC []) (a'.length + 1)) (a'.length + 1) fr3 hp3 wr3 out c (by omega) q2 q3 q4
      have hx : execC (CC []) (runK (CC []) (a'.length + 1)) (a'.length + 1) plusC ⟨entry 52 [encD a, encD b], [], []⟩ = some (.ret, st) := by
        rw [exec_spine 2 h01, exec_spine 2 h1, show cspine 2 (cspine 2 plusC) = cspine 4 plusC from rfl, plus_spine, exec_seq ((exec_seq g1).trans (exec_loop q1))]
        exact e1
      have hout : out ++ [c] = padD (Nat.max a.length b.length + 1) (val a + val b) := by
        refine (q6.append (Dok.nil.cons (by omega))).eq_pad (by simp [q5, hmax]) ?_
        rw [val_snoc, q5, ← hsum, Nat.mul_comm, q8, val_take_of_le _ _ hle]
      obtain ⟨rs2, ids, r1, r2⟩ := e3.out1
      rw [hout] at r2
      exact ⟨a'.length + 2, _, _, _, rs2, ids, body_ret F_of_plus rfl hx e2, r1, r2⟩
    · cases h
  · cases h
end Go.Proofs.YtciabmckldfofaaGreatDoor
namespace Go.Proofs.YtciabmckldfofaaGreatDoor
open Go Go.Ab
/-! minus -/
noncomputable def minusB : Code := ((Tryz.f247.body).bind loopOf).getD .skip
noncomputable def minusC : Code := Tryz.f247.body.getD .skip
theorem minus_end (L : Lst) (run : Runs) (k : Nat) (fr : List PV) (hp : List Blk) (wr : List Nat) (n : Nat) (h44 : fr.length = 44)
    (h14 : nth fr 14 = .sc (.int .i64 (n : Int))) (h15 : nth fr 15 = .sc (.int .i64 (n : Int))) :
    ∃ fr', execC (CC L) run k minusB ⟨fr, hp, wr⟩ = some (.exit 0, ⟨fr', hp, wr⟩) ∧ fr'.length = 44 ∧ nth fr' 5 = nth fr 5 := by
  simp [minusB, Tryz.f247, loopOf, execC, regP, goOps, operP, valP, wantedP, isCall, calleeP, stepP, evalP, putP, addW, FP.none, binP, binInt, binI, binBool, ofVal, lenP, indexAddrP, fieldAddrP, asNat_nat, asNat_0, asNat_1, asNat_succ, asNat_add, partOf, unP, nth_setN_eq, nth_setN_ne, setN_length, CC_T, CC_P, and_assoc, lenSl_nil, lenSl_imm, lenSl_own, lenSl_encD, cells_encD, cells_agg, cells_bool, cells_int, cells_own, cells_imm, cells_nil, okCell_encD, okCell_bool, okCell_int, okCell_own, okCell_imm, okCell_nil, okCells, okCell_dg, cells_dg, beqI, bneI, le2I, h44, h14, h15]
set_option maxHeartbeats 2000000 in
theorem minus_round (L : Lst) (run : Runs) (k : Nat) (fr : List PV) (hp : List Blk) (wr : List Nat) (a b out : List Nat) (i c c' d : Nat) (ha : Dok a) (hb : Dok b) (hc : c ≤ 1) (hi : i < a.length) (hl : a.length < 1000000)
    (h44 : fr.length = 44) (h13 : nth fr 13 = encD a) (h14 : nth fr 14 = .sc (.int .i64 (a.length : Int))) (h15 : nth fr 15 = .sc (.int .i64 (i : Int))) (h1 : nth fr 1 = encD b)
    (h6 : nth fr 6 = .sc (.int .u32 (c : Int))) (hO : OwnD 0 hp out (nth fr 5)) (ho : out.length = i) (hs : (at0 a i < c + at0 b i ∧ c' = 1 ∧ d = at0 a i + 1000000000 - (c + at0 b i)) ∨ (c + at0 b i ≤ at0 a i ∧ c' = 0 ∧ d = at0 a i - (c + at0 b i))) :
    ∃ fr' hp' wr', execC (CC L) run k minusB ⟨fr, hp, wr⟩ = some (.normal, ⟨fr', hp', wr'⟩) ∧ fr'.length = 44 ∧ nth fr' 13 = encD a ∧ nth fr' 14 = .sc (.int .i64 (a.length : Int))
      ∧ nth fr' 15 = .sc (.int .i64 ((i + 1 : Nat) : Int)) ∧ nth fr' 1 = encD b ∧ nth fr' 6 = .sc (.int .u32 (c' : Int)) ∧ OwnD 0 hp' (out ++ [d]) (nth fr' 5) := by
  have hda := head_dg a i hi
  have hax := ha.get hi
  rw [at0_lt hi] at hs
  generalize a[i] = x at *
  have e1 : encD a = .imm a.length false (a.map dg) := rfl
  have e2 : encD b = .imm b.length false (b.map dg) := rfl
  have hdx : dg x = .sc (.int .u32 (x : Int)) := rfl
  rw [e1] at h13 ⊢; rw [e2] at h1 ⊢; rw [hdx] at hda
  have hwi := wrap_succ i (by omega)
  obtain ⟨p', hp', fp, h7, h8, h9⟩ := hO.app d (ho ▸ Nat.lt_trans hi (Nat.lt_trans hl (by decide)))
  have hwx : wrapK .u32 ((x : Int) + 1000000000) = ((x + 1000000000 : Nat) : Int) := wrap_nat .u32 (x + 1000000000) (hi32 (by omega))
  have hb9 := at0_ok hb i
  obtain ⟨x2, hx2⟩ : ∃ x2, x2 = x + 1000000000 := ⟨_, rfl⟩
  rw [← hx2] at hwx hs
  by_cases hib : i < b.length
  · have hdb := head_dg b i hib
    rw [at0_lt hib] at hs hb9
    generalize b[i] = y at *
    have hdy : dg y = .sc (.int .u32 (y : Int)) := rfl
    rw [hdy] at hdb
    obtain ⟨s, hs1⟩ : ∃ s, s = c + y := ⟨_, rfl⟩
    have hw2 : wrapK .u32 ((c : Int) + (y : Int)) = (s : Int) := wrapA .u32 c y s hs1 (hi32 (by omega))
    rw [← hs1] at hs
    rcases hs with ⟨hlt, rfl, rfl⟩ | ⟨hge, rfl, rfl⟩
    · have hw4 : wrapK .u32 ((x2 : Int) - (s : Int)) = ((x2 - s : Nat) : Int) := wrapS .u32 x2 s (x2 - s) (by omega) (hi32 (by omega))
      generalize x2 - s = d at *
      simp [minusB, Tryz.f247, loopOf, execC, regP, goOps, operP, valP, wantedP, isCall, calleeP, stepP, evalP, putP, addW, FP.none, binP, binInt, binI, binBool, ofVal, lenP, indexAddrP, fieldAddrP, asNat_nat, asNat_0, asNat_1, asNat_succ, asNat_add, partOf, unP, nth_setN_eq, nth_setN_ne, setN_length, CC_T, CC_P, and_assoc, lenSl_nil, lenSl_imm, lenSl_own, lenSl_encD, cells_encD, cells_agg, cells_bool, cells_int, cells_own, cells_imm, cells_nil, okCell_encD, okCell_bool, okCell_int, okCell_own, okCell_imm, okCell_nil, okCells, okCell_dg, cells_dg, beqI, bneI, le2I, h44, h13, h14, h15, h1, h6, uD, u32, s32, b32, z32, a32, hi, hib, hda, hdb, atAddr, hw2, hlt, hwx, hw4, hwi, sc_dg d, hlitD, rd_dg, idf_dg, maxBytes, h7, h8]
    · have hw4 : wrapK .u32 ((x : Int) - (s : Int)) = ((x - s : Nat) : Int) := wrapS .u32 x s (x - s) (by omega) (hi32 (by omega))
      have hnl : ¬ (x < s) := by omega
      generalize x - s = d at *
      simp [minusB, Tryz.f247, loopOf, execC, regP, goOps, operP, valP, wantedP, isCall, calleeP, stepP, evalP, putP, addW, FP.none, binP, binInt, binI, binBool, ofVal, lenP, indexAddrP, fieldAddrP, asNat_nat, asNat_0, asNat_1, asNat_succ, asNat_add, partOf, unP, nth_setN_eq, nth_setN_ne, setN_length, CC_T, CC_P, and_assoc, lenSl_nil, lenSl_imm, lenSl_own, lenSl_encD, cells_encD, cells_agg, cells_bool, cells_int, cells_own, cells_imm, cells_nil, okCell_encD, okCell_bool, okCell_int, okCell_own, okCell_imm, okCell_nil, okCells, okCell_dg, cells_dg, beqI, bneI, le2I, h44, h13, h14, h15, h1, h6, uD, u32, s32, b32, z32, a32, hi, hib, hda, hdb, atAddr, hw2, hnl, hw4, hwi, sc_dg d, hlitD, rd_dg, idf_dg, maxBytes, h7, h8]
  · rw [at0_ge (Nat.le_of_not_lt hib)] at hs
    simp only [Nat.add_zero] at hs
    rcases hs with ⟨hlt, rfl, rfl⟩ | ⟨hge, rfl, rfl⟩
    · have hw4 : wrapK .u32 ((x2 : Int) - (c : Int)) = ((x2 - c : Nat) : Int) := wrapS .u32 x2 c (x2 - c) (by omega) (hi32 (by omega))
      generalize x2 - c = d at *
      simp [minusB, Tryz.f247, loopOf, execC, regP, goOps, operP, valP, wantedP, isCall, calleeP, stepP, evalP, putP, addW, FP.none, binP, binInt, binI, binBool, ofVal, lenP, indexAddrP, fieldAddrP, asNat_nat, asNat_0, asNat_1, asNat_succ, asNat_add, partOf, unP, nth_setN_eq, nth_setN_ne, setN_length, CC_T, CC_P, and_assoc, lenSl_nil, lenSl_imm, lenSl_own, lenSl_encD, cells_encD, cells_agg, cells_bool, cells_int, cells_own, cells_imm, cells_nil, okCell_encD, okCell_bool, okCell_int, okCell_own, okCell_imm, okCell_nil, okCells, okCell_dg, cells_dg, beqI, bneI, le2I, h44, h13, h14, h15, h1, h6, uD, u32, s32, b32, z32, a32, hi, hib, hda, atAddr, hlt, hwx, hw4, hwi, sc_dg d, hlitD, rd_dg, idf_dg, maxBytes, h7, h8]
    · have hw4 : wrapK .u32 ((x : Int) - (c : Int)) = ((x - c : Nat) : Int) := wrapS .u32 x c (x - c) (by omega) (hi32 (by omega))
      have hnl : ¬ (x < c) := by omega
      generalize x - c = d at *
      simp [minusB, Tryz.f247, loopOf, execC, regP, goOps, operP, valP, wantedP, isCall, calleeP, stepP, evalP, putP, addW, FP.none, binP, binInt, binI, binBool, ofVal, lenP, indexAddrP, fieldAddrP, asNat_nat, asNat_0, asNat_1, asNat_succ, asNat_add, partOf, unP, nth_setN_eq, nth_setN_ne, setN_length, CC_T, CC_P, and_assoc, lenSl_nil, lenSl_imm, lenSl_own, lenSl_encD, cells_encD, cells_agg, cells_bool, cells_int, cells_own, cells_imm, cells_nil, okCell_encD, okCell_bool, okCell_int, okCell_own, okCell_imm, okCell_nil, okCells, okCell_dg, cells_dg, beqI, bneI, le2I, h44, h13, h14, h15, h1, h6, uD, u32, s32, b32, z32, a32, hi, hib, hda, atAddr, hnl, hw4, hwi, sc_dg d, hlitD, rd_dg, idf_dg, maxBytes, h7, h8]
theorem minus_step {va vb vo x c c' y d P : Nat} (h : va + c * P = vo + vb) (hs : (x < c + y ∧ c' = 1 ∧ d = x + 1000000000 - (c + y)) ∨ (c + y ≤ x ∧ c' = 0 ∧ d = x - (c + y))) (hc : c + y ≤ x + 1000000000) :
    va + x * P + c' * (P * 1000000000) = vo + P * d + (vb + y * P) := by
  have e : x + c' * 1000000000 = d + c + y := by omega
  have e2 : (x + c' * 1000000000) * P = (d + c + y) * P := by rw [e]
  simp only [Nat.add_mul] at e2
  have e3 : c' * 1000000000 * P = c' * (P * 1000000000) := by grind
  have e4 : d * P = P * d := Nat.mul_comm _ _
  omega
theorem minus_loop (L : Lst) (run : Runs) (k : Nat) (a b : List Nat) (ha : Dok a) (hb : Dok b) (hl : a.length < 1000000) : ∀ (n i : Nat) (fr : List PV) (hp : List Blk) (wr : List Nat) (out : List Nat) (c : Nat), i + n = a.length →
    fr.length = 44 → nth fr 13 = encD a → nth fr 14 = .sc (.int .i64 (a.length : Int)) → nth fr 15 = .sc (.int .i64 (i : Int)) → nth fr 1 = encD b → nth fr 6 = .sc (.int .u32 (c : Int)) → OwnD 0 hp out (nth fr 5) → out.length = i →
    Dok out → c ≤ 1 → val (a.take i) + c * 1000000000 ^ i = val out + val (b.take i) →
    ∃ (fr' : List PV) (hp' : List Blk) (wr' : List Nat) (out' : List Nat) (c' : Nat), iterL (execC (CC L) run k minusB) (n + 1) ⟨fr, hp, wr⟩ = some (.exit 0, ⟨fr', hp', wr'⟩) ∧ fr'.length = 44 ∧ OwnD 0 hp' out' (nth fr' 5) ∧ out'.length = a.length
      ∧ Dok out' ∧ c' ≤ 1 ∧ val a + c' * 1000000000 ^ a.length = val out' + val (b.take a.length)
  | 0, i, fr, hp, wr, out, c, hi, h44, h13, h14, h15, h1, h6, hO, ho, hd, hc, hv => by
    have : i = a.length := by omega
    subst this
    obtain ⟨fr', g1, g2, g3⟩ := minus_end L run k fr hp wr a.length h44 h14 h15
    exact ⟨fr', hp, wr, out, c, iter_stop g1, g2, by rw [g3]; exact hO, ho, hd, hc, by rw [← hv, List.take_length]⟩
  | n + 1, i, fr, hp, wr, out, c, hi, h44, h13, h14, h15, h1, h6, hO, ho, hd, hc, hv => by
    have hx := at0_ok ha i
    have hy := at0_ok hb i
    obtain ⟨c', d, hs, hc', hdd⟩ : ∃ c' d, ((at0 a i < c + at0 b i ∧ c' = 1 ∧ d = at0 a i + 1000000000 - (c + at0 b i)) ∨ (c + at0 b i ≤ at0 a i ∧ c' = 0 ∧ d = at0 a i - (c + at0 b i))) ∧ c' ≤ 1 ∧ d < 1000000000 := by
      by_cases h : at0 a i < c + at0 b i
      · exact ⟨1, _, .inl ⟨h, rfl, rfl⟩, by omega, by omega⟩
      · exact ⟨0, _, .inr ⟨by omega, rfl, rfl⟩, by omega, by omega⟩
    obtain ⟨fr1, hp1, wr1, g1, g2, g3, g4, g5, g6, g7, g8⟩ := minus_round L run k fr hp wr a b out i c c' d ha hb hc (by omega) hl h44 h13 h14 h15 h1 h6 hO ho hs
    obtain ⟨fr', hp', wr', out', c2, q1, q2⟩ := minus_loop L run k a b ha hb hl n (i + 1) fr1 hp1 wr1 _ _ (by omega) g2 g3 g4 g5 g6 g7 g8 (by simp [ho]) (hd.append (Dok.nil.cons hdd)) hc'
      (by
        rw [val_take_at0, val_take_at0, val_snoc, ho, Nat.pow_succ]
        exact minus_step hv hs (by omega))
    exact ⟨fr', hp', wr', out', c2, by rw [iter_go g1]; exact q1, q2⟩
noncomputable def minusR : Code := seq1 (seq1 (cspine 3 minusC))
theorem minus_spine : cspine 3 minusC = .seq (.seq minusR (.block 0 (.loop minusB))) (cspine 4 minusC) := rfl
theorem minus_pre (L : Lst) (run : Runs) (k : Nat) (a b : List Nat) (hl : a.length < 1000000) (hne : a ≠ []) :
    ∃ fr hp wr, runPre (CC L) run k 3 minusC ⟨entry 44 [encD a, encD b], [], []⟩ = some ⟨fr, hp, wr⟩ ∧ fr.length = 44 ∧ nth fr 0 = encD a ∧ nth fr 1 = encD b ∧ nth fr 6 = .sc (.int .u32 (0 : Nat)) ∧ OwnD 0 hp [] (nth fr 5) := by
  obtain ⟨e1, e2, e3⟩ := entry2 42 (encD a) (encD b)
  generalize entry 44 [encD a, encD b] = fr0 at *
  have hO : ∀ n, OwnD 0 [⟨.live, rep n [dg 0]⟩] [] (.own 0 1 0 0 false) := fun n => ⟨Nat.zero_le _, .inr ⟨0, List.replicate n 0, Nat.le_refl _, by simp, rfl, by rw [rep_dg]; rfl⟩⟩
  have h1 : a.length ≤ maxLenA := Nat.le_trans (Nat.le_of_lt hl) (by decide)
  have h2 : (0 == a.length) = false := by
    have := List.length_pos_iff.2 hne
    simp; omega
  simp [minusC, Tryz.f247, runPre, e1, e2, e3, execC, regP, goOps, operP, valP, wantedP, isCall, calleeP, stepP, evalP, putP, addW, FP.none, binP, binInt, binI, binBool, ofVal, lenP, indexAddrP, fieldAddrP, asNat_nat, asNat_0, asNat_1, asNat_succ, asNat_add, partOf, unP, nth_setN_eq, nth_setN_ne, setN_length, CC_T, CC_P, and_assoc, lenSl_nil, lenSl_imm, lenSl_own, lenSl_encD, cells_encD, cells_agg, cells_bool, cells_int, cells_own, cells_imm, cells_nil, okCell_encD, okCell_bool, okCell_int, okCell_own, okCell_imm, okCell_nil, okCells, okCell_dg, cells_dg, beqI, bneI, le2I, uD, s32, b32, z32, maxBytes, h1, h2, allocB, hO]
theorem minus_r (L : Lst) (run : Runs) (k : Nat) (fr : List PV) (hp : List Blk) (wr : List Nat) (a : List Nat) (h44 : fr.length = 44) (h0 : nth fr 0 = encD a) :
    ∃ fr', execC (CC L) run k minusR ⟨fr, hp, wr⟩ = some (.normal, ⟨fr', hp, wr⟩) ∧ fr'.length = 44 ∧ nth fr' 13 = encD a ∧ nth fr' 14 = .sc (.int .i64 (a.length : Int)) ∧ nth fr' 15 = .sc (.int .i64 (0 : Nat))
      ∧ nth fr' 1 = nth fr 1 ∧ nth fr' 6 = nth fr 6 ∧ nth fr' 5 = nth fr 5 := by
  simp [minusR, minusC, cspine, seq1, Tryz.f247, execC, regP, goOps, operP, valP, wantedP, isCall, calleeP, stepP, evalP, putP, addW, FP.none, binP, binInt, binI, binBool, ofVal, lenP, indexAddrP, fieldAddrP, asNat_nat, asNat_0, asNat_1, asNat_succ, asNat_add, partOf, unP, nth_setN_eq, nth_setN_ne, setN_length, CC_T, CC_P, and_assoc, lenSl_nil, lenSl_imm, lenSl_own, lenSl_encD, cells_encD, cells_agg, cells_bool, cells_int, cells_own, cells_imm, cells_nil, okCell_encD, okCell_bool, okCell_int, okCell_own, okCell_imm, okCell_nil, okCells, okCell_dg, cells_dg, beqI, bneI, le2I, uD, h44, h0]
theorem minus_post (L : Lst) (run : Runs) (k : Nat) (fr : List PV) (hp : List Blk) (wr : List Nat) (h44 : fr.length = 44) :
    ∃ st, execC (CC L) run k (cspine 4 minusC) ⟨fr, hp, wr⟩ = some (.ret, st) ∧ resP TT st.fr st.hp Tryz.f247.results.toList = some [nth fr 5] ∧ st.hp = hp := by
  simp [minusC, cspine, Tryz.f247, execC, regP, goOps, operP, valP, wantedP, isCall, calleeP, stepP, evalP, putP, addW, FP.none, binP, binInt, binI, binBool, ofVal, lenP, indexAddrP, fieldAddrP, asNat_nat, asNat_0, asNat_1, asNat_succ, asNat_add, partOf, unP, nth_setN_eq, nth_setN_ne, setN_length, CC_T, CC_P, and_assoc, lenSl_nil, lenSl_imm, lenSl_own, lenSl_encD, cells_encD, cells_agg, cells_bool, cells_int, cells_own, cells_imm, cells_nil, okCell_encD, okCell_bool, okCell_int, okCell_own, okCell_imm, okCell_nil, okCells, okCell_dg, cells_dg, beqI, bneI, le2I, h44, resP]
def minusF : List PV → Option (List PV)
  | [p, q] => match decD? p, decD? q with
    | some a, some b => bif Nat.ble (val b) (val a) && Nat.ble b.length a.length && !(a.length.beq 0) then some [encD (padD a.length (val a - val b))] else none
    | _, _ => none
  | _ => none
theorem minus_spec : Ab.Spec base.P 247 minusF := Ab.Spec.of_run (C := CC []) (ccOk trivial) fun args rs h => by
  unfold minusF at h
  split at h
  · split at h
    · rename_i a b ea eb
      obtain ⟨rfl, ha, hla⟩ := decD?_some ea
      obtain ⟨rfl, hb, hlb⟩ := decD?_some eb
      cases hc : Nat.ble (val b) (val a) && Nat.ble b.length a.length && !(a.length.beq 0) with
      | false => rw [hc] at h; cases h
      | true =>
        rw [hc] at h
        simp only [cond_true, Option.some.injEq] at h
        subst h
        simp only [Bool.and_eq_true, Nat.ble_eq, Bool.not_eq_true'] at hc
        obtain ⟨⟨hle, hlen⟩, hne⟩ := hc
        have hne' : a ≠ [] := by intro e; subst e; simp at hne
        obtain ⟨fr1, hp1, wr1, h1, h2, h3, h4, h5, h6⟩ := minus_pre [] (runK (CC []) (a.length + 1)) (a.length + 1) a b hla hne'
        obtain ⟨fr2, g1, g2, g3, g4, g5, g6, g7, g8⟩ := minus_r [] (runK (CC []) (a.length + 1)) (a.length + 1) fr1 hp1 wr1 a h2 h3
        obtain ⟨fr3, hp3, wr3, out, c, q1, q2, q3, q4, q5, q6, q7⟩ := minus_loop [] (runK (CC []) (a.length + 1)) (a.length + 1) a b ha hb hla a.length 0 fr2 hp1 wr1 [] 0 (by simp) g2 g3 g4 g5 (by rw [g6, h4]) (by rw [g7, h5]) (by rw [g8]; exact h6) rfl Dok.nil (by omega) (by simp [val])
        obtain ⟨st, e1, e2, e3⟩ := minus_post [] (runK (CC []) (a.length + 1)) (a.length + 1) fr3 hp3 wr3 q2
        have hx : execC (CC []) (runK (CC []) (a.length + 1)) (a.length + 1) minusC ⟨entry 44 [encD a, encD b], [], []⟩ = some (.ret, st) := by
          rw [exec_spine 3 h1, minus_spine, exec_seq ((exec_seq g1).trans (exec_loop q1))]
          exact e1
        have hout : out = padD a.length (val a - val b) := by
          refine q5.eq_pad q4 ?_
          rw [val_take_of_le _ _ hlen] at q7
          have hb1 := val_lt q5
          rw [q4] at hb1
          have : c = 0 ∨ c = 1 := by omega
          rcases this with rfl | rfl <;> omega
        obtain ⟨rs2, ids, r1, r2⟩ := q3.out1
        rw [hout] at r2
        rw [← e3] at r1
        exact ⟨a.length + 2, _, _, _, rs2, ids, body_ret F_of_minus rfl hx e2, r1, r2⟩
    · cases h
  · cases h
end Go.Proofs.YtciabmckldfofaaGreatDoor
