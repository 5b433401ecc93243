/- Contracts of IndexByte, Repeat and of Ratio's functions. -/
import Derived.Test.YtciabmckldfofaaGreatDoorNumD
import Derived.Test.YtciabmckldfofaaGreatDoorLib
set_option linter.unusedSimpArgs false
set_option linter.unusedVariables false
namespace Go.Proofs.YtciabmckldfofaaGreatDoor
open Go Go.Ab Go.RowKit
/-! functions of the library -/
theorem base_P : base.P = Tryz.prog := rfl
theorem spec_enter {P : Program} {g : FuncId} {f : List PV → Option (List PV)} (he : ∀ (args : Array Value) (w : World), (callFunc g args).run P w = .ok (.enter g args) w)
    (h : ∀ args rs, f args = some rs → idfreeL rs = true ∧ ∀ (w : World) (M : Nat → Prop) (vs : List Value), Vs w M [] NoL args vs →
      ∃ post : Ending → World → Prop, Calls P g vs.toArray w post ∧ ∀ e w', post e w' → ∃ us, e = .returned (retV us) ∧ Vs w' M [] NoL rs us ∧ Old w w') : Ab.Spec P g f := by
  intro args rs hf hi
  obtain ⟨h1, h2⟩ := h args rs hf
  refine ⟨h1, fun w M vs hM hvs => ?_⟩
  obtain ⟨post, h3, h4⟩ := h2 w M vs hvs
  unfold CallOk
  rw [he]
  refine h3.mono fun e w' hh => ?_
  obtain ⟨us, h5, h6⟩ := h4 e w' hh
  exact ⟨_, h5, us, rfl, h6⟩
theorem Old.refl (w : World) : Old w w := ⟨rfl, rfl, rfl, Nat.le_refl _, fun _ _ => rfl⟩
theorem Old.below {w w' : World} (h : Below w.heap.size w w') : Old w w' := ⟨h.os, h.tape, h.output, h.size, h.block⟩
theorem vs2 {w : World} {M : Nat → Prop} {a b : Value} {vs : List Value} (h : Vs w M [] NoL [.sc a, .sc b] vs) : vs = [a, b] := by
  obtain ⟨h1, h2⟩ := h
  match vs, h1 with
  | [u, v], _ =>
    have e1 := h2 0 _ u rfl rfl
    have e2 := h2 1 _ v rfl rfl
    cases e1; cases e2; rfl
theorem vs_sc (w : World) (M : Nat → Prop) (a : Value) : Vs w M [] NoL [.sc a] [a] := ⟨rfl, fun k p v h1 h2 => by
  cases k with
  | zero => simp at h1 h2; subst h1; subst h2; exact .sc _
  | succ k => simp at h1⟩
def ibF : List PV → Option (List PV)
  | [.sc (.string s), .sc (.int .u8 c)] => some [.sc (.int .i64 (Lib.indexByte (strL s) c.toNat.toUInt8))]
  | _ => none
theorem ib_spec : Ab.Spec base.P 311 ibF := spec_enter (P := Tryz.prog) Tryz.call311 fun args rs h => by
  unfold ibF at h
  split at h
  · rename_i s c
    simp only [Option.some.injEq] at h
    subst h
    refine ⟨rfl, fun w M vs hvs => ?_⟩
    rw [vs2 hvs]
    refine ⟨_, Tryz.stringslite_IndexByte s c w, ?_⟩
    rintro e w' ⟨rfl, rfl⟩
    exact ⟨[_], rfl, vs_sc _ M _, Old.refl _⟩
  · cases h
def repF : List PV → Option (List PV)
  | [.sc (.string s), .sc (.int .i64 (.ofNat c))] => bif ((strL s).length * c).ble 100000000 && c.ble 100000000 then some [.sc (.string (mkStr (Lib.repeatL (strL s) c)))] else none
  | _ => none
theorem rep_spec : Ab.Spec base.P 28 repF := spec_enter (P := Tryz.prog) Tryz.call28 fun args rs h => by
  unfold repF at h
  split at h
  · rename_i s c
    cases hb : ((strL s).length * c).ble 100000000 && c.ble 100000000 with
    | false => rw [hb] at h; cases h
    | true =>
      rw [hb] at h
      simp only [cond_true, Option.some.injEq] at h
      subst h
      simp only [Bool.and_eq_true, Nat.ble_eq] at hb
      refine ⟨rfl, fun w M vs hvs => ?_⟩
      rw [vs2 hvs]
      refine ⟨_, Tryz.strings_Repeat s c w (by omega) (by rw [← strL_length]; omega), ?_⟩
      rintro e w' ⟨rfl, hw⟩
      exact ⟨[_], rfl, vs_sc _ M _, Old.below hw⟩
  · cases h
end Go.Proofs.YtciabmckldfofaaGreatDoor
namespace Go.Proofs.YtciabmckldfofaaGreatDoor
open Go Go.Ab
/-! rational numbers -/
def rf0 : Field := { name := "n", type := 133, offset := 0, embedded := false, tag := "", pkgPath := "torus/num", byteOffset := 0 }
def rf1 : Field := { name := "d", type := 133, offset := 2, embedded := false, tag := "", pkgPath := "torus/num", byteOffset := 32 }
theorem uR : und TT 135 = some (.struct #[rf0, rf1]) := by kernel_rfl
theorem sR : sizeT TT 135 = some 4 := by kernel_rfl
theorem aR : isAggT TT 135 = some true := by kernel_rfl
theorem zR : zeroT TT 135 = some [.sc (.bool false), .sc (.slice none 0 0), .sc (.bool false), .sc (.slice none 0 0)] := by kernel_rfl
theorem F_of_Den : base.F.get 153 = some Tryz.f153 := by kernel_rfl
theorem F_of_Over : base.F.get 175 = some Tryz.f175 := by kernel_rfl
theorem F_of_RAdd : base.F.get 111 = some Tryz.f111 := by kernel_rfl
theorem F_of_RSub : base.F.get 110 = some Tryz.f110 := by kernel_rfl
theorem F_of_RMul : base.F.get 112 = some Tryz.f112 := by kernel_rfl
theorem F_of_RNeg : base.F.get 174 = some Tryz.f174 := by kernel_rfl
theorem sh_Den : base.shared 153 = false := by kernel_rfl
theorem sh_Over : base.shared 175 = false := by kernel_rfl
theorem sh_RAdd : base.shared 111 = false := by kernel_rfl
theorem sh_RNeg : base.shared 174 = false := by kernel_rfl
def encR (n d : Int) : PV := .agg [.sc (.bool (negB n)), encD (digs n.natAbs), .sc (.bool (negB d)), encD (digs d.natAbs)]
def decR? : PV → Option (Int × Int)
  | .agg [a, b, c, d] => match decW? (.agg [a, b]), decW? (.agg [c, d]) with
    | some n, some m => some (n, m)
    | _, _ => none
  | _ => none
theorem decR?_some {p : PV} {n d : Int} (h : decR? p = some (n, d)) : p = encR n d ∧ Sm n ∧ Sm d := by
  unfold decR? at h
  split at h
  · split at h
    · rename_i n' m' e1 e2
      simp only [Option.some.injEq, Prod.mk.injEq] at h
      obtain ⟨rfl, rfl⟩ := h
      obtain ⟨h1, h2⟩ := decW?_sm e1
      obtain ⟨h3, h4⟩ := decW?_sm e2
      refine ⟨?_, h2, h4⟩
      simp only [whW, PV.agg.injEq, List.cons.injEq, and_true] at h1 h3
      obtain ⟨rfl, rfl⟩ := h1
      obtain ⟨rfl, rfl⟩ := h3
      rfl
    · cases h
  · cases h
theorem decR?_of {n d : Int} (h1 : Sm n) (h2 : Sm d) : decR? (encR n d) = some (n, d) := by
  have e1 := decW?_of h1
  have e2 := decW?_of h2
  rw [whW] at e1 e2
  simp only [decR?, encR, e1, e2]
theorem canon_R (n d : Int) : canon (encR n d) = encR n d := by simp only [encR, canon, canonL, canon_encD]
theorem out_R (hp : List Blk) (n d : Int) : mapIds (snap hp snapDepth) [encR n d] = some ([encR n d], []) := rfl
/-! Den -/
noncomputable def L9 : Lst := [(172, signF), (167, ofF), (244, negF), (173, gcdF), (245, divF)]
theorem L9_ok : SpecL base.P L9 := ⟨sign_spec, of_spec, neg_spec, gcd_spec, div_spec, trivial⟩
theorem o9_sign : orcOf L9 172 = fun a => signF (canonL a) := rfl
theorem o9_of : orcOf L9 167 = fun a => ofF (canonL a) := rfl
theorem o9_neg : orcOf L9 244 = fun a => negF (canonL a) := rfl
theorem o9_gcd : orcOf L9 173 = fun a => gcdF (canonL a) := rfl
theorem o9_div : orcOf L9 245 = fun a => divF (canonL a) := rfl
theorem call9_sign (run : Runs) (dr : Bool) (hp : List Blk) (x : Int) (hx : Sm x) : callP (CC L9) run dr hp 172 [encW x] = some (Ab.encI x.sign, hp, ⟨[], [], false, false⟩) :=
  call_of sh_Sign o9_sign run dr hp _ [Ab.encI x.sign] (args_W hp x) (canon_W x) (by simp only [signF, decW?_of hx])
theorem call9_of (run : Runs) (dr : Bool) (hp : List Blk) : callP (CC L9) run dr hp 167 [.sc (.int .i64 1)] = some (encW 1, hp, ⟨[], [], false, false⟩) :=
  call_of sh_Of o9_of run dr hp _ [encW 1] rfl rfl rfl
theorem call9_neg (run : Runs) (dr : Bool) (hp : List Blk) (x : Int) (hx : Sm x) : callP (CC L9) run dr hp 244 [encW x] = some (encW (-x), hp, ⟨[], [], false, false⟩) :=
  call_of sh_Neg o9_neg run dr hp _ [encW (-x)] (args_W hp x) (canon_W x) (by simp only [negF, decW?_of hx])
theorem call9_gcd (run : Runs) (dr : Bool) (hp : List Blk) (x y : Int) (hx : Sm x) (hy : Sm y) (h : gcdP x.natAbs y.natAbs = true) :
    callP (CC L9) run dr hp 173 [encW x, encW y] = some (encW (Int.ofNat (Nat.gcd x.natAbs y.natAbs)), hp, ⟨[], [], false, false⟩) :=
  call_of sh_Gcd o9_gcd run dr hp _ [encW (Int.ofNat (Nat.gcd x.natAbs y.natAbs))] (args_WW hp x y) (canon_WW x y) (by simp only [gcdF, decW?_of hx, decW?_of hy, h, cond_true])
theorem call9_div (run : Runs) (dr : Bool) (hp : List Blk) (x y : Int) (hx : Sm x) (hy : Sm y) (h0 : y.natAbs ≠ 0) (h : y.natAbs < 1000000000) :
    callP (CC L9) run dr hp 245 [encW x, encW y] = some (.tup [encW (divQ x y), encW (divR x y)], hp, ⟨[], [], false, false⟩) :=
  call_of sh_DivMod o9_div run dr hp _ [encW (divQ x y), encW (divR x y)] (args_WW hp x y) (canon_WW x y) (by
    have h1 : y.natAbs.blt 1000000000 = true := by rw [Nat.blt_eq]; exact h
    have h2 : y.natAbs.beq 0 = false := by
      cases e : y.natAbs with
      | zero => exact absurd e h0
      | succ n => rfl
    simp only [divF, decW?_of hx, decW?_of hy, h1, h2, Bool.not_false, Bool.or_true, Bool.and_self, cond_true])
theorem den_exec (run : Runs) (k : Nat) (n d : Int) (hd : Sm d) :
    ∃ st, execC (CC L9) run k (Tryz.f153.body.getD .skip) ⟨entry 10 [encR n d], [], []⟩ = some (.ret, st) ∧ resP TT st.fr st.hp Tryz.f153.results.toList = some [encW (if d = 0 then 1 else d)] := by
  have hc1 := fun dr hp => call9_sign run dr hp d hd
  have hc2 := fun dr hp => call9_of run dr hp
  obtain ⟨e1, e2⟩ := entry1 9 (encR n d)
  generalize entry 10 [encR n d] = fr0 at *
  unfold encR at e2
  by_cases h0 : d = 0
  · rw [if_pos h0]
    have hs : d.sign = 0 := by rw [h0]; rfl
    rw [hs] at hc1
    simp only [whW, Ab.encI] at hc1 hc2 ⊢
    generalize digs n.natAbs = rn at *
    generalize digs d.natAbs = rd at *
    generalize negB n = nn at *
    generalize negB d = nd at *
    simp [Tryz.f153, e1, e2, execC, regP, goOps, operP, valP, wantedP, isCall, calleeP, stepP, evalP, putP, addW, FP.none, binP, binInt, binI, binBool, ofVal, lenP, indexAddrP, fieldAddrP, asNat_nat, asNat_0, asNat_1, asNat_succ, asNat_add, partOf, unP, nth_setN_eq, nth_setN_ne, setN_length, CC_T, CC_P, and_assoc, lenSl_nil, lenSl_imm, lenSl_own, lenSl_encD, cells_encD, cells_agg, cells_bool, cells_int, cells_own, cells_imm, cells_nil, okCell_encD, okCell_bool, okCell_int, okCell_own, okCell_imm, okCell_nil, okCells, okCell_dg, cells_dg, beqI, bneI, le2I, hc1, hc2, uR, uW, sR, sW, aR, aW, zW, rf0, rf1, allocB, atAddr, nthB, setB, over?, takeN?, dropN, resP]
  · rw [if_neg h0]
    have hs : (d.sign == 0) = false := by
      rw [beq_eq_false_iff_ne]
      intro h; exact h0 (Int.sign_eq_zero_iff_zero.1 h)
    have hs' : ¬ d = 0 := h0
    generalize d.sign = sg at *
    simp only [whW, Ab.encI] at hc1 ⊢
    generalize digs n.natAbs = rn at *
    generalize digs d.natAbs = rd at *
    generalize negB n = nn at *
    generalize negB d = nd at *
    simp [Tryz.f153, e1, e2, execC, regP, goOps, operP, valP, wantedP, isCall, calleeP, stepP, evalP, putP, addW, FP.none, binP, binInt, binI, binBool, ofVal, lenP, indexAddrP, fieldAddrP, asNat_nat, asNat_0, asNat_1, asNat_succ, asNat_add, partOf, unP, nth_setN_eq, nth_setN_ne, setN_length, CC_T, CC_P, and_assoc, lenSl_nil, lenSl_imm, lenSl_own, lenSl_encD, cells_encD, cells_agg, cells_bool, cells_int, cells_own, cells_imm, cells_nil, okCell_encD, okCell_bool, okCell_int, okCell_own, okCell_imm, okCell_nil, okCells, okCell_dg, cells_dg, beqI, bneI, le2I, hc1, hs, uR, uW, sR, sW, aR, aW, zW, rf0, rf1, allocB, atAddr, nthB, setB, over?, takeN?, dropN, resP]
def denI (d : Int) : Int := if d = 0 then 1 else d
def denF : List PV → Option (List PV)
  | [p] => match decR? p with
    | some (_, d) => some [encW (denI d)]
    | none => none
  | _ => none
theorem den_spec : Ab.Spec base.P 153 denF := Ab.Spec.of_run (C := CC L9) (ccOk L9_ok) fun args rs h => by
  unfold denF at h
  split at h
  · split at h
    · rename_i n d e
      obtain ⟨rfl, -, hd⟩ := decR?_some e
      simp only [Option.some.injEq] at h
      subst h
      obtain ⟨st, e1, e2⟩ := den_exec (runK (CC L9) 1) 1 n d hd
      exact ⟨2, _, _, _, _, _, body_ret F_of_Den rfl e1 e2, out_encW _ _, Wk.refl rfl, trivial⟩
    · cases h
  · cases h
/-! Over -/
noncomputable def overC : Code := Tryz.f175.body.getD .skip
noncomputable def overR1 : Code := seq1 (cspine 1 overC)
theorem over_b1 : ((Region.before (regOps (seq2 overR1)))[4]?.getD 0).testBit 0 = true := by kernel_rfl
theorem over_b2 : ((Region.before (regOps (seq2 overR1)))[5]?.getD 0).testBit 2 = true := by kernel_rfl
abbrev zR4 : Blk := ⟨.live, [.sc (.bool false), .sc (.slice none 0 0), .sc (.bool false), .sc (.slice none 0 0)]⟩
abbrev bW (x : Int) : Blk := ⟨.live, [.sc (.bool (negB x)), encD (digs x.natAbs)]⟩
theorem over_spine : cspine 1 overC = .seq overR1 (cspine 2 overC) := rfl
theorem over_pre (run : Runs) (k : Nat) (x y : Int) :
    ∃ fr wr, runPre (CC L9) run k 1 overC ⟨entry 42 [encW x, encW y], [], []⟩ = some ⟨fr, [bW x, bW y, zR4], wr⟩ ∧ fr.length = 42 ∧ nth fr 2 = .ptr 0 0 ∧ nth fr 3 = .ptr 1 0 ∧ nth fr 4 = .ptr 2 0 := by
  obtain ⟨e1, e2, e3⟩ := entry2 40 (encW x) (encW y)
  generalize entry 42 [encW x, encW y] = fr0 at *
  rw [whW] at e2 e3
  simp [overC, Tryz.f175, runPre, e1, e2, e3, execC, regP, goOps, operP, valP, wantedP, isCall, calleeP, stepP, evalP, putP, addW, FP.none, binP, binInt, binI, binBool, ofVal, lenP, indexAddrP, fieldAddrP, asNat_nat, asNat_0, asNat_1, asNat_succ, asNat_add, partOf, unP, nth_setN_eq, nth_setN_ne, setN_length, CC_T, CC_P, and_assoc, lenSl_nil, lenSl_imm, lenSl_own, lenSl_encD, cells_encD, cells_agg, cells_bool, cells_int, cells_own, cells_imm, cells_nil, okCell_encD, okCell_bool, okCell_int, okCell_own, okCell_imm, okCell_nil, okCells, okCell_dg, cells_dg, beqI, bneI, le2I, zR, allocB]
theorem over_r1a (run : Runs) (k : Nat) (fr : List PV) (wr : List Nat) (x y : Int) (hy : Sm y) (h0 : ¬ (y < 0)) (h42 : fr.length = 42) (h2 : nth fr 2 = .ptr 0 0) (h3 : nth fr 3 = .ptr 1 0) (h4 : nth fr 4 = .ptr 2 0) :
    ∃ fr' wr', execC (CC L9) run k overR1 ⟨fr, [bW x, bW y, zR4], wr⟩ = some (.normal, ⟨fr', [bW x, bW y, zR4], wr'⟩) ∧ fr'.length = 42 ∧ nth fr' 2 = .ptr 0 0 ∧ nth fr' 3 = .ptr 1 0 ∧ nth fr' 4 = .ptr 2 0 := by
  have hc1 := fun dr hp => call9_sign run dr hp y hy
  have hs : ¬ (y.sign < 0) := by
    intro h
    have := Int.sign_neg_iff.1 h
    omega
  generalize y.sign = sg at *
  simp only [whW, Ab.encI] at hc1 ⊢
  simp [overR1, overC, Tryz.f175, seq1, cspine, execC, regP, goOps, operP, valP, wantedP, isCall, calleeP, stepP, evalP, putP, addW, FP.none, binP, binInt, binI, binBool, ofVal, lenP, indexAddrP, fieldAddrP, asNat_nat, asNat_0, asNat_1, asNat_succ, asNat_add, partOf, unP, nth_setN_eq, nth_setN_ne, setN_length, CC_T, CC_P, and_assoc, lenSl_nil, lenSl_imm, lenSl_own, lenSl_encD, cells_encD, cells_agg, cells_bool, cells_int, cells_own, cells_imm, cells_nil, okCell_encD, okCell_bool, okCell_int, okCell_own, okCell_imm, okCell_nil, okCells, okCell_dg, cells_dg, beqI, bneI, le2I, hc1, hs, h42, h2, h3, h4, sW, aW, atAddr, nthB, takeN?, dropN]
theorem over_r1b (run : Runs) (k : Nat) (fr : List PV) (wr : List Nat) (x y : Int) (hx : Sm x) (hy : Sm y) (h0 : y < 0) (h42 : fr.length = 42) (h2 : nth fr 2 = .ptr 0 0) (h3 : nth fr 3 = .ptr 1 0) (h4 : nth fr 4 = .ptr 2 0) :
    ∃ fr' wr', execC (CC L9) run k overR1 ⟨fr, [bW x, bW y, zR4], wr⟩ = some (.normal, ⟨fr', [bW (-x), bW (-y), zR4], wr'⟩) ∧ fr'.length = 42 ∧ nth fr' 2 = .ptr 0 0 ∧ nth fr' 3 = .ptr 1 0 ∧ nth fr' 4 = .ptr 2 0 := by
  have hc1 := fun dr hp => call9_sign run dr hp y hy
  have hc2 := fun dr hp => call9_neg run dr hp x hx
  have hc3 := fun dr hp => call9_neg run dr hp y hy
  have hs : y.sign < 0 := Int.sign_neg_iff.2 h0
  generalize y.sign = sg at *
  have hb1 := over_b1
  have hb2 := over_b2
  simp only [overR1, overC, Tryz.f175, seq1, seq2, cspine, regOps, Option.getD_some] at hb1 hb2
  simp only [bW, whW, Ab.encI] at hc1 hc2 hc3 ⊢
  generalize digs (-x).natAbs = r1 at *
  generalize negB (-x) = n1 at *
  generalize digs (-y).natAbs = r2 at *
  generalize negB (-y) = n2 at *
  simp [-Nat.testBit_zero, hb1, hb2, overR1, overC, Tryz.f175, seq1, cspine, execC, regP, goOps, operP, valP, wantedP, isCall, calleeP, stepP, evalP, putP, addW, FP.none, binP, binInt, binI, binBool, ofVal, lenP, indexAddrP, fieldAddrP, asNat_nat, asNat_0, asNat_1, asNat_succ, asNat_add, partOf, unP, nth_setN_eq, nth_setN_ne, setN_length, CC_T, CC_P, and_assoc, lenSl_nil, lenSl_imm, lenSl_own, lenSl_encD, cells_encD, cells_agg, cells_bool, cells_int, cells_own, cells_imm, cells_nil, okCell_encD, okCell_bool, okCell_int, okCell_own, okCell_imm, okCell_nil, okCells, okCell_dg, cells_dg, beqI, bneI, le2I, hc1, hc2, hc3, hs, h42, h2, h3, h4, sW, aW, atAddr, nthB, setB, over?, takeN?, dropN, number, FP.free, pairsOk, FP.apart]
noncomputable def overR3 : Code := seq1 (cspine 2 overC)
noncomputable def overR4 : Code := seq1 (cspine 3 overC)
theorem over_spine2 : cspine 2 overC = .seq overR3 (cspine 3 overC) := rfl
theorem over_spine3 : cspine 3 overC = .seq overR4 (cspine 4 overC) := rfl
theorem over_r3 (run : Runs) (k : Nat) (fr : List PV) (wr : List Nat) (x y : Int) (hx : Sm x) (hy : Sm y) (hg : gcdP x.natAbs y.natAbs = true) (h42 : fr.length = 42) (h2 : nth fr 2 = .ptr 0 0) (h3 : nth fr 3 = .ptr 1 0) (h4 : nth fr 4 = .ptr 2 0) :
    ∃ fr' wr', execC (CC L9) run k overR3 ⟨fr, [bW x, bW y, zR4], wr⟩ = some (.normal, ⟨fr', [bW x, bW y, zR4, bW (Int.ofNat (Nat.gcd x.natAbs y.natAbs))], wr'⟩) ∧ fr'.length = 42 ∧ nth fr' 2 = .ptr 0 0 ∧ nth fr' 3 = .ptr 1 0 ∧ nth fr' 4 = .ptr 2 0 ∧ nth fr' 5 = .ptr 3 0 := by
  have hc1 := fun dr hp => call9_gcd run dr hp x y hx hy hg
  generalize Int.ofNat (Nat.gcd x.natAbs y.natAbs) = g at *
  simp only [bW, whW] at hc1 ⊢
  generalize digs g.natAbs = rg at *
  generalize negB g = ng at *
  simp [overR3, overC, Tryz.f175, seq1, cspine, execC, regP, goOps, operP, valP, wantedP, isCall, calleeP, stepP, evalP, putP, addW, FP.none, binP, binInt, binI, binBool, ofVal, lenP, indexAddrP, fieldAddrP, asNat_nat, asNat_0, asNat_1, asNat_succ, asNat_add, partOf, unP, nth_setN_eq, nth_setN_ne, setN_length, CC_T, CC_P, and_assoc, lenSl_nil, lenSl_imm, lenSl_own, lenSl_encD, cells_encD, cells_agg, cells_bool, cells_int, cells_own, cells_imm, cells_nil, okCell_encD, okCell_bool, okCell_int, okCell_own, okCell_imm, okCell_nil, okCells, okCell_dg, cells_dg, beqI, bneI, le2I, hc1, h42, h2, h3, h4, sW, aW, zW, allocB, atAddr, nthB, setB, over?, takeN?, dropN]
theorem over_r4a (run : Runs) (k : Nat) (fr : List PV) (wr : List Nat) (b0 b1 b2 : Blk) (h42 : fr.length = 42) (h2 : nth fr 2 = .ptr 0 0) (h3 : nth fr 3 = .ptr 1 0) (h4 : nth fr 4 = .ptr 2 0) (h5 : nth fr 5 = .ptr 3 0) :
    ∃ fr' wr', execC (CC L9) run k overR4 ⟨fr, [b0, b1, b2, bW 1], wr⟩ = some (.normal, ⟨fr', [b0, b1, b2, bW 1], wr'⟩) ∧ fr'.length = 42 ∧ nth fr' 2 = .ptr 0 0 ∧ nth fr' 3 = .ptr 1 0 ∧ nth fr' 4 = .ptr 2 0 := by
  have e : encD (digs (1 : Int).natAbs) = .imm 1 false [dg 1] := rfl
  have hd : dg 1 = .sc (.int .u32 1) := rfl
  simp only [bW, e, hd]
  simp [overR4, overC, Tryz.f175, seq1, cspine, execC, regP, goOps, operP, valP, wantedP, isCall, calleeP, stepP, evalP, putP, addW, FP.none, binP, binInt, binI, binBool, ofVal, lenP, indexAddrP, fieldAddrP, asNat_nat, asNat_0, asNat_1, asNat_succ, asNat_add, partOf, unP, nth_setN_eq, nth_setN_ne, setN_length, CC_T, CC_P, and_assoc, lenSl_nil, lenSl_imm, lenSl_own, lenSl_encD, cells_encD, cells_agg, cells_bool, cells_int, cells_own, cells_imm, cells_nil, okCell_encD, okCell_bool, okCell_int, okCell_own, okCell_imm, okCell_nil, okCells, okCell_dg, cells_dg, beqI, bneI, le2I, h42, h2, h3, h4, h5, uW, uD, sD, s32, aD, a32, wf0, wf1, atAddr, nthB, dropN]
set_option maxHeartbeats 1000000 in
theorem over_r4b (run : Runs) (k : Nat) (fr : List PV) (wr : List Nat) (b2 : Blk) (x y : Int) (g : Nat) (hx : Sm x) (hy : Sm y) (hg : 1 < g) (hg2 : g < 1000000000) (h42 : fr.length = 42) (h2 : nth fr 2 = .ptr 0 0) (h3 : nth fr 3 = .ptr 1 0) (h4 : nth fr 4 = .ptr 2 0) (h5 : nth fr 5 = .ptr 3 0) :
    ∃ fr' wr', execC (CC L9) run k overR4 ⟨fr, [bW x, bW y, b2, bW (Int.ofNat g)], wr⟩ = some (.normal, ⟨fr', [bW (divQ x (Int.ofNat g)), bW (divQ y (Int.ofNat g)), b2, bW (Int.ofNat g)], wr'⟩) ∧ fr'.length = 42 ∧ nth fr' 2 = .ptr 0 0 ∧ nth fr' 3 = .ptr 1 0 ∧ nth fr' 4 = .ptr 2 0 := by
  have hSg : Sm (Int.ofNat g) := by
    unfold Sm
    rw [show (Int.ofNat g).natAbs = g from rfl, digs_one (by omega) hg2]; simp
  have hc1 := fun dr hp => call9_div run dr hp x (Int.ofNat g) hx hSg (show g ≠ 0 by omega) hg2
  have hc2 := fun dr hp => call9_div run dr hp y (Int.ofNat g) hy hSg (show g ≠ 0 by omega) hg2
  generalize divQ x (Int.ofNat g) = qx at *
  generalize divQ y (Int.ofNat g) = qy at *
  generalize divR x (Int.ofNat g) = mx at *
  generalize divR y (Int.ofNat g) = my at *
  have e : encW (Int.ofNat g) = .agg [.sc (.bool false), .imm 1 false [dg g]] := by
    show wh false (digs g) = _
    rw [digs_one (by omega) hg2]; rfl
  have eb : bW (Int.ofNat g) = ⟨.live, [.sc (.bool false), .imm 1 false [dg g]]⟩ := by
    show (⟨.live, [.sc (.bool false), encD (digs g)]⟩ : Blk) = _
    rw [digs_one (by omega) hg2]; rfl
  have hd : dg g = .sc (.int .u32 (g : Int)) := rfl
  rw [e, hd] at hc1 hc2
  rw [eb, hd]
  simp only [bW, whW] at hc1 hc2 ⊢
  generalize digs qx.natAbs = rx at *
  generalize negB qx = nx at *
  generalize digs qy.natAbs = ry at *
  generalize negB qy = ny at *
  have hg3 : (1 : Int) < (g : Int) := by omega
  simp [overR4, overC, Tryz.f175, seq1, cspine, execC, regP, goOps, operP, valP, wantedP, isCall, calleeP, stepP, evalP, putP, addW, FP.none, binP, binInt, binI, binBool, ofVal, lenP, indexAddrP, fieldAddrP, asNat_nat, asNat_0, asNat_1, asNat_succ, asNat_add, partOf, unP, nth_setN_eq, nth_setN_ne, setN_length, CC_T, CC_P, and_assoc, lenSl_nil, lenSl_imm, lenSl_own, lenSl_encD, cells_encD, cells_agg, cells_bool, cells_int, cells_own, cells_imm, cells_nil, okCell_encD, okCell_bool, okCell_int, okCell_own, okCell_imm, okCell_nil, okCells, okCell_dg, cells_dg, beqI, bneI, le2I, hc1, hc2, hg, hg3, h42, h2, h3, h4, h5, uW, uD, sW, sD, s32, aW, aD, a32, wf0, wf1, atAddr, nthB, setB, over?, takeN?, dropN]
theorem over_post (run : Runs) (k : Nat) (fr : List PV) (wr : List Nat) (b3 : Blk) (x y : Int) (h42 : fr.length = 42) (h2 : nth fr 2 = .ptr 0 0) (h3 : nth fr 3 = .ptr 1 0) (h4 : nth fr 4 = .ptr 2 0) :
    ∃ st, execC (CC L9) run k (cspine 4 overC) ⟨fr, [bW x, bW y, zR4, b3], wr⟩ = some (.ret, st) ∧ resP TT st.fr st.hp Tryz.f175.results.toList = some [encR x y] := by
  simp only [bW, encR]
  generalize digs x.natAbs = rx at *
  generalize negB x = nx at *
  generalize digs y.natAbs = ry at *
  generalize negB y = ny at *
  simp [overC, Tryz.f175, cspine, execC, regP, goOps, operP, valP, wantedP, isCall, calleeP, stepP, evalP, putP, addW, FP.none, binP, binInt, binI, binBool, ofVal, lenP, indexAddrP, fieldAddrP, asNat_nat, asNat_0, asNat_1, asNat_succ, asNat_add, partOf, unP, nth_setN_eq, nth_setN_ne, setN_length, CC_T, CC_P, and_assoc, lenSl_nil, lenSl_imm, lenSl_own, lenSl_encD, cells_encD, cells_agg, cells_bool, cells_int, cells_own, cells_imm, cells_nil, okCell_encD, okCell_bool, okCell_int, okCell_own, okCell_imm, okCell_nil, okCells, okCell_dg, cells_dg, beqI, bneI, le2I, h42, h2, h3, h4, uR, sR, sW, aR, aW, zR, rf0, rf1, buildP, fillL, placeP, atAddr, nthB, setB, over?, takeN?, dropN, resP]
def overN (x y : Int) : Int := sgn (negB (bif negB y then -x else x)) (x.natAbs / Nat.gcd x.natAbs y.natAbs)
def overD (x y : Int) : Int := Int.ofNat (y.natAbs / Nat.gcd x.natAbs y.natAbs)
theorem divQ_exact (x : Int) (g : Nat) (h : x.natAbs % g = 0) : divQ x (Int.ofNat g) = sgn (negB x) (x.natAbs / g) := by
  have h1 : divA x (Int.ofNat g) = false := by
    unfold divA
    rw [show (Int.ofNat g).natAbs = g from rfl, h]
    rfl
  rw [divQ, h1, cond_false]
  show sgn (negB x != false) (x.natAbs / g) = _
  simp
def overF : List PV → Option (List PV)
  | [p, q] => match decW? p, decW? q with
    | some x, some y => bif !(y.natAbs.beq 0) && (gcdP x.natAbs y.natAbs && (Nat.gcd x.natAbs y.natAbs).blt 1000000000) then some [encR (overN x y) (overD x y)] else none
    | _, _ => none
  | _ => none
theorem over_tail (run : Runs) (k : Nat) (fr : List PV) (wr : List Nat) (x y : Int) (hx : Sm x) (hy : Sm y) (hy0 : 0 < y) (hg : gcdP x.natAbs y.natAbs = true) (hg2 : Nat.gcd x.natAbs y.natAbs < 1000000000)
    (h42 : fr.length = 42) (h2 : nth fr 2 = .ptr 0 0) (h3 : nth fr 3 = .ptr 1 0) (h4 : nth fr 4 = .ptr 2 0) :
    ∃ st, execC (CC L9) run k (cspine 2 overC) ⟨fr, [bW x, bW y, zR4], wr⟩ = some (.ret, st) ∧ resP TT st.fr st.hp Tryz.f175.results.toList = some [encR (sgn (negB x) (x.natAbs / Nat.gcd x.natAbs y.natAbs)) (Int.ofNat (y.natAbs / Nat.gcd x.natAbs y.natAbs))] := by
  obtain ⟨f1, wr1, a1, a2, a3, a4, a5, a6⟩ := over_r3 run k fr wr x y hx hy hg h42 h2 h3 h4
  have hgp : 0 < Nat.gcd x.natAbs y.natAbs := Nat.gcd_pos_of_pos_right _ (by omega)
  have hny : negB y = false := by rw [negB_lt]; simp; omega
  have hyn : Int.ofNat y.natAbs = y := by simp; omega
  by_cases h1 : Nat.gcd x.natAbs y.natAbs = 1
  · rw [h1] at a1 ⊢
    obtain ⟨f2, wr2, b1, b2, b3, b4, b5⟩ := over_r4a run k f1 wr1 (bW x) (bW y) zR4 a2 a3 a4 a5 a6
    obtain ⟨st, e1, e2⟩ := over_post run k f2 wr2 (bW 1) x y b2 b3 b4 b5
    refine ⟨st, ?_, ?_⟩
    · rw [over_spine2, exec_seq a1, over_spine3]
      show execC (CC L9) run k (.seq overR4 (cspine 4 overC)) ⟨f1, [bW x, bW y, zR4, bW 1], wr1⟩ = _
      rw [exec_seq b1]
      exact e1
    · rw [e2, Nat.div_one, Nat.div_one, sgn_of, hyn]
  · obtain ⟨f2, wr2, b1, b2, b3, b4, b5⟩ := over_r4b run k f1 wr1 zR4 x y (Nat.gcd x.natAbs y.natAbs) hx hy (by omega) hg2 a2 a3 a4 a5 a6
    obtain ⟨st, e1, e2⟩ := over_post run k f2 wr2 (bW (Int.ofNat (Nat.gcd x.natAbs y.natAbs))) (divQ x (Int.ofNat (Nat.gcd x.natAbs y.natAbs))) (divQ y (Int.ofNat (Nat.gcd x.natAbs y.natAbs))) b2 b3 b4 b5
    refine ⟨st, ?_, ?_⟩
    · rw [over_spine2, exec_seq a1, over_spine3, exec_seq b1]
      exact e1
    · rw [e2, divQ_exact x _ (Nat.mod_eq_zero_of_dvd (Nat.gcd_dvd_left _ _)), divQ_exact y _ (Nat.mod_eq_zero_of_dvd (Nat.gcd_dvd_right _ _)), hny]
      rfl
theorem over_exec (run : Runs) (k : Nat) (x y : Int) (hx : Sm x) (hy : Sm y) (hy0 : y.natAbs ≠ 0) (hg : gcdP x.natAbs y.natAbs = true) (hg2 : Nat.gcd x.natAbs y.natAbs < 1000000000) :
    ∃ st, execC (CC L9) run k overC ⟨entry 42 [encW x, encW y], [], []⟩ = some (.ret, st) ∧ resP TT st.fr st.hp Tryz.f175.results.toList = some [encR (overN x y) (overD x y)] := by
  obtain ⟨f1, wr1, a1, a2, a3, a4, a5⟩ := over_pre run k x y
  by_cases h0 : y < 0
  · have hny : negB y = true := by rw [negB_lt]; simpa using h0
    obtain ⟨f2, wr2, b1, b2, b3, b4, b5⟩ := over_r1b run k f1 wr1 x y hx hy h0 a2 a3 a4 a5
    obtain ⟨st, e1, e2⟩ := over_tail run k f2 wr2 (-x) (-y) hx.neg hy.neg (by omega) (by rw [Int.natAbs_neg, Int.natAbs_neg]; exact hg) (by rw [Int.natAbs_neg, Int.natAbs_neg]; exact hg2) b2 b3 b4 b5
    refine ⟨st, ?_, ?_⟩
    · rw [exec_spine 1 a1, over_spine, exec_seq b1]; exact e1
    · rw [e2, Int.natAbs_neg, Int.natAbs_neg, overN, overD, hny]; rfl
  · have hny : negB y = false := by rw [negB_lt]; simpa using h0
    obtain ⟨f2, wr2, b1, b2, b3, b4, b5⟩ := over_r1a run k f1 wr1 x y hy h0 a2 a3 a4 a5
    obtain ⟨st, e1, e2⟩ := over_tail run k f2 wr2 x y hx hy (by omega) hg hg2 b2 b3 b4 b5
    refine ⟨st, ?_, ?_⟩
    · rw [exec_spine 1 a1, over_spine, exec_seq b1]; exact e1
    · rw [e2, overN, overD, hny]; rfl
theorem over_spec : Ab.Spec base.P 175 overF := Ab.Spec.of_run (C := CC L9) (ccOk L9_ok) fun args rs h => by
  unfold overF at h
  split at h
  · split at h
    · rename_i x y ex ey
      obtain ⟨rfl, hx⟩ := decW?_sm ex
      obtain ⟨rfl, hy⟩ := decW?_sm ey
      cases hb : !(y.natAbs.beq 0) && (gcdP x.natAbs y.natAbs && (Nat.gcd x.natAbs y.natAbs).blt 1000000000) with
      | false => rw [hb] at h; cases h
      | true =>
        rw [hb] at h
        simp only [cond_true, Option.some.injEq] at h
        subst h
        simp only [Bool.and_eq_true, Nat.blt_eq, Bool.not_eq_true'] at hb
        have hy0 : y.natAbs ≠ 0 := by
          intro e; rw [e] at hb; simp at hb
        obtain ⟨st, e1, e2⟩ := over_exec (runK (CC L9) 1) 1 x y hx hy hy0 hb.2.1 hb.2.2
        exact ⟨2, _, _, _, _, _, body_ret F_of_Over rfl e1 e2, out_R _ _ _, Wk.refl rfl, trivial⟩
    · cases h
  · cases h
end Go.Proofs.YtciabmckldfofaaGreatDoor
namespace Go.Proofs.YtciabmckldfofaaGreatDoor
open Go Go.Ab
theorem F_of_RCmp : base.F.get 82 = some Tryz.f82 := by kernel_rfl
theorem F_of_RSign : base.F.get 162 = some Tryz.f162 := by kernel_rfl
/-- this call yields this, whatever the heap -/
def Gives (L : Lst) (run : Runs) (g : Nat) (args : List PV) (r : PV) : Prop := ∀ dr hp, callP (CC L) run dr hp g args = some (r, hp, ⟨[], [], false, false⟩)
theorem encR_eq (n d : Int) : encR n d = .agg [.sc (.bool (negB n)), encD (digs n.natAbs), .sc (.bool (negB d)), encD (digs d.natAbs)] := rfl
set_option maxHeartbeats 1000000 in
theorem radd_exec (L : Lst) (run : Runs) (k : Nat) (a b c d e1 e2 p q s t n m : Int) (g1 : Gives L run 153 [encR c d] (encW e2)) (g2 : Gives L run 153 [encR a b] (encW e1))
    (g3 : Gives L run 152 [encW a, encW e2] (encW p)) (g4 : Gives L run 152 [encW c, encW e1] (encW q)) (g5 : Gives L run 176 [encW p, encW q] (encW s)) (g6 : Gives L run 152 [encW e1, encW e2] (encW t)) (g7 : Gives L run 175 [encW s, encW t] (encR n m)) :
    ∃ st, execC (CC L) run k (Tryz.f111.body.getD .skip) ⟨entry 22 [encR a b, encR c d], [], []⟩ = some (.ret, st) ∧ resP TT st.fr st.hp Tryz.f111.results.toList = some [encR n m] := by
  obtain ⟨h1, h2, h3⟩ := entry2 20 (encR a b) (encR c d)
  generalize entry 22 [encR a b, encR c d] = fr0 at *
  unfold Gives at *
  simp only [whW, encR_eq] at *
  simp [Tryz.f111, h1, h2, h3, execC, regP, goOps, operP, valP, wantedP, isCall, calleeP, stepP, evalP, putP, addW, FP.none, binP, binInt, binI, binBool, ofVal, lenP, indexAddrP, fieldAddrP, asNat_nat, asNat_0, asNat_1, asNat_succ, asNat_add, partOf, unP, nth_setN_eq, nth_setN_ne, setN_length, CC_T, CC_P, and_assoc, lenSl_nil, lenSl_imm, lenSl_own, lenSl_encD, cells_encD, cells_agg, cells_bool, cells_int, cells_own, cells_imm, cells_nil, okCell_encD, okCell_bool, okCell_int, okCell_own, okCell_imm, okCell_nil, okCells, okCell_dg, cells_dg, beqI, bneI, le2I, g1, g2, g3, g4, g5, g6, g7, uR, uW, sR, sW, aR, aW, zR, rf0, rf1, allocB, atAddr, nthB, setB, over?, takeN?, dropN, resP, number, FP.free, pairsOk, FP.apart]
set_option maxHeartbeats 1000000 in
theorem rmul_exec (L : Lst) (run : Runs) (k : Nat) (a b c d e1 e2 p t n m : Int) (g1 : Gives L run 153 [encR c d] (encW e2)) (g2 : Gives L run 153 [encR a b] (encW e1))
    (g3 : Gives L run 152 [encW a, encW c] (encW p)) (g6 : Gives L run 152 [encW e1, encW e2] (encW t)) (g7 : Gives L run 175 [encW p, encW t] (encR n m)) :
    ∃ st, execC (CC L) run k (Tryz.f112.body.getD .skip) ⟨entry 16 [encR a b, encR c d], [], []⟩ = some (.ret, st) ∧ resP TT st.fr st.hp Tryz.f112.results.toList = some [encR n m] := by
  obtain ⟨h1, h2, h3⟩ := entry2 14 (encR a b) (encR c d)
  generalize entry 16 [encR a b, encR c d] = fr0 at *
  unfold Gives at *
  simp only [whW, encR_eq] at *
  simp [Tryz.f112, h1, h2, h3, execC, regP, goOps, operP, valP, wantedP, isCall, calleeP, stepP, evalP, putP, addW, FP.none, binP, binInt, binI, binBool, ofVal, lenP, indexAddrP, fieldAddrP, asNat_nat, asNat_0, asNat_1, asNat_succ, asNat_add, partOf, unP, nth_setN_eq, nth_setN_ne, setN_length, CC_T, CC_P, and_assoc, lenSl_nil, lenSl_imm, lenSl_own, lenSl_encD, cells_encD, cells_agg, cells_bool, cells_int, cells_own, cells_imm, cells_nil, okCell_encD, okCell_bool, okCell_int, okCell_own, okCell_imm, okCell_nil, okCells, okCell_dg, cells_dg, beqI, bneI, le2I, g1, g2, g3, g6, g7, uR, uW, sR, sW, aR, aW, zR, rf0, rf1, allocB, atAddr, nthB, setB, over?, takeN?, dropN, resP, number, FP.free, pairsOk, FP.apart]
set_option maxHeartbeats 1000000 in
theorem rcmp_exec (L : Lst) (run : Runs) (k : Nat) (a b c d e1 e2 p q r : Int) (g1 : Gives L run 153 [encR c d] (encW e2)) (g2 : Gives L run 153 [encR a b] (encW e1))
    (g3 : Gives L run 152 [encW a, encW e2] (encW p)) (g4 : Gives L run 152 [encW c, encW e1] (encW q)) (g5 : Gives L run 154 [encW p, encW q] (Ab.encI r)) :
    ∃ st, execC (CC L) run k (Tryz.f82.body.getD .skip) ⟨entry 16 [encR a b, encR c d], [], []⟩ = some (.ret, st) ∧ resP TT st.fr st.hp Tryz.f82.results.toList = some [Ab.encI r] := by
  obtain ⟨h1, h2, h3⟩ := entry2 14 (encR a b) (encR c d)
  generalize entry 16 [encR a b, encR c d] = fr0 at *
  unfold Gives at *
  simp only [whW, encR_eq, Ab.encI] at *
  simp [Tryz.f82, h1, h2, h3, execC, regP, goOps, operP, valP, wantedP, isCall, calleeP, stepP, evalP, putP, addW, FP.none, binP, binInt, binI, binBool, ofVal, lenP, indexAddrP, fieldAddrP, asNat_nat, asNat_0, asNat_1, asNat_succ, asNat_add, partOf, unP, nth_setN_eq, nth_setN_ne, setN_length, CC_T, CC_P, and_assoc, lenSl_nil, lenSl_imm, lenSl_own, lenSl_encD, cells_encD, cells_agg, cells_bool, cells_int, cells_own, cells_imm, cells_nil, okCell_encD, okCell_bool, okCell_int, okCell_own, okCell_imm, okCell_nil, okCells, okCell_dg, cells_dg, beqI, bneI, le2I, g1, g2, g3, g4, g5, uR, uW, sR, sW, aR, aW, rf0, rf1, allocB, atAddr, nthB, takeN?, dropN, resP, number, FP.free, pairsOk, FP.apart]
theorem rneg_exec (L : Lst) (run : Runs) (k : Nat) (a b c : Int) (g1 : Gives L run 244 [encW a] (encW c)) :
    ∃ st, execC (CC L) run k (Tryz.f174.body.getD .skip) ⟨entry 9 [encR a b], [], []⟩ = some (.ret, st) ∧ resP TT st.fr st.hp Tryz.f174.results.toList = some [encR c b] := by
  obtain ⟨h1, h2⟩ := entry1 8 (encR a b)
  generalize entry 9 [encR a b] = fr0 at *
  unfold Gives at *
  simp only [whW, encR_eq] at *
  simp [Tryz.f174, h1, h2, execC, regP, goOps, operP, valP, wantedP, isCall, calleeP, stepP, evalP, putP, addW, FP.none, binP, binInt, binI, binBool, ofVal, lenP, indexAddrP, fieldAddrP, asNat_nat, asNat_0, asNat_1, asNat_succ, asNat_add, partOf, unP, nth_setN_eq, nth_setN_ne, setN_length, CC_T, CC_P, and_assoc, lenSl_nil, lenSl_imm, lenSl_own, lenSl_encD, cells_encD, cells_agg, cells_bool, cells_int, cells_own, cells_imm, cells_nil, okCell_encD, okCell_bool, okCell_int, okCell_own, okCell_imm, okCell_nil, okCells, okCell_dg, cells_dg, beqI, bneI, le2I, g1, uR, uW, sR, sW, aR, aW, zR, rf0, rf1, buildP, fillL, placeP, allocB, atAddr, nthB, setB, over?, takeN?, dropN, resP, number, FP.free, pairsOk, FP.apart]
theorem rsign_exec (L : Lst) (run : Runs) (k : Nat) (a b c : Int) (g1 : Gives L run 172 [encW a] (Ab.encI c)) :
    ∃ st, execC (CC L) run k (Tryz.f162.body.getD .skip) ⟨entry 6 [encR a b], [], []⟩ = some (.ret, st) ∧ resP TT st.fr st.hp Tryz.f162.results.toList = some [Ab.encI c] := by
  obtain ⟨h1, h2⟩ := entry1 5 (encR a b)
  generalize entry 6 [encR a b] = fr0 at *
  unfold Gives at *
  simp only [whW, encR_eq, Ab.encI] at *
  simp [Tryz.f162, h1, h2, execC, regP, goOps, operP, valP, wantedP, isCall, calleeP, stepP, evalP, putP, addW, FP.none, binP, binInt, binI, binBool, ofVal, lenP, indexAddrP, fieldAddrP, asNat_nat, asNat_0, asNat_1, asNat_succ, asNat_add, partOf, unP, nth_setN_eq, nth_setN_ne, setN_length, CC_T, CC_P, and_assoc, lenSl_nil, lenSl_imm, lenSl_own, lenSl_encD, cells_encD, cells_agg, cells_bool, cells_int, cells_own, cells_imm, cells_nil, okCell_encD, okCell_bool, okCell_int, okCell_own, okCell_imm, okCell_nil, okCells, okCell_dg, cells_dg, beqI, bneI, le2I, g1, uR, uW, sR, sW, aR, aW, rf0, rf1, allocB, atAddr, nthB, takeN?, dropN, resP]
theorem rsub_exec (L : Lst) (run : Runs) (k : Nat) (a b c d e f n m : Int) (g1 : Gives L run 174 [encR c d] (encR e f)) (g2 : Gives L run 111 [encR a b, encR e f] (encR n m)) :
    ∃ st, execC (CC L) run k (Tryz.f110.body.getD .skip) ⟨entry 9 [encR a b, encR c d], [], []⟩ = some (.ret, st) ∧ resP TT st.fr st.hp Tryz.f110.results.toList = some [encR n m] := by
  obtain ⟨h1, h2, h3⟩ := entry2 7 (encR a b) (encR c d)
  generalize entry 9 [encR a b, encR c d] = fr0 at *
  unfold Gives at *
  simp only [encR_eq] at *
  simp [Tryz.f110, h1, h2, h3, execC, regP, goOps, operP, valP, wantedP, isCall, calleeP, stepP, evalP, putP, addW, FP.none, binP, binInt, binI, binBool, ofVal, lenP, indexAddrP, fieldAddrP, asNat_nat, asNat_0, asNat_1, asNat_succ, asNat_add, partOf, unP, nth_setN_eq, nth_setN_ne, setN_length, CC_T, CC_P, and_assoc, lenSl_nil, lenSl_imm, lenSl_own, lenSl_encD, cells_encD, cells_agg, cells_bool, cells_int, cells_own, cells_imm, cells_nil, okCell_encD, okCell_bool, okCell_int, okCell_own, okCell_imm, okCell_nil, okCells, okCell_dg, cells_dg, beqI, bneI, le2I, g1, g2, uR, sR, aR, zR, allocB, atAddr, nthB, setB, over?, takeN?, dropN, resP, number, FP.free, pairsOk, FP.apart]
/-! the contracts -/
noncomputable def L10 : Lst := [(153, denF), (152, mulF), (176, addF), (175, overF), (244, negF), (172, signF), (154, cmpF)]
theorem L10_ok : SpecL base.P L10 := ⟨den_spec, mul_spec, add_spec, over_spec, neg_spec, sign_spec, cmp_spec, trivial⟩
theorem o10_den : orcOf L10 153 = fun a => denF (canonL a) := rfl
theorem o10_mul : orcOf L10 152 = fun a => mulF (canonL a) := rfl
theorem o10_add : orcOf L10 176 = fun a => addF (canonL a) := rfl
theorem o10_over : orcOf L10 175 = fun a => overF (canonL a) := rfl
theorem o10_neg : orcOf L10 244 = fun a => negF (canonL a) := rfl
theorem o10_sign : orcOf L10 172 = fun a => signF (canonL a) := rfl
theorem o10_cmp : orcOf L10 154 = fun a => cmpF (canonL a) := rfl
theorem canon_R1 (n d : Int) : canonL [encR n d] = [encR n d] := by simp only [canonL, canon_R]
theorem g10_den (run : Runs) (n d : Int) (hn : Sm n) (hd : Sm d) : Gives L10 run 153 [encR n d] (encW (denI d)) := fun dr hp =>
  call_of sh_Den o10_den run dr hp _ [encW (denI d)] (out_R hp n d) (canon_R1 n d) (by simp only [denF, decR?_of hn hd])
theorem g10_mul (run : Runs) (x y : Int) (hx : Sm x) (hy : Sm y) : Gives L10 run 152 [encW x, encW y] (encW (x * y)) := fun dr hp =>
  call_of sh_Mul o10_mul run dr hp _ [encW (x * y)] (args_WW hp x y) (canon_WW x y) (by simp only [mulF, decW?_of hx, decW?_of hy])
theorem g10_add (run : Runs) (x y : Int) (hx : Sm x) (hy : Sm y) : Gives L10 run 176 [encW x, encW y] (encW (x + y)) := fun dr hp =>
  call_of sh_Add o10_add run dr hp _ [encW (x + y)] (args_WW hp x y) (canon_WW x y) (by simp only [addF, decW?_of hx, decW?_of hy])
theorem g10_cmp (run : Runs) (x y : Int) (hx : Sm x) (hy : Sm y) : Gives L10 run 154 [encW x, encW y] (Ab.encI (cmpI x y)) := fun dr hp =>
  call_of sh_Cmp o10_cmp run dr hp _ [Ab.encI (cmpI x y)] (args_WW hp x y) (canon_WW x y) (by simp only [cmpF, decW?_of hx, decW?_of hy])
theorem g10_neg (run : Runs) (x : Int) (hx : Sm x) : Gives L10 run 244 [encW x] (encW (-x)) := fun dr hp =>
  call_of sh_Neg o10_neg run dr hp _ [encW (-x)] (args_W hp x) (canon_W x) (by simp only [negF, decW?_of hx])
theorem g10_sign (run : Runs) (x : Int) (hx : Sm x) : Gives L10 run 172 [encW x] (Ab.encI x.sign) := fun dr hp =>
  call_of sh_Sign o10_sign run dr hp _ [Ab.encI x.sign] (args_W hp x) (canon_W x) (by simp only [signF, decW?_of hx])
/-- may Over be called with these? -/
def overG (x y : Int) : Bool := !(y.natAbs.beq 0) && (gcdP x.natAbs y.natAbs && (Nat.gcd x.natAbs y.natAbs).blt 1000000000)
theorem g10_over (run : Runs) (x y : Int) (hx : Sm x) (hy : Sm y) (h : overG x y = true) : Gives L10 run 175 [encW x, encW y] (encR (overN x y) (overD x y)) := fun dr hp =>
  call_of sh_Over o10_over run dr hp _ [encR (overN x y) (overD x y)] (args_WW hp x y) (canon_WW x y) (by
    unfold overG at h
    simp only [overF, decW?_of hx, decW?_of hy, h, cond_true])
def smB (x : Int) : Bool := x.natAbs.log2.blt 11000000
theorem smB_ok {x : Int} (h : smB x = true) : Sm x := log2_sm (by simpa [smB, Nat.blt_eq] using h)
theorem Sm_one : Sm 1 := by unfold Sm; decide
theorem Sm_den {d : Int} (h : Sm d) : Sm (denI d) := by
  unfold denI
  by_cases h0 : d = 0
  · rw [if_pos h0]; exact Sm_one
  · rw [if_neg h0]; exact h
def raddF : List PV → Option (List PV)
  | [p, q] => match decR? p, decR? q with
    | some (a, b), some (c, d) => bif smB (a * denI d) && (smB (c * denI b) && (smB (a * denI d + c * denI b) && (smB (denI b * denI d) && overG (a * denI d + c * denI b) (denI b * denI d)))) then
        some [encR (overN (a * denI d + c * denI b) (denI b * denI d)) (overD (a * denI d + c * denI b) (denI b * denI d))] else none
    | _, _ => none
  | _ => none
theorem radd_spec : Ab.Spec base.P 111 raddF := Ab.Spec.of_run (C := CC L10) (ccOk L10_ok) fun args rs h => by
  unfold raddF at h
  split at h
  · split at h
    · rename_i a b c d ex ey
      obtain ⟨rfl, ha, hb⟩ := decR?_some ex
      obtain ⟨rfl, hc, hd⟩ := decR?_some ey
      cases hg : smB (a * denI d) && (smB (c * denI b) && (smB (a * denI d + c * denI b) && (smB (denI b * denI d) && overG (a * denI d + c * denI b) (denI b * denI d)))) with
      | false => rw [hg] at h; cases h
      | true =>
        rw [hg] at h
        simp only [cond_true, Option.some.injEq] at h
        subst h
        simp only [Bool.and_eq_true] at hg
        obtain ⟨h1, h2, h3, h4, h5⟩ := hg
        obtain ⟨st, e1, e2⟩ := radd_exec L10 (runK (CC L10) 1) 1 a b c d _ _ _ _ _ _ _ _ (g10_den _ c d hc hd) (g10_den _ a b ha hb) (g10_mul _ _ _ ha (Sm_den hd)) (g10_mul _ _ _ hc (Sm_den hb)) (g10_add _ _ _ (smB_ok h1) (smB_ok h2)) (g10_mul _ _ _ (Sm_den hb) (Sm_den hd)) (g10_over _ _ _ (smB_ok h3) (smB_ok h4) h5)
        exact ⟨2, _, _, _, _, _, body_ret F_of_RAdd rfl e1 e2, out_R _ _ _, Wk.refl rfl, trivial⟩
    · cases h
  · cases h
def rmulF : List PV → Option (List PV)
  | [p, q] => match decR? p, decR? q with
    | some (a, b), some (c, d) => bif smB (a * c) && (smB (denI b * denI d) && overG (a * c) (denI b * denI d)) then
        some [encR (overN (a * c) (denI b * denI d)) (overD (a * c) (denI b * denI d))] else none
    | _, _ => none
  | _ => none
theorem rmul_spec : Ab.Spec base.P 112 rmulF := Ab.Spec.of_run (C := CC L10) (ccOk L10_ok) fun args rs h => by
  unfold rmulF at h
  split at h
  · split at h
    · rename_i a b c d ex ey
      obtain ⟨rfl, ha, hb⟩ := decR?_some ex
      obtain ⟨rfl, hc, hd⟩ := decR?_some ey
      cases hg : smB (a * c) && (smB (denI b * denI d) && overG (a * c) (denI b * denI d)) with
      | false => rw [hg] at h; cases h
      | true =>
        rw [hg] at h
        simp only [cond_true, Option.some.injEq] at h
        subst h
        simp only [Bool.and_eq_true] at hg
        obtain ⟨h1, h4, h5⟩ := hg
        obtain ⟨st, e1, e2⟩ := rmul_exec L10 (runK (CC L10) 1) 1 a b c d _ _ _ _ _ _ (g10_den _ c d hc hd) (g10_den _ a b ha hb) (g10_mul _ _ _ ha hc) (g10_mul _ _ _ (Sm_den hb) (Sm_den hd)) (g10_over _ _ _ (smB_ok h1) (smB_ok h4) h5)
        exact ⟨2, _, _, _, _, _, body_ret F_of_RMul rfl e1 e2, out_R _ _ _, Wk.refl rfl, trivial⟩
    · cases h
  · cases h
def rcmpF : List PV → Option (List PV)
  | [p, q] => match decR? p, decR? q with
    | some (a, b), some (c, d) => bif smB (a * denI d) && smB (c * denI b) then some [Ab.encI (cmpI (a * denI d) (c * denI b))] else none
    | _, _ => none
  | _ => none
theorem rcmp_spec : Ab.Spec base.P 82 rcmpF := Ab.Spec.of_run (C := CC L10) (ccOk L10_ok) fun args rs h => by
  unfold rcmpF at h
  split at h
  · split at h
    · rename_i a b c d ex ey
      obtain ⟨rfl, ha, hb⟩ := decR?_some ex
      obtain ⟨rfl, hc, hd⟩ := decR?_some ey
      cases hg : smB (a * denI d) && smB (c * denI b) with
      | false => rw [hg] at h; cases h
      | true =>
        rw [hg] at h
        simp only [cond_true, Option.some.injEq] at h
        subst h
        simp only [Bool.and_eq_true] at hg
        obtain ⟨h1, h2⟩ := hg
        obtain ⟨st, e1, e2⟩ := rcmp_exec L10 (runK (CC L10) 1) 1 a b c d _ _ _ _ _ (g10_den _ c d hc hd) (g10_den _ a b ha hb) (g10_mul _ _ _ ha (Sm_den hd)) (g10_mul _ _ _ hc (Sm_den hb)) (g10_cmp _ _ _ (smB_ok h1) (smB_ok h2))
        exact ⟨2, _, _, _, _, _, body_ret F_of_RCmp rfl e1 e2, out_encI _ _, Wk.refl rfl, trivial⟩
    · cases h
  · cases h
def rnegF : List PV → Option (List PV)
  | [p] => match decR? p with
    | some (a, b) => some [encR (-a) b]
    | none => none
  | _ => none
theorem rneg_spec : Ab.Spec base.P 174 rnegF := Ab.Spec.of_run (C := CC L10) (ccOk L10_ok) fun args rs h => by
  unfold rnegF at h
  split at h
  · split at h
    · rename_i a b ex
      obtain ⟨rfl, ha, hb⟩ := decR?_some ex
      simp only [Option.some.injEq] at h
      subst h
      obtain ⟨st, e1, e2⟩ := rneg_exec L10 (runK (CC L10) 1) 1 a b _ (g10_neg _ a ha)
      exact ⟨2, _, _, _, _, _, body_ret F_of_RNeg rfl e1 e2, out_R _ _ _, Wk.refl rfl, trivial⟩
    · cases h
  · cases h
def rsignF : List PV → Option (List PV)
  | [p] => match decR? p with
    | some (a, _) => some [Ab.encI a.sign]
    | none => none
  | _ => none
theorem rsign_spec : Ab.Spec base.P 162 rsignF := Ab.Spec.of_run (C := CC L10) (ccOk L10_ok) fun args rs h => by
  unfold rsignF at h
  split at h
  · split at h
    · rename_i a b ex
      obtain ⟨rfl, ha, hb⟩ := decR?_some ex
      simp only [Option.some.injEq] at h
      subst h
      obtain ⟨st, e1, e2⟩ := rsign_exec L10 (runK (CC L10) 1) 1 a b _ (g10_sign _ a ha)
      exact ⟨2, _, _, _, _, _, body_ret F_of_RSign rfl e1 e2, out_encI _ _, Wk.refl rfl, trivial⟩
    · cases h
  · cases h
noncomputable def L11 : Lst := [(111, raddF), (174, rnegF)]
theorem L11_ok : SpecL base.P L11 := ⟨radd_spec, rneg_spec, trivial⟩
theorem o11_add : orcOf L11 111 = fun a => raddF (canonL a) := rfl
theorem o11_neg : orcOf L11 174 = fun a => rnegF (canonL a) := rfl
theorem args_RR (hp : List Blk) (a b c d : Int) : mapIds (snap hp snapDepth) [encR a b, encR c d] = some ([encR a b, encR c d], []) := rfl
theorem canon_RR (a b c d : Int) : canonL [encR a b, encR c d] = [encR a b, encR c d] := by simp only [canonL, canon_R]
theorem g11_neg (run : Runs) (n d : Int) (hn : Sm n) (hd : Sm d) : Gives L11 run 174 [encR n d] (encR (-n) d) := fun dr hp =>
  call_of sh_RNeg o11_neg run dr hp _ [encR (-n) d] (out_R hp n d) (canon_R1 n d) (by simp only [rnegF, decR?_of hn hd])
theorem g11_add (run : Runs) (a b c d n m : Int) (h : raddF [encR a b, encR c d] = some [encR n m]) : Gives L11 run 111 [encR a b, encR c d] (encR n m) := fun dr hp =>
  call_of sh_RAdd o11_add run dr hp _ [encR n m] (args_RR hp a b c d) (canon_RR a b c d) h
def rsubF : List PV → Option (List PV)
  | [p, q] => match decR? q with
    | some (c, d) => raddF [p, encR (-c) d]
    | _ => none
  | _ => none
theorem raddF_out {p q : PV} {rs : List PV} (h : raddF [p, q] = some rs) : ∃ a b n m, p = encR a b ∧ rs = [encR n m] := by
  simp only [raddF] at h
  split at h
  · rename_i a b c d ex ey
    obtain ⟨rfl, -, -⟩ := decR?_some ex
    cases hg : smB (a * denI d) && (smB (c * denI b) && (smB (a * denI d + c * denI b) && (smB (denI b * denI d) && overG (a * denI d + c * denI b) (denI b * denI d)))) with
    | false => rw [hg] at h; cases h
    | true =>
      rw [hg] at h
      simp only [cond_true, Option.some.injEq] at h
      exact ⟨a, b, _, _, rfl, h.symm⟩
  · cases h
theorem rsub_spec : Ab.Spec base.P 110 rsubF := Ab.Spec.of_run (C := CC L11) (ccOk L11_ok) fun args rs h => by
  unfold rsubF at h
  split at h
  · split at h
    · rename_i p q c d ey
      obtain ⟨rfl, hc, hd⟩ := decR?_some ey
      obtain ⟨a, b, n, m, rfl, rfl⟩ := raddF_out h
      obtain ⟨st, e1, e2⟩ := rsub_exec L11 (runK (CC L11) 1) 1 a b c d _ _ n m (g11_neg _ c d hc hd) (g11_add _ a b (-c) d n m h)
      exact ⟨2, _, _, _, _, _, body_ret F_of_RSub rfl e1 e2, out_R _ _ _, Wk.refl rfl, trivial⟩
    · cases h
  · cases h
end Go.Proofs.YtciabmckldfofaaGreatDoor
