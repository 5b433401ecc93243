/- The table of contracts, and one call of filter.Check worked out, by evaluation. -/
import Derived.Test.YtciabmckldfofaaGreatDoorNumF
import Derived.Test.YtciabmckldfofaaGreatDoorTxtB
set_option linter.unusedSimpArgs false
set_option linter.unusedVariables false
namespace Go.Proofs.YtciabmckldfofaaGreatDoor
open Go Go.Ab
noncomputable def otabF : OT := (.node 174 (rnegF) (.node 153 (denF) (.node 110 (rsubF) (.node 82 (rcmpF) (.node 80 (textF) (.node 28 (repF) .leaf .leaf) .leaf) (.node 108 (rrF) (.node 101 (rlongF) .leaf .leaf) .leaf)) (.node 143 (iaF) (.node 112 (rmulF) (.node 111 (raddF) .leaf .leaf) .leaf) (.node 152 (mulF) .leaf .leaf))) (.node 167 (ofF) (.node 162 (rsignF) (.node 158 (hasPreF) (.node 154 (cmpF) .leaf .leaf) .leaf) (.node 166 (longF) .leaf .leaf)) (.node 172 (signF) (.node 171 (readF) (.node 170 (cut3F) .leaf .leaf) .leaf) (.node 173 (gcdF) .leaf .leaf)))) (.node 243 (trimF) (.node 238 (cut3F) (.node 223 (signedF) (.node 176 (addF) (.node 175 (overF) .leaf .leaf) .leaf) (.node 236 (digitsF) (.node 224 (sizeF) .leaf .leaf) .leaf)) (.node 241 (wordF) (.node 240 (smallF) (.node 239 (cutPreF) .leaf .leaf) .leaf) (.node 242 (partsF) .leaf .leaf))) (.node 284 (lindexF) (.node 246 (plusF) (.node 245 (divF) (.node 244 (negF) .leaf .leaf) .leaf) (.node 247 (minusF) .leaf .leaf)) (.node 288 (subF) (.node 286 (shortF) (.node 285 (cutPreF) .leaf .leaf) .leaf) (.node 311 (ibF) .leaf .leaf)))))
theorem otabF_ok : otabF.All fun n f => Ab.Spec base.P n f := ⟨rneg_spec, ⟨den_spec, ⟨rsub_spec, ⟨rcmp_spec, ⟨text_spec, ⟨rep_spec, trivial, trivial⟩, trivial⟩, ⟨rr_spec, ⟨rlong_spec, trivial, trivial⟩, trivial⟩⟩, ⟨ia_spec, ⟨rmul_spec, ⟨radd_spec, trivial, trivial⟩, trivial⟩, ⟨mul_spec, trivial, trivial⟩⟩⟩, ⟨of_spec, ⟨rsign_spec, ⟨hasPre_spec, ⟨cmp_spec, trivial, trivial⟩, trivial⟩, ⟨long_spec, trivial, trivial⟩⟩, ⟨sign_spec, ⟨read_spec, ⟨cut3_spec, trivial, trivial⟩, trivial⟩, ⟨gcd_spec, trivial, trivial⟩⟩⟩⟩, ⟨trim_spec, ⟨lcut3_spec, ⟨signed_spec, ⟨add_spec, ⟨over_spec, trivial, trivial⟩, trivial⟩, ⟨digits_spec, ⟨size_spec, trivial, trivial⟩, trivial⟩⟩, ⟨word_spec, ⟨small_spec, ⟨cut_spec, trivial, trivial⟩, trivial⟩, ⟨parts_spec, trivial, trivial⟩⟩⟩, ⟨lindex_spec, ⟨plus_spec, ⟨div_spec, ⟨neg_spec, trivial, trivial⟩, trivial⟩, ⟨minus_spec, trivial, trivial⟩⟩, ⟨sub_spec, ⟨short_spec, ⟨lcut_spec, trivial, trivial⟩, trivial⟩, ⟨ib_spec, trivial, trivial⟩⟩⟩⟩⟩
noncomputable def CEF : Cfg := base.cfg (orcTr otabF)
theorem cefOk : CfgOk CEF := baseOk.cfg (orcTr_ok otabF_ok)
def ckArgs : List PV := [.imm 3 false [.imm 1 false [.sc (.int .i64 1)], .sc (.string (mkStr [48])), .imm 1 false [.sc (.int .i64 0)], .sc (.string (mkStr [49])), .imm 2 false [.sc (.int .i64 0), .sc (.int .i64 1)], .sc (.string (mkStr [49]))]]
def ckM : List PV → Option (List PV) := memoR ckArgs [.sc (.int .i64 0)]
theorem ckM_ev : resIs [.sc (.int .i64 0)] (Ab.runT CEF 100 26 ckArgs .lf 0) = true := by kernel_rfl
theorem ckM_spec : Ab.Spec base.P 26 ckM := memoR_spec cefOk rfl ckM_ev
noncomputable def fmtM : List PV → Option (List PV) := formatF ckM
theorem fmtM_spec : Ab.Spec base.P 67 fmtM := format_spec ckM_spec
end Go.Proofs.YtciabmckldfofaaGreatDoor
