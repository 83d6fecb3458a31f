/- PolicyBest answers true, for every input, and leaves its arguments as they were; no condition. -/
import Derived.Test.YtginkngmflmaoaaRows
import Derived.Test.YtginkngmflmaoaaHg

set_option linter.unusedVariables false
set_option linter.unusedSimpArgs false
namespace Go.Proofs.Ytginkngmflmaoaa
open Go Go.Pl Go.Proofs
open Go.ChangeShapes Go.WideShapes Go.ChangeAt Go.RowKit
set_option maxRecDepth 100000 in
theorem policyBest_lifted (os : Os) (started : os.Started) (H : Type) (enc : TypeId × Value → H) :
    ReturnsInHanded {} Try.checked os 7 .any (Rows.policyBestSpec.pre6 enc Try.prog Try.f7 Rows.policyBestRow.domain false) (Rows.policyBestSpec.post enc Try.prog Try.f7 false true false false) := by
  refine returnsInHanded_of_change (C := Try.checked) own started (by kernel_rfl) Try.func7
    (ChangeSpec.witness6 (enc := enc) (C := Try.checked) false ⟨#[], #[.slice none 0 0, .agg #[.int .u32 0, .int .u32 0], .int .i64 0], []⟩ 8 (by kernel_rfl) (by kernel_rfl) (by kernel_rfl) (by kernel_rfl)) ?_
  intro W base args ds gs before hval hW _ _
  refine law_contract (P := Try.prog) 6 (tb := 4) (by kernel_rfl) (by kernel_rfl) rfl ?_ (by kernel_rfl) (by kernel_rfl) hval hW ?_
  · intro ds hds
    obtain ⟨a, b, c, rfl⟩ := len3 (hds.trans (show Try.f7.params.toList.length = 3 by kernel_rfl))
    rfl
  · intro vs hvs
    have hp : Try.f7.params.toList = [22, 24, 3] := by kernel_rfl
    rw [hp] at hvs
    obtain ⟨xa, xb, xc, rfl, ha, hb, hc⟩ := tyArgs3 hvs
    obtain ⟨l, rfl⟩ := hasBk ha
    obtain ⟨x0, x1, g0, g1, rfl⟩ := hasU2 hb
    obtain ⟨skip, rfl⟩ := hasInt hc
    rw [elV_one Try.tagg22, elV_agg Try.tagg24, elV_one Try.tagg3]
    exact best_c l x0 x1 skip _ g0 g1
theorem policyBest_over : Rows.policyBestRow.holds Try.pinned (OpenSpec.ofChange Rows.policyBestSpec) :=
  OpenClaim.holds_of_wide 7 Try.f7 rfl rfl rfl rfl rfl rfl rfl ⟨rfl, rfl, rfl, rfl, rfl⟩ rfl rfl rfl rfl rfl (by kernel_rfl) Try.func7 (by kernel_rfl)
    (of_decide_eq_true (by kernel_rfl)) (by unfold Func.isWrapper; first | (rw [if_pos (by decide +kernel)]; kernel_rfl) | (rw [if_neg (by decide +kernel)]; exact ⟨rfl, rfl⟩))
    (fun os started H enc _ => policyBest_lifted os started H enc)
theorem policyBest_holds : Rows.PolicyBestSaid := policyBest_over
end Go.Proofs.Ytginkngmflmaoaa
