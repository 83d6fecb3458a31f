/- PolicyCycles answers true, for every input, and leaves its arguments as they were; no condition. -/
import Derived.Test.YtginkngmflmaoaaRows
import Derived.Test.YtginkngmflmaoaaHg

set_option linter.unusedVariables false
set_option linter.unusedSimpArgs false
namespace Go.Proofs.Ytginkngmflmaoaa
open Go Go.Pl Go.Proofs
open Go.ChangeShapes Go.WideShapes Go.ChangeAt Go.RowKit
set_option maxRecDepth 100000 in
theorem policyCycles_lifted (os : Os) (started : os.Started) (H : Type) (enc : TypeId × Value → H) :
    ReturnsInHanded {} Try.checked os 5 .any (Rows.policyCyclesSpec.pre6 enc Try.prog Try.f5 Rows.policyCyclesRow.domain false) (Rows.policyCyclesSpec.post enc Try.prog Try.f5 false true false false) := by
  refine returnsInHanded_of_change (C := Try.checked) own started (by kernel_rfl) Try.func5
    (ChangeSpec.witness6 (enc := enc) (C := Try.checked) false ⟨#[], #[.slice none 0 0], []⟩ 8 (by kernel_rfl) (by kernel_rfl) (by kernel_rfl) (by kernel_rfl)) ?_
  intro W base args ds gs before hval hW _ _
  refine law_contract (P := Try.prog) 6 (tb := 4) (by kernel_rfl) (by kernel_rfl) rfl ?_ (by kernel_rfl) (by kernel_rfl) hval hW ?_
  · intro ds hds
    obtain ⟨a, rfl⟩ := len1 (hds.trans (show Try.f5.params.toList.length = 1 by kernel_rfl))
    rfl
  · intro vs hvs
    have hp : Try.f5.params.toList = [26] := by kernel_rfl
    rw [hp] at hvs
    obtain ⟨xa, rfl, ha⟩ := tyArgs1 hvs
    obtain ⟨ws, rfl⟩ := hasInts ha
    rw [elV_one Try.tagg26]
    exact cycles_c ws _
theorem policyCycles_over : Rows.policyCyclesRow.holds Try.pinned (OpenSpec.ofChange Rows.policyCyclesSpec) :=
  OpenClaim.holds_of_wide 5 Try.f5 rfl rfl rfl rfl rfl rfl rfl ⟨rfl, rfl, rfl, rfl, rfl⟩ rfl rfl rfl rfl rfl (by kernel_rfl) Try.func5 (by kernel_rfl)
    (of_decide_eq_true (by kernel_rfl)) (by unfold Func.isWrapper; first | (rw [if_pos (by decide +kernel)]; kernel_rfl) | (rw [if_neg (by decide +kernel)]; exact ⟨rfl, rfl⟩))
    (fun os started H enc _ => policyCycles_lifted os started H enc)
theorem policyCycles_holds : Rows.PolicyCyclesSaid := policyCycles_over
end Go.Proofs.Ytginkngmflmaoaa
