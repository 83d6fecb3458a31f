/- PolicyTurns answers true, for every input, and leaves its arguments as they were; no condition. -/
import Derived.Test.YtginkngmflmaoaaRows
import Derived.Test.YtginkngmflmaoaaHg

set_option linter.unusedVariables false
set_option linter.unusedSimpArgs false
namespace Go.Proofs.Ytginkngmflmaoaa
open Go Go.Pl Go.Proofs
open Go.ChangeShapes Go.WideShapes Go.ChangeAt Go.RowKit
set_option maxRecDepth 100000 in
theorem policyTurns_lifted (os : Os) (started : os.Started) (H : Type) (enc : TypeId × Value → H) :
    ReturnsInHanded {} Try.checked os 4 .any (Rows.policyTurnsSpec.pre6 enc Try.prog Try.f4 Rows.policyTurnsRow.domain false) (Rows.policyTurnsSpec.post enc Try.prog Try.f4 false true false false) := by
  refine returnsInHanded_of_change (C := Try.checked) own started (by kernel_rfl) Try.func4
    (ChangeSpec.witness6 (enc := enc) (C := Try.checked) false ⟨#[], #[.slice none 0 0, .int .i64 0, .slice none 0 0], []⟩ 8 (by kernel_rfl) (by kernel_rfl) (by kernel_rfl) (by kernel_rfl)) ?_
  intro W base args ds gs before hval hW _ _
  refine law_contract (P := Try.prog) 6 (tb := 4) (by kernel_rfl) (by kernel_rfl) rfl ?_ (by kernel_rfl) (by kernel_rfl) hval hW ?_
  · intro ds hds
    obtain ⟨a, b, c, rfl⟩ := len3 (hds.trans (show Try.f4.params.toList.length = 3 by kernel_rfl))
    rfl
  · intro vs hvs
    have hp : Try.f4.params.toList = [22, 3, 26] := by kernel_rfl
    rw [hp] at hvs
    obtain ⟨xa, xb, xc, rfl, ha, hb, hc⟩ := tyArgs3 hvs
    obtain ⟨l, rfl⟩ := hasBk ha
    obtain ⟨skip, rfl⟩ := hasInt hb
    obtain ⟨ws, rfl⟩ := hasInts hc
    rw [elV_one Try.tagg22, elV_one Try.tagg3, elV_one Try.tagg26]
    exact turns_c l skip ws _
theorem policyTurns_over : Rows.policyTurnsRow.holds Try.pinned (OpenSpec.ofChange Rows.policyTurnsSpec) :=
  OpenClaim.holds_of_wide 4 Try.f4 rfl rfl rfl rfl rfl rfl rfl ⟨rfl, rfl, rfl, rfl, rfl⟩ rfl rfl rfl rfl rfl (by kernel_rfl) Try.func4 (by kernel_rfl)
    (of_decide_eq_true (by kernel_rfl)) (by unfold Func.isWrapper; first | (rw [if_pos (by decide +kernel)]; kernel_rfl) | (rw [if_neg (by decide +kernel)]; exact ⟨rfl, rfl⟩))
    (fun os started H enc _ => policyTurns_lifted os started H enc)
theorem policyTurns_holds : Rows.PolicyTurnsSaid := policyTurns_over
end Go.Proofs.Ytginkngmflmaoaa
