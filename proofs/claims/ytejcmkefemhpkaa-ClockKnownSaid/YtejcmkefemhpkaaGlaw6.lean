/- ClockKnown holds: the examples of the document come out as the document says them, for the one call without arguments that the statement makes -/
import Derived.Test.YtejcmkefemhpkaaRows
import Derived.Test.YtejcmkefemhpkaaGh
import Derived.Test.YtejcmkefemhpkaaGj

set_option linter.unusedVariables false
set_option linter.unusedSimpArgs false
namespace Go.Proofs.Ytejcmkefemhpkaa
open Go Go.Pl Go.Proofs
open Go.ChangeShapes Go.WideShapes Go.ChangeAt Go.RowKit
set_option maxRecDepth 100000 in
theorem clockKnown_lifted (os : Os) (started : os.Started) (H : Type) (enc : TypeId × Value → H) :
    ReturnsInHanded {} Try.checked os 6 .any (Rows.clockKnownSpec.pre6 enc Try.prog Try.f6 Rows.clockKnownRow.domain false) (Rows.clockKnownSpec.post enc Try.prog Try.f6 false true false false) := by
  refine returnsInHanded_of_change (C := Try.checked) own started (by kernel_rfl) Try.func6
    (ChangeSpec.witness6 (enc := enc) (C := Try.checked) false ⟨#[], #[], []⟩ 8 (by kernel_rfl) (by kernel_rfl) (by kernel_rfl) (by kernel_rfl)) ?_
  intro W base args ds gs before hval hW _ _
  refine law_contract (P := Try.prog) 6 (tb := 4) (by kernel_rfl) (by kernel_rfl) rfl ?_ (by kernel_rfl) (by kernel_rfl) hval hW (gl_none (by kernel_rfl)) ?_
  · intro ds hds
    obtain rfl := len0 (hds.trans (show Try.f6.params.toList.length = 0 by kernel_rfl))
    rfl
  · intro vs hvs
    have hp : Try.f6.params.toList = [] := by kernel_rfl
    rw [hp] at hvs
    obtain rfl := tyArgs0 hvs
    
    exact AbsCall.mono (Try.clockKnown_c _) fun r bx h => h.1
theorem clockKnown_over : Rows.clockKnownRow.holds Try.pinned (OpenSpec.ofChange Rows.clockKnownSpec) :=
  OpenClaim.holds_of_wide 6 Try.f6 rfl rfl rfl rfl rfl rfl rfl ⟨rfl, rfl, rfl, rfl, rfl⟩ rfl rfl rfl rfl rfl (by kernel_rfl) Try.func6 (by kernel_rfl)
    (of_decide_eq_true (by kernel_rfl)) (by unfold Func.isWrapper; first | (rw [if_pos (by decide +kernel)]; kernel_rfl) | (rw [if_neg (by decide +kernel)]; exact ⟨rfl, rfl⟩))
    (fun os started H enc _ => clockKnown_lifted os started H enc)
theorem clockKnown_holds : Rows.ClockKnownSaid := clockKnown_over
end Go.Proofs.Ytejcmkefemhpkaa
