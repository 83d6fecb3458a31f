/- HeapsKnown answers true, without conditions. -/
import Derived.Test.YtbonmihbgcofpaaRows
import Derived.Test.YtbonmihbgcofpaaGh

set_option linter.unusedVariables false
set_option linter.unusedSimpArgs false
namespace Go.Proofs.Ytbonmihbgcofpaa
open Go Go.Pl Go.Proofs
open Go.ChangeShapes Go.WideShapes Go.ChangeAt Go.RowKit
set_option maxRecDepth 100000 in
theorem heapsKnown_lifted (os : Os) (started : os.Started) (H : Type) (enc : TypeId × Value → H) :
    ReturnsInHanded {} Try.checked os 5 .any (Rows.heapsKnownSpec.pre6 enc Try.prog Try.f5 Rows.heapsKnownRow.domain false) (Rows.heapsKnownSpec.post enc Try.prog Try.f5 false true false false) := by
  refine returnsInHanded_of_change (C := Try.checked) own started (by kernel_rfl) Try.func5
    (ChangeSpec.witness6 (enc := enc) (C := Try.checked) false ⟨#[], #[], []⟩ 8 (by kernel_rfl) (by kernel_rfl) (by kernel_rfl) (by kernel_rfl)) ?_
  intro W base args ds gs before hval hW _ _
  refine law_contract (P := Try.prog) 6 (tb := 4) (by kernel_rfl) (by kernel_rfl) rfl ?_ (by kernel_rfl) (by kernel_rfl) hval hW (gl_none (by kernel_rfl)) ?_
  · intro ds hds
    obtain rfl := len0 (hds.trans (show Try.f5.params.toList.length = 0 by kernel_rfl))
    rfl
  · intro vs hvs
    have hp : Try.f5.params.toList = [] := by kernel_rfl
    rw [hp] at hvs
    obtain rfl := tyArgs0 hvs
    
    exact (Try.heapsKnown_c (fun _ => none)).mono fun _ _ h => h.1
theorem heapsKnown_over : Rows.heapsKnownRow.holds Try.pinned (OpenSpec.ofChange Rows.heapsKnownSpec) :=
  OpenClaim.holds_of_wide 5 Try.f5 rfl rfl rfl rfl rfl rfl rfl ⟨rfl, rfl, rfl, rfl, rfl⟩ rfl rfl rfl rfl rfl (by kernel_rfl) Try.func5 (by kernel_rfl)
    (of_decide_eq_true (by kernel_rfl)) (by unfold Func.isWrapper; first | (rw [if_pos (by decide +kernel)]; kernel_rfl) | (rw [if_neg (by decide +kernel)]; exact ⟨rfl, rfl⟩))
    (fun os started H enc _ => heapsKnown_lifted os started H enc)
theorem heapsKnown_holds : Rows.HeapsKnownSaid := heapsKnown_over
end Go.Proofs.Ytbonmihbgcofpaa
