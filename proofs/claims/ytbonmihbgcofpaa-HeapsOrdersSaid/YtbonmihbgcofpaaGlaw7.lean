/- different values are popped in one order, in whatever order they are pushed, also as structs; a queue that is saved and loaded goes on alike -/
import Derived.Test.YtbonmihbgcofpaaRows
import Derived.Test.YtbonmihbgcofpaaGi

set_option linter.unusedVariables false
set_option linter.unusedSimpArgs false
namespace Go.Proofs.Ytbonmihbgcofpaa
open Go Go.Pl Go.Proofs
open Go.ChangeShapes Go.WideShapes Go.ChangeAt Go.RowKit
set_option maxRecDepth 100000 in
theorem heapsOrders_lifted (os : Os) (started : os.Started) (H : Type) (enc : TypeId × Value → H) :
   ReturnsInHanded {} Try.checked os 7 .any (Rows.heapsOrdersSpec.pre6 enc Try.prog Try.f7 Rows.heapsOrdersRow.domain false) (Rows.heapsOrdersSpec.post enc Try.prog Try.f7 false true false false) := by
 refine returnsInHanded_of_change (C := Try.checked) own started (by kernel_rfl) Try.func7
   (ChangeSpec.witness6 (enc := enc) (C := Try.checked) false ⟨#[], #[.slice none 0 0, .slice none 0 0], []⟩ 8 (by kernel_rfl) (by kernel_rfl) (by kernel_rfl) (by kernel_rfl)) ?_
 intro W base args ds gs before hval hW _ _
 refine law_contract (P := Try.prog) 6 (tb := 4) (by kernel_rfl) (by kernel_rfl) rfl ?_ (by kernel_rfl) (by kernel_rfl) hval hW (gl_none (by kernel_rfl)) ?_
 · intro ds hds
   obtain ⟨a, b, rfl⟩ := len2 (hds.trans (show Try.f7.params.toList.length = 2 by kernel_rfl))
   rfl
 · intro vs hvs
   have hp : Try.f7.params.toList = [22, 34] := by kernel_rfl
   rw [hp] at hvs
   obtain ⟨xa, xb, rfl, ha, hb⟩ := tyArgs2 hvs
   obtain ⟨l, rfl, _⟩ := hasInts ha
   obtain ⟨p, rfl, hp⟩ := hasU8b hb
   rw [elV_one Try.tagg22, elV_one Try.tagg34]
   exact Try.heapsOrders_c l p hp _ finNone
theorem heapsOrders_over : Rows.heapsOrdersRow.holds Try.pinned (OpenSpec.ofChange Rows.heapsOrdersSpec) :=
 OpenClaim.holds_of_wide 7 Try.f7 rfl rfl rfl rfl rfl rfl rfl ⟨rfl, rfl, rfl, rfl, rfl⟩ rfl rfl rfl rfl rfl (by kernel_rfl) Try.func7 (by kernel_rfl)
   (of_decide_eq_true (by kernel_rfl)) (by unfold Func.isWrapper; first | (rw [if_pos (by decide +kernel)]; kernel_rfl) | (rw [if_neg (by decide +kernel)]; exact ⟨rfl, rfl⟩))
   (fun os started H enc _ => heapsOrders_lifted os started H enc)
theorem heapsOrders_holds : Rows.HeapsOrdersSaid := heapsOrders_over
end Go.Proofs.Ytbonmihbgcofpaa
