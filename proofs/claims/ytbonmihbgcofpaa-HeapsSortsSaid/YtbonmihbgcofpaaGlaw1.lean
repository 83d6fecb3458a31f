/- HeapsSorts answers true at every order and list, without conditions. -/
import Derived.Test.YtbonmihbgcofpaaRows
import Derived.Test.YtbonmihbgcofpaaGh

set_option linter.unusedVariables false
set_option linter.unusedSimpArgs false
namespace Go.Proofs.Ytbonmihbgcofpaa
open Go Go.Pl Go.Proofs
open Go.ChangeShapes Go.WideShapes Go.ChangeAt Go.RowKit
set_option maxRecDepth 100000 in
theorem heapsSorts_lifted (os : Os) (started : os.Started) (H : Type) (enc : TypeId × Value → H) :
    ReturnsInHanded {} Try.checked os 3 .any (Rows.heapsSortsSpec.pre6 enc Try.prog Try.f3 Rows.heapsSortsRow.domain false) (Rows.heapsSortsSpec.post enc Try.prog Try.f3 false true false false) := by
  refine returnsInHanded_of_change (C := Try.checked) own started (by kernel_rfl) Try.func3
    (ChangeSpec.witness6 (enc := enc) (C := Try.checked) false ⟨#[], #[.int .u8 0, .slice none 0 0], []⟩ 8 (by kernel_rfl) (by kernel_rfl) (by kernel_rfl) (by kernel_rfl)) ?_
  intro W base args ds gs before hval hW _ _
  refine law_contract (P := Try.prog) 6 (tb := 4) (by kernel_rfl) (by kernel_rfl) rfl ?_ (by kernel_rfl) (by kernel_rfl) hval hW (gl_none (by kernel_rfl)) ?_
  · intro ds hds
    obtain ⟨a, b, rfl⟩ := len2 (hds.trans (show Try.f3.params.toList.length = 2 by kernel_rfl))
    rfl
  · intro vs hvs
    have hp : Try.f3.params.toList = [5, 22] := by kernel_rfl
    rw [hp] at hvs
    obtain ⟨xa, xb, rfl, ha, hb⟩ := tyArgs2 hvs
    obtain ⟨i, hi, rfl⟩ := hasU8 ha
    obtain ⟨l, rfl, _⟩ := hasInts hb
    rw [elV_one Try.tagg5, elV_one Try.tagg22]
    exact (Try.heapsSorts_c i hi l _ finNone).mono fun _ _ h => h.1
theorem heapsSorts_over : Rows.heapsSortsRow.holds Try.pinned (OpenSpec.ofChange Rows.heapsSortsSpec) :=
  OpenClaim.holds_of_wide 3 Try.f3 rfl rfl rfl rfl rfl rfl rfl ⟨rfl, rfl, rfl, rfl, rfl⟩ rfl rfl rfl rfl rfl (by kernel_rfl) Try.func3 (by kernel_rfl)
    (of_decide_eq_true (by kernel_rfl)) (by unfold Func.isWrapper; first | (rw [if_pos (by decide +kernel)]; kernel_rfl) | (rw [if_neg (by decide +kernel)]; exact ⟨rfl, rfl⟩))
    (fun os started H enc _ => heapsSorts_lifted os started H enc)
theorem heapsSorts_holds : Rows.HeapsSortsSaid := heapsSorts_over
end Go.Proofs.Ytbonmihbgcofpaa
