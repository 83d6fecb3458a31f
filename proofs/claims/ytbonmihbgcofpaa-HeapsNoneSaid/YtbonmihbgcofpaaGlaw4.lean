/- HeapsNone answers true at every handle and value, without conditions. -/
import Derived.Test.YtbonmihbgcofpaaRows
import Derived.Test.YtbonmihbgcofpaaGh

set_option linter.unusedVariables false
set_option linter.unusedSimpArgs false
namespace Go.Proofs.Ytbonmihbgcofpaa
open Go Go.Pl Go.Proofs
open Go.ChangeShapes Go.WideShapes Go.ChangeAt Go.RowKit
set_option maxRecDepth 100000 in
theorem heapsNone_lifted (os : Os) (started : os.Started) (H : Type) (enc : TypeId × Value → H) :
    ReturnsInHanded {} Try.checked os 9 .any (Rows.heapsNoneSpec.pre6 enc Try.prog Try.f9 Rows.heapsNoneRow.domain false) (Rows.heapsNoneSpec.post enc Try.prog Try.f9 false true false false) := by
  refine returnsInHanded_of_change (C := Try.checked) own started (by kernel_rfl) Try.func9
    (ChangeSpec.witness6 (enc := enc) (C := Try.checked) false ⟨#[], #[.int .i64 0, .int .i64 0], []⟩ 8 (by kernel_rfl) (by kernel_rfl) (by kernel_rfl) (by kernel_rfl)) ?_
  intro W base args ds gs before hval hW _ _
  refine law_contract (P := Try.prog) 6 (tb := 4) (by kernel_rfl) (by kernel_rfl) rfl ?_ (by kernel_rfl) (by kernel_rfl) hval hW (gl_none (by kernel_rfl)) ?_
  · intro ds hds
    obtain ⟨a, b, rfl⟩ := len2 (hds.trans (show Try.f9.params.toList.length = 2 by kernel_rfl))
    rfl
  · intro vs hvs
    have hp : Try.f9.params.toList = [2, 3] := by kernel_rfl
    rw [hp] at hvs
    obtain ⟨xa, xb, rfl, ha, hb⟩ := tyArgs2 hvs
    obtain ⟨i, rfl, _⟩ := hasInt64 ha
    obtain ⟨j, rfl⟩ := hasInt hb
    rw [elV_one Try.tagg2, elV_one Try.tagg3]
    exact Try.heapsNone_c i j _
theorem heapsNone_over : Rows.heapsNoneRow.holds Try.pinned (OpenSpec.ofChange Rows.heapsNoneSpec) :=
  OpenClaim.holds_of_wide 9 Try.f9 rfl rfl rfl rfl rfl rfl rfl ⟨rfl, rfl, rfl, rfl, rfl⟩ rfl rfl rfl rfl rfl (by kernel_rfl) Try.func9 (by kernel_rfl)
    (of_decide_eq_true (by kernel_rfl)) (by unfold Func.isWrapper; first | (rw [if_pos (by decide +kernel)]; kernel_rfl) | (rw [if_neg (by decide +kernel)]; exact ⟨rfl, rfl⟩))
    (fun os started H enc _ => heapsNone_lifted os started H enc)
theorem heapsNone_holds : Rows.HeapsNoneSaid := heapsNone_over
end Go.Proofs.Ytbonmihbgcofpaa
