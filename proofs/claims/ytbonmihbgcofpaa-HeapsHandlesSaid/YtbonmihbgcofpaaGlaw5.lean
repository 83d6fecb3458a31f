/- HeapsHandles answers true at every order, list and pair of values, without conditions. -/
import Derived.Test.YtbonmihbgcofpaaRows
import Derived.Test.YtbonmihbgcofpaaGh

set_option linter.unusedVariables false
set_option linter.unusedSimpArgs false
namespace Go.Proofs.Ytbonmihbgcofpaa
open Go Go.Pl Go.Proofs
open Go.ChangeShapes Go.WideShapes Go.ChangeAt Go.RowKit
set_option maxRecDepth 100000 in
theorem heapsHandles_lifted (os : Os) (started : os.Started) (H : Type) (enc : TypeId × Value → H) :
    ReturnsInHanded {} Try.checked os 6 .any (Rows.heapsHandlesSpec.pre6 enc Try.prog Try.f6 Rows.heapsHandlesRow.domain false) (Rows.heapsHandlesSpec.post enc Try.prog Try.f6 false true false false) := by
  refine returnsInHanded_of_change (C := Try.checked) own started (by kernel_rfl) Try.func6
    (ChangeSpec.witness6 (enc := enc) (C := Try.checked) false ⟨#[], #[.int .u8 0, .slice none 0 0, .agg #[.int .i64 0, .int .i64 0]], []⟩ 8 (by kernel_rfl) (by kernel_rfl) (by kernel_rfl) (by kernel_rfl)) ?_
  intro W base args ds gs before hval hW _ _
  refine law_contract (P := Try.prog) 6 (tb := 4) (by kernel_rfl) (by kernel_rfl) rfl ?_ (by kernel_rfl) (by kernel_rfl) hval hW (gl_none (by kernel_rfl)) ?_
  · intro ds hds
    obtain ⟨a, b, c, rfl⟩ := len3 (hds.trans (show Try.f6.params.toList.length = 3 by kernel_rfl))
    rfl
  · intro vs hvs
    have hp : Try.f6.params.toList = [5, 22, 50] := by kernel_rfl
    rw [hp] at hvs
    obtain ⟨xa, xb, xc, rfl, ha, hb, hc⟩ := tyArgs3 hvs
    obtain ⟨i, hi, rfl⟩ := hasU8 ha
    obtain ⟨l, rfl, _⟩ := hasInts hb
    obtain ⟨a, b, rfl, hb2⟩ := hasPair hc
    rw [elV_one Try.tagg5, elV_one Try.tagg22, elV_agg Try.tagg50]
    exact Try.heapsHandles_c i hi l a b hb2 _ finNone
theorem heapsHandles_over : Rows.heapsHandlesRow.holds Try.pinned (OpenSpec.ofChange Rows.heapsHandlesSpec) :=
  OpenClaim.holds_of_wide 6 Try.f6 rfl rfl rfl rfl rfl rfl rfl ⟨rfl, rfl, rfl, rfl, rfl⟩ rfl rfl rfl rfl rfl (by kernel_rfl) Try.func6 (by kernel_rfl)
    (of_decide_eq_true (by kernel_rfl)) (by unfold Func.isWrapper; first | (rw [if_pos (by decide +kernel)]; kernel_rfl) | (rw [if_neg (by decide +kernel)]; exact ⟨rfl, rfl⟩))
    (fun os started H enc _ => heapsHandles_lifted os started H enc)
theorem heapsHandles_holds : Rows.HeapsHandlesSaid := heapsHandles_over
end Go.Proofs.Ytbonmihbgcofpaa
