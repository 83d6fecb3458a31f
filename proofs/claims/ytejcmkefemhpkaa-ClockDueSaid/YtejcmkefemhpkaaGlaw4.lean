/- ClockDue answers true for every clock and time: a tick to a time before Due fires and ends nothing; one to Due (or to now, if that is over) does. -/
import Derived.Test.YtejcmkefemhpkaaRows
import Derived.Test.YtejcmkefemhpkaaGh
import Derived.Test.YtejcmkefemhpkaaGi

set_option linter.unusedVariables false
set_option linter.unusedSimpArgs false
namespace Go.Proofs.Ytejcmkefemhpkaa
open Go Go.Pl Go.Proofs
open Go.ChangeShapes Go.WideShapes Go.ChangeAt Go.RowKit
set_option maxRecDepth 100000 in
theorem clockDue_lifted (os : Os) (started : os.Started) (H : Type) (enc : TypeId × Value → H) :
    ReturnsInHanded {} Try.checked os 4 .any (Rows.clockDueSpec.pre6 enc Try.prog Try.f4 Rows.clockDueRow.domain false) (Rows.clockDueSpec.post enc Try.prog Try.f4 false true false false) := by
  refine returnsInHanded_of_change (C := Try.checked) own started (by kernel_rfl) Try.func4
    (ChangeSpec.witness6 (enc := enc) (C := Try.checked) false ⟨#[], #[.agg #[.int .i64 0, .int .i64 0, .slice none 0 0, .slice none 0 0], .int .i64 0], []⟩ 8 (by kernel_rfl) (by kernel_rfl) (by kernel_rfl) (by kernel_rfl)) ?_
  intro W base args ds gs before hval hW _ _
  refine law_contract (P := Try.prog) 6 (tb := 4) (by kernel_rfl) (by kernel_rfl) rfl ?_ (by kernel_rfl) (by kernel_rfl) hval hW (gl_none (by kernel_rfl)) ?_
  · intro ds hds
    obtain ⟨a, b, rfl⟩ := len2 (hds.trans (show Try.f4.params.toList.length = 2 by kernel_rfl))
    rfl
  · intro vs hvs
    have hp : Try.f4.params.toList = [25, 2] := by kernel_rfl
    rw [hp] at hvs
    obtain ⟨xa, xb, rfl, ha, hb⟩ := tyArgs2 hvs
    obtain ⟨s, he, _⟩ := hasCk ha
    obtain ⟨i, rfl, _⟩ := hasInt64 hb
    rw [elV_agg Try.tagg25, elV_one Try.tagg2, he]
    exact AbsCall.mono (Try.clockDue_c s i _) fun r bx h => h.1
theorem clockDue_over : Rows.clockDueRow.holds Try.pinned (OpenSpec.ofChange Rows.clockDueSpec) :=
  OpenClaim.holds_of_wide 4 Try.f4 rfl rfl rfl rfl rfl rfl rfl ⟨rfl, rfl, rfl, rfl, rfl⟩ rfl rfl rfl rfl rfl (by kernel_rfl) Try.func4 (by kernel_rfl)
    (of_decide_eq_true (by kernel_rfl)) (by unfold Func.isWrapper; first | (rw [if_pos (by decide +kernel)]; kernel_rfl) | (rw [if_neg (by decide +kernel)]; exact ⟨rfl, rfl⟩))
    (fun os started H enc _ => clockDue_lifted os started H enc)
theorem clockDue_holds : Rows.ClockDueSaid := clockDue_over
end Go.Proofs.Ytejcmkefemhpkaa
