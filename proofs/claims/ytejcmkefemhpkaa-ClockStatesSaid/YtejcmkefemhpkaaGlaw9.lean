/- whatever function is called of any clock, it answers as the document says -/
import Derived.Test.YtejcmkefemhpkaaRows
import Derived.Test.YtejcmkefemhpkaaGh
import Derived.Test.YtejcmkefemhpkaaGj

set_option linter.unusedVariables false
set_option linter.unusedSimpArgs false
namespace Go.Proofs.Ytejcmkefemhpkaa
open Go Go.Pl Go.Proofs
open Go.ChangeShapes Go.WideShapes Go.ChangeAt Go.RowKit
set_option maxRecDepth 100000 in
theorem clockStates_lifted (os : Os) (started : os.Started) (H : Type) (enc : TypeId × Value → H) :
   ReturnsInHanded {} Try.checked os 9 .any (Rows.clockStatesSpec.pre6 enc Try.prog Try.f9 Rows.clockStatesRow.domain false) (Rows.clockStatesSpec.post enc Try.prog Try.f9 false true false false) := by
 refine returnsInHanded_of_change (C := Try.checked) own started (by kernel_rfl) Try.func9
   (ChangeSpec.witness6 (enc := enc) (C := Try.checked) false ⟨#[], #[.agg #[.int .i64 0, .int .i64 0, .slice none 0 0, .slice none 0 0], .agg #[.int .u8 0, .int .i64 0, .int .i64 0, .int .i64 0]], []⟩ 8 (by kernel_rfl) (by kernel_rfl) (by kernel_rfl) (by kernel_rfl)) ?_
 intro W base args ds gs before hval hW _ _
 refine law_contract (P := Try.prog) 6 (tb := 4) (by kernel_rfl) (by kernel_rfl) rfl ?_ (by kernel_rfl) (by kernel_rfl) hval hW (gl_none (by kernel_rfl)) ?_
 · intro ds hds
   obtain ⟨a, b, rfl⟩ := len2 (hds.trans (show Try.f9.params.toList.length = 2 by kernel_rfl))
   rfl
 · intro vs hvs
   have hp : Try.f9.params.toList = [25, 44] := by kernel_rfl
   rw [hp] at hvs
   obtain ⟨xa, xb, rfl, ha, hb⟩ := tyArgs2 hvs
   obtain ⟨s, he, _⟩ := hasCk ha
   obtain ⟨x, hx, hxr⟩ := hasCl hb
   rw [elV_agg Try.tagg25, elV_agg Try.tagg44, he, hx]
   exact AbsCall.mono (Try.clockStates_c s x hxr _) fun r bx h => h.1
theorem clockStates_over : Rows.clockStatesRow.holds Try.pinned (OpenSpec.ofChange Rows.clockStatesSpec) :=
 OpenClaim.holds_of_wide 9 Try.f9 rfl rfl rfl rfl rfl rfl rfl ⟨rfl, rfl, rfl, rfl, rfl⟩ rfl rfl rfl rfl rfl (by kernel_rfl) Try.func9 (by kernel_rfl)
   (of_decide_eq_true (by kernel_rfl)) (by unfold Func.isWrapper; first | (rw [if_pos (by decide +kernel)]; kernel_rfl) | (rw [if_neg (by decide +kernel)]; exact ⟨rfl, rfl⟩))
   (fun os started H enc _ => clockStates_lifted os started H enc)
theorem clockStates_holds : Rows.ClockStatesSaid := clockStates_over
end Go.Proofs.Ytejcmkefemhpkaa
