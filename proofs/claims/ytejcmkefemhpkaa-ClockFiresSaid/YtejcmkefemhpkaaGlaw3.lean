/- ClockFires holds: ticks fire each timer once, at the first one that comes to its time, in their order; ticks to several times fire the same as one to the last of them, and end as many scopes, for every clock and every list of steps that the statement looks at -/
import Derived.Test.YtejcmkefemhpkaaRows
import Derived.Test.YtejcmkefemhpkaaGh
import Derived.Test.YtejcmkefemhpkaaGi

set_option linter.unusedVariables false
set_option linter.unusedSimpArgs false
namespace Go.Proofs.Ytejcmkefemhpkaa
open Go Go.Pl Go.Proofs
open Go.ChangeShapes Go.WideShapes Go.ChangeAt Go.RowKit
set_option maxRecDepth 100000 in
theorem clockFires_lifted (os : Os) (started : os.Started) (H : Type) (enc : TypeId × Value → H) :
    ReturnsInHanded {} Try.checked os 3 .any (Rows.clockFiresSpec.pre6 enc Try.prog Try.f3 Rows.clockFiresRow.domain false) (Rows.clockFiresSpec.post enc Try.prog Try.f3 false true false false) := by
  refine returnsInHanded_of_change (C := Try.checked) own started (by kernel_rfl) Try.func3
    (ChangeSpec.witness6 (enc := enc) (C := Try.checked) false ⟨#[], #[.agg #[.int .i64 0, .int .i64 0, .slice none 0 0, .slice none 0 0], .slice none 0 0], []⟩ 8 (by kernel_rfl) (by kernel_rfl) (by kernel_rfl) (by kernel_rfl)) ?_
  intro W base args ds gs before hval hW _ _
  refine law_contract (P := Try.prog) 6 (tb := 4) (by kernel_rfl) (by kernel_rfl) rfl ?_ (by kernel_rfl) (by kernel_rfl) hval hW (gl_none (by kernel_rfl)) ?_
  · intro ds hds
    obtain ⟨a, b, rfl⟩ := len2 (hds.trans (show Try.f3.params.toList.length = 2 by kernel_rfl))
    rfl
  · intro vs hvs
    have hp : Try.f3.params.toList = [25, 26] := by kernel_rfl
    rw [hp] at hvs
    obtain ⟨xa, xb, rfl, ha, hb⟩ := tyArgs2 hvs
    obtain ⟨s, he, _⟩ := hasCk ha
    obtain ⟨l, rfl, hl⟩ := hasU16s hb
    rw [elV_agg Try.tagg25, elV_one Try.tagg26, he]
    exact AbsCall.mono (Try.clockFires_c s l hl _) fun r bx h => h.1
theorem clockFires_over : Rows.clockFiresRow.holds Try.pinned (OpenSpec.ofChange Rows.clockFiresSpec) :=
  OpenClaim.holds_of_wide 3 Try.f3 rfl rfl rfl rfl rfl rfl rfl ⟨rfl, rfl, rfl, rfl, rfl⟩ rfl rfl rfl rfl rfl (by kernel_rfl) Try.func3 (by kernel_rfl)
    (of_decide_eq_true (by kernel_rfl)) (by unfold Func.isWrapper; first | (rw [if_pos (by decide +kernel)]; kernel_rfl) | (rw [if_neg (by decide +kernel)]; exact ⟨rfl, rfl⟩))
    (fun os started H enc _ => clockFires_lifted os started H enc)
theorem clockFires_holds : Rows.ClockFiresSaid := clockFires_over
end Go.Proofs.Ytejcmkefemhpkaa
