/- whatever is called, of a clock that is new, it answers as the document says -/
import Derived.Test.YtejcmkefemhpkaaRows
import Derived.Test.YtejcmkefemhpkaaGh
import Derived.Test.YtejcmkefemhpkaaGj

set_option linter.unusedVariables false
set_option linter.unusedSimpArgs false
namespace Go.Proofs.Ytejcmkefemhpkaa
open Go Go.Pl Go.Proofs
open Go.ChangeShapes Go.WideShapes Go.ChangeAt Go.RowKit
set_option maxRecDepth 100000 in
theorem clockPlays_lifted (os : Os) (started : os.Started) (H : Type) (enc : TypeId × Value → H) :
   ReturnsInHanded {} Try.checked os 8 .any (Rows.clockPlaysSpec.pre6 enc Try.prog Try.f8 Rows.clockPlaysRow.domain false) (Rows.clockPlaysSpec.post enc Try.prog Try.f8 false true false false) := by
 refine returnsInHanded_of_change (C := Try.checked) own started (by kernel_rfl) Try.func8
   (ChangeSpec.witness6 (enc := enc) (C := Try.checked) false ⟨#[], #[.int .i64 0, .slice none 0 0], []⟩ 8 (by kernel_rfl) (by kernel_rfl) (by kernel_rfl) (by kernel_rfl)) ?_
 intro W base args ds gs before hval hW _ _
 refine law_contract (P := Try.prog) 6 (tb := 4) (by kernel_rfl) (by kernel_rfl) rfl ?_ (by kernel_rfl) (by kernel_rfl) hval hW (gl_none (by kernel_rfl)) ?_
 · intro ds hds
   obtain ⟨a, b, rfl⟩ := len2 (hds.trans (show Try.f8.params.toList.length = 2 by kernel_rfl))
   rfl
 · intro vs hvs
   have hp : Try.f8.params.toList = [2, 42] := by kernel_rfl
   rw [hp] at hvs
   obtain ⟨xa, xb, rfl, ha, hb⟩ := tyArgs2 hvs
   obtain ⟨i, rfl, _⟩ := hasInt64 ha
   obtain ⟨l, rfl, hl⟩ := hasCls hb
   rw [elV_one Try.tagg2, elV_one Try.tagg42]
   exact AbsCall.mono (Try.clockPlays_c i l hl _) fun r bx h => h.1
theorem clockPlays_over : Rows.clockPlaysRow.holds Try.pinned (OpenSpec.ofChange Rows.clockPlaysSpec) :=
 OpenClaim.holds_of_wide 8 Try.f8 rfl rfl rfl rfl rfl rfl rfl ⟨rfl, rfl, rfl, rfl, rfl⟩ rfl rfl rfl rfl rfl (by kernel_rfl) Try.func8 (by kernel_rfl)
   (of_decide_eq_true (by kernel_rfl)) (by unfold Func.isWrapper; first | (rw [if_pos (by decide +kernel)]; kernel_rfl) | (rw [if_neg (by decide +kernel)]; exact ⟨rfl, rfl⟩))
   (fun os started H enc _ => clockPlays_lifted os started H enc)
theorem clockPlays_holds : Rows.ClockPlaysSaid := clockPlays_over
end Go.Proofs.Ytejcmkefemhpkaa
