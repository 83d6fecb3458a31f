/- ClockScopes holds: after each call of Tick, Scope and Cancel the clock is valid, each scope has ended exactly for the reason that the statement names, and at the end none is live whose parent has ended, for every clock and every list of calls that the statement looks at -/
import Derived.Test.YtejcmkefemhpkaaRows
import Derived.Test.YtejcmkefemhpkaaGh
import Derived.Test.YtejcmkefemhpkaaGj

set_option linter.unusedVariables false
set_option linter.unusedSimpArgs false
namespace Go.Proofs.Ytejcmkefemhpkaa
open Go Go.Pl Go.Proofs
open Go.ChangeShapes Go.WideShapes Go.ChangeAt Go.RowKit
set_option maxRecDepth 100000 in
theorem clockScopes_lifted (os : Os) (started : os.Started) (H : Type) (enc : TypeId × Value → H) :
    ReturnsInHanded {} Try.checked os 5 .any (Rows.clockScopesSpec.pre6 enc Try.prog Try.f5 Rows.clockScopesRow.domain false) (Rows.clockScopesSpec.post enc Try.prog Try.f5 false true false false) := by
  refine returnsInHanded_of_change (C := Try.checked) own started (by kernel_rfl) Try.func5
    (ChangeSpec.witness6 (enc := enc) (C := Try.checked) false ⟨#[], #[.agg #[.int .i64 0, .int .i64 0, .slice none 0 0, .slice none 0 0], .slice none 0 0], []⟩ 8 (by kernel_rfl) (by kernel_rfl) (by kernel_rfl) (by kernel_rfl)) ?_
  intro W base args ds gs before hval hW _ _
  refine law_contract (P := Try.prog) 6 (tb := 4) (by kernel_rfl) (by kernel_rfl) rfl ?_ (by kernel_rfl) (by kernel_rfl) hval hW (gl_none (by kernel_rfl)) ?_
  · intro ds hds
    obtain ⟨a, b, rfl⟩ := len2 (hds.trans (show Try.f5.params.toList.length = 2 by kernel_rfl))
    rfl
  · intro vs hvs
    have hp : Try.f5.params.toList = [25, 42] := by kernel_rfl
    rw [hp] at hvs
    obtain ⟨xa, xb, rfl, ha, hb⟩ := tyArgs2 hvs
    obtain ⟨s, he, _⟩ := hasCk ha
    obtain ⟨l, rfl, hl⟩ := hasCls hb
    rw [elV_agg Try.tagg25, elV_one Try.tagg42, he]
    exact AbsCall.mono (Try.clockScopes_c s l hl _) fun r bx h => h.1
theorem clockScopes_over : Rows.clockScopesRow.holds Try.pinned (OpenSpec.ofChange Rows.clockScopesSpec) :=
  OpenClaim.holds_of_wide 5 Try.f5 rfl rfl rfl rfl rfl rfl rfl ⟨rfl, rfl, rfl, rfl, rfl⟩ rfl rfl rfl rfl rfl (by kernel_rfl) Try.func5 (by kernel_rfl)
    (of_decide_eq_true (by kernel_rfl)) (by unfold Func.isWrapper; first | (rw [if_pos (by decide +kernel)]; kernel_rfl) | (rw [if_neg (by decide +kernel)]; exact ⟨rfl, rfl⟩))
    (fun os started H enc _ => clockScopes_lifted os started H enc)
theorem clockScopes_holds : Rows.ClockScopesSaid := clockScopes_over
end Go.Proofs.Ytejcmkefemhpkaa
