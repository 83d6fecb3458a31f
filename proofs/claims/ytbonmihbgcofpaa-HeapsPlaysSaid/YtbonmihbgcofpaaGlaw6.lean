/- HeapsPlays answers true for every order, state and list of calls: whatever is called, on a new queue or a loaded one, it answers as the document says, and has the state that it says. -/
import Derived.Test.YtbonmihbgcofpaaRows
import Derived.Test.YtbonmihbgcofpaaGh
import Derived.Test.YtbonmihbgcofpaaGi

set_option linter.unusedVariables false
set_option linter.unusedSimpArgs false
namespace Go.Proofs.Ytbonmihbgcofpaa
open Go Go.Pl Go.Proofs
open Go.ChangeShapes Go.WideShapes Go.ChangeAt Go.RowKit
set_option maxRecDepth 100000 in
theorem heapsPlays_lifted (os : Os) (started : os.Started) (H : Type) (enc : TypeId × Value → H) :
    ReturnsInHanded {} Try.checked os 8 .any (Rows.heapsPlaysSpec.pre6 enc Try.prog Try.f8 Rows.heapsPlaysRow.domain false) (Rows.heapsPlaysSpec.post enc Try.prog Try.f8 false true false false) := by
  refine returnsInHanded_of_change (C := Try.checked) own started (by kernel_rfl) Try.func8
    (ChangeSpec.witness6 (enc := enc) (C := Try.checked) false ⟨#[], #[.int .u8 0, .agg #[.int .i64 0, .slice none 0 0], .slice none 0 0], []⟩ 8 (by kernel_rfl) (by kernel_rfl) (by kernel_rfl) (by kernel_rfl)) ?_
  intro W base args ds gs before hval hW _ _
  refine law_contract (P := Try.prog) 6 (tb := 4) (by kernel_rfl) (by kernel_rfl) rfl ?_ (by kernel_rfl) (by kernel_rfl) hval hW (gl_none (by kernel_rfl)) ?_
  · intro ds hds
    obtain ⟨a, b, c, rfl⟩ := len3 (hds.trans (show Try.f8.params.toList.length = 3 by kernel_rfl))
    rfl
  · intro vs hvs
    have hp : Try.f8.params.toList = [5, 52, 66] := by kernel_rfl
    rw [hp] at hvs
    obtain ⟨xa, xb, xc, rfl, ha, hb, hc⟩ := tyArgs3 hvs
    obtain ⟨i, hi, rfl⟩ := hasU8 ha
    obtain ⟨m, its, he, _⟩ := hasState hb
    obtain ⟨l, rfl, hl⟩ := hasCalls hc
    rw [elV_one Try.tagg5, elV_agg Try.tagg52, elV_one Try.tagg66, he]
    exact Try.heapsPlays_c i hi m its l hl _ finNone
theorem heapsPlays_over : Rows.heapsPlaysRow.holds Try.pinned (OpenSpec.ofChange Rows.heapsPlaysSpec) :=
  OpenClaim.holds_of_wide 8 Try.f8 rfl rfl rfl rfl rfl rfl rfl ⟨rfl, rfl, rfl, rfl, rfl⟩ rfl rfl rfl rfl rfl (by kernel_rfl) Try.func8 (by kernel_rfl)
    (of_decide_eq_true (by kernel_rfl)) (by unfold Func.isWrapper; first | (rw [if_pos (by decide +kernel)]; kernel_rfl) | (rw [if_neg (by decide +kernel)]; exact ⟨rfl, rfl⟩))
    (fun os started H enc _ => heapsPlays_lifted os started H enc)
theorem heapsPlays_holds : Rows.HeapsPlaysSaid := heapsPlays_over
end Go.Proofs.Ytbonmihbgcofpaa
