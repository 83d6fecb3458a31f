/- Contract. -/
import Derived.Test.YtkjhfnlnbjmahaaGreatDoorGo

set_option linter.unusedVariables false
set_option linter.unusedSimpArgs false
set_option maxRecDepth 100000
namespace Go.Proofs.YtkjhfnlnbjmahaaGreatDoor
open Go Go.Pl Go.Proofs
open Go.ChangeShapes Go.WideShapes Go.ChangeAt Go.RowKit
theorem headersLines_lifted (os : Os) (started : os.Started) (H : Type) (enc : TypeId × Value → H) :
   ReturnsInHanded {} Tryz.checked os 5 .any (fun w args => (Rows.headersLinesSpec.pre enc Tryz.prog Tryz.f5 [] false w args ∧ laidMetH Tryz.prog Rows.headersLinesRow.laid w) ∧ sizedMet enc Tryz.prog Tryz.f5 (OpenSpec.ofChange Rows.headersLinesSpec) false w args)
     (Rows.headersLinesSpec.post enc Tryz.prog Tryz.f5 false true false false) := by
 refine returnsInHanded_of_change_and (C := Tryz.checked) (X := fun w _ => laidMetH Tryz.prog Rows.headersLinesRow.laid w) (fun _ _ _ hh h => h.of_heap hh) own started (by kernel_rfl) Tryz.func5
   (ChangeSpec.witness_shaped (enc := enc) (C := Tryz.checked) (os := os) (X := fun w _ => laidMetH Tryz.prog Rows.headersLinesRow.laid w) false (World.laidAll Tryz.prog os Rows.headersLinesRow.laid) #[.slice none 0 0, .slice none 0 0] 8 (World.laidAll_os _ _ _)
     (World.shaped_of_ZipB (by kernel_rfl) (by kernel_rfl)) (by kernel_rfl) (by kernel_rfl) (by kernel_rfl)
     (by rw [MakeChecks.laidMetH_plain _ _ _ (by kernel_rfl)]; exact laidMet_laidAll _ (by kernel_rfl) (by kernel_rfl))) ?_
 intro W base args ds gs before hval hW _ _ _ _
 refine law_contractM (P := Tryz.prog) 6 (tb := 4) (by kernel_rfl) (by kernel_rfl) rfl ?_ (by kernel_rfl) (by kernel_rfl) hval hW (gl_none (by kernel_rfl)) ?_
 · intro ds hds
   obtain ⟨a, b, rfl⟩ := len2 (hds.trans (show Tryz.f5.params.toList.length = 2 by kernel_rfl))
   rfl
 · intro vs hvs
   have hp : Tryz.f5.params.toList = [22, 43] := by kernel_rfl
   rw [hp] at hvs
   obtain ⟨xa, xb, rfl, ha, hb⟩ := tyArgs2 hvs
   obtain ⟨l, rfl⟩ := hasFds ha
   obtain ⟨b, rfl⟩ := hasBytes hb
   rw [elV_one Tryz.tagg22, elV_one Tryz.tagg43]
   exact AbsCall.mono (Tryz.headersLines_c mk_bxK l b) fun r bx h => h.1
theorem headersLines_said : Rows.HeadersLinesSaid :=
 OpenClaim.holds_of_wide 5 Tryz.f5 rfl rfl rfl rfl rfl rfl rfl ⟨rfl, rfl, rfl, rfl, rfl⟩ rfl rfl rfl rfl rfl (by kernel_rfl) Tryz.func5 (by kernel_rfl)
   (of_decide_eq_true (by kernel_rfl)) (by unfold Func.isWrapper; first | (rw [if_pos (by decide +kernel)]; kernel_rfl) | (rw [if_neg (by decide +kernel)]; exact ⟨rfl, rfl⟩))
   (fun os started H enc _ => headersLines_lifted os started H enc)
theorem headersLines_plain (f : FuncId) (fn : Func) (hf : Tryz.pinned.checked.prog.funcNamed "spillway/spillwaylaw06.HeadersLines" = some f) (hfn : Tryz.pinned.checked.prog.funcs[f]? = some fn) :
   false = Tryz.pinned.checked.prog.looks [] ∧ ∀ (j : Nat) t, fn.params[j]? = some t → Tryz.pinned.checked.prog.wantsStandIn t = false := by
 obtain rfl : f = 5 := Option.some.inj ((show Tryz.prog.funcNamed "spillway/spillwaylaw06.HeadersLines" = some 5 by kernel_rfl).symm.trans hf) |>.symm
 obtain rfl : fn = Tryz.f5 := (Option.some.inj (Tryz.func5.symm.trans hfn)).symm
 refine ⟨by kernel_rfl, fun j t ht => ?_⟩
 have hall : (Tryz.f5.params.toList.all fun t => !Tryz.prog.wantsStandIn t) = true := by kernel_rfl
 have := List.all_eq_true.1 hall t (by simpa using Array.mem_of_getElem? ht)
 exact (by simpa using this : Tryz.prog.wantsStandIn t = false)
theorem headersLines_holds : Rows.HeadersLinesCardSaid :=
 Claim7.holds_tied_plain_at .later [] _ _ _ _ headersLines_said (fun _ h => by cases h) (by kernel_rfl) (fun _ h => by cases h) headersLines_row_tie rfl ⟨rfl, rfl⟩ (by kernel_rfl) rfl headersLines_plain (by kernel_rfl)
end Go.Proofs.YtkjhfnlnbjmahaaGreatDoor
