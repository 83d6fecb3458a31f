/- Any bytes that headers.Parse reads are the fields that can be printed and read again. -/
import Derived.Test.YtkjhfnlnbjmahaaGreatDoorGo

set_option linter.unusedVariables false
set_option linter.unusedSimpArgs false
set_option maxRecDepth 100000
namespace Go.Proofs.YtkjhfnlnbjmahaaGreatDoor
open Go Go.Pl Go.Proofs
open Go.ChangeShapes Go.WideShapes Go.ChangeAt Go.RowKit
theorem headersReads_lifted (os : Os) (started : os.Started) (H : Type) (enc : TypeId × Value → H) :
   ReturnsInHanded {} Tryz.checked os 7 .any (fun w args => (Rows.headersReadsSpec.pre enc Tryz.prog Tryz.f7 [] false w args ∧ laidMetH Tryz.prog Rows.headersReadsRow.laid w) ∧ sizedMet enc Tryz.prog Tryz.f7 (OpenSpec.ofChange Rows.headersReadsSpec) false w args)
     (Rows.headersReadsSpec.post enc Tryz.prog Tryz.f7 false true false false) := by
 refine returnsInHanded_of_change_and (C := Tryz.checked) (X := fun w _ => laidMetH Tryz.prog Rows.headersReadsRow.laid w) (fun _ _ _ hh h => h.of_heap hh) own started (by kernel_rfl) Tryz.func7
   (ChangeSpec.witness_shaped (enc := enc) (C := Tryz.checked) (os := os) (X := fun w _ => laidMetH Tryz.prog Rows.headersReadsRow.laid w) false (World.laidAll Tryz.prog os Rows.headersReadsRow.laid) #[.slice none 0 0] 8 (World.laidAll_os _ _ _)
     (World.shaped_of_ZipB (by kernel_rfl) (by kernel_rfl)) (by kernel_rfl) (by kernel_rfl) (by kernel_rfl)
     (by rw [MakeChecks.laidMetH_plain _ _ _ (by kernel_rfl)]; exact laidMet_laidAll _ (by kernel_rfl) (by kernel_rfl))) ?_
 intro W base args ds gs before hval hW _ _ _ _
 refine law_contractM (P := Tryz.prog) 6 (tb := 4) (by kernel_rfl) (by kernel_rfl) rfl ?_ (by kernel_rfl) (by kernel_rfl) hval hW (gl_none (by kernel_rfl)) ?_
 · intro ds hds
   obtain ⟨a, rfl⟩ := len1 (hds.trans (show Tryz.f7.params.toList.length = 1 by kernel_rfl))
   rfl
 · intro vs hvs
   have hp : Tryz.f7.params.toList = [43] := by kernel_rfl
   rw [hp] at hvs
   obtain ⟨xa, rfl, ha⟩ := tyArgs1 hvs
   obtain ⟨b, rfl⟩ := hasBytes ha
   rw [elV_one Tryz.tagg43]
   exact AbsCall.mono (Tryz.headersReads_c mk_bxK b) fun r bx h => h.1
theorem headersReads_said : Rows.HeadersReadsSaid :=
 OpenClaim.holds_of_wide 7 Tryz.f7 rfl rfl rfl rfl rfl rfl rfl ⟨rfl, rfl, rfl, rfl, rfl⟩ rfl rfl rfl rfl rfl (by kernel_rfl) Tryz.func7 (by kernel_rfl)
   (of_decide_eq_true (by kernel_rfl)) (by unfold Func.isWrapper; first | (rw [if_pos (by decide +kernel)]; kernel_rfl) | (rw [if_neg (by decide +kernel)]; exact ⟨rfl, rfl⟩))
   (fun os started H enc _ => headersReads_lifted os started H enc)
theorem headersReads_plain (f : FuncId) (fn : Func) (hf : Tryz.pinned.checked.prog.funcNamed "spillway/spillwaylaw06.HeadersReads" = some f) (hfn : Tryz.pinned.checked.prog.funcs[f]? = some fn) :
   false = Tryz.pinned.checked.prog.looks [] ∧ ∀ (j : Nat) t, fn.params[j]? = some t → Tryz.pinned.checked.prog.wantsStandIn t = false := by
 obtain rfl : f = 7 := Option.some.inj ((show Tryz.prog.funcNamed "spillway/spillwaylaw06.HeadersReads" = some 7 by kernel_rfl).symm.trans hf) |>.symm
 obtain rfl : fn = Tryz.f7 := (Option.some.inj (Tryz.func7.symm.trans hfn)).symm
 refine ⟨by kernel_rfl, fun j t ht => ?_⟩
 have hall : (Tryz.f7.params.toList.all fun t => !Tryz.prog.wantsStandIn t) = true := by kernel_rfl
 have := List.all_eq_true.1 hall t (by simpa using Array.mem_of_getElem? ht)
 exact (by simpa using this : Tryz.prog.wantsStandIn t = false)
theorem headersReads_holds : Rows.HeadersReadsCardSaid :=
 Claim7.holds_tied_plain_at .later [] _ _ _ _ headersReads_said (fun _ h => by cases h) (by kernel_rfl) (fun _ h => by cases h) headersReads_row_tie rfl ⟨rfl, rfl⟩ (by kernel_rfl) rfl headersReads_plain (by kernel_rfl)
end Go.Proofs.YtkjhfnlnbjmahaaGreatDoor
