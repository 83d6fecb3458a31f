/- Check, Canon and Combined answer what the reference does; what is printed is read again. -/
import Derived.Test.YtkjhfnlnbjmahaaGreatDoorGo
import Derived.Test.YtkjhfnlnbjmahaaGreatDoorGq

set_option linter.unusedVariables false
set_option linter.unusedSimpArgs false
set_option maxRecDepth 100000
namespace Go.Proofs.YtkjhfnlnbjmahaaGreatDoor
open Go Go.Pl Go.Proofs
open Go.ChangeShapes Go.WideShapes Go.ChangeAt Go.RowKit
theorem headersChecks_lifted (os : Os) (started : os.Started) (H : Type) (enc : TypeId × Value → H) :
   ReturnsInHanded {} Tryz.checked os 8 .any (fun w args => (Rows.headersChecksSpec.pre enc Tryz.prog Tryz.f8 [] false w args ∧ laidMetH Tryz.prog Rows.headersChecksRow.laid w) ∧ sizedMet enc Tryz.prog Tryz.f8 (OpenSpec.ofChange Rows.headersChecksSpec) false w args)
     (Rows.headersChecksSpec.post enc Tryz.prog Tryz.f8 false true false false) := by
 refine returnsInHanded_of_change_and (C := Tryz.checked) (X := fun w _ => laidMetH Tryz.prog Rows.headersChecksRow.laid w) (fun _ _ _ hh h => h.of_heap hh) own started (by kernel_rfl) Tryz.func8
   (ChangeSpec.witness_shaped (enc := enc) (C := Tryz.checked) (os := os) (X := fun w _ => laidMetH Tryz.prog Rows.headersChecksRow.laid w) false (World.laidAll Tryz.prog os Rows.headersChecksRow.laid) #[.slice none 0 0, .string ⟨#[]⟩] 8 (World.laidAll_os _ _ _)
     (World.shaped_of_ZipB (by kernel_rfl) (by kernel_rfl)) (by kernel_rfl) (by kernel_rfl) (by kernel_rfl)
     (by rw [MakeChecks.laidMetH_plain _ _ _ (by kernel_rfl)]; exact laidMet_laidAll _ (by kernel_rfl) (by kernel_rfl))) ?_
 intro W base args ds gs before hval hW _ _ _ _
 refine law_contractM (P := Tryz.prog) 6 (tb := 4) (by kernel_rfl) (by kernel_rfl) rfl ?_ (by kernel_rfl) (by kernel_rfl) hval hW (gl_none (by kernel_rfl)) ?_
 · intro ds hds
   obtain ⟨a, b, rfl⟩ := len2 (hds.trans (show Tryz.f8.params.toList.length = 2 by kernel_rfl))
   rfl
 · intro vs hvs
   have hp : Tryz.f8.params.toList = [22, 9] := by kernel_rfl
   rw [hp] at hvs
   obtain ⟨xa, xb, rfl, ha, hb⟩ := tyArgs2 hvs
   obtain ⟨l, rfl⟩ := hasFds ha
   obtain ⟨s, rfl, _⟩ := hasStr hb
   rw [elV_one Tryz.tagg22, elV_one Tryz.tagg9]
   exact AbsCall.mono (Tryz.headersChecks_c mk_bxK l s) fun r bx h => h.1
theorem headersChecks_said : Rows.HeadersChecksSaid :=
 OpenClaim.holds_of_wide 8 Tryz.f8 rfl rfl rfl rfl rfl rfl rfl ⟨rfl, rfl, rfl, rfl, rfl⟩ rfl rfl rfl rfl rfl (by kernel_rfl) Tryz.func8 (by kernel_rfl)
   (of_decide_eq_true (by kernel_rfl)) (by unfold Func.isWrapper; first | (rw [if_pos (by decide +kernel)]; kernel_rfl) | (rw [if_neg (by decide +kernel)]; exact ⟨rfl, rfl⟩))
   (fun os started H enc _ => headersChecks_lifted os started H enc)
theorem headersChecks_plain (f : FuncId) (fn : Func) (hf : Tryz.pinned.checked.prog.funcNamed "spillway/spillwaylaw06.HeadersChecks" = some f) (hfn : Tryz.pinned.checked.prog.funcs[f]? = some fn) :
   false = Tryz.pinned.checked.prog.looks [] ∧ ∀ (j : Nat) t, fn.params[j]? = some t → Tryz.pinned.checked.prog.wantsStandIn t = false := by
 obtain rfl : f = 8 := Option.some.inj ((show Tryz.prog.funcNamed "spillway/spillwaylaw06.HeadersChecks" = some 8 by kernel_rfl).symm.trans hf) |>.symm
 obtain rfl : fn = Tryz.f8 := (Option.some.inj (Tryz.func8.symm.trans hfn)).symm
 refine ⟨by kernel_rfl, fun j t ht => ?_⟩
 have hall : (Tryz.f8.params.toList.all fun t => !Tryz.prog.wantsStandIn t) = true := by kernel_rfl
 have := List.all_eq_true.1 hall t (by simpa using Array.mem_of_getElem? ht)
 exact (by simpa using this : Tryz.prog.wantsStandIn t = false)
theorem headersChecks_holds : Rows.HeadersChecksCardSaid :=
 Claim7.holds_tied_plain_at .later [] _ _ _ _ headersChecks_said (fun _ h => by cases h) (by kernel_rfl) (fun _ h => by cases h) headersChecks_row_tie rfl ⟨rfl, rfl⟩ (by kernel_rfl) rfl headersChecks_plain (by kernel_rfl)
theorem headersStreams_lifted (os : Os) (started : os.Started) (H : Type) (enc : TypeId × Value → H) :
   ReturnsInHanded {} Tryz.checked os 6 .any (fun w args => (Rows.headersStreamsSpec.pre enc Tryz.prog Tryz.f6 [] false w args ∧ laidMetH Tryz.prog Rows.headersStreamsRow.laid w) ∧ sizedMet enc Tryz.prog Tryz.f6 (OpenSpec.ofChange Rows.headersStreamsSpec) false w args)
     (Rows.headersStreamsSpec.post enc Tryz.prog Tryz.f6 false true false false) := by
 refine returnsInHanded_of_change_and (C := Tryz.checked) (X := fun w _ => laidMetH Tryz.prog Rows.headersStreamsRow.laid w) (fun _ _ _ hh h => h.of_heap hh) own started (by kernel_rfl) Tryz.func6
   (ChangeSpec.witness_shaped (enc := enc) (C := Tryz.checked) (os := os) (X := fun w _ => laidMetH Tryz.prog Rows.headersStreamsRow.laid w) false (World.laidAll Tryz.prog os Rows.headersStreamsRow.laid) #[.slice none 0 0, .slice none 0 0, .int .u16 0] 8 (World.laidAll_os _ _ _)
     (World.shaped_of_ZipB (by kernel_rfl) (by kernel_rfl)) (by kernel_rfl) (by kernel_rfl) (by kernel_rfl)
     (by rw [MakeChecks.laidMetH_plain _ _ _ (by kernel_rfl)]; exact laidMet_laidAll _ (by kernel_rfl) (by kernel_rfl))) ?_
 intro W base args ds gs before hval hW _ _ _ _
 refine law_contractM (P := Tryz.prog) 6 (tb := 4) (by kernel_rfl) (by kernel_rfl) rfl ?_ (by kernel_rfl) (by kernel_rfl) hval hW (gl_none (by kernel_rfl)) ?_
 · intro ds hds
   obtain ⟨a, b, c, rfl⟩ := len3 (hds.trans (show Tryz.f6.params.toList.length = 3 by kernel_rfl))
   rfl
 · intro vs hvs
   have hp : Tryz.f6.params.toList = [22, 43, 48] := by kernel_rfl
   rw [hp] at hvs
   obtain ⟨xa, xb, xc, rfl, ha, hb, hc⟩ := tyArgs3 hvs
   obtain ⟨l, rfl⟩ := hasFds ha
   obtain ⟨b, rfl⟩ := hasBytes hb
   obtain ⟨n, rfl, h0, h1⟩ := hasU16 hc
   rw [elV_one Tryz.tagg22, elV_one Tryz.tagg43, elV_one Tryz.tagg48]
   exact AbsCall.mono (Tryz.headersStreams_c mk_bxK l b n h0 h1) fun r bx h => h.1
theorem headersStreams_said : Rows.HeadersStreamsSaid :=
 OpenClaim.holds_of_wide 6 Tryz.f6 rfl rfl rfl rfl rfl rfl rfl ⟨rfl, rfl, rfl, rfl, rfl⟩ rfl rfl rfl rfl rfl (by kernel_rfl) Tryz.func6 (by kernel_rfl)
   (of_decide_eq_true (by kernel_rfl)) (by unfold Func.isWrapper; first | (rw [if_pos (by decide +kernel)]; kernel_rfl) | (rw [if_neg (by decide +kernel)]; exact ⟨rfl, rfl⟩))
   (fun os started H enc _ => headersStreams_lifted os started H enc)
theorem headersStreams_plain (f : FuncId) (fn : Func) (hf : Tryz.pinned.checked.prog.funcNamed "spillway/spillwaylaw06.HeadersStreams" = some f) (hfn : Tryz.pinned.checked.prog.funcs[f]? = some fn) :
   false = Tryz.pinned.checked.prog.looks [] ∧ ∀ (j : Nat) t, fn.params[j]? = some t → Tryz.pinned.checked.prog.wantsStandIn t = false := by
 obtain rfl : f = 6 := Option.some.inj ((show Tryz.prog.funcNamed "spillway/spillwaylaw06.HeadersStreams" = some 6 by kernel_rfl).symm.trans hf) |>.symm
 obtain rfl : fn = Tryz.f6 := (Option.some.inj (Tryz.func6.symm.trans hfn)).symm
 refine ⟨by kernel_rfl, fun j t ht => ?_⟩
 have hall : (Tryz.f6.params.toList.all fun t => !Tryz.prog.wantsStandIn t) = true := by kernel_rfl
 have := List.all_eq_true.1 hall t (by simpa using Array.mem_of_getElem? ht)
 exact (by simpa using this : Tryz.prog.wantsStandIn t = false)
theorem headersStreams_holds : Rows.HeadersStreamsCardSaid :=
 Claim7.holds_tied_plain_at .later [] _ _ _ _ headersStreams_said (fun _ h => by cases h) (by kernel_rfl) (fun _ h => by cases h) headersStreams_row_tie rfl ⟨rfl, rfl⟩ (by kernel_rfl) rfl headersStreams_plain (by kernel_rfl)
end Go.Proofs.YtkjhfnlnbjmahaaGreatDoor
