/- The laws of the layer audit: Print returns what the document says, of at most 300 faults; the faults of the first events are the first faults; the log of Cut has faults at its last event alone; examples hold. -/
import Derived.Test.YtiogeggilnhajaaGreatDoorGl

set_option linter.unusedVariables false
set_option linter.unusedSimpArgs false
set_option maxRecDepth 100000
namespace Go.Proofs.YtiogeggilnhajaaGreatDoor
open Go Go.Pl Go.Proofs
open Go.ChangeShapes Go.WideShapes Go.ChangeAt Go.RowKit
theorem auditPrints_lifted (os : Os) (started : os.Started) (H : Type) (enc : TypeId × Value → H) :
   ReturnsInHanded {} Tryz.checked os 6 .any (fun w args => (Rows.auditPrintsSpec.pre enc Tryz.prog Tryz.f6 [] false w args ∧ laidMetH Tryz.prog Rows.auditPrintsRow.laid w) ∧ sizedMet enc Tryz.prog Tryz.f6 (OpenSpec.ofChange Rows.auditPrintsSpec) false w args)
     (Rows.auditPrintsSpec.post enc Tryz.prog Tryz.f6 false true false false) := by
 refine returnsInHanded_of_change_and (C := Tryz.checked) (X := fun w _ => laidMetH Tryz.prog Rows.auditPrintsRow.laid w) (fun _ _ _ hh h => h.of_heap hh) own started (by kernel_rfl) Tryz.func6
   (ChangeSpec.witness_shaped (enc := enc) (C := Tryz.checked) (os := os) (X := fun w _ => laidMetH Tryz.prog Rows.auditPrintsRow.laid w) false (World.laidAll Tryz.prog os Rows.auditPrintsRow.laid) #[.slice none 0 0] 8 (World.laidAll_os _ _ _)
     (World.shaped_of_ZipB (by kernel_rfl) (by kernel_rfl)) (by kernel_rfl) (by kernel_rfl) (by kernel_rfl)
     (by rw [MakeChecks.laidMetH_plain _ _ _ (by kernel_rfl)]; exact laidMet_laidAll _ (by kernel_rfl) (by kernel_rfl))) ?_
 intro W base args ds gs before hval hW q1 q2 hL q4
 refine law_contractT (P := Tryz.prog) 6 (tb := 4) (by kernel_rfl) (by kernel_rfl) rfl ?_ (by kernel_rfl) (by kernel_rfl) hval hW rfl beT3_n (gl_laid (laid := Rows.auditPrintsRow.laid) (by unfold Rows.auditPrintsRow; simp) (by unfold Rows.auditPrintsRow; simp) (by unfold Rows.auditPrintsRow; simp) (by kernel_rfl) hL) ?_
 · intro ds hds
   obtain ⟨a, rfl⟩ := len1 (hds.trans (show Tryz.f6.params.toList.length = 1 by kernel_rfl))
   rfl
 · intro vs hvs
   have hp : Tryz.f6.params.toList = [31] := by kernel_rfl
   rw [hp] at hvs
   obtain ⟨xa, rfl, ha⟩ := tyArgs1 hvs
   obtain ⟨l, rfl, hr⟩ := hasFlts ha
   rw [elV_one Tryz.tagg31]
   exact (Tryz.law_Prints l hr bxK).mono fun _ _ h => h.1
theorem auditPrints_said : Rows.AuditPrintsSaid :=
 OpenClaim.holds_of_wide 6 Tryz.f6 rfl rfl rfl rfl rfl rfl rfl ⟨rfl, rfl, rfl, rfl, rfl⟩ rfl rfl rfl rfl rfl (by kernel_rfl) Tryz.func6 (by kernel_rfl)
   (of_decide_eq_true (by kernel_rfl)) (by unfold Func.isWrapper; first | (rw [if_pos (by decide +kernel)]; kernel_rfl) | (rw [if_neg (by decide +kernel)]; exact ⟨rfl, rfl⟩))
   (fun os started H enc _ => auditPrints_lifted os started H enc)
theorem auditPrints_plain (f : FuncId) (fn : Func) (hf : Tryz.pinned.checked.prog.funcNamed "spillway/spillwaylaw30.AuditPrints" = some f) (hfn : Tryz.pinned.checked.prog.funcs[f]? = some fn) :
   false = Tryz.pinned.checked.prog.looks [] ∧ ∀ (j : Nat) t, fn.params[j]? = some t → Tryz.pinned.checked.prog.wantsStandIn t = false := by
 obtain rfl : f = 6 := Option.some.inj ((show Tryz.prog.funcNamed "spillway/spillwaylaw30.AuditPrints" = some 6 by kernel_rfl).symm.trans hf) |>.symm
 obtain rfl : fn = Tryz.f6 := (Option.some.inj (Tryz.func6.symm.trans hfn)).symm
 refine ⟨by kernel_rfl, fun j t ht => ?_⟩
 have hall : (Tryz.f6.params.toList.all fun t => !Tryz.prog.wantsStandIn t) = true := by kernel_rfl
 have := List.all_eq_true.1 hall t (by simpa using Array.mem_of_getElem? ht)
 exact (by simpa using this : Tryz.prog.wantsStandIn t = false)
theorem auditPrints_holds : Rows.AuditPrintsCardSaid :=
 Claim7.holds_tied_plain_at .later [] _ _ _ _ auditPrints_said (fun _ h => by cases h) (by kernel_rfl) (fun _ h => by cases h) auditPrints_row_tie rfl ⟨rfl, rfl⟩ (by kernel_rfl) rfl auditPrints_plain (by kernel_rfl)
theorem auditBegins_lifted (os : Os) (started : os.Started) (H : Type) (enc : TypeId × Value → H) :
   ReturnsInHanded {} Tryz.checked os 8 .any (fun w args => (Rows.auditBeginsSpec.pre enc Tryz.prog Tryz.f8 [] false w args ∧ laidMetH Tryz.prog Rows.auditBeginsRow.laid w) ∧ sizedMet enc Tryz.prog Tryz.f8 (OpenSpec.ofChange Rows.auditBeginsSpec) false w args)
     (Rows.auditBeginsSpec.post enc Tryz.prog Tryz.f8 false true false false) := by
 refine returnsInHanded_of_change_and (C := Tryz.checked) (X := fun w _ => laidMetH Tryz.prog Rows.auditBeginsRow.laid w) (fun _ _ _ hh h => h.of_heap hh) own started (by kernel_rfl) Tryz.func8
   (ChangeSpec.witness_shaped (enc := enc) (C := Tryz.checked) (os := os) (X := fun w _ => laidMetH Tryz.prog Rows.auditBeginsRow.laid w) false (World.laidAll Tryz.prog os Rows.auditBeginsRow.laid) #[.agg #[.slice none 0 0, .int .i64 0, .slice none 0 0], .int .u16 0] 8 (World.laidAll_os _ _ _)
     (World.shaped_of_ZipB (by kernel_rfl) (by kernel_rfl)) (by kernel_rfl) (by kernel_rfl) (by kernel_rfl)
     (by rw [MakeChecks.laidMetH_plain _ _ _ (by kernel_rfl)]; exact laidMet_laidAll _ (by kernel_rfl) (by kernel_rfl))) ?_
 intro W base args ds gs before hval hW q1 q2 hL q4
 refine law_contractT (P := Tryz.prog) 6 (tb := 4) (by kernel_rfl) (by kernel_rfl) rfl ?_ (by kernel_rfl) (by kernel_rfl) hval hW rfl beT3_n (gl_laid (laid := Rows.auditBeginsRow.laid) (by unfold Rows.auditBeginsRow; simp) (by unfold Rows.auditBeginsRow; simp) (by unfold Rows.auditBeginsRow; simp) (by kernel_rfl) hL) ?_
 · intro ds hds
   obtain ⟨a, b, rfl⟩ := len2 (hds.trans (show Tryz.f8.params.toList.length = 2 by kernel_rfl))
   rfl
 · intro vs hvs
   have hp : Tryz.f8.params.toList = [25, 64] := by kernel_rfl
   rw [hp] at hvs
   obtain ⟨xa, xb, rfl, ha, hb⟩ := tyArgs2 hvs
   obtain ⟨L, m, l, hg, hne⟩ := hasLog ha
   obtain ⟨i, rfl, hi⟩ := hasU16 hb
   rw [elV_agg Tryz.tagg25, elV_one Tryz.tagg64, hg]
   exact (Tryz.law_Begins L m l i hi hne bxK).mono fun _ _ h => h.1
theorem auditBegins_said : Rows.AuditBeginsSaid :=
 OpenClaim.holds_of_wide 8 Tryz.f8 rfl rfl rfl rfl rfl rfl rfl ⟨rfl, rfl, rfl, rfl, rfl⟩ rfl rfl rfl rfl rfl (by kernel_rfl) Tryz.func8 (by kernel_rfl)
   (of_decide_eq_true (by kernel_rfl)) (by unfold Func.isWrapper; first | (rw [if_pos (by decide +kernel)]; kernel_rfl) | (rw [if_neg (by decide +kernel)]; exact ⟨rfl, rfl⟩))
   (fun os started H enc _ => auditBegins_lifted os started H enc)
theorem auditBegins_plain (f : FuncId) (fn : Func) (hf : Tryz.pinned.checked.prog.funcNamed "spillway/spillwaylaw30.AuditBegins" = some f) (hfn : Tryz.pinned.checked.prog.funcs[f]? = some fn) :
   false = Tryz.pinned.checked.prog.looks [] ∧ ∀ (j : Nat) t, fn.params[j]? = some t → Tryz.pinned.checked.prog.wantsStandIn t = false := by
 obtain rfl : f = 8 := Option.some.inj ((show Tryz.prog.funcNamed "spillway/spillwaylaw30.AuditBegins" = some 8 by kernel_rfl).symm.trans hf) |>.symm
 obtain rfl : fn = Tryz.f8 := (Option.some.inj (Tryz.func8.symm.trans hfn)).symm
 refine ⟨by kernel_rfl, fun j t ht => ?_⟩
 have hall : (Tryz.f8.params.toList.all fun t => !Tryz.prog.wantsStandIn t) = true := by kernel_rfl
 have := List.all_eq_true.1 hall t (by simpa using Array.mem_of_getElem? ht)
 exact (by simpa using this : Tryz.prog.wantsStandIn t = false)
theorem auditBegins_holds : Rows.AuditBeginsCardSaid :=
 Claim7.holds_tied_plain_at .later [] _ _ _ _ auditBegins_said (fun _ h => by cases h) (by kernel_rfl) (fun _ h => by cases h) auditBegins_row_tie rfl ⟨rfl, rfl⟩ (by kernel_rfl) rfl auditBegins_plain (by kernel_rfl)
theorem auditShort_lifted (os : Os) (started : os.Started) (H : Type) (enc : TypeId × Value → H) :
   ReturnsInHanded {} Tryz.checked os 9 .any (fun w args => (Rows.auditShortSpec.pre enc Tryz.prog Tryz.f9 [] false w args ∧ laidMetH Tryz.prog Rows.auditShortRow.laid w) ∧ sizedMet enc Tryz.prog Tryz.f9 (OpenSpec.ofChange Rows.auditShortSpec) false w args)
     (Rows.auditShortSpec.post enc Tryz.prog Tryz.f9 false true false false) := by
 refine returnsInHanded_of_change_and (C := Tryz.checked) (X := fun w _ => laidMetH Tryz.prog Rows.auditShortRow.laid w) (fun _ _ _ hh h => h.of_heap hh) own started (by kernel_rfl) Tryz.func9
   (ChangeSpec.witness_shaped (enc := enc) (C := Tryz.checked) (os := os) (X := fun w _ => laidMetH Tryz.prog Rows.auditShortRow.laid w) false (World.laidAll Tryz.prog os Rows.auditShortRow.laid) #[.agg #[.slice none 0 0, .int .i64 0, .slice none 0 0]] 8 (World.laidAll_os _ _ _)
     (World.shaped_of_ZipB (by kernel_rfl) (by kernel_rfl)) (by kernel_rfl) (by kernel_rfl) (by kernel_rfl)
     (by rw [MakeChecks.laidMetH_plain _ _ _ (by kernel_rfl)]; exact laidMet_laidAll _ (by kernel_rfl) (by kernel_rfl))) ?_
 intro W base args ds gs before hval hW q1 q2 hL q4
 refine law_contractT (P := Tryz.prog) 6 (tb := 4) (by kernel_rfl) (by kernel_rfl) rfl ?_ (by kernel_rfl) (by kernel_rfl) hval hW rfl beT3_n (gl_laid (laid := Rows.auditShortRow.laid) (by unfold Rows.auditShortRow; simp) (by unfold Rows.auditShortRow; simp) (by unfold Rows.auditShortRow; simp) (by kernel_rfl) hL) ?_
 · intro ds hds
   obtain ⟨a, rfl⟩ := len1 (hds.trans (show Tryz.f9.params.toList.length = 1 by kernel_rfl))
   rfl
 · intro vs hvs
   have hp : Tryz.f9.params.toList = [25] := by kernel_rfl
   rw [hp] at hvs
   obtain ⟨xa, rfl, ha⟩ := tyArgs1 hvs
   obtain ⟨L, m, l, hg, hne⟩ := hasLog ha
   rw [elV_agg Tryz.tagg25, hg]
   exact (Tryz.law_Short L m l hne bxK).mono fun _ _ h => h.1
theorem auditShort_said : Rows.AuditShortSaid :=
 OpenClaim.holds_of_wide 9 Tryz.f9 rfl rfl rfl rfl rfl rfl rfl ⟨rfl, rfl, rfl, rfl, rfl⟩ rfl rfl rfl rfl rfl (by kernel_rfl) Tryz.func9 (by kernel_rfl)
   (of_decide_eq_true (by kernel_rfl)) (by unfold Func.isWrapper; first | (rw [if_pos (by decide +kernel)]; kernel_rfl) | (rw [if_neg (by decide +kernel)]; exact ⟨rfl, rfl⟩))
   (fun os started H enc _ => auditShort_lifted os started H enc)
theorem auditShort_plain (f : FuncId) (fn : Func) (hf : Tryz.pinned.checked.prog.funcNamed "spillway/spillwaylaw30.AuditShort" = some f) (hfn : Tryz.pinned.checked.prog.funcs[f]? = some fn) :
   false = Tryz.pinned.checked.prog.looks [] ∧ ∀ (j : Nat) t, fn.params[j]? = some t → Tryz.pinned.checked.prog.wantsStandIn t = false := by
 obtain rfl : f = 9 := Option.some.inj ((show Tryz.prog.funcNamed "spillway/spillwaylaw30.AuditShort" = some 9 by kernel_rfl).symm.trans hf) |>.symm
 obtain rfl : fn = Tryz.f9 := (Option.some.inj (Tryz.func9.symm.trans hfn)).symm
 refine ⟨by kernel_rfl, fun j t ht => ?_⟩
 have hall : (Tryz.f9.params.toList.all fun t => !Tryz.prog.wantsStandIn t) = true := by kernel_rfl
 have := List.all_eq_true.1 hall t (by simpa using Array.mem_of_getElem? ht)
 exact (by simpa using this : Tryz.prog.wantsStandIn t = false)
theorem auditShort_holds : Rows.AuditShortCardSaid :=
 Claim7.holds_tied_plain_at .later [] _ _ _ _ auditShort_said (fun _ h => by cases h) (by kernel_rfl) (fun _ h => by cases h) auditShort_row_tie rfl ⟨rfl, rfl⟩ (by kernel_rfl) rfl auditShort_plain (by kernel_rfl)
end Go.Proofs.YtiogeggilnhajaaGreatDoor
