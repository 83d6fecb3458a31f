/- The laws of chunks: Decode, Encode, and both ways. -/
import Derived.Test.YtfibpdlpnbnooaaGreatDoorGk
import Derived.Test.YtfibpdlpnbnooaaGreatDoorGn

set_option linter.unusedVariables false
set_option linter.unusedSimpArgs false
set_option maxRecDepth 100000
namespace Go.Proofs.YtfibpdlpnbnooaaGreatDoor
open Go Go.Pl Go.Proofs
open Go.ChangeShapes Go.WideShapes Go.ChangeAt Go.RowKit
theorem chunksDecodes_lifted (os : Os) (started : os.Started) (H : Type) (enc : TypeId × Value → H) :
   ReturnsInHanded {} Tryz.checked os 3 .any (fun w args => (Rows.chunksDecodesSpec.pre enc Tryz.prog Tryz.f3 [] false w args ∧ laidMetH Tryz.prog Rows.chunksDecodesRow.laid w) ∧ sizedMet enc Tryz.prog Tryz.f3 (OpenSpec.ofChange Rows.chunksDecodesSpec) false w args)
     (Rows.chunksDecodesSpec.post enc Tryz.prog Tryz.f3 false true false false) := by
 refine returnsInHanded_of_change_and (C := Tryz.checked) (X := fun w _ => laidMetH Tryz.prog Rows.chunksDecodesRow.laid w) (fun _ _ _ hh h => h.of_heap hh) own started (by kernel_rfl) Tryz.func3
   (ChangeSpec.witness_shaped (enc := enc) (C := Tryz.checked) (os := os) (X := fun w _ => laidMetH Tryz.prog Rows.chunksDecodesRow.laid w) false (World.laidAll Tryz.prog os Rows.chunksDecodesRow.laid) #[.slice none 0 0] 8 (World.laidAll_os _ _ _)
     (World.shaped_of_ZipB (by kernel_rfl) (by kernel_rfl)) (by kernel_rfl) (by kernel_rfl) (by kernel_rfl)
     (by rw [MakeChecks.laidMetH_plain _ _ _ (by kernel_rfl)]; exact laidMet_laidAll _ (by kernel_rfl) (by kernel_rfl))) ?_
 intro W base args ds gs before hval hW q1 q2 hL q4
 refine law_contractT (P := Tryz.prog) 6 (tb := 4) (by kernel_rfl) (by kernel_rfl) rfl ?_ (by kernel_rfl) (by kernel_rfl) hval hW (gl_laid (laid := Rows.chunksDecodesRow.laid) (by unfold Rows.chunksDecodesRow; simp) (by unfold Rows.chunksDecodesRow; simp) (by kernel_rfl) hL) ?_
 · intro ds hds
   obtain ⟨a, rfl⟩ := len1 (hds.trans (show Tryz.f3.params.toList.length = 1 by kernel_rfl))
   rfl
 · intro vs hvs
   have hp : Tryz.f3.params.toList = [22] := by kernel_rfl
   rw [hp] at hvs
   obtain ⟨xa, rfl, ha⟩ := tyArgs1 hvs
   obtain ⟨b, rfl⟩ := hasBytes ha
   rw [elV_one Tryz.tagg22]
   exact AbsCall.mono (Tryz.chunksDecodes_c mk_bxK b) fun r bx h => h.1
theorem chunksDecodes_said : Rows.ChunksDecodesSaid :=
 OpenClaim.holds_of_wide 3 Tryz.f3 rfl rfl rfl rfl rfl rfl rfl ⟨rfl, rfl, rfl, rfl, rfl⟩ rfl rfl rfl rfl rfl (by kernel_rfl) Tryz.func3 (by kernel_rfl)
   (of_decide_eq_true (by kernel_rfl)) (by unfold Func.isWrapper; first | (rw [if_pos (by decide +kernel)]; kernel_rfl) | (rw [if_neg (by decide +kernel)]; exact ⟨rfl, rfl⟩))
   (fun os started H enc _ => chunksDecodes_lifted os started H enc)
theorem chunksDecodes_plain (f : FuncId) (fn : Func) (hf : Tryz.pinned.checked.prog.funcNamed "spillway/spillwaylaw08.ChunksDecodes" = some f) (hfn : Tryz.pinned.checked.prog.funcs[f]? = some fn) :
   false = Tryz.pinned.checked.prog.looks [] ∧ ∀ (j : Nat) t, fn.params[j]? = some t → Tryz.pinned.checked.prog.wantsStandIn t = false := by
 obtain rfl : f = 3 := Option.some.inj ((show Tryz.prog.funcNamed "spillway/spillwaylaw08.ChunksDecodes" = some 3 by kernel_rfl).symm.trans hf) |>.symm
 obtain rfl : fn = Tryz.f3 := (Option.some.inj (Tryz.func3.symm.trans hfn)).symm
 refine ⟨by kernel_rfl, fun j t ht => ?_⟩
 have hall : (Tryz.f3.params.toList.all fun t => !Tryz.prog.wantsStandIn t) = true := by kernel_rfl
 have := List.all_eq_true.1 hall t (by simpa using Array.mem_of_getElem? ht)
 exact (by simpa using this : Tryz.prog.wantsStandIn t = false)
theorem chunksDecodes_holds : Rows.ChunksDecodesCardSaid :=
 Claim7.holds_tied_plain_at .later [] _ _ _ _ chunksDecodes_said (fun _ h => by cases h) (by kernel_rfl) (fun _ h => by cases h) chunksDecodes_row_tie rfl ⟨rfl, rfl⟩ (by kernel_rfl) rfl chunksDecodes_plain (by kernel_rfl)
theorem chunksEncodes_lifted (os : Os) (started : os.Started) (H : Type) (enc : TypeId × Value → H) :
   ReturnsInHanded {} Tryz.checked os 4 .any (fun w args => (Rows.chunksEncodesSpec.pre enc Tryz.prog Tryz.f4 [] false w args ∧ laidMetH Tryz.prog Rows.chunksEncodesRow.laid w) ∧ sizedMet enc Tryz.prog Tryz.f4 (OpenSpec.ofChange Rows.chunksEncodesSpec) false w args)
     (Rows.chunksEncodesSpec.post enc Tryz.prog Tryz.f4 false true false false) := by
 refine returnsInHanded_of_change_and (C := Tryz.checked) (X := fun w _ => laidMetH Tryz.prog Rows.chunksEncodesRow.laid w) (fun _ _ _ hh h => h.of_heap hh) own started (by kernel_rfl) Tryz.func4
   (ChangeSpec.witness_shaped (enc := enc) (C := Tryz.checked) (os := os) (X := fun w _ => laidMetH Tryz.prog Rows.chunksEncodesRow.laid w) false (World.laidAll Tryz.prog os Rows.chunksEncodesRow.laid) #[.slice none 0 0, .slice none 0 0, .slice none 0 0] 8 (World.laidAll_os _ _ _)
     (World.shaped_of_ZipB (by kernel_rfl) (by kernel_rfl)) (by kernel_rfl) (by kernel_rfl) (by kernel_rfl)
     (by rw [MakeChecks.laidMetH_plain _ _ _ (by kernel_rfl)]; exact laidMet_laidAll _ (by kernel_rfl) (by kernel_rfl))) ?_
 intro W base args ds gs before hval hW q1 q2 hL q4
 refine law_contractT (P := Tryz.prog) 6 (tb := 4) (by kernel_rfl) (by kernel_rfl) rfl ?_ (by kernel_rfl) (by kernel_rfl) hval hW (gl_laid (laid := Rows.chunksEncodesRow.laid) (by unfold Rows.chunksEncodesRow; simp) (by unfold Rows.chunksEncodesRow; simp) (by kernel_rfl) hL) ?_
 · intro ds hds
   obtain ⟨a, b, c, rfl⟩ := len3 (hds.trans (show Tryz.f4.params.toList.length = 3 by kernel_rfl))
   rfl
 · intro vs hvs
   have hp : Tryz.f4.params.toList = [22, 31, 24] := by kernel_rfl
   rw [hp] at hvs
   obtain ⟨xa, xb, xc, rfl, ha, hb, hc⟩ := tyArgs3 hvs
   obtain ⟨b, rfl⟩ := hasBytes ha
   obtain ⟨ns, rfl, hr⟩ := hasIntBs hb
   obtain ⟨l, rfl⟩ := hasFds hc
   rw [elV_one Tryz.tagg22, elV_one Tryz.tagg31, elV_one Tryz.tagg24]
   exact AbsCall.mono (Tryz.chunksEncodes_c mk_bxK b ns l hr) fun r bx h => h.1
theorem chunksEncodes_said : Rows.ChunksEncodesSaid :=
 OpenClaim.holds_of_wide 4 Tryz.f4 rfl rfl rfl rfl rfl rfl rfl ⟨rfl, rfl, rfl, rfl, rfl⟩ rfl rfl rfl rfl rfl (by kernel_rfl) Tryz.func4 (by kernel_rfl)
   (of_decide_eq_true (by kernel_rfl)) (by unfold Func.isWrapper; first | (rw [if_pos (by decide +kernel)]; kernel_rfl) | (rw [if_neg (by decide +kernel)]; exact ⟨rfl, rfl⟩))
   (fun os started H enc _ => chunksEncodes_lifted os started H enc)
theorem chunksEncodes_plain (f : FuncId) (fn : Func) (hf : Tryz.pinned.checked.prog.funcNamed "spillway/spillwaylaw08.ChunksEncodes" = some f) (hfn : Tryz.pinned.checked.prog.funcs[f]? = some fn) :
   false = Tryz.pinned.checked.prog.looks [] ∧ ∀ (j : Nat) t, fn.params[j]? = some t → Tryz.pinned.checked.prog.wantsStandIn t = false := by
 obtain rfl : f = 4 := Option.some.inj ((show Tryz.prog.funcNamed "spillway/spillwaylaw08.ChunksEncodes" = some 4 by kernel_rfl).symm.trans hf) |>.symm
 obtain rfl : fn = Tryz.f4 := (Option.some.inj (Tryz.func4.symm.trans hfn)).symm
 refine ⟨by kernel_rfl, fun j t ht => ?_⟩
 have hall : (Tryz.f4.params.toList.all fun t => !Tryz.prog.wantsStandIn t) = true := by kernel_rfl
 have := List.all_eq_true.1 hall t (by simpa using Array.mem_of_getElem? ht)
 exact (by simpa using this : Tryz.prog.wantsStandIn t = false)
theorem chunksEncodes_holds : Rows.ChunksEncodesCardSaid :=
 Claim7.holds_tied_plain_at .later [] _ _ _ _ chunksEncodes_said (fun _ h => by cases h) (by kernel_rfl) (fun _ h => by cases h) chunksEncodes_row_tie rfl ⟨rfl, rfl⟩ (by kernel_rfl) rfl chunksEncodes_plain (by kernel_rfl)
theorem chunksBack_lifted (os : Os) (started : os.Started) (H : Type) (enc : TypeId × Value → H) :
   ReturnsInHanded {} Tryz.checked os 5 .any (fun w args => (Rows.chunksBackSpec.pre enc Tryz.prog Tryz.f5 [] false w args ∧ laidMetH Tryz.prog Rows.chunksBackRow.laid w) ∧ sizedMet enc Tryz.prog Tryz.f5 (OpenSpec.ofChange Rows.chunksBackSpec) false w args)
     (Rows.chunksBackSpec.post enc Tryz.prog Tryz.f5 false true false false) := by
 refine returnsInHanded_of_change_and (C := Tryz.checked) (X := fun w _ => laidMetH Tryz.prog Rows.chunksBackRow.laid w) (fun _ _ _ hh h => h.of_heap hh) own started (by kernel_rfl) Tryz.func5
   (ChangeSpec.witness_shaped (enc := enc) (C := Tryz.checked) (os := os) (X := fun w _ => laidMetH Tryz.prog Rows.chunksBackRow.laid w) false (World.laidAll Tryz.prog os Rows.chunksBackRow.laid) #[.slice none 0 0, .int .i64 0, .slice none 0 0] 8 (World.laidAll_os _ _ _)
     (World.shaped_of_ZipB (by kernel_rfl) (by kernel_rfl)) (by kernel_rfl) (by kernel_rfl) (by kernel_rfl)
     (by rw [MakeChecks.laidMetH_plain _ _ _ (by kernel_rfl)]; exact laidMet_laidAll _ (by kernel_rfl) (by kernel_rfl))) ?_
 intro W base args ds gs before hval hW q1 q2 hL q4
 refine law_contractT (P := Tryz.prog) 6 (tb := 4) (by kernel_rfl) (by kernel_rfl) rfl ?_ (by kernel_rfl) (by kernel_rfl) hval hW (gl_laid (laid := Rows.chunksBackRow.laid) (by unfold Rows.chunksBackRow; simp) (by unfold Rows.chunksBackRow; simp) (by kernel_rfl) hL) ?_
 · intro ds hds
   obtain ⟨a, b, c, rfl⟩ := len3 (hds.trans (show Tryz.f5.params.toList.length = 3 by kernel_rfl))
   rfl
 · intro vs hvs
   have hp : Tryz.f5.params.toList = [22, 3, 24] := by kernel_rfl
   rw [hp] at hvs
   obtain ⟨xa, xb, xc, rfl, ha, hb, hc⟩ := tyArgs3 hvs
   obtain ⟨b, rfl⟩ := hasBytes ha
   obtain ⟨m, rfl, hr⟩ := hasIntB hb
   obtain ⟨l, rfl⟩ := hasFds hc
   rw [elV_one Tryz.tagg22, elV_one Tryz.tagg3, elV_one Tryz.tagg24]
   exact AbsCall.mono (Tryz.chunksBack_c mk_bxK b m l hr) fun r bx h => h.1
theorem chunksBack_said : Rows.ChunksBackSaid :=
 OpenClaim.holds_of_wide 5 Tryz.f5 rfl rfl rfl rfl rfl rfl rfl ⟨rfl, rfl, rfl, rfl, rfl⟩ rfl rfl rfl rfl rfl (by kernel_rfl) Tryz.func5 (by kernel_rfl)
   (of_decide_eq_true (by kernel_rfl)) (by unfold Func.isWrapper; first | (rw [if_pos (by decide +kernel)]; kernel_rfl) | (rw [if_neg (by decide +kernel)]; exact ⟨rfl, rfl⟩))
   (fun os started H enc _ => chunksBack_lifted os started H enc)
theorem chunksBack_plain (f : FuncId) (fn : Func) (hf : Tryz.pinned.checked.prog.funcNamed "spillway/spillwaylaw08.ChunksBack" = some f) (hfn : Tryz.pinned.checked.prog.funcs[f]? = some fn) :
   false = Tryz.pinned.checked.prog.looks [] ∧ ∀ (j : Nat) t, fn.params[j]? = some t → Tryz.pinned.checked.prog.wantsStandIn t = false := by
 obtain rfl : f = 5 := Option.some.inj ((show Tryz.prog.funcNamed "spillway/spillwaylaw08.ChunksBack" = some 5 by kernel_rfl).symm.trans hf) |>.symm
 obtain rfl : fn = Tryz.f5 := (Option.some.inj (Tryz.func5.symm.trans hfn)).symm
 refine ⟨by kernel_rfl, fun j t ht => ?_⟩
 have hall : (Tryz.f5.params.toList.all fun t => !Tryz.prog.wantsStandIn t) = true := by kernel_rfl
 have := List.all_eq_true.1 hall t (by simpa using Array.mem_of_getElem? ht)
 exact (by simpa using this : Tryz.prog.wantsStandIn t = false)
theorem chunksBack_holds : Rows.ChunksBackCardSaid :=
 Claim7.holds_tied_plain_at .later [] _ _ _ _ chunksBack_said (fun _ h => by cases h) (by kernel_rfl) (fun _ h => by cases h) chunksBack_row_tie rfl ⟨rfl, rfl⟩ (by kernel_rfl) rfl chunksBack_plain (by kernel_rfl)
end Go.Proofs.YtfibpdlpnbnooaaGreatDoor
