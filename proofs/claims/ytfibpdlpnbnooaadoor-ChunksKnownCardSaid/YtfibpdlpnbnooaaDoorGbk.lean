/- The laws of chunks: the beginnings of what Decode uses, and the examples. -/
import Derived.Test.YtfibpdlpnbnooaaDoorGk
import Derived.Test.YtfibpdlpnbnooaaDoorGm

set_option linter.unusedVariables false
set_option linter.unusedSimpArgs false
set_option maxRecDepth 100000
namespace Go.Proofs.YtfibpdlpnbnooaaDoor
open Go Go.Pl Go.Proofs
open Go.ChangeShapes Go.WideShapes Go.ChangeAt Go.RowKit
theorem chunksBeginnings_lifted (os : Os) (started : os.Started) (H : Type) (enc : TypeId × Value → H) :
   ReturnsInHanded {} Tryd.checked os 3 .any (fun w args => (Rows.chunksBeginningsSpec.pre enc Tryd.prog Tryd.f3 [] false w args ∧ laidMetH Tryd.prog Rows.chunksBeginningsRow.laid w) ∧ sizedMet enc Tryd.prog Tryd.f3 (OpenSpec.ofChange Rows.chunksBeginningsSpec) false w args)
     (Rows.chunksBeginningsSpec.post enc Tryd.prog Tryd.f3 false true false false) := by
 refine returnsInHanded_of_change_and (C := Tryd.checked) (X := fun w _ => laidMetH Tryd.prog Rows.chunksBeginningsRow.laid w) (fun _ _ _ hh h => h.of_heap hh) own started (by kernel_rfl) Tryd.func3
   (ChangeSpec.witness_shaped (enc := enc) (C := Tryd.checked) (os := os) (X := fun w _ => laidMetH Tryd.prog Rows.chunksBeginningsRow.laid w) false (World.laidAll Tryd.prog os Rows.chunksBeginningsRow.laid) #[.slice none 0 0, .slice none 0 0] 8 (World.laidAll_os _ _ _)
     (World.shaped_of_ZipB (by kernel_rfl) (by kernel_rfl)) (by kernel_rfl) (by kernel_rfl) (by kernel_rfl)
     (by rw [MakeChecks.laidMetH_plain _ _ _ (by kernel_rfl)]; exact laidMet_laidAll _ (by kernel_rfl) (by kernel_rfl))) ?_
 intro W base args ds gs before hval hW q1 q2 hL q4
 refine law_contractT (P := Tryd.prog) 6 (tb := 4) (by kernel_rfl) (by kernel_rfl) rfl ?_ (by kernel_rfl) (by kernel_rfl) hval hW (gl_laid (laid := Rows.chunksBeginningsRow.laid) (by unfold Rows.chunksBeginningsRow; simp) (by unfold Rows.chunksBeginningsRow; simp) (by kernel_rfl) hL) ?_
 · intro ds hds
   obtain ⟨a, b, rfl⟩ := len2 (hds.trans (show Tryd.f3.params.toList.length = 2 by kernel_rfl))
   rfl
 · intro vs hvs
   have hp : Tryd.f3.params.toList = [22, 22] := by kernel_rfl
   rw [hp] at hvs
   obtain ⟨xa, xb, rfl, ha, hb⟩ := tyArgs2 hvs
   obtain ⟨b, rfl⟩ := hasBytes ha
   obtain ⟨u, rfl⟩ := hasBytes hb
   rw [elV_one Tryd.tagg22]
   exact AbsCall.mono (Tryd.chunksBeginnings_c mk_bxK b u) fun r bx h => h.1
theorem chunksBeginnings_said : Rows.ChunksBeginningsSaid :=
 OpenClaim.holds_of_wide 3 Tryd.f3 rfl rfl rfl rfl rfl rfl rfl ⟨rfl, rfl, rfl, rfl, rfl⟩ rfl rfl rfl rfl rfl (by kernel_rfl) Tryd.func3 (by kernel_rfl)
   (of_decide_eq_true (by kernel_rfl)) (by unfold Func.isWrapper; first | (rw [if_pos (by decide +kernel)]; kernel_rfl) | (rw [if_neg (by decide +kernel)]; exact ⟨rfl, rfl⟩))
   (fun os started H enc _ => chunksBeginnings_lifted os started H enc)
theorem chunksBeginnings_plain (f : FuncId) (fn : Func) (hf : Tryd.pinned.checked.prog.funcNamed "spillway/spillwaylaw08.ChunksBeginnings" = some f) (hfn : Tryd.pinned.checked.prog.funcs[f]? = some fn) :
   false = Tryd.pinned.checked.prog.looks [] ∧ ∀ (j : Nat) t, fn.params[j]? = some t → Tryd.pinned.checked.prog.wantsStandIn t = false := by
 obtain rfl : f = 3 := Option.some.inj ((show Tryd.prog.funcNamed "spillway/spillwaylaw08.ChunksBeginnings" = some 3 by kernel_rfl).symm.trans hf) |>.symm
 obtain rfl : fn = Tryd.f3 := (Option.some.inj (Tryd.func3.symm.trans hfn)).symm
 refine ⟨by kernel_rfl, fun j t ht => ?_⟩
 have hall : (Tryd.f3.params.toList.all fun t => !Tryd.prog.wantsStandIn t) = true := by kernel_rfl
 have := List.all_eq_true.1 hall t (by simpa using Array.mem_of_getElem? ht)
 exact (by simpa using this : Tryd.prog.wantsStandIn t = false)
theorem chunksBeginnings_holds : Rows.ChunksBeginningsCardSaid :=
 Claim7.holds_tied_plain_at .later [] _ _ _ _ chunksBeginnings_said (fun _ h => by cases h) (by kernel_rfl) (fun _ h => by cases h) chunksBeginnings_row_tie rfl ⟨rfl, rfl⟩ (by kernel_rfl) rfl chunksBeginnings_plain (by kernel_rfl)
theorem chunksKnown_lifted (os : Os) (started : os.Started) (H : Type) (enc : TypeId × Value → H) :
   ReturnsInHanded {} Tryd.checked os 4 .any (fun w args => (Rows.chunksKnownSpec.pre enc Tryd.prog Tryd.f4 [] false w args ∧ laidMetH Tryd.prog Rows.chunksKnownRow.laid w) ∧ sizedMet enc Tryd.prog Tryd.f4 (OpenSpec.ofChange Rows.chunksKnownSpec) false w args)
     (Rows.chunksKnownSpec.post enc Tryd.prog Tryd.f4 false true false false) := by
 refine returnsInHanded_of_change_and (C := Tryd.checked) (X := fun w _ => laidMetH Tryd.prog Rows.chunksKnownRow.laid w) (fun _ _ _ hh h => h.of_heap hh) own started (by kernel_rfl) Tryd.func4
   (ChangeSpec.witness_shaped (enc := enc) (C := Tryd.checked) (os := os) (X := fun w _ => laidMetH Tryd.prog Rows.chunksKnownRow.laid w) false (World.laidAll Tryd.prog os Rows.chunksKnownRow.laid) #[] 8 (World.laidAll_os _ _ _)
     (World.shaped_of_ZipB (by kernel_rfl) (by kernel_rfl)) (by kernel_rfl) (by kernel_rfl) (by kernel_rfl)
     (by rw [MakeChecks.laidMetH_plain _ _ _ (by kernel_rfl)]; exact laidMet_laidAll _ (by kernel_rfl) (by kernel_rfl))) ?_
 intro W base args ds gs before hval hW q1 q2 hL q4
 refine law_contractT (P := Tryd.prog) 6 (tb := 4) (by kernel_rfl) (by kernel_rfl) rfl ?_ (by kernel_rfl) (by kernel_rfl) hval hW (gl_laid (laid := Rows.chunksKnownRow.laid) (by unfold Rows.chunksKnownRow; simp) (by unfold Rows.chunksKnownRow; simp) (by kernel_rfl) hL) ?_
 · intro ds hds
   obtain rfl := List.eq_nil_of_length_eq_zero (hds.trans (show Tryd.f4.params.toList.length = 0 by kernel_rfl))
   rfl
 · intro vs hvs
   have hp : Tryd.f4.params.toList = [] := by kernel_rfl
   rw [hp] at hvs
   obtain rfl : vs = [] := (match vs, hvs with | [], _ => rfl)
   exact AbsCall.mono (Tryd.chunksKnown_c mk_bxK) fun r bx h => h.1
theorem chunksKnown_said : Rows.ChunksKnownSaid :=
 OpenClaim.holds_of_wide 4 Tryd.f4 rfl rfl rfl rfl rfl rfl rfl ⟨rfl, rfl, rfl, rfl, rfl⟩ rfl rfl rfl rfl rfl (by kernel_rfl) Tryd.func4 (by kernel_rfl)
   (of_decide_eq_true (by kernel_rfl)) (by unfold Func.isWrapper; first | (rw [if_pos (by decide +kernel)]; kernel_rfl) | (rw [if_neg (by decide +kernel)]; exact ⟨rfl, rfl⟩))
   (fun os started H enc _ => chunksKnown_lifted os started H enc)
theorem chunksKnown_plain (f : FuncId) (fn : Func) (hf : Tryd.pinned.checked.prog.funcNamed "spillway/spillwaylaw08.ChunksKnown" = some f) (hfn : Tryd.pinned.checked.prog.funcs[f]? = some fn) :
   false = Tryd.pinned.checked.prog.looks [] ∧ ∀ (j : Nat) t, fn.params[j]? = some t → Tryd.pinned.checked.prog.wantsStandIn t = false := by
 obtain rfl : f = 4 := Option.some.inj ((show Tryd.prog.funcNamed "spillway/spillwaylaw08.ChunksKnown" = some 4 by kernel_rfl).symm.trans hf) |>.symm
 obtain rfl : fn = Tryd.f4 := (Option.some.inj (Tryd.func4.symm.trans hfn)).symm
 refine ⟨by kernel_rfl, fun j t ht => ?_⟩
 have hall : (Tryd.f4.params.toList.all fun t => !Tryd.prog.wantsStandIn t) = true := by kernel_rfl
 have := List.all_eq_true.1 hall t (by simpa using Array.mem_of_getElem? ht)
 exact (by simpa using this : Tryd.prog.wantsStandIn t = false)
theorem chunksKnown_holds : Rows.ChunksKnownCardSaid :=
 Claim7.holds_tied_plain_at .later [] _ _ _ _ chunksKnown_said (fun _ h => by cases h) (by kernel_rfl) (fun _ h => by cases h) chunksKnown_row_tie rfl ⟨rfl, rfl⟩ (by kernel_rfl) rfl chunksKnown_plain (by kernel_rfl)
end Go.Proofs.YtfibpdlpnbnooaaDoor
