/- The law's function returns true and never panics, for every log -/
import Derived.Test.YtiogeggilnhajaaGreatDoorBl
set_option linter.unusedVariables false
set_option linter.unusedSimpArgs false
set_option maxRecDepth 100000
namespace Go.Proofs.YtiogeggilnhajaaGreatDoor
open Go Go.Pl Go.Proofs Tryz
open Go.ChangeShapes Go.WideShapes Go.ChangeAt Go.RowKit
theorem auditFinds_lifted (os : Os) (started : os.Started) (H : Type) (enc : TypeId × Value -> H) :
 ReturnsInHanded {} checked os 3 .any (fun w args=>(Rows.auditFindsSpec.pre enc prog Tryz.f3 [] false w args /\ laidMetH prog Rows.auditFindsRow.laid w) /\ sizedMet enc prog Tryz.f3 (OpenSpec.ofChange Rows.auditFindsSpec) false w args)
  (Rows.auditFindsSpec.post enc prog Tryz.f3 false true false false):=by
 refine returnsInHanded_of_change_and (C:=checked) (X:=fun w _=>laidMetH prog Rows.auditFindsRow.laid w) (fun _ _ _ hh h=>h.of_heap hh) own started (by kernel_rfl) func3
  (ChangeSpec.witness_shaped (enc:=enc) (C:=checked) (os:=os) (X:=fun w _=>laidMetH prog Rows.auditFindsRow.laid w) false (World.laidAll prog os Rows.auditFindsRow.laid) #[.agg #[.slice none 0 0,.int .i64 0,.slice none 0 0]] 8 (World.laidAll_os _ _ _)
   (World.shaped_of_ZipB (by kernel_rfl) (by kernel_rfl)) (by kernel_rfl) (by kernel_rfl) (by kernel_rfl)
   (by rw [MakeChecks.laidMetH_plain _ _ _ (by kernel_rfl)]; exact laidMet_laidAll _ (by kernel_rfl) (by kernel_rfl))) ?_
 intro W base args ds gs before hval hW q1 q2 hL q4
 refine nM (P:=prog) 6 (tb:=4) (by kernel_rfl) (by kernel_rfl) rfl ?_ (by kernel_rfl) (by kernel_rfl) hval hW rfl Ht (CP (laid:=Rows.auditFindsRow.laid) (by unfold Rows.auditFindsRow; simp) (by unfold Rows.auditFindsRow; simp) (by unfold Rows.auditFindsRow; simp) (by kernel_rfl) hL) ?_
 ·intro ds HB
  obtain ⟨a,rfl⟩:=Tg (HB.trans (show Tryz.f3.params.toList.length = 1 by kernel_rfl))
  rfl
 ·intro vs ju
  have hp : Tryz.f3.params.toList = [25]:=by kernel_rfl
  rw [hp] at ju
  obtain ⟨xa,rfl,ha⟩:=BX ju
  obtain ⟨L,m,l,hg,bp,yp⟩:=CU ha
  rw [rW F3,hg]
  exact (Ey L m l bp yp IM).mono fun _ _ h=>h.1
theorem auditFinds_said : Rows.AuditFindsSaid :=
 OpenClaim.holds_of_wide 3 Tryz.f3 rfl rfl rfl rfl rfl rfl rfl ⟨rfl,rfl,rfl,rfl,rfl⟩ rfl rfl rfl rfl rfl (by kernel_rfl) func3 (by kernel_rfl)
  (of_decide_eq_true (by kernel_rfl)) (by unfold Func.isWrapper; first | (rw [if_pos (by decide +kernel)]; kernel_rfl) | (rw [if_neg (by decide +kernel)]; exact ⟨rfl,rfl⟩))
  (fun os started H enc _=>auditFinds_lifted os started H enc)
theorem auditFinds_plain (f : FuncId) (fn : Func) (hf : pinned.checked.prog.funcNamed "spillway/spillwaylaw30.AuditFinds" = some f) (hfn : pinned.checked.prog.funcs[f]? = some fn) :
 false = pinned.checked.prog.looks [] /\ ∀ (j : Nat) t,fn.params[j]? = some t -> pinned.checked.prog.wantsStandIn t = false:=by
 obtain rfl : f = 3:=Option.some.inj ((show prog.funcNamed "spillway/spillwaylaw30.AuditFinds" = some 3 by kernel_rfl).symm.trans hf) |>.symm
 obtain rfl : fn = Tryz.f3:=(Option.some.inj (func3.symm.trans hfn)).symm
 refine ⟨by kernel_rfl,fun j t ht=>?_⟩
 have ig : (Tryz.f3.params.toList.all fun t=>!prog.wantsStandIn t) = true:=by kernel_rfl
 have:=List.all_eq_true.1 ig t (by simpa using Array.mem_of_getElem? ht)
 exact (by simpa using this : prog.wantsStandIn t = false)
theorem auditFinds_holds : Rows.AuditFindsCardSaid :=
 Claim7.holds_tied_plain_at .later [] _ _ _ _ auditFinds_said (fun _ h=>by cases h) (by kernel_rfl) (fun _ h=>by cases h) auditFinds_row_tie rfl ⟨rfl,rfl⟩ (by kernel_rfl) rfl auditFinds_plain (by kernel_rfl)
theorem auditLives_lifted (os : Os) (started : os.Started) (H : Type) (enc : TypeId × Value -> H) :
 ReturnsInHanded {} checked os 4 .any (fun w args=>(Rows.auditLivesSpec.pre enc prog Tryz.f4 [] false w args /\ laidMetH prog Rows.auditLivesRow.laid w) /\ sizedMet enc prog Tryz.f4 (OpenSpec.ofChange Rows.auditLivesSpec) false w args)
  (Rows.auditLivesSpec.post enc prog Tryz.f4 false true false false):=by
 refine returnsInHanded_of_change_and (C:=checked) (X:=fun w _=>laidMetH prog Rows.auditLivesRow.laid w) (fun _ _ _ hh h=>h.of_heap hh) own started (by kernel_rfl) func4
  (ChangeSpec.witness_shaped (enc:=enc) (C:=checked) (os:=os) (X:=fun w _=>laidMetH prog Rows.auditLivesRow.laid w) false (World.laidAll prog os Rows.auditLivesRow.laid) #[.agg #[.slice none 0 0,.int .i64 0,.slice none 0 0]] 8 (World.laidAll_os _ _ _)
   (World.shaped_of_ZipB (by kernel_rfl) (by kernel_rfl)) (by kernel_rfl) (by kernel_rfl) (by kernel_rfl)
   (by rw [MakeChecks.laidMetH_plain _ _ _ (by kernel_rfl)]; exact laidMet_laidAll _ (by kernel_rfl) (by kernel_rfl))) ?_
 intro W base args ds gs before hval hW q1 q2 hL q4
 refine nM (P:=prog) 6 (tb:=4) (by kernel_rfl) (by kernel_rfl) rfl ?_ (by kernel_rfl) (by kernel_rfl) hval hW rfl Ht (CP (laid:=Rows.auditLivesRow.laid) (by unfold Rows.auditLivesRow; simp) (by unfold Rows.auditLivesRow; simp) (by unfold Rows.auditLivesRow; simp) (by kernel_rfl) hL) ?_
 ·intro ds HB
  obtain ⟨a,rfl⟩:=Tg (HB.trans (show Tryz.f4.params.toList.length = 1 by kernel_rfl))
  rfl
 ·intro vs ju
  have hp : Tryz.f4.params.toList = [25]:=by kernel_rfl
  rw [hp] at ju
  obtain ⟨xa,rfl,ha⟩:=BX ju
  obtain ⟨L,m,l,hg,bp,yp⟩:=CU ha
  rw [rW F3,hg]
  exact (Ez L m l bp yp IM).mono fun _ _ h=>h.1
theorem auditLives_said : Rows.AuditLivesSaid :=
 OpenClaim.holds_of_wide 4 Tryz.f4 rfl rfl rfl rfl rfl rfl rfl ⟨rfl,rfl,rfl,rfl,rfl⟩ rfl rfl rfl rfl rfl (by kernel_rfl) func4 (by kernel_rfl)
  (of_decide_eq_true (by kernel_rfl)) (by unfold Func.isWrapper; first | (rw [if_pos (by decide +kernel)]; kernel_rfl) | (rw [if_neg (by decide +kernel)]; exact ⟨rfl,rfl⟩))
  (fun os started H enc _=>auditLives_lifted os started H enc)
theorem auditLives_plain (f : FuncId) (fn : Func) (hf : pinned.checked.prog.funcNamed "spillway/spillwaylaw30.AuditLives" = some f) (hfn : pinned.checked.prog.funcs[f]? = some fn) :
 false = pinned.checked.prog.looks [] /\ ∀ (j : Nat) t,fn.params[j]? = some t -> pinned.checked.prog.wantsStandIn t = false:=by
 obtain rfl : f = 4:=Option.some.inj ((show prog.funcNamed "spillway/spillwaylaw30.AuditLives" = some 4 by kernel_rfl).symm.trans hf) |>.symm
 obtain rfl : fn = Tryz.f4:=(Option.some.inj (func4.symm.trans hfn)).symm
 refine ⟨by kernel_rfl,fun j t ht=>?_⟩
 have ig : (Tryz.f4.params.toList.all fun t=>!prog.wantsStandIn t) = true:=by kernel_rfl
 have:=List.all_eq_true.1 ig t (by simpa using Array.mem_of_getElem? ht)
 exact (by simpa using this : prog.wantsStandIn t = false)
theorem auditLives_holds : Rows.AuditLivesCardSaid :=
 Claim7.holds_tied_plain_at .later [] _ _ _ _ auditLives_said (fun _ h=>by cases h) (by kernel_rfl) (fun _ h=>by cases h) auditLives_row_tie rfl ⟨rfl,rfl⟩ (by kernel_rfl) rfl auditLives_plain (by kernel_rfl)
end Go.Proofs.YtiogeggilnhajaaGreatDoor
