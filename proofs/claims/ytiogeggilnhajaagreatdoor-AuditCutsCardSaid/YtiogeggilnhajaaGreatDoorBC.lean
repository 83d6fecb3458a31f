/- The law's function returns true and never panics, for every log -/
import Derived.Test.YtiogeggilnhajaaGreatDoorBm
set_option linter.unusedVariables false
set_option linter.unusedSimpArgs false
set_option maxRecDepth 100000
namespace Go.Proofs.YtiogeggilnhajaaGreatDoor
open Go Go.Pl Go.Proofs Tryz
open Go.ChangeShapes Go.WideShapes Go.ChangeAt Go.RowKit
theorem auditCuts_lifted (os:Os) (started:os.Started) (H:Type) (enc:TypeId × Value -> H) :
 ReturnsInHanded {} checked os 5 .any (fun w args=>(Rows.auditCutsSpec.pre enc prog Tryz.f5 [] false w args /\ laidMetH prog Rows.auditCutsRow.laid w) /\ sizedMet enc prog Tryz.f5 (OpenSpec.ofChange Rows.auditCutsSpec) false w args)
  (Rows.auditCutsSpec.post enc prog Tryz.f5 false true false false):=by
 refine returnsInHanded_of_change_and (C:=checked) (X:=fun w _=>laidMetH prog Rows.auditCutsRow.laid w) (fun _ _ _ hh h=>h.of_heap hh) own started (by kernel_rfl) func5
  (ChangeSpec.witness_shaped (enc:=enc) (C:=checked) (os:=os) (X:=fun w _=>laidMetH prog Rows.auditCutsRow.laid w) false (World.laidAll prog os Rows.auditCutsRow.laid) #[.agg #[.slice none 0 0,.int .i64 0,.slice none 0 0]] 8 (World.laidAll_os _ _ _)
   (World.shaped_of_ZipB (by kernel_rfl) (by kernel_rfl)) (by kernel_rfl) (by kernel_rfl) (by kernel_rfl)
   (by rw [MakeChecks.laidMetH_plain _ _ _ (by kernel_rfl)]; exact laidMet_laidAll _ (by kernel_rfl) (by kernel_rfl))) ?_
 intro W base args ds gs before hval hW q1 q2 hL q4
 refine vb (P:=prog) 6 (tb:=4) (by kernel_rfl) (by kernel_rfl) rfl ?_ (by kernel_rfl) (by kernel_rfl) hval hW rfl PQ (KL (laid:=Rows.auditCutsRow.laid) (by unfold Rows.auditCutsRow; simp) (by unfold Rows.auditCutsRow; simp) (by unfold Rows.auditCutsRow; simp) (by kernel_rfl) hL) ?_
 ·intro ds KW
  obtain ⟨a,rfl⟩:=aaz (KW.trans (show Tryz.f5.params.toList.length = 1 by kernel_rfl))
  rfl
 ·intro vs jz
  have hp:Tryz.f5.params.toList = [25]:=by kernel_rfl
  rw [hp] at jz
  obtain ⟨xa,rfl,ha⟩:=Jm jz
  obtain ⟨L,m,l,hg,bB,A3⟩:=KN ha
  rw [x8 NA,hg]
  exact (Ib L m l bB A3 L0).mono fun _ _ h=>h.1
theorem auditCuts_said:Rows.AuditCutsSaid :=
 OpenClaim.holds_of_wide 5 Tryz.f5 rfl rfl rfl rfl rfl rfl rfl ⟨rfl,rfl,rfl,rfl,rfl⟩ rfl rfl rfl rfl rfl (by kernel_rfl) func5 (by kernel_rfl)
  (of_decide_eq_true (by kernel_rfl)) (by unfold Func.isWrapper; first | (rw [if_pos (by decide +kernel)]; kernel_rfl) | (rw [if_neg (by decide +kernel)]; exact ⟨rfl,rfl⟩))
  (fun os started H enc _=>auditCuts_lifted os started H enc)
theorem auditCuts_plain (f:FuncId) (fn:Func) (hf:pinned.checked.prog.funcNamed "spillway/spillwaylaw30.AuditCuts" = some f) (hfn:pinned.checked.prog.funcs[f]? = some fn) :
 false = pinned.checked.prog.looks [] /\ ∀ (j:Nat) t,fn.params[j]? = some t -> pinned.checked.prog.wantsStandIn t = false:=by
 obtain rfl:f = 5:=Option.some.inj ((show prog.funcNamed "spillway/spillwaylaw30.AuditCuts" = some 5 by kernel_rfl).symm.trans hf) |>.symm
 obtain rfl:fn = Tryz.f5:=(Option.some.inj (func5.symm.trans hfn)).symm
 refine ⟨by kernel_rfl,fun j t ht=>?_⟩
 have gr:(Tryz.f5.params.toList.all fun t=>!prog.wantsStandIn t) = true:=by kernel_rfl
 have:=List.all_eq_true.1 gr t (by simpa using Array.mem_of_getElem? ht)
 exact (by simpa using this:prog.wantsStandIn t = false)
theorem auditCuts_holds:Rows.AuditCutsCardSaid :=
 Claim7.holds_tied_plain_at .later [] _ _ _ _ auditCuts_said (fun _ h=>by cases h) (by kernel_rfl) (fun _ h=>by cases h) auditCuts_row_tie rfl ⟨rfl,rfl⟩ (by kernel_rfl) rfl auditCuts_plain (by kernel_rfl)
end Go.Proofs.YtiogeggilnhajaaGreatDoor
