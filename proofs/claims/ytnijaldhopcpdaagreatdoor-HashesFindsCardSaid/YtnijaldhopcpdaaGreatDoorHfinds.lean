/- HashesFinds: Find and Order return what the document says. -/
import Derived.Test.YtnijaldhopcpdaaGreatDoorHh

set_option linter.unusedVariables false
set_option linter.unusedSimpArgs false
set_option maxRecDepth 100000
namespace Go.Proofs.YtnijaldhopcpdaaGreatDoor
open Go Go.Pl Go.Hs Go.Proofs
open Go.ChangeShapes Go.WideShapes Go.ChangeAt Go.RowKit
theorem hashesFinds_met (os : Os) : laidMet Tryz.prog Rows.hashesFindsRow.laid ((laidWorld os).forCall (fun _ _ => 0) ⟨#[], #[.agg #[.slice none 0 0, .slice none 0 0, .int .i64 0, .slice none 0 0], .string ⟨#[]⟩], []⟩).memory :=
  laidMet_of_run' 8 (by kernel_rfl) (by kernel_rfl)
theorem hashesFinds_reads (os : Os) {H : Type} (enc : TypeId × Value → H) : ∃ places, DataW.whole enc Tryz.prog ((laidWorld os).forCall (fun _ _ => 0) ⟨#[], #[.agg #[.slice none 0 0, .slice none 0 0, .int .i64 0, .slice none 0 0], .string ⟨#[]⟩], []⟩).memory Tryz.f5.params.toList Rows.hashesFindsSpec.vars false #[.agg #[.slice none 0 0, .slice none 0 0, .int .i64 0, .slice none 0 0], .string ⟨#[]⟩].toList 8 = some ([.agg [.nil, .nil, .lit (.int .i64 0), .nil], .lit (.string [])], [], places) :=
  ⟨[], by kernel_rfl⟩
theorem hashesFinds_lifted (os : Os) (started : os.Started) (H : Type) (enc : TypeId × Value → H) (F : Stop.Interp) :
    ReturnsInHanded {} Tryz.checked os 5 .any ((OpenSpec.ofChange Rows.hashesFindsSpec).preRow enc Tryz.prog Tryz.f5 Rows.hashesFindsRow.domain false Rows.hashesFindsRow.laid) (((OpenSpec.ofChange Rows.hashesFindsSpec).at F).post enc Tryz.prog Tryz.f5 false true false false) := by
  obtain ⟨places, hx⟩ := hashesFinds_reads os enc
  refine returnsInHanded_of_row (C := Tryz.checked) (s := OpenSpec.ofChange Rows.hashesFindsSpec) own started (by kernel_rfl) Tryz.func5
    (witness_row_at (enc := enc) (C := Tryz.checked) false (laidWorld os) #[.agg #[.slice none 0 0, .slice none 0 0, .int .i64 0, .slice none 0 0], .string ⟨#[]⟩] rfl (by kernel_rfl) (by kernel_rfl) (by kernel_rfl)
      (OpenSpec.preRow_of_cond 8 hx (by kernel_rfl) (fun k hk => by cases hk) (by kernel_rfl) (hashesFinds_met os))) ?_
  intro W base args ds gs before hval hW _ _ _ hL _ _
  refine law_contractL (P := Tryz.prog) (g := 0) 6 (tb := 4) (by kernel_rfl) (by kernel_rfl) rfl ?_ (by kernel_rfl) (by kernel_rfl) hval hW (by kernel_rfl) (table hL) ?_
  · intro ds hds
    obtain ⟨a, b, rfl⟩ := len2 (hds.trans (show Tryz.f5.params.toList.length = 2 by kernel_rfl))
    rfl
  · intro vs hvs
    have hp : Tryz.f5.params.toList = [26, 9] := by kernel_rfl
    rw [hp] at hvs
    obtain ⟨xa, xb, rfl, ha, hb⟩ := tyArgs2 hvs
    obtain ⟨r, g1, g2, g3, g4, g5⟩ := hasRg ha
    obtain ⟨s, rfl, _⟩ := hasStr hb
    rw [elV_agg Tryz.tagg26, elV_one Tryz.tagg9, ← g1]
    exact (Tryz.hashesFinds_c r s bxM mk_bxM g3 g2).mono fun _ _ h => h.1
theorem hashesFinds_said : Rows.HashesFindsSaid :=
  OpenClaim.holds_of_cond 5 Tryz.f5 rfl rfl rfl rfl rfl rfl rfl ⟨rfl, rfl, rfl, rfl, rfl⟩ rfl rfl rfl rfl rfl (by kernel_rfl) Tryz.func5 (by kernel_rfl)
    (of_decide_eq_true (by kernel_rfl)) (by unfold Func.isWrapper; first | (rw [if_pos (by decide +kernel)]; kernel_rfl) | (rw [if_neg (by decide +kernel)]; exact ⟨rfl, rfl⟩))
    (fun os started H enc _ F => by rw [OpenClaim.pre_eq_preRow]; exact hashesFinds_lifted os started H enc F)
theorem hashesFinds_plain (f : FuncId) (fn : Func) (hf : Tryz.pinned.checked.prog.funcNamed "spillway/spillwaylaw11.HashesFinds" = some f) (hfn : Tryz.pinned.checked.prog.funcs[f]? = some fn) :
    false = Tryz.pinned.checked.prog.looks [] ∧ ∀ (j : Nat) t, fn.params[j]? = some t → Tryz.pinned.checked.prog.wantsStandIn t = false := by
  obtain rfl : f = 5 := Option.some.inj ((show Tryz.prog.funcNamed "spillway/spillwaylaw11.HashesFinds" = some 5 by kernel_rfl).symm.trans hf) |>.symm
  obtain rfl : fn = Tryz.f5 := (Option.some.inj (Tryz.func5.symm.trans hfn)).symm
  refine ⟨by kernel_rfl, fun j t ht => ?_⟩
  have hall : (Tryz.f5.params.toList.all fun t => !Tryz.prog.wantsStandIn t) = true := by kernel_rfl
  have := List.all_eq_true.1 hall t (by simpa using Array.mem_of_getElem? ht)
  exact (by simpa using this : Tryz.prog.wantsStandIn t = false)
theorem hashesFinds_holds : Rows.HashesFindsCardSaid :=
  Claim7.holds_tied_plain_at .later [] _ _ _ _ hashesFinds_said (fun _ h => by cases h) (by kernel_rfl) (fun _ h => by cases h) hashesFinds_row_tie rfl ⟨rfl, rfl⟩ (by kernel_rfl) rfl hashesFinds_plain (by kernel_rfl)
end Go.Proofs.YtnijaldhopcpdaaGreatDoor
