/- The law HashesSums of chapter 11 answers true for every input, and its arguments read as before: for every two lists of bytes and every number, with the library's tables laid as the program's text lays them. -/
import Derived.Test.YtnijaldhopcpdaaDoorHg

set_option linter.unusedVariables false
set_option linter.unusedSimpArgs false
set_option maxRecDepth 100000
namespace Go.Proofs.YtnijaldhopcpdaaDoor
open Go Go.Pl Go.Hs Go.Proofs
open Go.ChangeShapes Go.WideShapes Go.ChangeAt Go.RowKit
theorem hashesSums_met (os : Os) : laidMet Tryd.prog Rows.hashesSumsRow.laid ((laidWorld os).forCall (fun _ _ => 0) ⟨#[], #[.slice none 0 0, .slice none 0 0, .int .u64 0], []⟩).memory :=
  laidMet_of_run' 8 (by kernel_rfl) (by kernel_rfl)
theorem hashesSums_reads (os : Os) {H : Type} (enc : TypeId × Value → H) : ∃ places, DataW.whole enc Tryd.prog ((laidWorld os).forCall (fun _ _ => 0) ⟨#[], #[.slice none 0 0, .slice none 0 0, .int .u64 0], []⟩).memory Tryd.f3.params.toList Rows.hashesSumsSpec.vars false #[.slice none 0 0, .slice none 0 0, .int .u64 0].toList 8 = some ([.nil, .nil, .lit (.int .u64 0)], [], places) :=
  ⟨[], by kernel_rfl⟩
theorem hashesSums_lifted (os : Os) (started : os.Started) (H : Type) (enc : TypeId × Value → H) (F : Stop.Interp) :
    ReturnsInHanded {} Tryd.checked os 3 .any ((OpenSpec.ofChange Rows.hashesSumsSpec).preRow enc Tryd.prog Tryd.f3 Rows.hashesSumsRow.domain false Rows.hashesSumsRow.laid) (((OpenSpec.ofChange Rows.hashesSumsSpec).at F).post enc Tryd.prog Tryd.f3 false true false false) := by
  obtain ⟨places, hx⟩ := hashesSums_reads os enc
  refine returnsInHanded_of_row (C := Tryd.checked) (s := OpenSpec.ofChange Rows.hashesSumsSpec) own started (by kernel_rfl) Tryd.func3
    (witness_row_at (enc := enc) (C := Tryd.checked) false (laidWorld os) #[.slice none 0 0, .slice none 0 0, .int .u64 0] rfl (by kernel_rfl) (by kernel_rfl) (by kernel_rfl)
      (OpenSpec.preRow_of_cond 8 hx (by kernel_rfl) (fun k hk => by cases hk) (by kernel_rfl) (hashesSums_met os))) ?_
  intro W base args ds gs before hval hW _ _ _ hL _ _
  refine law_contractL (P := Tryd.prog) (g := 0) 6 (tb := 4) (by kernel_rfl) (by kernel_rfl) rfl ?_ (by kernel_rfl) (by kernel_rfl) hval hW (by kernel_rfl) (table hL) ?_
  · intro ds hds
    obtain ⟨a, b, c, rfl⟩ := len3 (hds.trans (show Tryd.f3.params.toList.length = 3 by kernel_rfl))
    rfl
  · intro vs hvs
    have hp : Tryd.f3.params.toList = [22, 22, 23] := by kernel_rfl
    rw [hp] at hvs
    obtain ⟨xa, xb, xc, rfl, ha, hb, hc⟩ := tyArgs3 hvs
    obtain ⟨l1, rfl, g1⟩ := hasBytes ha
    obtain ⟨l2, rfl, g2⟩ := hasBytes hb
    obtain ⟨i, g3, rfl⟩ := hasU64 hc
    rw [elV_one Tryd.tagg22, elV_one Tryd.tagg22, elV_one Tryd.tagg23]
    exact Tryd.hashesSums_c l1 l2 i bxM mk_bxM (by simpa [maxLen] using g1) (by simpa [maxLen] using g2) g3
theorem hashesSums_said : Rows.HashesSumsSaid :=
  OpenClaim.holds_of_cond 3 Tryd.f3 rfl rfl rfl rfl rfl rfl rfl ⟨rfl, rfl, rfl, rfl, rfl⟩ rfl rfl rfl rfl rfl (by kernel_rfl) Tryd.func3 (by kernel_rfl)
    (of_decide_eq_true (by kernel_rfl)) (by unfold Func.isWrapper; first | (rw [if_pos (by decide +kernel)]; kernel_rfl) | (rw [if_neg (by decide +kernel)]; exact ⟨rfl, rfl⟩))
    (fun os started H enc _ F => by rw [OpenClaim.pre_eq_preRow]; exact hashesSums_lifted os started H enc F)
theorem hashesSums_plain (f : FuncId) (fn : Func) (hf : Tryd.pinned.checked.prog.funcNamed "spillway/spillwaylaw11.HashesSums" = some f) (hfn : Tryd.pinned.checked.prog.funcs[f]? = some fn) :
    false = Tryd.pinned.checked.prog.looks [] ∧ ∀ (j : Nat) t, fn.params[j]? = some t → Tryd.pinned.checked.prog.wantsStandIn t = false := by
  obtain rfl : f = 3 := Option.some.inj ((show Tryd.prog.funcNamed "spillway/spillwaylaw11.HashesSums" = some 3 by kernel_rfl).symm.trans hf) |>.symm
  obtain rfl : fn = Tryd.f3 := (Option.some.inj (Tryd.func3.symm.trans hfn)).symm
  refine ⟨by kernel_rfl, fun j t ht => ?_⟩
  have hall : (Tryd.f3.params.toList.all fun t => !Tryd.prog.wantsStandIn t) = true := by kernel_rfl
  have := List.all_eq_true.1 hall t (by simpa using Array.mem_of_getElem? ht)
  exact (by simpa using this : Tryd.prog.wantsStandIn t = false)
theorem hashesSums_holds : Rows.HashesSumsCardSaid :=
  Claim7.holds_tied_plain_at .later [] _ _ _ _ hashesSums_said (fun _ h => by cases h) (by kernel_rfl) (fun _ h => by cases h) hashesSums_row_tie rfl ⟨rfl, rfl⟩ (by kernel_rfl) rfl hashesSums_plain (by kernel_rfl)
end Go.Proofs.YtnijaldhopcpdaaDoor
