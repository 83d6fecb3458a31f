/- HashesShares: shares together are 2^32; Order has each backend with a weight once, and begins with what Find returns. -/
import Derived.Test.YtnijaldhopcpdaaDoorHh

set_option linter.unusedVariables false
set_option linter.unusedSimpArgs false
set_option maxRecDepth 100000
namespace Go.Proofs.YtnijaldhopcpdaaDoor
open Go Go.Pl Go.Hs Go.Proofs
open Go.ChangeShapes Go.WideShapes Go.ChangeAt Go.RowKit
theorem hashesShares_met (os : Os) : laidMet Tryd.prog Rows.hashesSharesRow.laid ((laidWorld os).forCall (fun _ _ => 0) ⟨#[], #[.agg #[.slice none 0 0, .slice none 0 0, .int .i64 0, .slice none 0 0], .string ⟨#[]⟩], []⟩).memory :=
  laidMet_of_run' 8 (by kernel_rfl) (by kernel_rfl)
theorem hashesShares_reads (os : Os) {H : Type} (enc : TypeId × Value → H) : ∃ places, DataW.whole enc Tryd.prog ((laidWorld os).forCall (fun _ _ => 0) ⟨#[], #[.agg #[.slice none 0 0, .slice none 0 0, .int .i64 0, .slice none 0 0], .string ⟨#[]⟩], []⟩).memory Tryd.f6.params.toList Rows.hashesSharesSpec.vars false #[.agg #[.slice none 0 0, .slice none 0 0, .int .i64 0, .slice none 0 0], .string ⟨#[]⟩].toList 8 = some ([.agg [.nil, .nil, .lit (.int .i64 0), .nil], .lit (.string [])], [], places) :=
  ⟨[], by kernel_rfl⟩
theorem hashesShares_lifted (os : Os) (started : os.Started) (H : Type) (enc : TypeId × Value → H) (F : Stop.Interp) :
    ReturnsInHanded {} Tryd.checked os 6 .any ((OpenSpec.ofChange Rows.hashesSharesSpec).preRow enc Tryd.prog Tryd.f6 Rows.hashesSharesRow.domain false Rows.hashesSharesRow.laid) (((OpenSpec.ofChange Rows.hashesSharesSpec).at F).post enc Tryd.prog Tryd.f6 false true false false) := by
  obtain ⟨places, hx⟩ := hashesShares_reads os enc
  refine returnsInHanded_of_row (C := Tryd.checked) (s := OpenSpec.ofChange Rows.hashesSharesSpec) own started (by kernel_rfl) Tryd.func6
    (witness_row_at (enc := enc) (C := Tryd.checked) false (laidWorld os) #[.agg #[.slice none 0 0, .slice none 0 0, .int .i64 0, .slice none 0 0], .string ⟨#[]⟩] rfl (by kernel_rfl) (by kernel_rfl) (by kernel_rfl)
      (OpenSpec.preRow_of_cond 8 hx (by kernel_rfl) (fun k hk => by cases hk) (by kernel_rfl) (hashesShares_met os))) ?_
  intro W base args ds gs before hval hW _ _ _ hL _ _
  refine law_contractL (P := Tryd.prog) (g := 0) 6 (tb := 4) (by kernel_rfl) (by kernel_rfl) rfl ?_ (by kernel_rfl) (by kernel_rfl) hval hW (by kernel_rfl) (table hL) ?_
  · intro ds hds
    obtain ⟨a, b, rfl⟩ := len2 (hds.trans (show Tryd.f6.params.toList.length = 2 by kernel_rfl))
    rfl
  · intro vs hvs
    have hp : Tryd.f6.params.toList = [35, 9] := by kernel_rfl
    rw [hp] at hvs
    obtain ⟨xa, xb, rfl, ha, hb⟩ := tyArgs2 hvs
    obtain ⟨r, g1, g2, g3, g4, g5⟩ := hasRg ha
    obtain ⟨s, rfl, _⟩ := hasStr hb
    rw [elV_agg Tryd.tagg35, elV_one Tryd.tagg9, ← g1]
    exact (Tryd.hashesShares_c r s bxM mk_bxM g3 g2).mono fun _ _ h => h.1
theorem hashesShares_said : Rows.HashesSharesSaid :=
  OpenClaim.holds_of_cond 6 Tryd.f6 rfl rfl rfl rfl rfl rfl rfl ⟨rfl, rfl, rfl, rfl, rfl⟩ rfl rfl rfl rfl rfl (by kernel_rfl) Tryd.func6 (by kernel_rfl)
    (of_decide_eq_true (by kernel_rfl)) (by unfold Func.isWrapper; first | (rw [if_pos (by decide +kernel)]; kernel_rfl) | (rw [if_neg (by decide +kernel)]; exact ⟨rfl, rfl⟩))
    (fun os started H enc _ F => by rw [OpenClaim.pre_eq_preRow]; exact hashesShares_lifted os started H enc F)
theorem hashesShares_plain (f : FuncId) (fn : Func) (hf : Tryd.pinned.checked.prog.funcNamed "spillway/spillwaylaw11.HashesShares" = some f) (hfn : Tryd.pinned.checked.prog.funcs[f]? = some fn) :
    false = Tryd.pinned.checked.prog.looks [] ∧ ∀ (j : Nat) t, fn.params[j]? = some t → Tryd.pinned.checked.prog.wantsStandIn t = false := by
  obtain rfl : f = 6 := Option.some.inj ((show Tryd.prog.funcNamed "spillway/spillwaylaw11.HashesShares" = some 6 by kernel_rfl).symm.trans hf) |>.symm
  obtain rfl : fn = Tryd.f6 := (Option.some.inj (Tryd.func6.symm.trans hfn)).symm
  refine ⟨by kernel_rfl, fun j t ht => ?_⟩
  have hall : (Tryd.f6.params.toList.all fun t => !Tryd.prog.wantsStandIn t) = true := by kernel_rfl
  have := List.all_eq_true.1 hall t (by simpa using Array.mem_of_getElem? ht)
  exact (by simpa using this : Tryd.prog.wantsStandIn t = false)
theorem hashesShares_holds : Rows.HashesSharesCardSaid :=
  Claim7.holds_tied_plain_at .later [] _ _ _ _ hashesShares_said (fun _ h => by cases h) (by kernel_rfl) (fun _ h => by cases h) hashesShares_row_tie rfl ⟨rfl, rfl⟩ (by kernel_rfl) rfl hashesShares_plain (by kernel_rfl)
end Go.Proofs.YtnijaldhopcpdaaDoor
