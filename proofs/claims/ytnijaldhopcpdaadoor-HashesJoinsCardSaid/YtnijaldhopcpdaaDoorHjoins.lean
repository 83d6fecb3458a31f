/- HashesJoins: if the weight of a backend becomes greater, keys that move all move to it; its share does not become less, the others' not greater. -/
import Derived.Test.YtnijaldhopcpdaaDoorHh

set_option linter.unusedVariables false
set_option linter.unusedSimpArgs false
set_option maxRecDepth 100000
namespace Go.Proofs.YtnijaldhopcpdaaDoor
open Go Go.Pl Go.Hs Go.Proofs
open Go.ChangeShapes Go.WideShapes Go.ChangeAt Go.RowKit
theorem hasArr2 {n : Nat} {xs : List V} (h : HasL Tryd.prog (n + 1) 45 xs) : ∃ c d : UInt8, xs = [.int .u8 (c.toNat : Int), .int .u8 (d.toNat : Int)] := by
  have hl := h.len
  rw [Tryd.tsz45] at hl
  match xs, hl with
  | [a, b], _ =>
    obtain ⟨c, hc⟩ := hasU8 (h.arr (i := 0) Tryd.knd45 (by decide))
    obtain ⟨d, hd⟩ := hasU8 (h.arr (i := 1) Tryd.knd45 (by decide))
    simp [Tryd.tsz5] at hc hd
    subst hc hd
    exact ⟨c, d, rfl⟩
theorem hashesJoins_met (os : Os) : laidMet Tryd.prog Rows.hashesJoinsRow.laid ((laidWorld os).forCall (fun _ _ => 0) ⟨#[], #[.agg #[.slice none 0 0, .slice none 0 0, .int .i64 0, .slice none 0 0], .agg #[.int .u8 0, .int .u8 0], .slice none 0 0], []⟩).memory :=
  laidMet_of_run' 8 (by kernel_rfl) (by kernel_rfl)
theorem hashesJoins_reads (os : Os) {H : Type} (enc : TypeId × Value → H) : ∃ places, DataW.whole enc Tryd.prog ((laidWorld os).forCall (fun _ _ => 0) ⟨#[], #[.agg #[.slice none 0 0, .slice none 0 0, .int .i64 0, .slice none 0 0], .agg #[.int .u8 0, .int .u8 0], .slice none 0 0], []⟩).memory Tryd.f5.params.toList Rows.hashesJoinsSpec.vars false #[.agg #[.slice none 0 0, .slice none 0 0, .int .i64 0, .slice none 0 0], .agg #[.int .u8 0, .int .u8 0], .slice none 0 0].toList 8 = some ([.agg [.nil, .nil, .lit (.int .i64 0), .nil], .agg [.lit (.int .u8 0), .lit (.int .u8 0)], .nil], [], places) :=
  ⟨[], by kernel_rfl⟩
theorem hashesJoins_lifted (os : Os) (started : os.Started) (H : Type) (enc : TypeId × Value → H) (F : Stop.Interp) :
    ReturnsInHanded {} Tryd.checked os 5 .any ((OpenSpec.ofChange Rows.hashesJoinsSpec).preRow enc Tryd.prog Tryd.f5 Rows.hashesJoinsRow.domain false Rows.hashesJoinsRow.laid) (((OpenSpec.ofChange Rows.hashesJoinsSpec).at F).post enc Tryd.prog Tryd.f5 false true false false) := by
  obtain ⟨places, hx⟩ := hashesJoins_reads os enc
  refine returnsInHanded_of_row (C := Tryd.checked) (s := OpenSpec.ofChange Rows.hashesJoinsSpec) own started (by kernel_rfl) Tryd.func5
    (witness_row_at (enc := enc) (C := Tryd.checked) false (laidWorld os) #[.agg #[.slice none 0 0, .slice none 0 0, .int .i64 0, .slice none 0 0], .agg #[.int .u8 0, .int .u8 0], .slice none 0 0] rfl (by kernel_rfl) (by kernel_rfl) (by kernel_rfl)
      (OpenSpec.preRow_of_cond 8 hx (by kernel_rfl) (fun k hk => by cases hk) (by kernel_rfl) (hashesJoins_met os))) ?_
  intro W base args ds gs before hval hW _ _ _ hL _ _
  refine law_contractL (P := Tryd.prog) (g := 0) 6 (tb := 4) (by kernel_rfl) (by kernel_rfl) rfl ?_ (by kernel_rfl) (by kernel_rfl) hval hW (by kernel_rfl) (table hL) ?_
  · intro ds hds
    obtain ⟨a, b, c, rfl⟩ := len3 (hds.trans (show Tryd.f5.params.toList.length = 3 by kernel_rfl))
    rfl
  · intro vs hvs
    have hp : Tryd.f5.params.toList = [35, 45, 31] := by kernel_rfl
    rw [hp] at hvs
    obtain ⟨xa, xb, xc, rfl, ha, hb, hc⟩ := tyArgs3 hvs
    obtain ⟨r, g1, g2, g3, g4, g5⟩ := hasRg ha
    obtain ⟨c, d, rfl⟩ := hasArr2 hb
    obtain ⟨l, rfl, _⟩ := hasStrs hc
    rw [elV_agg Tryd.tagg35, elV_agg Tryd.tagg45, elV_one Tryd.tagg31, ← g1]
    exact (Tryd.hashesJoins_c r c d l bxM mk_bxM g3 g2).mono fun _ _ h => h.1
theorem hashesJoins_said : Rows.HashesJoinsSaid :=
  OpenClaim.holds_of_cond 5 Tryd.f5 rfl rfl rfl rfl rfl rfl rfl ⟨rfl, rfl, rfl, rfl, rfl⟩ rfl rfl rfl rfl rfl (by kernel_rfl) Tryd.func5 (by kernel_rfl)
    (of_decide_eq_true (by kernel_rfl)) (by unfold Func.isWrapper; first | (rw [if_pos (by decide +kernel)]; kernel_rfl) | (rw [if_neg (by decide +kernel)]; exact ⟨rfl, rfl⟩))
    (fun os started H enc _ F => by rw [OpenClaim.pre_eq_preRow]; exact hashesJoins_lifted os started H enc F)
theorem hashesJoins_plain (f : FuncId) (fn : Func) (hf : Tryd.pinned.checked.prog.funcNamed "spillway/spillwaylaw11.HashesJoins" = some f) (hfn : Tryd.pinned.checked.prog.funcs[f]? = some fn) :
    false = Tryd.pinned.checked.prog.looks [] ∧ ∀ (j : Nat) t, fn.params[j]? = some t → Tryd.pinned.checked.prog.wantsStandIn t = false := by
  obtain rfl : f = 5 := Option.some.inj ((show Tryd.prog.funcNamed "spillway/spillwaylaw11.HashesJoins" = some 5 by kernel_rfl).symm.trans hf) |>.symm
  obtain rfl : fn = Tryd.f5 := (Option.some.inj (Tryd.func5.symm.trans hfn)).symm
  refine ⟨by kernel_rfl, fun j t ht => ?_⟩
  have hall : (Tryd.f5.params.toList.all fun t => !Tryd.prog.wantsStandIn t) = true := by kernel_rfl
  have := List.all_eq_true.1 hall t (by simpa using Array.mem_of_getElem? ht)
  exact (by simpa using this : Tryd.prog.wantsStandIn t = false)
theorem hashesJoins_holds : Rows.HashesJoinsCardSaid :=
  Claim7.holds_tied_plain_at .later [] _ _ _ _ hashesJoins_said (fun _ h => by cases h) (by kernel_rfl) (fun _ h => by cases h) hashesJoins_row_tie rfl ⟨rfl, rfl⟩ (by kernel_rfl) rfl hashesJoins_plain (by kernel_rfl)
end Go.Proofs.YtnijaldhopcpdaaDoor
