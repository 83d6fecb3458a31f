/- HashesIdle: one more backend, with the weight 0, makes no difference, but for the numbers of those after it; different single bytes have different hashes. -/
import Derived.Test.YtnijaldhopcpdaaDoorHh

set_option linter.unusedVariables false
set_option linter.unusedSimpArgs false
set_option maxRecDepth 100000
namespace Go.Proofs.YtnijaldhopcpdaaDoor
open Go Go.Pl Go.Hs Go.Proofs
open Go.ChangeShapes Go.WideShapes Go.ChangeAt Go.RowKit
theorem hasArr3 {n : Nat} {xs : List V} (h : HasL Tryd.prog (n + 1) 36 xs) : ∃ c d e : UInt8, xs = [.int .u8 (c.toNat : Int), .int .u8 (d.toNat : Int), .int .u8 (e.toNat : Int)] := by
  have hl := h.len
  rw [Tryd.tsz36] at hl
  match xs, hl with
  | [a, b, c], _ =>
    obtain ⟨c, hc⟩ := hasU8 (h.arr (i := 0) Tryd.knd36 (by decide))
    obtain ⟨d, hd⟩ := hasU8 (h.arr (i := 1) Tryd.knd36 (by decide))
    obtain ⟨e, he⟩ := hasU8 (h.arr (i := 2) Tryd.knd36 (by decide))
    simp [Tryd.tsz5] at hc hd he
    subst hc hd he
    exact ⟨c, d, e, rfl⟩
theorem hashesIdle_met (os : Os) : laidMet Tryd.prog Rows.hashesIdleRow.laid ((laidWorld os).forCall (fun _ _ => 0) ⟨#[], #[.agg #[.slice none 0 0, .slice none 0 0, .int .i64 0, .slice none 0 0], .string ⟨#[]⟩, .agg #[.int .u8 0, .int .u8 0, .int .u8 0]], []⟩).memory :=
  laidMet_of_run' 8 (by kernel_rfl) (by kernel_rfl)
theorem hashesIdle_reads (os : Os) {H : Type} (enc : TypeId × Value → H) : ∃ places, DataW.whole enc Tryd.prog ((laidWorld os).forCall (fun _ _ => 0) ⟨#[], #[.agg #[.slice none 0 0, .slice none 0 0, .int .i64 0, .slice none 0 0], .string ⟨#[]⟩, .agg #[.int .u8 0, .int .u8 0, .int .u8 0]], []⟩).memory Tryd.f4.params.toList Rows.hashesIdleSpec.vars false #[.agg #[.slice none 0 0, .slice none 0 0, .int .i64 0, .slice none 0 0], .string ⟨#[]⟩, .agg #[.int .u8 0, .int .u8 0, .int .u8 0]].toList 8 = some ([.agg [.nil, .nil, .lit (.int .i64 0), .nil], .lit (.string []), .agg [.lit (.int .u8 0), .lit (.int .u8 0), .lit (.int .u8 0)]], [], places) :=
  ⟨[], by kernel_rfl⟩
theorem hashesIdle_lifted (os : Os) (started : os.Started) (H : Type) (enc : TypeId × Value → H) (F : Stop.Interp) :
    ReturnsInHanded {} Tryd.checked os 4 .any ((OpenSpec.ofChange Rows.hashesIdleSpec).preRow enc Tryd.prog Tryd.f4 Rows.hashesIdleRow.domain false Rows.hashesIdleRow.laid) (((OpenSpec.ofChange Rows.hashesIdleSpec).at F).post enc Tryd.prog Tryd.f4 false true false false) := by
  obtain ⟨places, hx⟩ := hashesIdle_reads os enc
  refine returnsInHanded_of_row (C := Tryd.checked) (s := OpenSpec.ofChange Rows.hashesIdleSpec) own started (by kernel_rfl) Tryd.func4
    (witness_row_at (enc := enc) (C := Tryd.checked) false (laidWorld os) #[.agg #[.slice none 0 0, .slice none 0 0, .int .i64 0, .slice none 0 0], .string ⟨#[]⟩, .agg #[.int .u8 0, .int .u8 0, .int .u8 0]] rfl (by kernel_rfl) (by kernel_rfl) (by kernel_rfl)
      (OpenSpec.preRow_of_cond 8 hx (by kernel_rfl) (fun k hk => by cases hk) (by kernel_rfl) (hashesIdle_met os))) ?_
  intro W base args ds gs before hval hW _ _ _ hL _ _
  refine law_contractL (P := Tryd.prog) (g := 0) 6 (tb := 4) (by kernel_rfl) (by kernel_rfl) rfl ?_ (by kernel_rfl) (by kernel_rfl) hval hW (by kernel_rfl) (table hL) ?_
  · intro ds hds
    obtain ⟨a, b, c, rfl⟩ := len3 (hds.trans (show Tryd.f4.params.toList.length = 3 by kernel_rfl))
    rfl
  · intro vs hvs
    have hp : Tryd.f4.params.toList = [35, 9, 36] := by kernel_rfl
    rw [hp] at hvs
    obtain ⟨xa, xb, xc, rfl, ha, hb, hc⟩ := tyArgs3 hvs
    obtain ⟨r, g1, g2, g3, g4, g5⟩ := hasRg ha
    obtain ⟨s, rfl, _⟩ := hasStr hb
    obtain ⟨c, d, e, rfl⟩ := hasArr3 hc
    rw [elV_agg Tryd.tagg35, elV_one Tryd.tagg9, elV_agg Tryd.tagg36, ← g1]
    exact (Tryd.hashesIdle_c r s c d e bxM mk_bxM g3 g2).mono fun _ _ h => h.1
theorem hashesIdle_said : Rows.HashesIdleSaid :=
  OpenClaim.holds_of_cond 4 Tryd.f4 rfl rfl rfl rfl rfl rfl rfl ⟨rfl, rfl, rfl, rfl, rfl⟩ rfl rfl rfl rfl rfl (by kernel_rfl) Tryd.func4 (by kernel_rfl)
    (of_decide_eq_true (by kernel_rfl)) (by unfold Func.isWrapper; first | (rw [if_pos (by decide +kernel)]; kernel_rfl) | (rw [if_neg (by decide +kernel)]; exact ⟨rfl, rfl⟩))
    (fun os started H enc _ F => by rw [OpenClaim.pre_eq_preRow]; exact hashesIdle_lifted os started H enc F)
theorem hashesIdle_plain (f : FuncId) (fn : Func) (hf : Tryd.pinned.checked.prog.funcNamed "spillway/spillwaylaw11.HashesIdle" = some f) (hfn : Tryd.pinned.checked.prog.funcs[f]? = some fn) :
    false = Tryd.pinned.checked.prog.looks [] ∧ ∀ (j : Nat) t, fn.params[j]? = some t → Tryd.pinned.checked.prog.wantsStandIn t = false := by
  obtain rfl : f = 4 := Option.some.inj ((show Tryd.prog.funcNamed "spillway/spillwaylaw11.HashesIdle" = some 4 by kernel_rfl).symm.trans hf) |>.symm
  obtain rfl : fn = Tryd.f4 := (Option.some.inj (Tryd.func4.symm.trans hfn)).symm
  refine ⟨by kernel_rfl, fun j t ht => ?_⟩
  have hall : (Tryd.f4.params.toList.all fun t => !Tryd.prog.wantsStandIn t) = true := by kernel_rfl
  have := List.all_eq_true.1 hall t (by simpa using Array.mem_of_getElem? ht)
  exact (by simpa using this : Tryd.prog.wantsStandIn t = false)
theorem hashesIdle_holds : Rows.HashesIdleCardSaid :=
  Claim7.holds_tied_plain_at .later [] _ _ _ _ hashesIdle_said (fun _ h => by cases h) (by kernel_rfl) (fun _ h => by cases h) hashesIdle_row_tie rfl ⟨rfl, rfl⟩ (by kernel_rfl) rfl hashesIdle_plain (by kernel_rfl)
end Go.Proofs.YtnijaldhopcpdaaDoor
