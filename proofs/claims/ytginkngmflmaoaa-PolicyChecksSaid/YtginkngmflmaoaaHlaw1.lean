/- PolicyChecks answers true, for every input, and leaves its arguments as they were; no condition. -/
import Derived.Test.YtginkngmflmaoaaRows
import Derived.Test.YtginkngmflmaoaaHg
import Derived.Test.YtginkngmflmaoaaHd
import Derived.WalkKit
import Derived.ProofKit

/- PolicyChecks answers true for every input. -/
set_option linter.unusedVariables false
set_option linter.unusedSimpArgs false
namespace Go.Proofs.Ytginkngmflmaoaa
open Go Go.Pl Go.Proofs
open Go.ChangeShapes Go.WideShapes Go.ChangeAt Go.RowKit

theorem hasBk {xs : List V} (h : HasL Try.prog 6 22 xs) : ∃ l : List Bk, xs = [.sl 5 (l.map bkV)] := by
  obtain ⟨l, h, _⟩ := HasL.slice (r := bkV) Try.knd22 h fun ys hy => by
    have hl := hy.len
    rw [Try.tsz45] at hl
    match ys, hl with
    | [a, b, c, d, e], _ =>
      obtain ⟨i0, h0, _⟩ := (hy.fld Try.knd45 Try.fld45_0).int Try.knd3
      obtain ⟨i1, h1, _⟩ := (hy.fld Try.knd45 Try.fld45_1).int Try.knd3
      obtain ⟨i2, h2, _⟩ := (hy.fld Try.knd45 Try.fld45_2).int Try.knd3
      obtain ⟨b3, h3⟩ := (hy.fld Try.knd45 Try.fld45_3).bool Try.knd4
      obtain ⟨b4, h4⟩ := (hy.fld Try.knd45 Try.fld45_4).bool Try.knd4
      simp [Try.tsz3, Try.tsz4] at h0 h1 h2 h3 h4
      subst h0 h1 h2 h3 h4
      exact ⟨⟨i0, i1, i2, b3, b4⟩, by simp [elV, Try.tagg45, bkV]⟩
  rw [Try.tsz45] at h
  exact ⟨l, h⟩
theorem hasInt {xs : List V} (h : HasL Try.prog 6 3 xs) : ∃ i : Int, xs = [.int .i64 i] := by
  obtain ⟨i, rfl, _⟩ := h.int Try.knd3
  exact ⟨i, rfl⟩
theorem hasU2 {xs : List V} (h : HasL Try.prog 6 24 xs) : ∃ a b : Nat, a < 4294967296 ∧ b < 4294967296 ∧ xs = [.int .u32 a, .int .u32 b] := by
  obtain ⟨hl, h⟩ := h
  simp only [Try.knd24] at h
  rw [Try.tsz24] at hl
  match xs, hl with
  | [a, b], _ =>
    have h0 := h 0 (by omega)
    have h1 := h 1 (by omega)
    simp [HasL, Try.knd23, Try.tsz23, Lit.wf, IntKind.min, IntKind.max, IntKind.signed, IntKind.bits] at h0 h1
    obtain ⟨i0, rfl, g0, g1⟩ := h0
    obtain ⟨i1, rfl, g2, g3⟩ := h1
    exact ⟨i0.toNat, i1.toNat, by omega, by omega, by simp; omega⟩

theorem own : ownKnob Try.prog.godebug = none := by kernel_rfl
set_option maxRecDepth 100000 in
theorem checks_lifted (os : Os) (started : os.Started) (H : Type) (enc : TypeId × Value → H) :
    ReturnsInHanded {} Try.checked os 3 .any (Rows.policyChecksSpec.pre6 enc Try.prog Try.f3 Rows.policyChecksRow.domain false) (Rows.policyChecksSpec.post enc Try.prog Try.f3 false true false false) := by
  refine returnsInHanded_of_change (C := Try.checked) own started (by kernel_rfl) Try.func3
    (ChangeSpec.witness6 (enc := enc) (C := Try.checked) false ⟨#[], #[.slice none 0 0, .agg #[.int .u32 0, .int .u32 0], .int .i64 0], []⟩ 8 (by kernel_rfl) (by kernel_rfl) (by kernel_rfl) (by kernel_rfl)) ?_
  intro W base args ds gs before hval hW _ _
  refine law_contract (P := Try.prog) 6 (tb := 4) (by kernel_rfl) (by kernel_rfl) rfl ?_ (by kernel_rfl) (by kernel_rfl) hval hW ?_
  · intro ds hds
    obtain ⟨a, b, c, rfl⟩ := len3 (hds.trans (show Try.f3.params.toList.length = 3 by kernel_rfl))
    rfl
  · intro vs hvs
    have hp : Try.f3.params.toList = [22, 24, 3] := by kernel_rfl
    rw [hp] at hvs
    obtain ⟨xa, xb, xc, rfl, h1, h2, h3⟩ := tyArgs3 hvs
    obtain ⟨l, rfl⟩ := hasBk h1
    obtain ⟨x0, x1, g0, g1, rfl⟩ := hasU2 h2
    obtain ⟨skip, rfl⟩ := hasInt h3
    rw [elV_one Try.tagg22, elV_agg Try.tagg24, elV_one Try.tagg3]
    exact checks_c l x0 x1 skip _ g0 g1
theorem checks_over : Rows.policyChecksRow.holds Try.pinned (OpenSpec.ofChange Rows.policyChecksSpec) :=
  OpenClaim.holds_of_wide 3 Try.f3 rfl rfl rfl rfl rfl rfl rfl ⟨rfl, rfl, rfl, rfl, rfl⟩ rfl rfl rfl rfl rfl (by kernel_rfl) Try.func3 (by kernel_rfl)
    (of_decide_eq_true (by kernel_rfl)) (by unfold Func.isWrapper; first | (rw [if_pos (by decide +kernel)]; kernel_rfl) | (rw [if_neg (by decide +kernel)]; exact ⟨rfl, rfl⟩))
    (fun os started H enc _ => checks_lifted os started H enc)
theorem checks_holds : Rows.PolicyChecksSaid := checks_over
end Go.Proofs.Ytginkngmflmaoaa
#print axioms Go.Proofs.Ytginkngmflmaoaa.checks_holds
