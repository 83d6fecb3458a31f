/- Texts of the proof, put together: Qa, Qb, Qc, Qd, Qe, Qf, Qg, Qh, Qi, Qj, Qk, Ql, Qm, Qn, Qp, Qq, Qt, Qu, Rs, Qv, Qw, Qx, Rq, Qyz, Ya, Qzb. -/
import Derived.Test.YtnijaldhopcpdaaGreatDoorHi
import Derived.Test.YtnijaldhopcpdaaGreatDoorHc
import Derived.Test.YtnijaldhopcpdaaGreatDoorHh

set_option linter.unusedSimpArgs false
set_option linter.unusedVariables false
set_option maxRecDepth 100000
namespace Go.Proofs.Pol
open Go Go.Pl Go.Proofs
structure Bk where
  wt : Int
  ac : Int
  cu : Int
  up : Bool
  op : Bool
  deriving DecidableEq
def bkV (x : Bk) : V := .agg [.int .i64 x.wt, .int .i64 x.ac, .int .i64 x.cu, .bool x.up, .bool x.op]
theorem outside_c (n lo hi : Int) (bx : Boxes) : PureCall Tryz.prog 98 [.int .i64 n, .int .i64 lo, .int .i64 hi] bx (.bool (decide (n < lo) || decide (hi < n))) := by
  refine Tryz.ctr98 fun hb => ?_
  simp [go_sem, Tryz.C98]
  refine ret_pure ?_ ?_ <;> simp [go_sem]
theorem lighter_c (x y : Bk) (bx : Boxes) : PureCall Tryz.prog 97 [bkV x, bkV y] bx (.bool (decide (IntKind.i64.wrap (x.ac * y.wt) < IntKind.i64.wrap (y.ac * x.wt)))) := by
  refine Tryz.ctr97 fun hb => ?_
  simp [go_sem, Tryz.C97, bkV, hb]
  refine ret_pure ?_ ?_ <;> simp [go_sem]
def badB (x : Bk) : Bool := (decide (x.wt < 0) || decide (100 < x.wt)) || (decide (x.ac < 0) || decide (10000 < x.ac)) || (decide (x.cu < -1000000) || decide (1000000 < x.cu))
theorem bad_c (x : Bk) (bx : Boxes) : PureCall Tryz.prog 128 [bkV x] bx (.bool (badB x)) := by
  refine Tryz.ctr128 fun hb => ?_
  simp [go_sem, Tryz.C128, bkV, hb]
  refine callK_pure (outside_c ..) ?_
  simp [go_sem]
  refine gK_pure (outside_c ..) (by simp) (by simp [go_sem]) ?_
  simp [go_sem]
  refine gK_pure (outside_c ..) (by simp) (by simp [go_sem]) ?_
  simp [go_sem]
  refine ret_pure ?_ ?_ <;> simp [go_sem, badB]
def canP (x : Bk) (skip : Int) (i : Nat) : Bool := x.up && (!x.op && (decide (0 < x.wt) && decide ((skip.fdiv (2 ^ i)).tmod 2 = 0)))
def canL (l : List Bk) (skip : Int) (k : Nat) : List Nat := (List.range k).filter fun i => match l[i]? with | some x => canP x skip i | none => false
theorem canL_le (l : List Bk) (skip : Int) (k : Nat) : (canL l skip k).length ≤ k := by
  simpa [canL] using List.length_filter_le _ (List.range k)
def ixV (i : Nat) : V := .int .i64 i
set_option maxHeartbeats 1000000 in
theorem refcan_c (l : List Bk) (skip : Int) (bx : Boxes) (hl : l.length ≤ 50) : PureCall Tryz.prog 131 [.sl 5 (l.map bkV), .int .i64 skip] bx (.sl 1 ((canL l skip l.length).map ixV)) := by
  refine AbsCall.weak (Kc := fun r bx' => ((r = .nils ∧ (canL l skip l.length).map ixV = []) ∨ r = .sl 1 ((canL l skip l.length).map ixV)) ∧ bx' = bx) (Tryz.ctr131 fun hb => ?_) ?_
  · simp [go_sem, Tryz.C131]
    refine pw_loop (ι := Nat × V × Boxes) (fun p => p.1 ≤ l.length ∧ Acc bx 3 1 ((canL l skip p.1).map ixV) p.2.1 p.2.2)
      (fun p => ⟨46, slk [(0, V.sl 5 (List.map bkV l)), (1, V.int IntKind.i64 skip), (5, p.2.1), (6, .int .i64 p.1)], p.2.2⟩) (fun p => l.length - p.1) (0, .nils, bx) ⟨by simp, acc_nil hb _ _⟩ (cov_look (by simp [go_sem])) ?_
    rintro ⟨k, v, bx1⟩ ⟨hk, ha⟩
    dsimp only at hk ha ⊢
    by_cases hlt : k < l.length
    · have hw : IntKind.i64.wrap ((k : Int) + 1) = ((k + 1 : Nat) : Int) := by rw [wr64 (by omega)]; omega
      have hmin : min k 64 = k := by omega
      have hg : l[k]? = some l[k] := List.getElem?_eq_getElem hlt
      simp [go_sem, Tryz.L131_0, hlt, bkV, hb, hw, hmin, ha.fin]
      refine ⟨fun h1 h2 h3 h4 b hb1 => ?_, fun hno => ?_⟩
      · refine acc_append (es := (canL l skip k).map ixV) (news := [.int .i64 k]) (e := 3) (sz := 1) (bx1 := bx1) (bx := bx) (.int .i64 0) ha ((Ext.refl _).new hb1 _) ((finB_upd _ _ _).2 ha.fin) Tryz.knd23 Tryz.tsz3 (by simp [srcEls, upd]) Tryz.tzero3 (by simp [go_sem]) (by omega) ?_ ?_ (by simp [go_sem]) ?_
        · have := canL_le l skip k
          simp [Tryz.tby3]; omega
        · have := canL_le l skip k
          simp; omega
        · intro v' bx3 ha'
          simp [go_sem, hw]
          refine ⟨(k + 1, v', bx3), ⟨by simp; omega, ?_⟩, cov_look (by simp [go_sem]), by simp; omega⟩
          have : canL l skip (k + 1) = canL l skip k ++ [k] := by simp [canL, List.range_succ, hg, canP, h1, h2, h3, h4]
          simpa [this, ixV] using ha'
      · refine ⟨(k + 1, v, bx1), ⟨by simp; omega, ?_⟩, cov_look (by simp [go_sem, hw]), by simp; omega⟩
        have : canL l skip (k + 1) = canL l skip k := by
          simp [canL, List.range_succ, hg, canP]
          intro h1 h2 h3; exact hno h1 h2 h3
        simpa [this] using ha
    · have hk' : k = l.length := by omega
      subst hk'
      simp [go_sem, Tryz.L131_0]
      refine ret_acc (e := 3) (sz := 1) (es := (canL l skip l.length).map ixV) (by simp [go_sem]) (by simpa [go_sem] using ha) (by omega) ?_
      rintro r (⟨h1, h2⟩ | h1)
      · simp only [List.map_eq_nil_iff] at h2
        exact ⟨.inl ⟨h1, h2⟩, rfl⟩
      · exact ⟨.inr h1, rfl⟩
  · rintro r bx' ⟨h | h, rfl⟩
    · simp [h.1, h.2, wk_nils]
    · simp [h, Wk.refl]
/-- IndexFunc -/
theorem index_c (g : FuncId) (caps : List V) (p : Bk → Bool) (l : List Bk) (bx : Boxes) (hl : l.length ≤ 1000) (hp : ∀ x, x ∈ l → ∀ bx, PureCall Tryz.prog g (bkV x :: caps) bx (.bool (p x))) :
    PureCall Tryz.prog 129 [.sl 5 (l.map bkV), .fn (.func g) caps] bx (.int .i64 (match l.findIdx? p with | some i => (i : Int) | none => -1)) := by
  refine Tryz.ctr129 fun hb => ?_
  simp [go_sem, Tryz.C129, hb]
  refine pw_loop (ι := Nat) (fun k => k ≤ l.length ∧ ∀ j, j < k → ∀ x, l[j]? = some x → p x = false) (fun k => ⟨19, slk [(0, V.sl 5 (List.map bkV l)), (1, V.fn (.func g) caps), (7, .int .i64 l.length), (8, .int .i64 k)], bx⟩) (fun k => l.length - k) 0 ⟨by omega, fun j h => by omega⟩ (cov_look (by simp [go_sem])) ?_
  rintro k ⟨hk, hpre⟩
  by_cases hlt : k < l.length
  · have hw : IntKind.i64.wrap ((k : Int) + 1) = ((k + 1 : Nat) : Int) := by rw [wr64 (by omega)]; omega
    have hmem : l[k] ∈ l := List.getElem_mem hlt
    simp [go_sem, Tryz.L129_0, hlt, bkV, hb]
    refine callK_pure (hp _ hmem bx) ?_
    simp [go_sem]
    refine ⟨fun h => ?_, fun h => ?_⟩
    · refine ret_pure (by simp [go_sem]) ?_
      have : l.findIdx? p = some k := by
        rw [List.findIdx?_eq_some_iff_getElem]
        exact ⟨hlt, h, fun j hj => by have := hpre j hj l[j] (List.getElem?_eq_getElem (by omega)); simp [this]⟩
      simp [go_sem, this]
    · refine ⟨k + 1, ⟨by omega, fun j hj x hx => ?_⟩, cov_look (by simp [go_sem, hw]), by dsimp only; omega⟩
      by_cases e : j = k
      · subst e; rw [List.getElem?_eq_getElem hlt] at hx; injection hx with hx; rw [← hx]; exact h
      · exact hpre j (by omega) x hx
  · have hk' : k = l.length := by omega
    subst hk'
    simp [go_sem, Tryz.L129_0]
    refine ret_pure (by simp [go_sem]) ?_
    have : l.findIdx? p = none := by
      rw [List.findIdx?_eq_none_iff]
      intro x hx
      obtain ⟨j, hj, rfl⟩ := List.getElem_of_mem hx
      exact hpre j hj _ (List.getElem?_eq_getElem hj)
    simp [go_sem, this]
end Go.Proofs.Pol

set_option linter.unusedSimpArgs false
set_option linter.unusedVariables false
set_option maxRecDepth 100000
namespace Go.Proofs.Pol
open Go Go.Pl Go.Proofs
theorem contains_c (g : FuncId) (caps : List V) (p : Bk → Bool) (l : List Bk) (bx : Boxes) (hl : l.length ≤ 1000) (hp : ∀ x, x ∈ l → ∀ bx, PureCall Tryz.prog g (bkV x :: caps) bx (.bool (p x))) :
    PureCall Tryz.prog 101 [.sl 5 (l.map bkV), .fn (.func g) caps] bx (.bool (l.any p)) := by
  refine Tryz.ctr101 fun hb => ?_
  simp [go_sem, Tryz.C101, hb]
  refine callK_pure (index_c g caps p l bx hl hp) ?_
  simp [go_sem]
  refine ret_pure (by simp [go_sem]) ?_
  simp [go_sem]
  cases h : l.findIdx? p with
  | none =>
    rw [List.findIdx?_eq_none_iff] at h
    simp
    exact h
  | some i =>
    rw [List.findIdx?_eq_some_iff_getElem] at h
    obtain ⟨h1, h2, _⟩ := h
    simp
    exact ⟨_, List.getElem_mem h1, h2⟩
def checkB (l : List Bk) : Int := if l.length < 1 ∨ 16 < l.length then 3 else if l.any badB then 7 else 0
theorem check_c (l : List Bk) (bx : Boxes) (hl : l.length ≤ 1000) : PureCall Tryz.prog 99 [.sl 5 (l.map bkV)] bx (.int .i64 (checkB l)) := by
  refine Tryz.ctr99 fun hb => ?_
  simp [go_sem, Tryz.C99, hb]
  refine callK_pure (outside_c ..) ?_
  simp [go_sem]
  refine ⟨fun h => ret_pure (by simp [go_sem]) ?_, fun h1 h2 => callK_pure (contains_c 128 [] badB l bx hl (fun x _ bx => bad_c x bx)) ?_⟩
  · have : l.length < 1 ∨ 16 < l.length := by omega
    have hc : checkB l = 3 := if_pos this
    simp [go_sem, hc]
  · have : ¬ (l.length < 1 ∨ 16 < l.length) := by omega
    simp [go_sem]
    refine ⟨fun x hx hb => ret_pure (by simp [go_sem]) ?_, fun h => ret_pure (by simp [go_sem]) ?_⟩
    · have h3 : l.any badB = true := List.any_eq_true.2 ⟨x, hx, hb⟩
      have hc : checkB l = 7 := by unfold checkB; rw [if_neg this, if_pos h3]
      simp [go_sem, hc]
    · have h3 : l.any badB = false := by simpa using h
      have hc : checkB l = 0 := by unfold checkB; rw [if_neg this, if_neg (by simp [h3])]
      simp [go_sem, hc]
end Go.Proofs.Pol

set_option linter.unusedSimpArgs false
set_option linter.unusedVariables false
set_option maxRecDepth 100000
namespace Go.Proofs.Pol
open Go Go.Pl Go.Proofs
def askB (l : List Bk) (skip : Int) : Int := if checkB l = 0 then (if skip < 0 ∨ 65535 < skip then 2 else 0) else checkB l
theorem ask_c (l : List Bk) (skip : Int) (bx : Boxes) (hl : l.length ≤ 1000) : PureCall Tryz.prog 70 [.sl 5 (l.map bkV), .int .i64 skip] bx (.int .i64 (askB l skip)) := by
  refine Tryz.ctr70 fun hb => ?_
  simp [go_sem, Tryz.C70, hb]
  refine callK_pure (check_c l bx hl) ?_
  simp [go_sem]
  refine ⟨fun h => ret_pure (by simp [go_sem]) ?_, fun h => callK_pure (outside_c ..) ?_⟩
  · simp [go_sem, askB, h]
  · simp [go_sem]
    refine ⟨fun h1 => ret_pure (by simp [go_sem]) ?_, fun h1 h2 => ret_pure (by simp [go_sem]) ?_⟩
    · simp [go_sem, askB, h, h1]
    · have : ¬ (skip < 0 ∨ 65535 < skip) := by omega
      simp [go_sem, askB, h, this]
set_option maxHeartbeats 1000000 in
theorem rcheck_c (l : List Bk) (bx : Boxes) (hl : l.length ≤ 1000) : PureCall Tryz.prog 143 [.sl 5 (l.map bkV)] bx (.int .i64 (checkB l)) := by
  refine Tryz.ctr143 fun hb => ?_
  simp [go_sem, Tryz.C143, hb]
  refine ⟨fun h => ret_pure (by simp [go_sem]) ?_, fun h1 h2 => ?_⟩
  · have hc : checkB l = 3 := if_pos (by omega)
    simp [go_sem, hc]
  · have hn : ¬ (l.length < 1 ∨ 16 < l.length) := by omega
    refine pw_loop (ι := Nat) (fun k => k ≤ l.length ∧ ∀ j, j < k → ∀ x, l[j]? = some x → badB x = false) (fun k => ⟨51, slk [(0, V.sl 5 (List.map bkV l)), (3, .int .i64 k)], bx⟩) (fun k => l.length - k) 0 ⟨by omega, fun j h => by omega⟩ (cov_look (by simp [go_sem])) ?_
    rintro k ⟨hk, hpre⟩
    by_cases hlt : k < l.length
    · have hw : IntKind.i64.wrap ((k : Int) + 1) = ((k + 1 : Nat) : Int) := by rw [wr64 (by omega)]; omega
      have hmem : l[k] ∈ l := List.getElem_mem hlt
      simp [go_sem, Tryz.L143_0, hlt, bkV, hb]
      intro b hb1
      rw [upd_self hb1]
      refine ⟨fun h => ret_pure (by simp [go_sem]) ?_, fun g1 g2 g3 g4 g5 g6 => ⟨k + 1, ⟨by omega, fun j hj x hx => ?_⟩, cov_look (by simp [go_sem, hw]), by dsimp only; omega⟩⟩
      · have h3 : l.any badB = true := List.any_eq_true.2 ⟨_, hmem, by simp [badB]; omega⟩
        have hc : checkB l = 7 := by unfold checkB; rw [if_neg hn, if_pos h3]
        simp [go_sem, hc]
      · by_cases e : j = k
        · subst e; rw [List.getElem?_eq_getElem hlt] at hx; injection hx with hx; rw [← hx]; simp [badB]; omega
        · exact hpre j (by omega) x hx
    · have hk' : k = l.length := by omega
      subst hk'
      simp [go_sem, Tryz.L143_0]
      refine ret_pure (by simp [go_sem]) ?_
      have h3 : l.any badB = false := by
        rw [List.any_eq_false]
        intro x hx
        obtain ⟨j, hj, rfl⟩ := List.getElem_of_mem hx
        simp [hpre j hj _ (List.getElem?_eq_getElem hj)]
      have hc : checkB l = 0 := by unfold checkB; rw [if_neg hn, if_neg (by simp [h3])]
      simp [go_sem, hc]
end Go.Proofs.Pol

set_option linter.unusedSimpArgs false
set_option linter.unusedVariables false
set_option maxRecDepth 100000
namespace Go.Proofs.Pol
open Go Go.Pl Go.Proofs
theorem candit_c (l : List Bk) (skip : Int) (b : Nat) (J : Nat → Boxes → Prop) (S : Boxes → Prop) (hl : l.length ≤ 50)
    (hf : ∀ k bx, J k bx → FinB bx) (hy : ∀ k bx x, l[k]? = some x → J k bx → (canP x skip k = true → AbsYield Tryz.prog b [.int .i64 k] bx fun r bx' => (r = .bool true ∧ J (k + 1) bx') ∨ (r = .bool false ∧ S bx')) ∧ (canP x skip k = false → J (k + 1) bx))
    {bx : Boxes} (h0 : J 0 bx) : AbsCall Tryz.prog 109 [.yl b, .ep (.sl 5 (l.map bkV)) 0, .ep (.int .i64 skip) 0] bx fun _ bx' => J l.length bx' ∨ S bx' := by
  refine Tryz.ctr109 fun hb => ?_
  simp [go_sem, Tryz.C109, hb]
  refine pw_loop (ι := Nat × Boxes) (fun p => p.1 ≤ l.length ∧ J p.1 p.2) (fun p => ⟨39, slk [(0, .yl b), (2, .ep (.int .i64 skip) 0), (6, .sl 5 (l.map bkV)), (7, .int .i64 l.length), (8, .int .i64 p.1)], p.2⟩) (fun p => l.length - p.1) (0, bx) ⟨by simp, h0⟩ (cov_look (by simp [go_sem])) ?_
  rintro ⟨k, bx1⟩ ⟨hk, hJ⟩
  dsimp only at hk hJ ⊢
  by_cases hlt : k < l.length
  · have hw : IntKind.i64.wrap ((k : Int) + 1) = ((k + 1 : Nat) : Int) := by rw [wr64 (by omega)]; omega
    have hg : l[k]? = some l[k] := List.getElem?_eq_getElem hlt
    have hmin : min k 64 = k := by omega
    have := hy k bx1 _ hg hJ
    simp [go_sem, Tryz.L109_0, hlt, bkV, hf _ _ hJ, hmin]
    intro b1 hb1
    rw [upd_self hb1]
    have hbit : bits .and .i64 (skip.fdiv (2 ^ k)) 1 = (skip.fdiv (2 ^ k)) % 2 := by simpa using bits_and_mask .i64 1 (by decide) (skip.fdiv (2 ^ k)) 1 (by decide)
    have hc : (l[k].up && !l[k].op && decide (0 < l[k].wt) && decide (bits BinOp.and IntKind.i64 (skip.fdiv (2 ^ k)) 1 = 0)) = canP l[k] skip k := by
      have : decide ((skip.fdiv (2 ^ k)) % 2 = 0) = decide ((skip.fdiv (2 ^ k)).tmod 2 = 0) := by
        simp [tmod2]
      simp [canP, hbit, this, Bool.and_assoc]
    simp only [hc]
    refine ⟨fun hcp => ⟨?_, by simp [go_sem], ?_⟩, fun hcp => ?_⟩
    · simpa [canP, Bool.and_assoc, hbit, and_assoc, tmod2] using hcp
    · refine yldK_abs (this.1 hcp) ?_
      rintro r bx' (⟨rfl, h⟩ | ⟨rfl, h⟩)
      · simp [go_sem, hcp, hw]
        exact ⟨(k + 1, bx'), ⟨by simp; omega, h⟩, cov_look (by simp [go_sem]), by dsimp only; omega⟩
      · simp [go_sem, hcp]
        exact ret_pure (by simp [go_sem]) (.inr h)
    · simp [go_sem, hcp, hw]
      exact ⟨(k + 1, bx1), ⟨by simp; omega, this.2 hcp⟩, cov_look (by simp [go_sem]), by dsimp only; omega⟩
  · have hk' : k = l.length := by omega
    subst hk'
    simp [go_sem, Tryz.L109_0]
    exact ret_pure (by simp [go_sem]) (.inl hJ)
def canX (l : List Bk) (skip : Int) (k : Nat) : Option (List V) := match l[k]? with
  | some x => if canP x skip k then some [.int .i64 k] else none
  | none => none
theorem candit (l : List Bk) (skip : Int) (hl : l.length ≤ 50) : Iter Tryz.prog 109 [.ep (.sl 5 (l.map bkV)) 0, .ep (.int .i64 skip) 0] l.length (canX l skip) := by
  intro b J S hf hy bx h0
  refine candit_c l skip b J S hl hf (fun k bx x hx hJ => ?_) h0
  obtain ⟨h1, h2⟩ := hy k bx (List.getElem?_eq_some_iff.1 hx).1 hJ
  simp only [canX, hx] at h1 h2
  exact ⟨fun hc => h1 _ (by simp [hc]), fun hc => h2 (by simp [hc])⟩
end Go.Proofs.Pol

set_option linter.unusedSimpArgs false
set_option linter.unusedVariables false
set_option maxRecDepth 100000
namespace Go.Proofs.Pol
open Go Go.Pl Go.Proofs
theorem cand_c (l : List Bk) (skip : Int) (bx : Boxes) : PureCall Tryz.prog 72 [.sl 5 (l.map bkV), .int .i64 skip] bx (.fn (.func 109) [.ep (.sl 5 (l.map bkV)) 0, .ep (.int .i64 skip) 0]) := by
  refine Tryz.ctr72 fun hb => ?_
  simp [go_sem, Tryz.C72, hb]
  refine ret_pure (by simp [go_sem]) ?_
  simp [go_sem]
theorem canX_len (l : List Bk) (skip : Int) (m : Nat) (hm : m = 1) : ∀ k args, canX l skip k = some args → args.length = m := by
  subst hm
  intro k args ha
  simp only [canX] at ha
  split at ha
  · split at ha
    · injection ha with ha; subst ha; rfl
    · cases ha
  · cases ha
def bk0 : Bk := ⟨0, 0, 0, false, false⟩
def bk (l : List Bk) (i : Nat) : Bk := l.getD i bk0
def ltB (x y : Bk) : Bool := decide (IntKind.i64.wrap (x.ac * y.wt) < IntKind.i64.wrap (y.ac * x.wt))
def bestO (l : List Bk) (c : List Nat) : Option Nat := c.foldl (fun o i => match o with | none => some i | some j => if ltB (bk l i) (bk l j) then some i else some j) none
def oI : Option Nat → Int
  | none => -1
  | some j => j
theorem canL_succ (l : List Bk) (skip : Int) (k : Nat) (h : k < l.length) : canL l skip (k + 1) = if canP l[k] skip k then canL l skip k ++ [k] else canL l skip k := by
  simp [canL, List.range_succ, List.getElem?_eq_getElem h]
  split <;> simp [*]
theorem canL_lt (l : List Bk) (skip : Int) (k : Nat) : ∀ i, i ∈ canL l skip k → i < k ∧ i < l.length := by
  intro i hi
  simp [canL] at hi
  refine ⟨hi.1, ?_⟩
  by_cases h : i < l.length
  · exact h
  · rw [List.getElem?_eq_none (by omega)] at hi; simp at hi
theorem bestO_mem (l : List Bk) (c : List Nat) (j : Nat) (h : bestO l c = some j) : j ∈ c := by
  unfold bestO at h
  have : ∀ (c : List Nat) (o : Option Nat), (c.foldl (fun o i => match o with | none => some i | some j => if ltB (bk l i) (bk l j) then some i else some j) o) = some j → j ∈ c ∨ o = some j := by
    intro c
    induction c with
    | nil => intro o h; exact .inr h
    | cons i c ih =>
      intro o h
      rw [List.foldl_cons] at h
      rcases ih _ h with h1 | h1
      · exact .inl (by simp [h1])
      · cases o with
        | none => simp at h1; exact .inl (by simp [h1])
        | some q =>
          dsimp only at h1
          split at h1
          · injection h1 with h1; exact .inl (by simp [h1])
          · exact .inr h1
  rcases this c none h with h1 | h1
  · exact h1
  · cases h1
theorem bestO_snoc (l : List Bk) (c : List Nat) (k : Nat) : bestO l (c ++ [k]) = match bestO l c with | none => some k | some j => if ltB (bk l k) (bk l j) then some k else some j := by
  simp [bestO]
theorem bk_get {l : List Bk} {k : Nat} (h : k < l.length) : bk l k = l[k] := by simp [bk, h]
def least (l : List Bk) (skip : Int) : Int × Int :=
  if askB l skip = 0 then (match bestO l (canL l skip l.length) with | none => (0, 4) | some j => (j, 0)) else (0, askB l skip)
theorem least_c (l : List Bk) (skip : Int) (bx : Boxes) (hl : l.length ≤ 50) : PureCall Tryz.prog 59 [.sl 5 (l.map bkV), .int .i64 skip] bx (.tup [.int .i64 (least l skip).1, .int .i64 (least l skip).2]) := by
  refine Tryz.ctr59 fun hb => ?_
  simp [go_sem, Tryz.C59, hb]
  refine callK_pure (ask_c l skip bx (by omega)) ?_
  simp [go_sem]
  refine ⟨fun h => ret_pure (by simp [go_sem]) ?_, fun h => ⟨hb, fun b7 hb7 => callK_pure (cand_c ..) ?_⟩⟩
  · simp [go_sem, least, h]
  · simp [go_sem]
    refine pw_iter (by kernel_rfl) (candit l skip hl) (fun k bx' => bx' = upd bx b7 (some (.row 3 1 [.int .i64 (oI (bestO l (canL l skip k)))]))) (by simp [go_sem]) (by simp [bestO, canL, oI]) (by rintro k _ rfl; simp [finB_upd, hb]) (fun k args _ => canX_len l skip 1 rfl k args) (by simp) (by rfl) (by rfl) ?_ ?_
    · rintro k _ hk rfl
      refine ⟨fun hn => ?_, fun args ha => ?_⟩
      · rw [canL_succ l skip k hk]
        simp [canX, List.getElem?_eq_getElem hk] at hn
        simp [hn]
      simp only [canX, List.getElem?_eq_getElem hk, Option.ite_none_right_eq_some, Option.some.injEq] at ha
      obtain ⟨hc, rfl⟩ := ha
      intro K k1 k2
      simp [go_sem, Tryz.L59_0a, setPs, upd_look]
      rw [canL_succ l skip k hk, hc] at k1
      cases hb : bestO l (canL l skip k) with
      | none =>
        simp [go_sem, Tryz.L59_0b, hk, oI, bkV]
        refine gK_off .unk (by simp [go_sem]) ?_
        simp [go_sem]
        exact k1 _ (by simp [go_sem, bestO_snoc, hb, oI])
      | some j =>
        have hj := canL_lt _ _ _ _ (bestO_mem _ _ _ hb)
        simp [go_sem, Tryz.L59_0b, hk, oI, hj, bkV]
        refine gK_pure (lighter_c l[k] l[j] _) (by simp) (by simp [go_sem]) ?_
        simp [go_sem]
        have hbs := bestO_snoc l (canL l skip k) k
        simp only [hb, ltB, bk_get hk, bk_get hj.2] at hbs
        refine ⟨fun h => k1 _ ?_, fun h => k1 _ ?_⟩
        · simp [go_sem, hbs, h, oI]
        · simp [go_sem, hbs, Int.not_lt.2 h, oI]
    · simp [go_sem]

      cases hb : bestO l (canL l skip l.length) with
      | none =>
        simp [go_sem, oI]
        refine ret_drop (by simp [go_sem]) ((Ext.refl _).new hb7 _) ?_
        simp [go_sem, least, h, hb]
      | some j =>
        simp [go_sem, oI]
        refine ret_drop (by simp [go_sem]) ((Ext.refl _).new hb7 _) ?_
        simp [go_sem, least, h, hb]
end Go.Proofs.Pol

set_option linter.unusedSimpArgs false
set_option linter.unusedVariables false
set_option maxRecDepth 100000
namespace Go.Proofs.Pol
open Go Go.Pl Go.Proofs
theorem asked_c (l : List Bk) (skip : Int) (bx : Boxes) (hl : l.length ≤ 1000) : PureCall Tryz.prog 130 [.sl 5 (l.map bkV), .int .i64 skip] bx (.int .i64 (askB l skip)) := by
  refine Tryz.ctr130 fun hb => ?_
  simp [go_sem, Tryz.C130, hb]
  refine callK_pure (rcheck_c l bx hl) ?_
  by_cases h1 : checkB l = 0
  · simp [go_sem, h1]
    refine ⟨fun h2 => ret_pure (by simp [go_sem]) ?_, fun h2 h3 => ret_pure (by simp [go_sem]) ?_⟩
    · simp [go_sem, askB, h1, h2]
    · have : ¬ (skip < 0 ∨ 65535 < skip) := by omega
      simp [go_sem, askB, h1, this]
  · simp [go_sem, h1]
    refine ret_pure (by simp [go_sem]) ?_
    simp [go_sem, askB, h1]
def canR (l : List Bk) (skip : Int) : List Nat := if askB l skip = 0 then canL l skip l.length else []
theorem refCan_c (l : List Bk) (skip : Int) (bx : Boxes) (hl : l.length ≤ 50) : PureCall Tryz.prog 106 [.sl 5 (l.map bkV), .int .i64 skip] bx (.tup [.sl 1 ((canR l skip).map ixV), .int .i64 (askB l skip)]) := by
  refine PureCall.wk (Tryz.ctr106 fun hb => ?_)
  simp [go_sem, Tryz.C106, hb]
  refine callK_pure (asked_c l skip bx (by omega)) ?_
  simp [go_sem]
  refine ⟨fun h => ret_wk0 (by simp [go_sem]) ?_, fun h => callK_pure (refcan_c l skip bx hl) ?_⟩
  · simp [go_sem, canR, h]; exact wk_tup2 (wk_nils _) (Wk.refl _)
  · simp [go_sem]
    refine ret_wk0 (by simp [go_sem]) ?_
    simp [go_sem, canR, h]; exact Wk.refl _
theorem appendseq_c (gf : FuncId) (caps : List V) (n : Nat) (xs : Nat → Option (List V)) (ys : Nat → List Int) (bx : Boxes) (it : Iter Tryz.prog gf caps n xs) (hn : n ≤ 100000)
    (h0 : ys 0 = []) (hy : ∀ k, k < n → (xs k = none → ys (k + 1) = ys k) ∧ ∀ args, xs k = some args → ∃ y, args = [.int .i64 y] ∧ ys (k + 1) = ys k ++ [y]) :
    PureCall Tryz.prog 108 [.nils, .fn (.func gf) caps] bx (.sl 1 ((ys n).map (.int .i64))) := by
  have hlen : ∀ k, k ≤ n → (ys k).length ≤ k := by
    intro k
    induction k with
    | zero => intro _; simp [h0]
    | succ k ih =>
      intro hk
      have := ih (by omega)
      cases hx : xs k with
      | none => rw [(hy k (by omega)).1 hx]; omega
      | some args => obtain ⟨y, _, e⟩ := (hy k (by omega)).2 args hx; rw [e]; simp; omega
  refine PureCall.wk (Tryz.ctr108 fun hb => ?_)
  simp [go_sem, Tryz.C108, hb]
  intro b2 hb2
  refine pw_iter (by kernel_rfl) it (fun k bx' => ∃ v, Acc (upd bx b2 (some (.row 23 1 [v]))) 3 1 ((ys k).map (.int .i64)) v bx') (by simp [go_sem]) ?_ ?_ ?_ (by simp) (by rfl) (by rfl) ?_ ?_
  · exact ⟨.nils, by rw [h0]; exact acc_nil (by simp [finB_upd, hb]) _ _⟩
  · rintro k _ ⟨v, ha⟩; exact ha.fin
  · intro k args hk ha
    obtain ⟨y, rfl, _⟩ := (hy k hk).2 args ha; rfl
  · rintro k bx1 hk ⟨v, ha⟩
    refine ⟨fun hx => ⟨v, by rw [(hy k hk).1 hx]; exact ha⟩, fun args hx K k1 k2 => ?_⟩
    obtain ⟨y, rfl, hys⟩ := (hy k hk).2 args hx
    have hl := hlen k (by omega)
    simp [go_sem, Tryz.L108_0a, setPs, upd_look]
    simp [go_sem, Tryz.L108_0b, ha.cells, ha.fin, ha.at]
    intro b hb1
    refine acc_append (es := (ys k).map (.int .i64)) (news := [.int .i64 y]) (e := 3) (sz := 1) (.int .i64 0) ha ((Ext.refl _).new hb1 _) (by simp [finB_upd, ha.fin]) Tryz.knd23 Tryz.tsz3 (by simp [go_sem, srcEls]) Tryz.tzero3 (by simp [go_sem]) (by omega) (by simp [Tryz.tby3]; omega) (by simp; omega) (by simp [go_sem]) ?_
    intro v' bx3 ha'
    simp [go_sem, ha'.at, ha.cells, ha'.cells, ha.setC, ha'.okV]
    exact k1 _ ⟨v', by rw [hys]; simpa using ha'.put _⟩
  · rintro bx1 ⟨v, ha⟩
    simp [go_sem, ha.cells, ha.at]
    refine ret_accw (e := 3) (by simp [go_sem]) ?_ (by omega)
    simpa [go_sem] using ha.base ((Ext.refl _).new hb2 _)
theorem collect_c (gf : FuncId) (caps : List V) (n : Nat) (xs : Nat → Option (List V)) (ys : Nat → List Int) (bx : Boxes) (it : Iter Tryz.prog gf caps n xs) (hn : n ≤ 100000)
    (h0 : ys 0 = []) (hy : ∀ k, k < n → (xs k = none → ys (k + 1) = ys k) ∧ ∀ args, xs k = some args → ∃ y, args = [.int .i64 y] ∧ ys (k + 1) = ys k ++ [y]) :
    PureCall Tryz.prog 71 [.fn (.func gf) caps] bx (.sl 1 ((ys n).map (.int .i64))) := by
  refine Tryz.ctr71 fun hb => ?_
  simp [go_sem, Tryz.C71, hb]
  refine callK_pure (appendseq_c gf caps n xs ys bx it hn h0 hy) ?_
  simp [go_sem]
  refine ret_pure (by simp [go_sem]) ?_
  simp [go_sem]
theorem can_c (l : List Bk) (skip : Int) (bx : Boxes) (hl : l.length ≤ 50) : PureCall Tryz.prog 32 [.sl 5 (l.map bkV), .int .i64 skip] bx (.tup [.sl 1 ((canR l skip).map ixV), .int .i64 (askB l skip)]) := by
  refine PureCall.wk (Tryz.ctr32 fun hb => ?_)
  simp [go_sem, Tryz.C32, hb]
  refine callK_pure (ask_c l skip bx (by omega)) ?_
  simp [go_sem]
  refine ⟨fun h => ret_wk0 (by simp [go_sem]) ?_, fun h => callK_pure (cand_c ..) ?_⟩
  · simp [go_sem, canR, h]; exact wk_tup2 (wk_nils _) (Wk.refl _)
  · simp [go_sem]
    refine callK_pure (collect_c 109 _ l.length _ (fun k => (canL l skip k).map fun i => Int.ofNat i) bx (candit l skip hl) (by omega) (by simp [canL]) fun k hk => ?_) ?_
    · simp only [canX, List.getElem?_eq_getElem hk, canL_succ l skip k hk]
      refine ⟨fun h => ?_, fun args h => ?_⟩
      · simp at h; simp [h]
      · simp only [Option.ite_none_right_eq_some, Option.some.injEq] at h
        obtain ⟨h1, rfl⟩ := h
        exact ⟨k, rfl, by simp [h1]⟩
    · simp [go_sem]
      refine ret_wk0 (by simp [go_sem]) ?_
      simp [go_sem, canR, h]
      exact Wk.refl _
end Go.Proofs.Pol

set_option linter.unusedSimpArgs false
set_option linter.unusedVariables false
set_option maxRecDepth 100000
namespace Go.Proofs.Pol
open Go Go.Pl Go.Proofs
def iV (i : Int) : V := .int .i64 i
theorem ints_c (a b : List Int) (bx : Boxes) (ha : a.length ≤ 1000000) : PureCall Tryz.prog 64 [.sl 1 (a.map iV), .sl 1 (b.map iV)] bx (.bool (decide (a = b))) := by
  refine Tryz.ctr64 fun hb => ?_
  simp [go_sem, Tryz.C64, hb]
  refine ⟨fun h => ret_pure (by simp [go_sem]) ?_, fun h => ?_⟩
  · have : a ≠ b := fun e => h (by rw [e])
    simp [go_sem, this]
  · refine pw_find a.length (fun k => decide (a[k]? ≠ b[k]?)) (fun k => ⟨26, slk [(0, .sl 1 (a.map iV)), (1, .sl 1 (b.map iV)), (5, .int .i64 k)], bx⟩) (cov_look (by simp [go_sem])) (fun k hk hJ N hN => ?_) (fun hJ N => ?_)
    · have hkb : k < b.length := by omega
      simp [go_sem, Tryz.L64_0, hk, hkb, iV, wr_succ (show k < 1000000000 by omega)]
      refine ⟨fun h1 => ret_pure (by simp [go_sem]) ?_, fun h1 => hN _ (by simp [hk, hkb, h1]) (cov_look (by simp [go_sem, iV]))⟩
      have : a ≠ b := fun e => h1 (by simp [e])
      simp [go_sem, this]
    · simp [go_sem, Tryz.L64_0, h]
      refine ret_pure (by simp [go_sem]) ?_
      have : a = b := by
        apply List.ext_getElem? 
        intro i
        by_cases hi : i < a.length
        · simpa using hJ i hi
        · rw [List.getElem?_eq_none (by omega), List.getElem?_eq_none (by omega)]
      simp [go_sem, this]
theorem in_c (a : List Int) (n : Int) (bx : Boxes) (ha : a.length ≤ 1000000) : PureCall Tryz.prog 33 [.sl 1 (a.map iV), .int .i64 n] bx (.bool (decide (n ∈ a))) := by
  refine Tryz.ctr33 fun hb => ?_
  simp [go_sem, Tryz.C33, hb]
  refine pw_find a.length (fun k => decide (a[k]? = some n)) (fun k => ⟨18, slk [(0, .sl 1 (a.map iV)), (1, .int .i64 n), (5, .int .i64 k)], bx⟩) (cov_look (by simp [go_sem])) (fun k hk hJ N hN => ?_) (fun hJ N => ?_)
  · simp [go_sem, Tryz.L33_0, hk, iV, wr_succ (show k < 1000000000 by omega)]
    refine ⟨fun h1 => ret_pure (by simp [go_sem]) ?_, fun h1 => hN _ (by simp [hk, h1]) (cov_look (by simp [go_sem, iV]))⟩
    have : n ∈ a := h1 ▸ List.getElem_mem hk
    simp [go_sem, this]
  · simp [go_sem, Tryz.L33_0]
    refine ret_pure (by simp [go_sem]) ?_
    have : n ∉ a := fun hm => by
      obtain ⟨i, hi, rfl⟩ := List.getElem_of_mem hm
      have := hJ i hi
      simp [hi] at this
    simp [go_sem, this]
theorem still2_c (x : Bk) (bx : Boxes) : PureCall Tryz.prog 102 [bkV x] bx (.bool (decide (x.cu ≠ 0))) := by
  refine Tryz.ctr102 fun hb => ?_
  simp [go_sem, Tryz.C102, bkV, hb]
  refine ret_pure ?_ ?_ <;> simp [go_sem]
def exL : List Bk := [⟨5, 4, 0, true, false⟩, ⟨1, 1, 0, true, false⟩, ⟨1, 0, 0, true, false⟩]
theorem example_c (bx : Boxes) : PureCall Tryz.prog 60 [] bx (.sl 5 (exL.map bkV)) := by
  refine Tryz.ctr60 fun hb => ?_
  simp [go_sem, Tryz.C60, hb]
  intro b hb1
  refine ret_own (b := b) (sz := 5) (n := 3) (by simp [go_sem]) ((Ext.refl _).new hb1 _) (by simp [go_sem]) (upd_eq _ _ _) hb1 (by simp) (by simp) ?_
  simp [exL, bkV]
end Go.Proofs.Pol

set_option linter.unusedSimpArgs false
set_option linter.unusedVariables false
set_option maxRecDepth 100000
namespace Go.Proofs.Pol
open Go Go.Pl Go.Proofs
theorem clone_c (l : List Bk) (bx : Boxes) (hl : l.length ≤ 1000) : AbsCall Tryz.prog 103 [.sl 5 (l.map bkV)] bx fun r bx' => Acc bx 57 5 (l.map bkV) r bx' := by
  refine Tryz.ctr103 fun hb => ?_
  simp [go_sem, Tryz.C103, hb]
  refine ⟨fun b hb1 => ?_, fun hne => ?_⟩
  · refine acc_append (bx := bx) (es := []) (news := l.map bkV) (e := 57) (sz := 5) (.agg #[.int .i64 0, .int .i64 0, .int .i64 0, .bool false, .bool false]) (acc_new hb1 hb 57 5 [] 0 rfl) (Ext.refl _) (by simp [finB_upd, hb]) Tryz.knd48 Tryz.tsz57 (by simp [go_sem, srcEls]) Tryz.tzero57 (by simp [go_sem]) (by omega) (by simp [Tryz.tby57]; omega) (by simp; omega) (by simp [go_sem]) ?_
    intro v' bx3 ha'
    simp [go_sem]
    refine ret_pure (by simp [go_sem]) ?_
    simpa [go_sem] using ha'
  · refine ret_pure (by simp [go_sem]) ?_
    simpa [go_sem, hne] using acc_nil hb 57 5
def StI (l : List Bk) (bo : Nat) (bx : Boxes) : Prop := ∃ l', l'.length = l.length ∧ bx bo = some (.row 57 5 (l'.map bkV)) ∧ ∀ i skip, canP (bk l' i) skip i = canP (bk l i) skip i
theorem canditO (l : List Bk) (bo : Nat) (skip : Int) (hl : l.length ≤ 50) : IterI Tryz.prog 109 [.ep (.own bo 5 0 l.length) 0, .ep (.int .i64 skip) 0] l.length (canX l skip) (StI l bo) := by
  intro b J S hf hy bx h0
  refine Tryz.ctr109 fun hb => ?_
  simp [go_sem, Tryz.C109, hb]
  refine pw_for (ι := Boxes) l.length J (fun k bx' => ⟨39, slk [(0, .yl b), (2, .ep (.int .i64 skip) 0), (6, .own bo 5 0 l.length), (7, .int .i64 l.length), (8, .int .i64 k)], bx'⟩) bx h0 (cov_look (by simp [go_sem])) (fun k bx1 hk hJ N hN => ?_) (fun bx1 hJ N => ?_)
  · obtain ⟨hfin, l', hl', hbo, hst⟩ := hf k bx1 hJ
    have hk' : k < l'.length := by omega
    have hw := wr_succ (show k < 1000000000 by omega)
    have hmin : min k 64 = k := by omega
    obtain ⟨h1, h2⟩ := hy k bx1 hk hJ
    simp only [canX, List.getElem?_eq_getElem hk] at h1 h2
    simp [go_sem, Tryz.L109_0, hk, hk', bkV, hbo, hfin, hmin]
    intro b1 hb1
    rw [upd_self hb1]
    have hbit : bits .and .i64 (skip.fdiv (2 ^ k)) 1 = (skip.fdiv (2 ^ k)) % 2 := by simpa using bits_and_mask .i64 1 (by decide) (skip.fdiv (2 ^ k)) 1 (by decide)
    have hc : (l'[k].up && !l'[k].op && decide (0 < l'[k].wt) && decide (bits BinOp.and IntKind.i64 (skip.fdiv (2 ^ k)) 1 = 0)) = canP l[k] skip k := by
      have := hst k skip
      rw [bk_get hk, bk_get hk'] at this
      rw [← this]
      simp [canP, hbit, tmod2, Bool.and_assoc]
    have hc2 : (((l'[k].up = true ∧ l'[k].op = false) ∧ 0 < l'[k].wt) ∧ bits BinOp.and IntKind.i64 (skip.fdiv (2 ^ k)) 1 = 0) = (canP l[k] skip k = true) := by
      rw [← hc]; simp
    simp only [hc, hc2]
    refine ⟨fun hcp => ⟨by simp [hcp, go_sem], by simp [go_sem], ?_⟩, fun hcp => ?_⟩
    · refine yldK_abs (h1 [.int .i64 k] (by simp [hcp])) ?_
      rintro r bx' (⟨rfl, h⟩ | ⟨rfl, h⟩)
      · simp [go_sem, hcp, hw]
        exact hN _ bx' h (cov_look (by simp [go_sem]))
      · simp [go_sem, hcp]
        exact ret_pure (by simp [go_sem]) (.inr h)
    · simp [go_sem, hcp, hw]
      exact hN _ bx1 (h2 (by simp [hcp])) (cov_look (by simp [go_sem]))
  · simp [go_sem, Tryz.L109_0]
    exact ret_pure (by simp [go_sem]) (.inl hJ)
theorem candO_c (n bo : Nat) (skip : Int) (bx : Boxes) : PureCall Tryz.prog 72 [.own bo 5 0 n, .int .i64 skip] bx (.fn (.func 109) [.ep (.own bo 5 0 n) 0, .ep (.int .i64 skip) 0]) := by
  refine Tryz.ctr72 fun hb => ?_
  simp [go_sem, Tryz.C72, hb]
  refine ret_pure (by simp [go_sem]) ?_
  simp [go_sem]
end Go.Proofs.Pol

set_option linter.unusedSimpArgs false
set_option linter.unusedVariables false
set_option maxRecDepth 100000
namespace Go.Proofs.Pol
open Go Go.Pl Go.Proofs
def addC (x : Bk) (n : Int) : Bk := { x with cu := IntKind.i64.wrap (x.cu + n) }
structure TS where
  l : List Bk
  o : Option Nat
  w : Int
def tstep (s : TS) (i : Nat) : TS :=
  let l' := s.l.set i (addC (bk s.l i) (bk s.l i).wt)
  ⟨l', match s.o with | none => some i | some j => if (bk l' j).cu < (bk l' i).cu then some i else some j, IntKind.i64.wrap (s.w + (bk s.l i).wt)⟩
def turnS (l : List Bk) (c : List Nat) : TS := c.foldl tstep ⟨l, none, 0⟩
def subC (x : Bk) (n : Int) : Bk := { x with cu := IntKind.i64.wrap (x.cu - n) }
def turnL (s : TS) : List Bk := match s.o with | none => s.l | some j => s.l.set j (subC (bk s.l j) s.w)
theorem turnS_snoc (l : List Bk) (c : List Nat) (k : Nat) : turnS l (c ++ [k]) = tstep (turnS l c) k := by simp [turnS]
theorem turnS_len (l : List Bk) : ∀ c : List Nat, (turnS l c).l.length = l.length := by
  have : ∀ (c : List Nat) (s : TS), (c.foldl tstep s).l.length = s.l.length := by
    intro c
    induction c with
    | nil => intro s; rfl
    | cons i c ih => intro s; rw [List.foldl_cons, ih]; simp [tstep]
  intro c; exact this c _
theorem turnS_o (l : List Bk) : ∀ (c : List Nat) (j : Nat), (turnS l c).o = some j → j ∈ c := by
  have : ∀ (c : List Nat) (s : TS) (j : Nat), (c.foldl tstep s).o = some j → j ∈ c ∨ s.o = some j := by
    intro c
    induction c with
    | nil => intro s j h; exact .inr h
    | cons i c ih =>
      intro s j h
      rw [List.foldl_cons] at h
      rcases ih _ j h with h | h
      · exact .inl (by simp [h])
      · simp only [tstep] at h
        split at h
        · injection h with h; exact .inl (by simp [h])
        · rename_i j' hj
          split at h
          · injection h with h; exact .inl (by simp [h])
          · exact .inr (by rw [hj]; exact h)
  intro c j h
  rcases this c _ j h with h | h
  · exact h
  · cases h
theorem bk_set (l : List Bk) (i j : Nat) (x : Bk) (hi : i < l.length) : bk (l.set i x) j = if j = i then x else bk l j := by
  unfold bk
  simp only [List.getD_eq_getElem?_getD, List.getElem?_set]
  by_cases h : i = j
  · subst h; simp [hi]
  · simp [h, Ne.symm h]
theorem canP_addC (x : Bk) (n skip : Int) (i : Nat) : canP (addC x n) skip i = canP x skip i := rfl
theorem turnS_st (l : List Bk) (c : List Nat) (hc : ∀ i, i ∈ c → i < l.length) : ∀ i skip, canP (bk (turnS l c).l i) skip i = canP (bk l i) skip i := by
  have : ∀ (c : List Nat) (s : TS), (∀ i, i ∈ c → i < s.l.length) → ∀ i skip, canP (bk (c.foldl tstep s).l i) skip i = canP (bk s.l i) skip i := by
    intro c
    induction c with
    | nil => intro s _ i skip; rfl
    | cons k c ih =>
      intro s hs i skip
      rw [List.foldl_cons, ih _ (fun i hi => by simp [tstep]; exact hs i (by simp [hi]))]
      simp only [tstep]
      rw [bk_set _ _ _ _ (hs k (by simp))]
      by_cases e : i = k
      · subst e; simp [canP_addC]
      · simp [e]
  exact this c _ hc
set_option maxHeartbeats 1000000 in
theorem turn_c (l : List Bk) (bo : Nat) (skip : Int) (bx : Boxes) (hl : l.length ≤ 50) (hbo : bx bo = some (.row 57 5 (l.map bkV))) :
    AbsCall Tryz.prog 100 [.own bo 5 0 l.length, .int .i64 skip] bx fun r bx' => r = .int .i64 (oI (turnS l (canL l skip l.length)).o) ∧ bx' = upd bx bo (some (.row 57 5 ((turnL (turnS l (canL l skip l.length))).map bkV))) := by
  refine Tryz.ctr100 fun hb => ?_
  simp [go_sem, Tryz.C100, hb]
  intro b5 hb5 b6 hb6
  have h65 := (new_ne hb6).1
  have hb6' := (new_ne hb6).2
  have ho5 : bo ≠ b5 := fun e => by rw [e, hb5] at hbo; cases hbo
  have ho6 : bo ≠ b6 := fun e => by rw [e, hb6'] at hbo; cases hbo
  simp [go_sem, upd_ne, h65, Ne.symm h65, ho5, ho6, Ne.symm ho5, Ne.symm ho6]
  refine callK_pure (candO_c ..) ?_
  simp [go_sem]
  have c1 : ∀ (f : Boxes) x y, upd (upd f bo x) b6 y = upd (upd f b6 y) bo x := upd_comm ho6
  have c2 : ∀ (f : Boxes) x y, upd (upd f bo x) b5 y = upd (upd f b5 y) bo x := upd_comm ho5
  have c3 : ∀ (f : Boxes) x y, upd (upd f b6 x) b5 y = upd (upd f b5 y) b6 x := upd_comm h65
  refine pw_iterI (by kernel_rfl) (canditO l bo skip hl) ?_ (fun k bx' => bx' = upd (upd (upd bx b5 (some (.row 3 1 [.int .i64 (oI (turnS l (canL l skip k)).o)]))) b6 (some (.row 3 1 [.int .i64 (turnS l (canL l skip k)).w]))) bo (some (.row 57 5 ((turnS l (canL l skip k)).l.map bkV)))) (by simp [go_sem]) ?_ ?_ (fun k args _ => canX_len l skip 1 rfl k args) (by simp) (by rfl) (by rfl) ?_ ?_
  · rintro bx b x hb ⟨l', h1, h2, h3⟩
    refine ⟨l', h1, ?_, h3⟩
    rw [upd_ne _ _ (fun e => by rw [e, hb] at h2; cases h2)]; exact h2
  · have e0 : upd (upd (upd bx b5 (some (.row 3 1 [.int .i64 (-1)]))) b6 (some (.row 3 1 [.int .i64 0]))) bo (some (.row 57 5 (l.map bkV))) = upd (upd bx b5 (some (.row 3 1 [.int .i64 (-1)]))) b6 (some (.row 3 1 [.int .i64 0])) := by
      funext z
      simp only [upd]
      by_cases e : z = bo
      · subst e; simp [ho5, ho6, hbo]
      · simp [e]
    simpa [go_sem, canL, turnS, oI, c3] using e0.symm
  · rintro k _ rfl
    refine ⟨by simp [finB_upd, hb], (turnS l (canL l skip k)).l, turnS_len _ _, upd_eq _ _ _, turnS_st _ _ fun i hi => (canL_lt _ _ _ _ hi).2⟩
  · rintro k _ hk rfl
    refine ⟨fun hn => ?_, fun args ha => ?_⟩
    · rw [canL_succ l skip k hk]
      simp [canX, List.getElem?_eq_getElem hk] at hn
      simp [hn]
    simp only [canX, List.getElem?_eq_getElem hk, Option.ite_none_right_eq_some, Option.some.injEq] at ha
    obtain ⟨hc, rfl⟩ := ha
    intro K k1 k2
    clear k2
    have hlen := turnS_len l (canL l skip k)
    rw [canL_succ l skip k hk, hc, if_pos rfl, turnS_snoc] at k1
    have hoj := turnS_o l (canL l skip k)
    generalize turnS l (canL l skip k) = S at *
    have hkS : k < S.l.length := by omega
    have hmem : ∀ j, S.o = some j → j < S.l.length := fun j hj => by have := (canL_lt _ _ _ _ (hoj j hj)).2; omega
    obtain ⟨sl, so, sw⟩ := S
    dsimp only at *
    have hset : (sl.map bkV).set k (.agg [.int .i64 sl[k].wt, .int .i64 sl[k].ac, .int .i64 (IntKind.i64.wrap (sl[k].cu + sl[k].wt)), .bool sl[k].up, .bool sl[k].op]) = (sl.set k (addC sl[k] sl[k].wt)).map bkV := by
      simp [List.map_set, bkV, addC]
    have hk2 : k < (sl.set k (addC sl[k] sl[k].wt)).length := by simpa using hkS
    simp [go_sem, Tryz.L100_0a, setPs, upd_look]
    cases so with
    | none =>
      simp [go_sem, Tryz.L100_0b, hkS, oI, bkV, upd_ne, h65, Ne.symm h65, ho5, ho6, Ne.symm ho5, Ne.symm ho6, c1, c2, c3]
      refine ⟨hk, k1 _ ?_⟩
      simp [tstep, bk_get hkS, hset, oI]
    | some j =>
      have hj := hmem j rfl
      have hj2 : j < (sl.set k (addC sl[k] sl[k].wt)).length := by simpa using hj
      simp [-List.map_set, go_sem, Tryz.L100_0b, hkS, oI, bkV, hj, upd_ne, h65, Ne.symm h65, ho5, ho6, Ne.symm ho5, Ne.symm ho6, c1, c2, c3, hset]
      refine ⟨hk, by omega, fun h => k1 _ ?_, fun h => k1 _ ?_⟩
      · have : (bk (sl.set k (addC sl[k] sl[k].wt)) j).cu < (bk (sl.set k (addC sl[k] sl[k].wt)) k).cu := by
          rw [bk_get hj2, bk_get hk2]; simpa using h
        simp [-List.map_set, tstep, bk_get hkS, this, oI]
        rfl
      · have : ¬ (bk (sl.set k (addC sl[k] sl[k].wt)) j).cu < (bk (sl.set k (addC sl[k] sl[k].wt)) k).cu := by
          rw [bk_get hj2, bk_get hk2]; simpa using h
        simp [-List.map_set, tstep, bk_get hkS, this, oI]
        rfl
  · rintro _ rfl
    have hlen := turnS_len l (canL l skip l.length)
    have hoj := turnS_o l (canL l skip l.length)
    generalize turnS l (canL l skip l.length) = S at *
    obtain ⟨sl, so, sw⟩ := S
    dsimp only at *
    have hext : ∀ X y z, Ext (upd bx bo (some X)) (upd (upd (upd bx b5 y) b6 z) bo (some X)) := by
      intro X y z c hc
      by_cases e : c = bo
      · subst e; simp [upd_eq]
      · rw [upd_ne _ _ e] at hc ⊢
        rw [upd_ne _ _ e, upd_ne _ _ (fun e => hc (by rw [e]; exact hb6')), upd_ne _ _ (fun e => hc (by rw [e]; exact hb5))]
    cases so with
    | none =>
      simp [go_sem, oI, upd_ne, h65, Ne.symm h65, ho5, ho6, Ne.symm ho5, Ne.symm ho6]
      refine ret_drop (by simp [go_sem]) (hext _ _ _) ?_
      simp [go_sem, turnL, oI]
    | some j =>
      have hj : j < sl.length := by have := (canL_lt _ _ _ _ (hoj j rfl)).2; omega
      have hset : (sl.map bkV).set j (.agg [.int .i64 sl[j].wt, .int .i64 sl[j].ac, .int .i64 (IntKind.i64.wrap (sl[j].cu - sw)), .bool sl[j].up, .bool sl[j].op]) = (sl.set j (subC sl[j] sw)).map bkV := by
        simp [List.map_set, bkV, subC]
      simp [-List.map_set, go_sem, oI, bkV, hj, hset, upd_ne, h65, Ne.symm h65, ho5, ho6, Ne.symm ho5, Ne.symm ho6]
      refine ⟨by omega, ret_drop (by simp [go_sem]) (hext _ _ _) ?_⟩
      simp [-List.map_set, go_sem, turnL, oI, bk_get hj]
end Go.Proofs.Pol

set_option linter.unusedSimpArgs false
set_option linter.unusedVariables false
set_option maxRecDepth 100000
namespace Go.Proofs.Pol
open Go Go.Pl Go.Proofs
theorem ask_len {l : List Bk} {skip : Int} (h : askB l skip = 0) : 1 ≤ l.length ∧ l.length ≤ 16 ∧ checkB l = 0 := by
  have hc : checkB l = 0 := by
    by_cases hc : checkB l = 0
    · exact hc
    · simp [askB, hc] at h
  have hc' := hc
  unfold checkB at hc
  split at hc
  · cases hc
  · exact ⟨by omega, by omega, hc'⟩
def smooth (l : List Bk) (skip : Int) : Int × List Bk × Int :=
  if askB l skip = 0 then (match (turnS l (canL l skip l.length)).o with | none => (0, [], 4) | some j => (j, turnL (turnS l (canL l skip l.length)), 0)) else (0, [], askB l skip)
theorem smooth_c (l : List Bk) (skip : Int) (bx : Boxes) (hl : l.length ≤ 50) : PureCall Tryz.prog 62 [.sl 5 (l.map bkV), .int .i64 skip] bx (.tup [.int .i64 (smooth l skip).1, .sl 5 ((smooth l skip).2.1.map bkV), .int .i64 (smooth l skip).2.2]) := by
  refine PureCall.wk (Tryz.ctr62 fun hb => ?_)
  simp [go_sem, Tryz.C62, hb]
  refine callK_pure (ask_c l skip bx (by omega)) ?_
  simp [go_sem]
  refine ⟨fun h => ret_wk0 (by simp [go_sem]) ?_, fun h => callK_abs (clone_c l bx (by omega)) ?_⟩
  · simp [go_sem, smooth, h]; exact wk_tup3 (Wk.refl _) (wk_nils _) (Wk.refl _)
  · intro r bx1 ha
    obtain ⟨h1, h2, h3⟩ := ask_len h
    have hne : l.map bkV ≠ [] := fun e => by simp at e; subst e; simp at h1
    obtain ⟨bo, hbo, rfl, hbo1⟩ := ha.row hne
    simp [go_sem]
    refine callK_abs (turn_c l bo skip bx1 hl hbo1) ?_
    rintro r bx2 ⟨rfl, rfl⟩
    have hlen := turnS_len l (canL l skip l.length)
    have he : ∀ x, Ext bx (upd bx1 bo x) := fun x => ha.ext.upd_own hbo x
    have hlt : (turnL (turnS l (canL l skip l.length))).length = l.length := by
      unfold turnL; split <;> simp [hlen]
    cases ho : (turnS l (canL l skip l.length)).o with
    | none =>
      simp [go_sem, oI]
      refine ret_wk (by simp [go_sem]) (he _) ?_
      simp [go_sem, smooth, h, ho]; exact wk_tup3 (Wk.refl _) (wk_nils _) (Wk.refl _)
    | some j =>
      simp [go_sem, oI]
      refine ret_frz 2 (by simp [go_sem]) (he _) ⟨?_, rfl⟩
      simp [go_sem, smooth, h, ho]
      rw [frz_own1 (upd_eq _ _ _) hbo (by omega) (by simp [hlt])]
      exact Wk.refl _
def rbest (l : List Bk) (c : List Nat) : Nat := c.foldl (fun b i => if (bk l b).cu < (bk l i).cu then i else b) (c.headD 0)
theorem rbest_mem (l : List Bk) (c : List Nat) (h : c ≠ []) : rbest l c ∈ c := by
  have : ∀ (d : List Nat) (b : Nat), b ∈ c → (∀ i, i ∈ d → i ∈ c) → d.foldl (fun b i => if (bk l b).cu < (bk l i).cu then i else b) b ∈ c := by
    intro d
    induction d with
    | nil => intro b hb _; exact hb
    | cons i d ih =>
      intro b hb hd
      rw [List.foldl_cons]
      refine ih _ ?_ (fun i hi => hd i (by simp [hi]))
      split
      · exact hd i (by simp)
      · exact hb
  refine this c _ ?_ fun i hi => hi
  cases c with
  | nil => exact absurd rfl h
  | cons i c => simp
end Go.Proofs.Pol

set_option linter.unusedSimpArgs false
set_option linter.unusedVariables false
set_option maxRecDepth 100000
namespace Go.Proofs.Pol
open Go Go.Pl Go.Proofs
theorem canR_lt {l : List Bk} {skip : Int} : ∀ i, i ∈ canR l skip → i < l.length := by
  intro i hi
  unfold canR at hi
  split at hi
  · exact (canL_lt _ _ _ _ hi).2
  · cases hi
theorem canR_le {l : List Bk} {skip : Int} : (canR l skip).length ≤ l.length := by
  unfold canR
  split
  · exact canL_le _ _ _
  · simp
def two (l : List Bk) (a b : Nat) (skip : Int) : Int × Int :=
  if askB l skip ≠ 0 then (0, askB l skip)
  else if (canR l skip).length = 0 then (0, 4)
  else if (canR l skip).length = 1 then ((canR l skip).getD 0 0, 0)
  else
    let c := canR l skip
    let i := a % c.length
    let k0 := b % (c.length - 1)
    let k := if i ≤ k0 then k0 + 1 else k0
    (if ltB (bk l (c.getD k 0)) (bk l (c.getD i 0)) then c.getD k 0 else c.getD i 0, 0)
theorem lighter_c' (x y : Bk) (bx : Boxes) : PureCall Tryz.prog 97 [bkV x, bkV y] bx (.bool (ltB x y)) := lighter_c x y bx
theorem two_c (l : List Bk) (a b : Nat) (skip : Int) (bx : Boxes) (hl : l.length ≤ 50) (ha : a < 4294967296) (hb' : b < 4294967296) : PureCall Tryz.prog 63 [.sl 5 (l.map bkV), .int .u32 a, .int .u32 b, .int .i64 skip] bx (.tup [.int .i64 (two l a b skip).1, .int .i64 (two l a b skip).2]) := by
  refine Tryz.ctr63 fun hb => ?_
  simp [go_sem, Tryz.C63, hb]
  refine callK_pure (can_c l skip bx hl) ?_
  have hlt := canR_lt (l := l) (skip := skip)
  have hle := canR_le (l := l) (skip := skip)
  by_cases h : askB l skip = 0
  · have hn : IntKind.u32.wrap ((canR l skip).length : Int) = (canR l skip).length := by rw [wru32 (by omega)]
    have htwo : two l a b skip = _ := if_neg (by simp [h])
    rw [htwo]
    generalize canR l skip = c at *
    by_cases h0 : c.length = 0
    · obtain rfl := List.eq_nil_of_length_eq_zero h0
      simp [go_sem, h, IntKind.wrap, IntKind.bits, IntKind.signed]
      refine ret_pure (by simp [go_sem]) ?_
      simp [go_sem]
    · by_cases h1 : c.length = 1
      · obtain ⟨x, rfl⟩ := List.length_eq_one_iff.1 h1
        simp [go_sem, h, ixV, IntKind.wrap, IntKind.bits, IntKind.signed]
        refine ret_pure (by simp [go_sem]) ?_
        simp [go_sem]
      · have h0' : ¬ ((c.length : Int) = 0) := by omega
        have h1' : ¬ ((c.length : Int) = 1) := by omega
        have hn1 : IntKind.u32.wrap ((c.length : Int) - 1) = ((c.length - 1 : Nat) : Int) := by rw [wru32 (by omega)]; omega
        have ht1 : (a : Int).tmod (c.length : Int) = ((a % c.length : Nat) : Int) := by rw [← Int.ofNat_tmod]
        have ht2 : (b : Int).tmod ((c.length - 1 : Nat) : Int) = ((b % (c.length - 1) : Nat) : Int) := by rw [← Int.ofNat_tmod]
        have hm1 : a % c.length < c.length := Nat.mod_lt _ (by omega)
        have hm2 : b % (c.length - 1) < c.length - 1 := Nat.mod_lt _ (by omega)
        have hw : IntKind.u32.wrap (((b % (c.length - 1) : Nat) : Int) + 1) = ((b % (c.length - 1) + 1 : Nat) : Int) := by rw [wru32 (by omega)]; omega
        have h2 : ¬ (((c.length - 1 : Nat) : Int) = 0) := by omega
        simp only [h0, h1, if_false]
        generalize a % c.length = i at *
        generalize b % (c.length - 1) = k0 at *
        by_cases hik : i ≤ k0
        · have hk : k0 + 1 < c.length := by omega
          have e1 : c[k0 + 1] < l.length := hlt _ (List.getElem_mem hk)
          have e2 : c[i] < l.length := hlt _ (List.getElem_mem hm1)
          have hik' : (i : Int) ≤ (k0 : Int) := by omega
          simp [-Int.natCast_emod, go_sem, h, hn, h0, h1, h0', h1', hn1, ht1, ht2, hw, h2, hik, hik', hk, hm1, ixV, e1, e2, bkV]
          refine ⟨by omega, ⟨by omega, by omega⟩, callK_pure (lighter_c' l[c[k0 + 1]] l[c[i]] _) ?_⟩
          simp [go_sem, h, hm1, hk, ixV]
          refine ⟨fun hl => ⟨⟨by omega, by omega⟩, ret_pure (by simp [go_sem]) ?_⟩, fun hl => ret_pure (by simp [go_sem]) ?_⟩
          · simp [go_sem, hl, bk_get e1, bk_get e2]
          · simp [go_sem, hl, bk_get e1, bk_get e2]
        · have hk : k0 < c.length := by omega
          have e1 : c[k0] < l.length := hlt _ (List.getElem_mem hk)
          have e2 : c[i] < l.length := hlt _ (List.getElem_mem hm1)
          have hik' : ¬ (i : Int) ≤ (k0 : Int) := by omega
          simp [-Int.natCast_emod, go_sem, h, hn, h0, h1, h0', h1', hn1, ht1, ht2, hw, h2, hik, hik', hk, hm1, ixV, e1, e2, bkV]
          refine ⟨by omega, callK_pure (lighter_c' l[c[k0]] l[c[i]] _) ?_⟩
          simp [go_sem, h, hm1, hk, ixV]
          refine ⟨fun hl => ret_pure (by simp [go_sem]) ?_, fun hl => ret_pure (by simp [go_sem]) ?_⟩
          · simp [go_sem, hl, bk_get e1, bk_get e2]
          · simp [go_sem, hl, bk_get e1, bk_get e2]
  · simp [go_sem, h]
    refine ret_pure (by simp [go_sem]) ?_
    simp [go_sem, two, h]
theorem appI {bx bx1 bx2 : Boxes} {es news : List V} {v x : V} {d n : Nat} {sl : Nat → V} {K : St → Prop} (ha : Acc bx 3 1 es v bx1) (h2 : Ext bx1 bx2) (hf : FinB bx2) (src : srcEls ⟨n, sl, bx2⟩ 1 x = some news) (hlen : es.length + news.length ≤ 1000000) (hd : d < n)
    (hK : ∀ v' bx3, Acc bx 3 1 (es ++ news) v' bx3 → K (St.put ⟨n, sl, bx3⟩ (some d) v')) : appendA Tryz.prog ⟨n, sl, bx2⟩ (some d) 23 v x K :=
  acc_append (.int .i64 0) ha h2 hf Tryz.knd23 Tryz.tsz3 src Tryz.tzero3 (by simp [go_sem]) (by omega) (by simp [Tryz.tby3]; omega) (by omega) (by simpa [go_sem] using hd) hK
end Go.Proofs.Pol

set_option linter.unusedSimpArgs false
set_option linter.unusedVariables false
set_option maxRecDepth 100000
namespace Go.Proofs.Pol
open Go Go.Pl Go.Proofs
theorem fold_l (c : List Nat) : ∀ (s : TS), c.Nodup → (∀ i, i ∈ c → i < s.l.length) → ∀ i, bk (c.foldl tstep s).l i = if i ∈ c then addC (bk s.l i) (bk s.l i).wt else bk s.l i := by
  induction c with
  | nil => intro s _ _ i; simp
  | cons k c ih =>
    intro s hn hl i
    rw [List.nodup_cons] at hn
    have hk := hl k (by simp)
    rw [List.foldl_cons, ih _ hn.2 (fun i hi => by simp [tstep]; exact hl i (by simp [hi]))]
    have e : ∀ i, bk (tstep s k).l i = if i = k then addC (bk s.l k) (bk s.l k).wt else bk s.l i := fun i => bk_set _ _ _ _ hk
    rw [e]
    by_cases h1 : i = k
    · subst h1; simp [hn.1]
    · simp [h1]
theorem fold_o (L : List Bk) (c : List Nat) : ∀ (s : TS) (j : Nat), c.Nodup → (∀ i, i ∈ c → i < s.l.length) → s.o = some j → j ∉ c → (bk L j).cu = (bk s.l j).cu → (∀ i, i ∈ c → (bk L i).cu = (addC (bk s.l i) (bk s.l i).wt).cu) →
    (c.foldl tstep s).o = some (c.foldl (fun b i => if (bk L b).cu < (bk L i).cu then i else b) j) := by
  induction c with
  | nil => intro s j _ _ h _ _ _; exact h
  | cons k c ih =>
    intro s j hn hl ho hj h1 h2
    rw [List.nodup_cons] at hn
    have hk := hl k (by simp)
    have e : ∀ i, bk (tstep s k).l i = if i = k then addC (bk s.l k) (bk s.l k).wt else bk s.l i := fun i => bk_set _ _ _ _ hk
    have hjk : j ≠ k := fun e => hj (by simp [e])
    have hjc : j ∉ c := fun e => hj (by simp [e])
    have e1 : (bk (tstep s k).l j).cu = (bk L j).cu := by rw [e, if_neg hjk, h1]
    have e2 : (bk (tstep s k).l k).cu = (bk L k).cu := by rw [e, if_pos rfl, h2 k (by simp)]
    have eo : (tstep s k).o = some (if (bk L j).cu < (bk L k).cu then k else j) := by
      have : (tstep s k).o = if (bk (tstep s k).l j).cu < (bk (tstep s k).l k).cu then some k else some j := by simp only [tstep, ho]
      rw [this, e1, e2]
      split <;> rfl
    rw [List.foldl_cons, List.foldl_cons]
    refine ih _ _ hn.2 (fun i hi => by simp [tstep]; exact hl i (by simp [hi])) eo ?_ ?_ ?_
    · split
      · exact hn.1
      · exact hjc
    · split
      · exact e2.symm
      · exact e1.symm
    · intro i hi
      have hik : i ≠ k := fun e => hn.1 (e ▸ hi)
      rw [h2 i (by simp [hi]), e, if_neg hik]
theorem turnS_bk (l : List Bk) (c : List Nat) (hn : c.Nodup) (hl : ∀ i, i ∈ c → i < l.length) (i : Nat) : bk (turnS l c).l i = if i ∈ c then addC (bk l i) (bk l i).wt else bk l i :=
  fold_l c _ hn hl i
theorem turnS_best (l : List Bk) (c : List Nat) (hn : c.Nodup) (hl : ∀ i, i ∈ c → i < l.length) (hne : c ≠ []) : (turnS l c).o = some (rbest (turnS l c).l c) := by
  cases c with
  | nil => exact absurd rfl hne
  | cons k c =>
    have hn' := hn
    rw [List.nodup_cons] at hn
    have hk := hl k (by simp)
    have hb := turnS_bk l (k :: c) hn' hl
    have e : ∀ i, bk (tstep ⟨l, none, 0⟩ k).l i = if i = k then addC (bk l k) (bk l k).wt else bk l i := fun i => bk_set _ _ _ _ hk
    have h := fold_o (turnS l (k :: c)).l c (tstep ⟨l, none, 0⟩ k) k hn.2 (fun i hi => by simp [tstep]; exact hl i (by simp [hi])) rfl hn.1 ?_ ?_
    · simpa [turnS, rbest] using h
    · rw [hb, e]; simp
    · intro i hi
      have hik : i ≠ k := fun e => hn.1 (e ▸ hi)
      rw [hb, e, if_neg hik]; simp [hi]
theorem canL_nodup (l : List Bk) (skip : Int) (k : Nat) : (canL l skip k).Nodup := by
  unfold canL
  exact List.Pairwise.filter _ List.nodup_range
theorem rbest_max (L : List Bk) (c : List Nat) : ∀ i, i ∈ c → (bk L i).cu ≤ (bk L (rbest L c)).cu := by
  have : ∀ (d : List Nat) (b : Nat), (bk L b).cu ≤ (bk L (d.foldl (fun b i => if (bk L b).cu < (bk L i).cu then i else b) b)).cu ∧ ∀ i, i ∈ d → (bk L i).cu ≤ (bk L (d.foldl (fun b i => if (bk L b).cu < (bk L i).cu then i else b) b)).cu := by
    intro d
    induction d with
    | nil => intro b; exact ⟨Int.le_refl _, fun i hi => by cases hi⟩
    | cons k d ih =>
      intro b
      rw [List.foldl_cons]
      obtain ⟨h1, h2⟩ := ih (if (bk L b).cu < (bk L k).cu then k else b)
      have hk : (bk L k).cu ≤ (bk L (if (bk L b).cu < (bk L k).cu then k else b)).cu := by split <;> omega
      have hb : (bk L b).cu ≤ (bk L (if (bk L b).cu < (bk L k).cu then k else b)).cu := by split <;> omega
      refine ⟨Int.le_trans hb h1, fun i hi => ?_⟩
      rcases List.mem_cons.1 hi with rfl | hi
      · exact Int.le_trans hk h1
      · exact h2 i hi
  exact (this c _).2
/-! Sums over indices. -/
def sumC (c : List Nat) (f : Nat → Int) : Int := (c.map f).sum
theorem sumC_nil (f : Nat → Int) : sumC [] f = 0 := rfl
theorem sumC_cons (k : Nat) (c : List Nat) (f : Nat → Int) : sumC (k :: c) f = f k + sumC c f := by simp [sumC]
theorem sumC_congr {c : List Nat} {f g : Nat → Int} (h : ∀ i, i ∈ c → f i = g i) : sumC c f = sumC c g := by
  unfold sumC; rw [List.map_congr_left h]
theorem sumC_add (c : List Nat) (f g : Nat → Int) : sumC c (fun i => f i + g i) = sumC c f + sumC c g := by
  induction c with
  | nil => rfl
  | cons k c ih => simp only [sumC_cons, ih]; omega
theorem sumC_sub (c : List Nat) (f g : Nat → Int) : sumC c (fun i => f i - g i) = sumC c f - sumC c g := by
  induction c with
  | nil => rfl
  | cons k c ih => simp only [sumC_cons, ih]; omega
theorem sumC_zero (c : List Nat) : sumC c (fun _ => 0) = 0 := by
  induction c with
  | nil => rfl
  | cons k c ih => simp only [sumC_cons, ih]; omega
theorem sumC_one (c : List Nat) (j : Nat) (W : Int) (hn : c.Nodup) (hj : j ∈ c) : sumC c (fun i => if i = j then W else 0) = W := by
  induction c with
  | nil => cases hj
  | cons k c ih =>
    rw [List.nodup_cons] at hn
    rw [sumC_cons]
    by_cases e : k = j
    · subst e
      rw [if_pos rfl, sumC_congr (g := fun _ => 0) (fun i hi => if_neg fun (e : i = k) => hn.1 (e ▸ hi)), sumC_zero]; omega
    · rw [if_neg e, ih hn.2 (by rcases List.mem_cons.1 hj with h | h; exact absurd h.symm e; exact h)]; omega
theorem sumC_le {c : List Nat} {f g : Nat → Int} (h : ∀ i, i ∈ c → f i ≤ g i) : sumC c f ≤ sumC c g := by
  induction c with
  | nil => exact Int.le_refl _
  | cons k c ih =>
    have h1 := h k (by simp)
    have h2 := ih fun i hi => h i (by simp [hi])
    simp only [sumC_cons]; omega
theorem sumC_const (c : List Nat) (a : Int) : sumC c (fun _ => a) = c.length * a := by
  induction c with
  | nil => simp [sumC_nil]
  | cons k c ih => simp only [sumC_cons, ih, List.length_cons]; rw [Int.natCast_add, Int.add_mul]; omega
theorem sumC_upper {c : List Nat} {f : Nat → Int} {W : Int} (hW : 0 ≤ W) (h : ∀ i, i ∈ c → -W ≤ f i) {j : Nat} (hj : j ∈ c) (hn : c.Nodup) : f j ≤ sumC c f + c.length * W := by
  induction c with
  | nil => cases hj
  | cons k c ih =>
    rw [List.nodup_cons] at hn
    simp only [sumC_cons, List.length_cons]
    rw [Int.natCast_add, Int.add_mul]
    rcases List.mem_cons.1 hj with rfl | hj
    · have h1 : sumC c (fun _ => -W) ≤ sumC c f := sumC_le fun i hi => h i (by simp [hi])
      rw [sumC_const] at h1
      have : (c.length : Int) * -W = -(c.length * W) := Int.mul_neg _ _
      omega
    · have h1 := ih (fun i hi => h i (by simp [hi])) hj hn.2
      have h2 := h k (by simp)
      omega
theorem sumC_nonneg_zero {c : List Nat} {f : Nat → Int} (h : ∀ i, i ∈ c → 0 ≤ f i) (hs : sumC c f = 0) : ∀ i, i ∈ c → f i = 0 := by
  induction c with
  | nil => intro i hi; cases hi
  | cons k c ih =>
    rw [sumC_cons] at hs
    have h1 := h k (by simp)
    have h2 : sumC c (fun _ => 0) ≤ sumC c f := sumC_le fun i hi => h i (by simp [hi])
    rw [sumC_zero] at h2
    intro i hi
    rcases List.mem_cons.1 hi with rfl | hi
    · omega
    · exact ih (fun i hi => h i (by simp [hi])) (by omega) i hi
/-- What holds of a view from which turns are taken. -/
structure Std (l : List Bk) (c : List Nat) (W : Int) : Prop where
  nd : c.Nodup
  lt : ∀ i, i ∈ c → i < l.length
  wt : ∀ i, i ∈ c → 0 < (bk l i).wt ∧ (bk l i).wt ≤ 100
  sw : W = sumC c fun i => (bk l i).wt
  s0 : (sumC c fun i => (bk l i).cu) = 0
  lo : ∀ i, i ∈ c → -W < (bk l i).cu
  len : c.length ≤ 50
  ne : c ≠ []
theorem Std.wpos {l : List Bk} {c : List Nat} {W : Int} (h : Std l c W) : 0 < W ∧ W ≤ 100 * c.length := by
  have h1 : sumC c (fun _ => 1) ≤ sumC c fun i => (bk l i).wt := sumC_le fun i hi => by have := h.wt i hi; omega
  have h2 : sumC c (fun i => (bk l i).wt) ≤ sumC c fun _ => 100 := sumC_le fun i hi => by have := h.wt i hi; omega
  rw [sumC_const] at h1 h2
  rw [← h.sw] at h1 h2
  have : 0 < c.length := List.length_pos_iff.2 h.ne
  omega
theorem Std.hi {l : List Bk} {c : List Nat} {W : Int} (h : Std l c W) : ∀ i, i ∈ c → (bk l i).cu ≤ 250000 := by
  intro i hi
  have h1 := h.wpos
  have h2 := sumC_upper (W := W) (by omega) (fun i hi => by have := h.lo i hi; omega) hi h.nd (f := fun i => (bk l i).cu)
  rw [h.s0] at h2
  have h3 : (c.length : Int) * W ≤ 50 * 5000 := Int.mul_le_mul (by have := h.len; omega) (by have := h.len; omega) (by omega) (by omega)
  omega
def best (l : List Bk) (c : List Nat) : Nat := rbest (turnS l c).l c
def next (l : List Bk) (c : List Nat) : List Bk := turnL (turnS l c)
theorem fold_w (c : List Nat) : ∀ (s : TS), c.Nodup → (∀ i, i ∈ c → i < s.l.length) → (∀ i, i ∈ c → 0 < (bk s.l i).wt ∧ (bk s.l i).wt ≤ 100) → 0 ≤ s.w → s.w + 100 * c.length ≤ 1000000 → (c.foldl tstep s).w = s.w + sumC c fun i => (bk s.l i).wt := by
  induction c with
  | nil => intro s _ _ _ _ _; simp [sumC_nil]
  | cons k c ih =>
    intro s hn hl hw h0 hb
    rw [List.nodup_cons] at hn
    simp only [List.length_cons] at hb
    have hk := hl k (by simp)
    have hwk := hw k (by simp)
    have e : ∀ i, bk (tstep s k).l i = if i = k then addC (bk s.l k) (bk s.l k).wt else bk s.l i := fun i => bk_set _ _ _ _ hk
    have ew : (tstep s k).w = s.w + (bk s.l k).wt := by
      show IntKind.i64.wrap (s.w + (bk s.l k).wt) = _
      rw [wr64 (by omega)]
    have hne : ∀ i, i ∈ c → i ≠ k := fun i hi e => hn.1 (e ▸ hi)
    rw [List.foldl_cons, ih _ hn.2 (fun i hi => by simp [tstep]; exact hl i (by simp [hi])) (fun i hi => by rw [e, if_neg (hne i hi)]; exact hw i (by simp [hi])) (by omega) (by omega), ew, sumC_cons, sumC_congr (fun i hi => by rw [e, if_neg (hne i hi)])]
    omega
theorem next_bk {l : List Bk} {c : List Nat} {W : Int} (h : Std l c W) : best l c ∈ c ∧ (turnS l c).o = some (best l c) ∧ (next l c).length = l.length ∧ ∀ i, bk (next l c) i = if i ∈ c then { bk l i with cu := (bk l i).cu + (bk l i).wt - (if i = best l c then W else 0) } else bk l i := by
  have hb := turnS_best l c h.nd h.lt h.ne
  have hm : best l c ∈ c := rbest_mem _ _ h.ne
  have hp := h.wpos
  have hlen := h.len
  have hw : (turnS l c).w = W := by
    rw [h.sw]
    have := fold_w c ⟨l, none, 0⟩ h.nd h.lt h.wt (by simp) (by simp; omega)
    simpa [turnS] using this
  have hll := turnS_len l c
  refine ⟨hm, hb, ?_, fun i => ?_⟩
  · unfold next turnL; rw [hb]; simp [hll]
  · unfold next turnL
    rw [hb]
    simp only []
    rw [bk_set _ _ _ _ (by rw [hll]; exact h.lt _ hm), hw, turnS_bk _ _ h.nd h.lt, turnS_bk _ _ h.nd h.lt]
    show (if i = best l c then subC (if best l c ∈ c then addC (bk l (best l c)) (bk l (best l c)).wt else bk l (best l c)) W else _) = _
    rw [if_pos hm]
    by_cases hi : i ∈ c
    · have h1 := h.lo i hi
      have h2 := h.hi i hi
      have h3 := h.wt i hi
      rw [if_pos hi, if_pos hi]
      by_cases e : i = best l c
      · rw [if_pos e, if_pos e, ← e]
        simp only [subC, addC]
        rw [wr64 (show -9223372036854775808 ≤ (bk l i).cu + (bk l i).wt ∧ (bk l i).cu + (bk l i).wt ≤ 9223372036854775807 by omega), wr64 (by omega)]
      · rw [if_neg e, if_neg e]
        simp only [addC]
        rw [wr64 (by omega)]
        simp
    · rw [if_neg hi, if_neg hi, if_neg (fun (e : i = best l c) => hi (e ▸ hm))]
theorem Std.next {l : List Bk} {c : List Nat} {W : Int} (h : Std l c W) : Std (Go.Proofs.Pol.next l c) c W := by
  obtain ⟨hm, ho, hlen, hb⟩ := next_bk h
  have hp := h.wpos
  have hwt : ∀ i, i ∈ c → (bk (Go.Proofs.Pol.next l c) i).wt = (bk l i).wt := fun i hi => by rw [hb, if_pos hi]
  have hcu : ∀ i, i ∈ c → (bk (Go.Proofs.Pol.next l c) i).cu = (bk l i).cu + (bk l i).wt - (if i = best l c then W else 0) := fun i hi => by rw [hb, if_pos hi]
  refine ⟨h.nd, fun i hi => by rw [hlen]; exact h.lt i hi, fun i hi => by rw [hwt i hi]; exact h.wt i hi, ?_, ?_, fun i hi => ?_, h.len, h.ne⟩
  · rw [h.sw]; exact sumC_congr fun i hi => (hwt i hi).symm
  · rw [sumC_congr hcu, sumC_sub, sumC_add, h.s0, sumC_one c _ W h.nd hm, ← h.sw]; omega
  · rw [hcu i hi]
    have h1 := h.lo i hi
    have h2 := h.wt i hi
    split
    · rename_i e
      -- the greatest one is above 0
      have hmax := rbest_max (turnS l c).l c
      have hsum : sumC c (fun i => (bk l i).cu + (bk l i).wt) = W := by rw [sumC_add, h.s0, ← h.sw]; omega
      have hle : ∀ k, k ∈ c → (bk l k).cu + (bk l k).wt ≤ (bk l i).cu + (bk l i).wt := by
        intro k hk
        have := hmax k hk
        rw [turnS_bk _ _ h.nd h.lt, turnS_bk _ _ h.nd h.lt, if_pos hk, if_pos (show rbest (turnS l c).l c ∈ c from hm)] at this
        have e' : rbest (turnS l c).l c = i := e.symm
        rw [e'] at this
        have a1 := h.lo k hk
        have a2 := h.hi k hk
        have a3 := h.wt k hk
        have a4 := h.hi i hi
        have a5 := h.len
        simp only [addC] at this
        rw [wr64 (by omega), wr64 (by omega)] at this
        exact this
      have := sumC_le hle
      rw [hsum, sumC_const] at this
      by_cases hpos : 0 < (bk l i).cu + (bk l i).wt
      · omega
      · have : (c.length : Int) * ((bk l i).cu + (bk l i).wt) ≤ 0 := Int.mul_nonpos_of_nonneg_of_nonpos (by omega) (by omega)
        omega
    · omega
end Go.Proofs.Pol

set_option linter.unusedSimpArgs false
set_option linter.unusedVariables false
set_option maxRecDepth 100000
namespace Go.Proofs.Pol
open Go Go.Pl Go.Proofs
def seqL (l : List Bk) (c : List Nat) : Nat → List Bk
  | 0 => l
  | k + 1 => next (seqL l c k) c
def cnt (l : List Bk) (c : List Nat) (i : Nat) : Nat → Nat
  | 0 => 0
  | k + 1 => cnt l c i k + if i = best (seqL l c k) c then 1 else 0
theorem seq_std {l : List Bk} {c : List Nat} {W : Int} (h : Std l c W) : ∀ k, Std (seqL l c k) c W
  | 0 => h
  | k + 1 => (seq_std h k).next
theorem seq_bk {l : List Bk} {c : List Nat} {W : Int} (h : Std l c W) : ∀ k, (seqL l c k).length = l.length ∧ ∀ i, bk (seqL l c k) i = if i ∈ c then { bk l i with cu := (bk l i).cu + k * (bk l i).wt - W * cnt l c i k } else bk l i
  | 0 => ⟨rfl, fun i => by
      show bk l i = _
      by_cases hi : i ∈ c
      · rw [if_pos hi]
        simp [cnt]
      · rw [if_neg hi]⟩
  | k + 1 => by
    obtain ⟨h1, h2⟩ := seq_bk h k
    obtain ⟨hm, ho, hlen, hb⟩ := next_bk (seq_std h k)
    refine ⟨hlen.trans h1, fun i => ?_⟩
    show bk (next (seqL l c k) c) i = _
    rw [hb]
    by_cases hi : i ∈ c
    · rw [if_pos hi, if_pos hi, h2 i, if_pos hi]
      have : (bk l i).cu + (k : Int) * (bk l i).wt - W * (cnt l c i k : Int) + (bk l i).wt - (if i = best (seqL l c k) c then W else 0) = (bk l i).cu + ((k + 1 : Nat) : Int) * (bk l i).wt - W * (cnt l c i (k + 1) : Int) := by
        simp only [cnt]
        rw [Int.natCast_add, Int.natCast_add, Int.add_mul, Int.mul_add]
        split <;> simp <;> omega
      simp only [this]
    · rw [if_neg hi, if_neg hi, h2 i, if_neg hi]
theorem seq_cu {l : List Bk} {c : List Nat} {W : Int} (h : Std l c W) (k i : Nat) (hi : i ∈ c) : (bk (seqL l c k) i).cu = (bk l i).cu + k * (bk l i).wt - W * cnt l c i k := by
  rw [(seq_bk h k).2 i, if_pos hi]
def gcdC (l : List Bk) (c : List Nat) : Nat := c.foldl (fun g i => Nat.gcd g (bk l i).wt.toNat) 0
theorem gcdC_dvd (l : List Bk) (c : List Nat) : ∀ i, i ∈ c → gcdC l c ∣ (bk l i).wt.toNat := by
  have : ∀ (c : List Nat) (g : Nat), c.foldl (fun g i => Nat.gcd g (bk l i).wt.toNat) g ∣ g ∧ ∀ i, i ∈ c → c.foldl (fun g i => Nat.gcd g (bk l i).wt.toNat) g ∣ (bk l i).wt.toNat := by
    intro c
    induction c with
    | nil => intro g; exact ⟨Nat.dvd_refl _, fun i hi => by cases hi⟩
    | cons k c ih =>
      intro g
      rw [List.foldl_cons]
      obtain ⟨h1, h2⟩ := ih (Nat.gcd g (bk l k).wt.toNat)
      refine ⟨Nat.dvd_trans h1 (Nat.gcd_dvd_left _ _), fun i hi => ?_⟩
      rcases List.mem_cons.1 hi with rfl | hi
      · exact Nat.dvd_trans h1 (Nat.gcd_dvd_right _ _)
      · exact h2 i hi
  exact (this c 0).2
theorem gcdC_mul (l : List Bk) (c : List Nat) (W k : Nat) (h : ∀ i, i ∈ c → W ∣ k * (bk l i).wt.toNat) : W ∣ k * gcdC l c := by
  have : ∀ (c : List Nat) (g : Nat), W ∣ k * g → (∀ i, i ∈ c → W ∣ k * (bk l i).wt.toNat) → W ∣ k * c.foldl (fun g i => Nat.gcd g (bk l i).wt.toNat) g := by
    intro c
    induction c with
    | nil => intro g h _; exact h
    | cons j c ih =>
      intro g hg h
      rw [List.foldl_cons]
      refine ih _ ?_ fun i hi => h i (by simp [hi])
      rw [← Nat.gcd_mul_left]
      exact Nat.dvd_gcd hg (h j (by simp))
  exact this c 0 (by simp) h
theorem gcdC_sum (l : List Bk) (c : List Nat) (hw : ∀ i, i ∈ c → 0 ≤ (bk l i).wt) : (gcdC l c : Int) ∣ sumC c fun i => (bk l i).wt := by
  have h := gcdC_dvd l c
  generalize gcdC l c = g at *
  induction c with
  | nil => simp [sumC_nil]
  | cons k c ih =>
    rw [sumC_cons]
    refine Int.dvd_add ?_ (ih (fun i hi => hw i (by simp [hi])) fun i hi => h i (by simp [hi]))
    have := Int.natCast_dvd_natCast.2 (h k (by simp))
    rwa [Int.toNat_of_nonneg (hw k (by simp))] at this
/-- The length of a cycle. -/
def cycN (l : List Bk) (c : List Nat) : Nat := (sumC c fun i => (bk l i).wt).toNat / gcdC l c
theorem gcdC_pos {l : List Bk} {c : List Nat} {W : Int} (h : Std l c W) : 0 < gcdC l c := by
  rcases Nat.eq_zero_or_pos (gcdC l c) with h0 | h0
  · obtain ⟨i, hi⟩ := List.exists_mem_of_ne_nil _ h.ne
    have h1 := gcdC_dvd l c i hi
    rw [h0, Nat.zero_dvd] at h1
    have := h.wt i hi
    omega
  · exact h0
theorem cycN_mul {l : List Bk} {c : List Nat} {W : Int} (h : Std l c W) : cycN l c * gcdC l c = W.toNat ∧ 0 < cycN l c := by
  have hp := h.wpos
  have hd : gcdC l c ∣ W.toNat := by
    have := gcdC_sum l c fun i hi => by have := h.wt i hi; omega
    rw [← h.sw] at this
    have h2 : (W.toNat : Int) = W := Int.toNat_of_nonneg (by omega)
    rw [← h2] at this
    exact Int.natCast_dvd_natCast.1 this
  have e : cycN l c = W.toNat / gcdC l c := by unfold cycN; rw [← h.sw]
  rw [e]
  refine ⟨Nat.div_mul_cancel hd, Nat.div_pos (Nat.le_of_dvd (by omega) hd) (gcdC_pos h)⟩
/-- When all are 0 again. -/
theorem seq_zero {l : List Bk} {c : List Nat} {W : Int} (h : Std l c W) (h0 : ∀ i, i ∈ c → (bk l i).cu = 0) (k : Nat) : (∀ i, i ∈ c → (bk (seqL l c k) i).cu = 0) ↔ cycN l c ∣ k := by
  obtain ⟨hT, hTp⟩ := cycN_mul h
  have hp := h.wpos
  have hg := gcdC_pos h
  have hWn : (W.toNat : Int) = W := Int.toNat_of_nonneg (by omega)
  have hwn : ∀ i, i ∈ c → ((bk l i).wt.toNat : Int) = (bk l i).wt := fun i hi => Int.toNat_of_nonneg (by have := h.wt i hi; omega)
  constructor
  · intro hz
    have h1 : W.toNat ∣ k * gcdC l c := by
      refine gcdC_mul l c _ _ fun i hi => ?_
      have h2 := hz i hi
      rw [seq_cu h k i hi, h0 i hi, ← hwn i hi, ← hWn] at h2
      refine ⟨cnt l c i k, ?_⟩
      have h3 : (k : Int) * ((bk l i).wt.toNat : Int) = (W.toNat : Int) * (cnt l c i k : Int) := by omega
      exact_mod_cast h3
    rw [← hT] at h1
    exact Nat.dvd_of_mul_dvd_mul_right hg h1
  · rintro ⟨m, rfl⟩
    have hs := (seq_std h (cycN l c * m))
    have hnn : ∀ i, i ∈ c → 0 ≤ (bk (seqL l c (cycN l c * m)) i).cu := by
      intro i hi
      have hlo := hs.lo i hi
      obtain ⟨q, hq⟩ := gcdC_dvd l c i hi
      have e : (bk (seqL l c (cycN l c * m)) i).cu = W * ((m * q : Nat) - cnt l c i (cycN l c * m) : Int) := by
        rw [seq_cu h _ i hi, h0 i hi, ← hwn i hi, hq, ← hWn, Int.mul_sub]
        have : (cycN l c * m) * (gcdC l c * q) = W.toNat * (m * q) := by
          rw [← hT]; simp only [Nat.mul_assoc, Nat.mul_left_comm, Nat.mul_comm]
        have h4 : ((cycN l c * m : Nat) : Int) * ((gcdC l c * q : Nat) : Int) = (W.toNat : Int) * ((m * q : Nat) : Int) := by exact_mod_cast this
        rw [h4]; omega
      rw [e] at hlo ⊢
      generalize ((m * q : Nat) : Int) - (cnt l c i (cycN l c * m) : Int) = z at *
      have hz : -1 < z := by
        have : W * (-1) < W * z := by omega
        exact Int.lt_of_mul_lt_mul_left this (by omega)
      exact Int.mul_nonneg (by omega) (by omega)
    exact sumC_nonneg_zero hnn hs.s0
def cycL (l : List Bk) (c : List Nat) (T : Nat) : List Nat := (List.range T).map fun k => best (seqL l c k) c
end Go.Proofs.Pol

set_option linter.unusedSimpArgs false
set_option linter.unusedVariables false
set_option maxRecDepth 100000
namespace Go.Proofs.Pol
open Go Go.Pl Go.Proofs
def l0 (ws : List Int) : List Bk := ws.map fun w => ⟨w, 0, 0, true, false⟩
def c0 (ws : List Int) : List Nat := canL (l0 ws) 0 ws.length
theorem bk_l0 (ws : List Int) (i : Nat) (h : i < ws.length) : bk (l0 ws) i = ⟨ws[i], 0, 0, true, false⟩ := by
  rw [bk_get (by simpa [l0] using h)]; simp [l0]
theorem canP_l0 (w : Int) (i : Nat) : canP ⟨w, 0, 0, true, false⟩ 0 i = decide (0 < w) := by simp [canP]
theorem c0_mem (ws : List Int) (i : Nat) : i ∈ c0 ws ↔ ∃ h : i < ws.length, 0 < ws[i] := by
  simp only [c0, canL, List.mem_filter, List.mem_range]
  constructor
  · rintro ⟨h, h1⟩
    refine ⟨h, ?_⟩
    simpa [l0, List.getElem?_eq_getElem h, canP_l0] using h1
  · rintro ⟨h, h1⟩
    refine ⟨h, ?_⟩
    simpa [l0, List.getElem?_eq_getElem h, canP_l0] using h1
theorem canL_congr {l l' : List Bk} {skip : Int} (hl : l'.length = l.length) (h : ∀ i, canP (bk l' i) skip i = canP (bk l i) skip i) (n : Nat) : canL l' skip n = canL l skip n := by
  unfold canL
  refine List.filter_congr fun i _ => ?_
  have := h i
  by_cases hi : i < l.length
  · rw [List.getElem?_eq_getElem hi, List.getElem?_eq_getElem (by omega)]
    rw [bk_get hi, bk_get (by omega)] at this
    exact this
  · rw [List.getElem?_eq_none (by omega), List.getElem?_eq_none (by omega)]
def posN (ws : List Int) : Nat := (ws.filter fun w => decide (0 < w)).length
def cycle (ws : List Int) : List Nat × Int :=
  if ws.length < 1 ∨ 16 < ws.length then ([], 3) else if checkB (l0 ws) ≠ 0 then ([], 7) else if c0 ws = [] then ([], 4) else (cycL (l0 ws) (c0 ws) (cycN (l0 ws) (c0 ws)), 0)
theorem contO (g : FuncId) (p : Bk → Bool) (l : List Bk) (b : Nat) (bx : Boxes) (hb : bx b = some (.row 57 5 (l.map bkV))) (hl : l.length ≤ 1000) (hp : ∀ x, x ∈ l → ∀ bx, PureCall Tryz.prog g (bkV x :: []) bx (.bool (p x))) :
    PureCall Tryz.prog 101 [.own b 5 0 l.length, .fn (.func g) []] bx (.bool (l.any p)) :=
  PureCall.frame 1 (contains_c g [] p l _ hl hp) (by rw [List.map_cons, frz_own1 hb rfl (by decide) (by simp)]; rfl) rfl
theorem checkO (l : List Bk) (b : Nat) (bx : Boxes) (hb : bx b = some (.row 57 5 (l.map bkV))) (hl : l.length ≤ 1000) : PureCall Tryz.prog 99 [.own b 5 0 l.length] bx (.int .i64 (checkB l)) :=
  PureCall.frame 1 (check_c l _ hl) (by rw [List.map_cons, frz_own1 hb rfl (by decide) (by simp)]; rfl) rfl
theorem appB {bx bx1 bx2 : Boxes} {es news : List V} {v x : V} {d n : Nat} {sl : Nat → V} {K : St → Prop} (ha : Acc bx 57 5 es v bx1) (h2 : Ext bx1 bx2) (hf : FinB bx2) (src : srcEls ⟨n, sl, bx2⟩ 5 x = some news) (hlen : es.length + news.length ≤ 1000000) (hd : d < n)
    (hK : ∀ v' bx3, Acc bx 57 5 (es ++ news) v' bx3 → K (St.put ⟨n, sl, bx3⟩ (some d) v')) : appendA Tryz.prog ⟨n, sl, bx2⟩ (some d) 48 v x K :=
  acc_append (.agg #[.int .i64 0, .int .i64 0, .int .i64 0, .bool false, .bool false]) ha h2 hf Tryz.knd48 Tryz.tsz57 src Tryz.tzero57 (by simp [go_sem]) (by omega) (by simp [Tryz.tby57]; omega) (by omega) (by simpa [go_sem] using hd) hK
theorem posN_c0 (ws : List Int) : posN ws = 0 ↔ c0 ws = [] := by
  have h1 : posN ws = 0 ↔ ∀ w, w ∈ ws → ¬ 0 < w := by
    unfold posN
    rw [List.length_eq_zero_iff, List.filter_eq_nil_iff]
    simp
  rw [h1]
  constructor
  · intro h
    refine List.eq_nil_iff_forall_not_mem.2 fun i hi => ?_
    obtain ⟨hi, hp⟩ := (c0_mem ws i).1 hi
    exact h _ (List.getElem_mem hi) hp
  · intro h w hw hp
    obtain ⟨i, hi, rfl⟩ := List.getElem_of_mem hw
    have : i ∈ c0 ws := (c0_mem ws i).2 ⟨hi, hp⟩
    rw [h] at this
    cases this
theorem std_l0 (ws : List Int) (hn : ws.length ≤ 50) (hc : checkB (l0 ws) = 0) (hne : c0 ws ≠ []) : Std (l0 ws) (c0 ws) (sumC (c0 ws) fun i => (bk (l0 ws) i).wt) := by
  have hlt : ∀ i, i ∈ c0 ws → ∃ h : i < ws.length, 0 < ws[i] := fun i hi => (c0_mem ws i).1 hi
  have hbad : ∀ i (h : i < ws.length), ws[i] ≤ 100 := by
    intro i h
    unfold checkB at hc
    split at hc
    · cases hc
    · split at hc
      · cases hc
      · rename_i hb
        have hb' := (List.any_eq_false (p := badB)).1 (by simpa using hb) ⟨ws[i], 0, 0, true, false⟩ (by simp [l0])
        simp [badB] at hb'
        omega
  have hwt : ∀ i, i ∈ c0 ws → 0 < (bk (l0 ws) i).wt ∧ (bk (l0 ws) i).wt ≤ 100 := by
    intro i hi
    obtain ⟨h1, h2⟩ := hlt i hi
    rw [bk_l0 ws i h1]
    exact ⟨h2, hbad i h1⟩
  have hcu : ∀ i, i ∈ c0 ws → (bk (l0 ws) i).cu = 0 := by
    intro i hi
    obtain ⟨h1, h2⟩ := hlt i hi
    rw [bk_l0 ws i h1]
  have hpos : 0 < sumC (c0 ws) fun i => (bk (l0 ws) i).wt := by
    have h1 : sumC (c0 ws) (fun _ => 1) ≤ sumC (c0 ws) fun i => (bk (l0 ws) i).wt := sumC_le fun i hi => by have := hwt i hi; omega
    rw [sumC_const] at h1
    have := List.length_pos_iff.2 hne
    omega
  refine ⟨canL_nodup _ _ _, fun i hi => by have := (hlt i hi).1; simpa [l0] using this, hwt, rfl, ?_, fun i hi => by rw [hcu i hi]; omega, ?_, hne⟩
  · rw [sumC_congr hcu, sumC_zero]
  · exact Nat.le_trans (canL_le _ _ _) hn
theorem seq_can {l : List Bk} {c : List Nat} {W : Int} (h : Std l c W) (k : Nat) (skip : Int) (n : Nat) : canL (seqL l c k) skip n = canL l skip n := by
  obtain ⟨h1, h2⟩ := seq_bk h k
  refine canL_congr h1 (fun i => ?_) n
  rw [h2 i]
  split <;> rfl
theorem seq_any (ws : List Int) (hn : ws.length ≤ 50) (hc : checkB (l0 ws) = 0) (hne : c0 ws ≠ []) (k : Nat) : ((seqL (l0 ws) (c0 ws) k).any fun x => decide (x.cu ≠ 0)) = !decide (cycN (l0 ws) (c0 ws) ∣ k) := by
  have hs := std_l0 ws hn hc hne
  have h0 : ∀ i, i < ws.length → (bk (l0 ws) i).cu = 0 := fun i hi => by rw [bk_l0 ws i hi]
  have hz := seq_zero hs (fun i hi => h0 i ((c0_mem ws i).1 hi).1) k
  obtain ⟨hl, hb⟩ := seq_bk hs k
  have hll : (l0 ws).length = ws.length := by simp [l0]
  by_cases hd : cycN (l0 ws) (c0 ws) ∣ k
  · simp only [hd, decide_true, Bool.not_true]
    rw [List.any_eq_false]
    intro x hx
    obtain ⟨i, hi, rfl⟩ := List.getElem_of_mem hx
    rw [← bk_get hi]
    by_cases hic : i ∈ c0 ws
    · simp [hz.2 hd i hic]
    · rw [hb i, if_neg hic, h0 i (by omega)]; simp
  · simp only [hd, decide_false, Bool.not_false]
    rw [List.any_eq_true]
    have : ¬ ∀ i, i ∈ c0 ws → (bk (seqL (l0 ws) (c0 ws) k) i).cu = 0 := fun h => hd (hz.1 h)
    simp only [Classical.not_forall] at this
    obtain ⟨i, hi, hne⟩ := this
    have hi' : i < (seqL (l0 ws) (c0 ws) k).length := by have := ((c0_mem ws i).1 hi).1; omega
    refine ⟨(seqL (l0 ws) (c0 ws) k)[i], List.getElem_mem hi', ?_⟩
    rw [← bk_get hi']
    simpa using hne
theorem turn_seq (ws : List Int) (hn : ws.length ≤ 50) (hc : checkB (l0 ws) = 0) (hne : c0 ws ≠ []) (k bo : Nat) (bx : Boxes) (hbo : bx bo = some (.row 57 5 ((seqL (l0 ws) (c0 ws) k).map bkV))) :
    AbsCall Tryz.prog 100 [.own bo 5 0 ws.length, .int .i64 0] bx fun r bx' => r = .int .i64 (best (seqL (l0 ws) (c0 ws) k) (c0 ws)) ∧ bx' = upd bx bo (some (.row 57 5 ((seqL (l0 ws) (c0 ws) (k + 1)).map bkV))) := by
  have hs := std_l0 ws hn hc hne
  obtain ⟨hl, hb⟩ := seq_bk hs k
  have hll : (l0 ws).length = ws.length := by simp [l0]
  have h := turn_c (seqL (l0 ws) (c0 ws) k) bo 0 bx (by omega) hbo
  rw [seq_can hs k 0, hl, hll] at h
  obtain ⟨h1, h2, _, _⟩ := next_bk (seq_std hs k)
  have hcc : canL (l0 ws) 0 ws.length = c0 ws := rfl
  rw [hcc, h2] at h
  exact h
set_option maxHeartbeats 1000000 in
theorem cycle_c (ws : List Int) (bx : Boxes) (hl : ws.length ≤ 50) : PureCall Tryz.prog 61 [.sl 1 (ws.map iV)] bx (.tup [.sl 1 ((cycle ws).1.map ixV), .int .i64 (cycle ws).2]) := by
  refine PureCall.wk (Tryz.ctr61 fun hb => ?_)
  have hm : (if (16 : Int) < (ws.length : Int) then (16 : Int) else ws.length) = ((min ws.length 16 : Nat) : Int) := by split <;> omega
  have hm2 : min ws.length 16 ≤ ws.length := Nat.min_le_left _ _
  simp [go_sem, Tryz.C61, hb, hm]
  generalize hmd : min ws.length 16 = m at *
  refine ⟨by omega, ?_⟩
  refine pw_for (ι := V × Boxes) m (fun k p => Acc bx 57 5 ((l0 (ws.take k)).map bkV) p.1 p.2) (fun k p => ⟨52, slk [(0, .sl 1 (ws.map iV)), (4, p.1), (5, .int .i64 (posN (ws.take k))), (13, .sl 1 ((ws.take m).map iV)), (14, .int .i64 m), (15, .int .i64 k)], p.2⟩) (.nils, bx) (by simpa [l0] using acc_nil hb _ _) (cov_look (by simp [go_sem, posN])) (fun k p hk hJ N hN => ?_) (fun p hJ N => ?_)
  · obtain ⟨v, bx1⟩ := p
    dsimp only at *
    have hkw : k < ws.length := by omega
    simp [go_sem, Tryz.L61_0, hk, hkw, iV, hJ.fin]
    refine ⟨by omega, fun b hb1 => ?_⟩
    have hpk : posN (ws.take (k + 1)) = posN (ws.take k) + if 0 < ws[k] then 1 else 0 := by
      rw [take_snoc hkw]; unfold posN; rw [List.filter_append, List.length_append]
      simp only [List.filter_cons, List.filter_nil, decide_eq_true_eq]
      split <;> rfl
    have hpl : posN (ws.take k) ≤ k := by
      unfold posN
      refine Nat.le_trans (List.length_filter_le _ _) ?_
      simp; omega
    refine appB hJ ((Ext.refl _).new hb1 _) (by simp [finB_upd, hJ.fin]) (by simp [srcEls, upd_eq]; rfl) (by simp [l0]; omega) (by omega) fun v' bx3 ha' => ?_
    have hmx : IntKind.i64.wrap (((posN (ws.take k) : Nat) : Int) + if (1 : Int) < (if ws[k] < 0 then 0 else ws[k]) then 1 else (if ws[k] < 0 then 0 else ws[k])) = ((posN (ws.take (k + 1)) : Nat) : Int) := by
      rw [hpk, wr64 (by split <;> split <;> omega)]
      split <;> split <;> split <;> omega
    simp [go_sem, hmx, wr_succ (show k < 1000000000 by omega)]
    refine hN _ (v', bx3) ?_ (cov_look (by simp [go_sem]))
    have e : (l0 (ws.take (k + 1))).map bkV = (l0 (ws.take k)).map bkV ++ [V.agg [.int .i64 ws[k], .int .i64 0, .int .i64 0, .bool true, .bool false]] := by
      rw [take_snoc hkw]; simp only [l0, List.map_append, List.map_cons, List.map_nil, bkV]
    rw [e]
    exact ha'
  · obtain ⟨v, bx1⟩ := p
    dsimp only at *
    simp [go_sem, Tryz.L61_0, iV]
    refine callK_pure (outside_c ..) ?_
    by_cases hbad : ws.length < 1 ∨ 16 < ws.length
    · have hcy : cycle ws = ([], 3) := if_pos hbad
      have hd : (decide ((ws.length : Int) < 1) || decide ((16 : Int) < (ws.length : Int))) = true := by simp; omega
      simp [go_sem, hd]
      refine ret_wk (by simp [go_sem]) hJ.ext ?_
      simp [go_sem, hcy]; exact wk_tup2 (wk_nils _) (Wk.refl _)
    · have hd : (decide ((ws.length : Int) < 1) || decide ((16 : Int) < (ws.length : Int))) = false := by simp; omega
      have hmw : m = ws.length := by omega
      subst hmw
      rw [List.take_length] at hJ
      have hne : (l0 ws).map bkV ≠ [] := fun e => by simp [l0] at e; subst e; simp at hbad
      obtain ⟨bo, hbo, rfl, hbo1⟩ := hJ.row hne
      have hll : (l0 ws).length = ws.length := by simp [l0]
      have hll2 : ((l0 ws).map bkV).length = (l0 ws).length := by simp
      rw [hll2] at hJ ⊢
      simp [go_sem, hd]
      refine callK_pure (checkO (l0 ws) bo bx1 hbo1 (by omega)) ?_
      by_cases hck : checkB (l0 ws) = 0
      · simp [go_sem, hck]
        refine ⟨fun hp => ?_, fun hp => ?_⟩
        · have hcy : cycle ws = ([], 4) := by unfold cycle; rw [if_neg hbad, if_neg (by simp [hck]), if_pos ((posN_c0 ws).1 hp)]
          refine ret_wk (by simp [go_sem]) hJ.ext ?_
          simp [go_sem, hcy]; exact wk_tup2 (wk_nils _) (Wk.refl _)
        · have hne : c0 ws ≠ [] := fun e => hp ((posN_c0 ws).2 e)
          have hcy : cycle ws = (cycL (l0 ws) (c0 ws) (cycN (l0 ws) (c0 ws)), 0) := by unfold cycle; rw [if_neg hbad, if_neg (by simp [hck]), if_neg hne]
          have hs := std_l0 ws hl hck hne
          have hTp := (cycN_mul hs).2
          have hany := seq_any ws hl hck hne
          have hturn := turn_seq ws hl hck hne
          have hseq := fun k => (seq_bk hs k).1
          have hcyc : ∀ k, cycL (l0 ws) (c0 ws) (k + 1) = cycL (l0 ws) (c0 ws) k ++ [best (seqL (l0 ws) (c0 ws) k) (c0 ws)] := fun k => by simp [cycL, List.range_succ]
          have hcl : ∀ k, (cycL (l0 ws) (c0 ws) k).length = k := fun k => by simp [cycL]
          have hTle : cycN (l0 ws) (c0 ws) ≤ 5000 := by
            have h1 := hs.wpos
            have h2 := hs.len
            unfold cycN
            refine Nat.le_trans (Nat.div_le_self _ _) ?_
            omega
          generalize hT : cycN (l0 ws) (c0 ws) = T at *
          rw [hll] at hJ ⊢
          refine callK_abs (hturn 0 bo bx1 hbo1) ?_
          rintro r bx2 ⟨rfl, rfl⟩
          simp [go_sem, hJ.fin]
          intro b8 hb8
          refine pw_for (ι := V × Boxes) (T - 1) (fun j p => Acc (upd bx1 bo (some (.row 57 5 ((seqL (l0 ws) (c0 ws) (j + 1)).map bkV)))) 3 1 ((cycL (l0 ws) (c0 ws) (j + 1)).map ixV) p.1 p.2) (fun j p => ⟨52, slk [(4, .own bo 5 0 ws.length), (8, p.1)], p.2⟩) (.own b8 1 0 1, _) ?_ (cov_look (by simp [go_sem])) (fun j p hj hA N hN => ?_) (fun p hA N => ?_)
          · dsimp only
            have : cycL (l0 ws) (c0 ws) (0 + 1) = [best (seqL (l0 ws) (c0 ws) 0) (c0 ws)] := by rw [hcyc]; simp [cycL]
            rw [this]
            exact acc_new hb8 (by simp [finB_upd, hJ.fin]) 3 1 _ 1 rfl
          · obtain ⟨v, bx3⟩ := p
            dsimp only at *
            simp [go_sem, Tryz.L61_1]
            have hc1 := contO 102 (fun x => decide (x.cu ≠ 0)) (seqL (l0 ws) (c0 ws) (j + 1)) bo bx3 hA.at (by rw [hseq, hll]; omega) (fun x _ bx => still2_c x bx)
            rw [hseq, hll] at hc1
            refine callK_pure hc1 ?_
            have hnd : ¬ T ∣ j + 1 := fun hd => by have := Nat.le_of_dvd (by omega) hd; omega
            rw [hany]
            simp [go_sem, hnd]
            refine callK_abs (hturn (j + 1) bo bx3 hA.at) ?_
            rintro r bx4 ⟨rfl, rfl⟩
            have hA' := hA.put (.row 57 5 ((seqL (l0 ws) (c0 ws) (j + 1 + 1)).map bkV))
            simp [go_sem, hA'.fin]
            intro b hb1
            refine appI hA' ((Ext.refl _).new hb1 _) (by simp [finB_upd, hA'.fin]) (by simp [srcEls, upd_eq]; rfl) (by simp [hcl]; omega) (by omega) fun v2 bx5 hA2 => ?_
            simp [go_sem]
            refine hN _ (v2, bx5) ?_ (cov_look (by simp [go_sem]))
            dsimp only
            rw [hcyc (j + 1), List.map_append]
            exact hA2
          · obtain ⟨v, bx3⟩ := p
            dsimp only at *
            simp [go_sem, Tryz.L61_1]
            have e1 : T - 1 + 1 = T := by omega
            rw [e1] at hA
            have hc1 := contO 102 (fun x => decide (x.cu ≠ 0)) (seqL (l0 ws) (c0 ws) T) bo bx3 hA.at (by rw [hseq, hll]; omega) (fun x _ bx => still2_c x bx)
            rw [hseq, hll] at hc1
            refine callK_pure hc1 ?_
            rw [hany]
            simp [go_sem]
            have hA0 := hA.base (hJ.ext.upd_own hbo _)
            obtain ⟨b9, hb9, rfl, hb91⟩ := hA0.row (by simp [cycL]; omega)
            refine ret_frz 2 (by simp [go_sem]) hA0.ext ⟨?_, rfl⟩
            simp [go_sem, hcy]
            rw [frz_own1 hb91 hb9 (by decide) (by simp)]
            exact Wk.refl _
      · have hcy : cycle ws = ([], 7) := by unfold cycle; rw [if_neg hbad, if_pos hck]
        simp [go_sem, hck]
        refine ret_wk (by simp [go_sem]) hJ.ext ?_
        simp [go_sem, hcy]; exact wk_tup2 (wk_nils _) (Wk.refl _)
end Go.Proofs.Pol

set_option linter.unusedSimpArgs false
set_option linter.unusedVariables false
set_option maxRecDepth 100000
namespace Go.Proofs.Pol
open Go Go.Pl Go.Proofs
theorem awake_c (bx : Boxes) : PureCall Tryz.prog 27 [] bx (.bool true) := by
  refine Tryz.ctr27 fun hb => ?_
  have e1 : least exL 0 = (2, 0) := by decide +kernel
  have e2 : least exL 4 = (0, 0) := by decide +kernel
  have e3 : cycle [5, 1, 1] = ([0, 0, 1, 0, 2, 0, 0], 0) := by decide +kernel
  have e4 : smooth exL 0 = (0, [⟨5, 4, -2, true, false⟩, ⟨1, 1, 1, true, false⟩, ⟨1, 0, 1, true, false⟩], 0) := by decide +kernel
  have e5 : two exL 1 1 0 = (2, 0) := by decide +kernel
  have hx : exL.length ≤ 50 := by decide
  have c1 := least_c exL 0 bx hx
  have c2 := least_c exL 4 bx hx
  have c3 := cycle_c [5, 1, 1] bx (by decide)
  have c4 := smooth_c exL 0 bx hx
  have c5 := two_c exL 1 1 0 bx hx (by decide) (by decide)
  rw [e1] at c1
  rw [e2] at c2
  rw [e3] at c3
  rw [e4] at c4
  rw [e5] at c5
  simp [go_sem, Tryz.C27, hb]
  refine callK_pure (example_c bx) ?_
  simp [go_sem]
  refine callK_pure c1 ?_
  simp [go_sem]
  refine callK_pure (example_c bx) ?_
  simp [go_sem]
  refine callK_pure c2 ?_
  simp [go_sem, hb]
  refine callK_pure c3 ?_
  simp [go_sem]
  refine callK_pure (example_c bx) ?_
  simp [go_sem]
  refine callK_pure c4 ?_
  simp [go_sem]
  refine callK_pure (example_c bx) ?_
  simp [go_sem]
  refine callK_pure c5 ?_
  simp [go_sem, hb, ixV]
  refine gK_pure (ints_c [0, 0, 1, 0, 2, 0, 0] [0, 0, 1, 0, 2, 0, 0] bx (by decide)) (by simp) (by simp [go_sem]) ?_
  simp [go_sem, bkV]
  refine ret_pure (by simp [go_sem]) ?_
  simp [go_sem]
end Go.Proofs.Pol

set_option linter.unusedSimpArgs false
set_option linter.unusedVariables false
set_option maxRecDepth 100000
namespace Go.Proofs.Pol
open Go Go.Pl Go.Proofs
theorem ixs (l : List Nat) : l.map ixV = (l.map Int.ofNat).map iV := by simp [ixV, iV, Function.comp_def]
end Go.Proofs.Pol

set_option linter.unusedSimpArgs false
set_option linter.unusedVariables false
set_option maxRecDepth 100000
namespace Go.Proofs.Pol
open Go Go.Pl Go.Proofs
def okB (x : Bk) : Prop := 0 < x.wt ∧ x.wt ≤ 100 ∧ 0 ≤ x.ac ∧ x.ac ≤ 10000
theorem canR_ok {l : List Bk} {skip : Int} (h : askB l skip = 0) : ∀ i, i ∈ canR l skip → okB (bk l i) := by
  intro i hi
  obtain ⟨_, _, hc⟩ := ask_len h
  have hil := canR_lt i hi
  have hcan : canP l[i] skip i = true := by
    have : canR l skip = canL l skip l.length := by simp [canR, h]
    rw [this] at hi
    simp [canL] at hi
    simpa [List.getElem?_eq_getElem hil] using hi.2
  have hbad : badB l[i] = false := by
    unfold checkB at hc
    split at hc
    · cases hc
    · split at hc
      · cases hc
      · rename_i hb
        have := (List.any_eq_false (p := badB)).1 (by simpa using hb) l[i] (List.getElem_mem hil)
        simpa using this
  rw [bk_get hil]
  simp [canP] at hcan
  simp [badB] at hbad
  unfold okB
  omega
end Go.Proofs.Pol

set_option linter.unusedSimpArgs false
set_option linter.unusedVariables false
set_option maxRecDepth 100000
namespace Go.Proofs.Pol
open Go Go.Pl Go.Proofs
theorem inR_c (c : List Nat) (n : Nat) (bx : Boxes) (hc : c.length ≤ 1000) (h : n ∈ c) : PureCall Tryz.prog 33 [.sl 1 (c.map ixV), .int .i64 n] bx (.bool true) := by
  have := in_c (c.map Int.ofNat) n bx (by simpa using (by omega : c.length ≤ 1000000))
  rw [← ixs] at this
  have h2 : ((n : Int) ∈ c.map Int.ofNat) := List.mem_map.2 ⟨n, h, rfl⟩
  simpa [h2] using this
end Go.Proofs.Pol

/- Contracts: Order. -/
set_option linter.unusedSimpArgs false
set_option linter.unusedVariables false
set_option maxRecDepth 100000
namespace Go.Proofs
open Go Go.Pl Go.Hs

theorem acc_frame {P : Program} {f : FuncId} {bx bx1 : Boxes} {e sz : Nat} {es : List V} {v r : V} {k : IntKind} {i : Int} (ha : Pl.Acc bx e sz es v bx1) (hs : 0 < sz) (hr : flatV r = true) (h : ∀ bx, PureCall P f [.sl sz es, .int k i] bx r) : PureCall P f [v, .int k i] bx1 r := by
  rcases ha.is with ⟨rfl, rfl⟩ | ⟨b, hb, rfl, hb2⟩
  · refine AbsCall.args (h bx1) rfl fun j c c' h1 h2 => ?_
    rcases j with _ | _ | j
    · cases h1; cases h2; exact wk_nils _
    · cases h1; cases h2; exact Wk.refl _
    · simp at h1
  · refine PureCall.frame 1 (h _) ?_ hr
    rw [List.map_cons, frz_own1 hb2 rfl hs rfl]; rfl
theorem acc_frz {bx bx1 : Boxes} {e sz : Nat} {es : List V} {v : V} (ha : Pl.Acc bx e sz es v bx1) (hs : 0 < sz) : Wk (frz bx1 bx 1 v) (.sl sz es) := by
  rcases ha.is with ⟨h1, rfl⟩ | ⟨b, hb, rfl, hb2⟩
  · exact wk_nil' h1
  · rw [frz_own1 hb2 hb hs rfl]; exact Wk.refl _
theorem uniq_snoc : ∀ (l : List Int) (out : List Int) (x : Int), uniq out (l ++ [x]) = if x ∈ uniq out l then uniq out l else uniq out l ++ [x]
  | [], out, x => by
    by_cases h : x ∈ out <;> simp [h, uniq]
  | y :: l, out, x => by rw [List.cons_append, uniq, uniq]; exact uniq_snoc l _ x
theorem uniq_len : ∀ (l : List Int) (out : List Int), (uniq out l).length ≤ out.length + l.length
  | [], out => by simp [uniq]
  | y :: l, out => by
    rw [uniq]
    refine Nat.le_trans (uniq_len l _) ?_
    split <;> simp <;> omega
/-- The backends in the order of the points, from one on. -/
def turnB (r : Rg) (i : Nat) : List Int := (r.pts.drop i ++ r.pts.take i).map (·.b)
theorem turnB_len (r : Rg) (i : Nat) (hi : i ≤ r.pts.length) : (turnB r i).length = r.pts.length := by simp [turnB]; omega
theorem turnB_at {r : Rg} {i k : Nat} (hi : i < r.pts.length) (hk : k < r.pts.length) : (turnB r i)[k]? = some ((r.pts[(i + k) % r.pts.length]'(Nat.mod_lt _ (by omega))).b) := by
  unfold turnB
  rw [List.getElem?_map]
  rcases Nat.lt_or_ge (i + k) r.pts.length with h | h
  · rw [List.getElem?_append_left (by simp; omega)]
    simp [Nat.mod_eq_of_lt h, h]
  · rw [List.getElem?_append_right (by simp; omega)]
    have h2 : (i + k) % r.pts.length = i + k - r.pts.length := by rw [Nat.mod_eq_sub_mod h, Nat.mod_eq_of_lt (by omega)]
    have h3 : k - (r.pts.length - i) = i + k - r.pts.length := by omega
    simp only [h2, List.length_drop, h3]
    rw [List.getElem?_take, if_pos (by omega), List.getElem?_eq_getElem (by omega)]
    rfl
def uq (r : Rg) (i k : Nat) : List Int := uniq [] ((turnB r i).take k)
theorem uq_succ {r : Rg} {i k : Nat} (hi : i < r.pts.length) (hk : k < r.pts.length) : uq r i (k + 1) = if (r.pts[(i + k) % r.pts.length]'(Nat.mod_lt _ (by omega))).b ∈ uq r i k then uq r i k else uq r i k ++ [(r.pts[(i + k) % r.pts.length]'(Nat.mod_lt _ (by omega))).b] := by
  have h := turnB_at hi hk
  have hl := turnB_len r i (by omega)
  have hk2 : k < (turnB r i).length := by omega
  rw [List.getElem?_eq_getElem hk2] at h
  unfold uq
  rw [take_snoc hk2, Option.some.inj h, uniq_snoc]
theorem uq_len (r : Rg) (i k : Nat) : (uq r i k).length ≤ k := by
  unfold uq
  refine Nat.le_trans (uniq_len _ _) ?_
  rw [List.length_take]
  simp; omega
theorem order_eq {r : Rg} {key : Bs} (he : asked r key = 0) : order r key = (uq r (first r (sum32 key)) r.pts.length, 0) := by
  unfold order uq
  rw [if_neg (by simpa using he)]
  obtain ⟨_, _, hpl, _⟩ := asked0 he
  rw [List.take_of_length_le (l := turnB r (first r (sum32 key))) (by rw [turnB_len _ _ (Nat.le_of_lt (first_lt _ hpl))]; exact Nat.le_refl _)]
  rfl
theorem Tryz.Order_c (r : Rg) (key : Bs) (bx : Boxes) (hm : Mk bx) (hl : r.wts.length ≤ 9223372036854775807) (hl2 : r.names.length ≤ 9223372036854775807) :
    PureCall Tryz.prog 24 [rgV r, .str key] bx (.tup [intsV (order r key).1, .int .i64 (order r key).2]) := by
  refine PureCall.wk (Tryz.ctr24 fun hb => ?_)
  have c0 := Tryz.ask_c r [key] bx hm hl hl2 (by simp)
  rw [askE_one] at c0
  by_cases he : asked r key ≠ 0
  · have hf : order r key = ([], asked r key) := by unfold order; rw [if_pos he]
    rw [hf]
    simp only [rgV, strsV, intsV, ptsV] at c0 ⊢
    simp [go_sem, Tryz.C24, hb]
    refine callK_pure c0 ?_
    simp [go_sem, he]
    refine ret_wk0 (by simp [go_sem]) ?_
    simp [go_sem]
    exact wk_tup2 (wk_nils _) (Wk.refl _)
  have he : asked r key = 0 := Decidable.not_not.1 he
  obtain ⟨hch, hkl, hpl, hpm, hso⟩ := asked0 he
  rw [order_eq he]
  have c1 : PureCall Tryz.prog 34 [.sl 1 (key.map byteV)] bx (.int .u32 (sum32 key)) := Tryz.sum32_c key bx (by omega)
  have c2 := Tryz.find_c r (sum32 key) bx (by omega) hso
  have hfl := first_lt (sum32 key) hpl
  generalize first r (sum32 key) = fi at *
  have hcl : (r.pts.drop fi ++ r.pts.take fi).length = r.pts.length := by simp; omega
  have hat : ∀ k (hk : k < r.pts.length), (r.pts.drop fi ++ r.pts.take fi)[k]? = some (r.pts[(fi + k) % r.pts.length]'(Nat.mod_lt _ (by omega))) := fun k hk => by
    rcases Nat.lt_or_ge (fi + k) r.pts.length with h | h
    · rw [List.getElem?_append_left (by simp; omega)]
      simp [Nat.mod_eq_of_lt h, h]
    · rw [List.getElem?_append_right (by simp; omega)]
      have h2 : (fi + k) % r.pts.length = fi + k - r.pts.length := by rw [Nat.mod_eq_sub_mod h, Nat.mod_eq_of_lt (by omega)]
      have h3 : k - (r.pts.length - fi) = fi + k - r.pts.length := by omega
      simp only [h2, List.length_drop, h3]
      rw [List.getElem?_take, if_pos (by omega), List.getElem?_eq_getElem (by omega)]
  have hsu : ∀ k (hk : k < r.pts.length), _ := fun k hk => uq_succ (r := r) (i := fi) hfl hk
  have hul := fun k => uq_len r fi k
  have c3 := fun (b : Nat) (ty : TypeId) (bx : Boxes) (h : bx b = some (.row ty 1 [ptsV (r.pts.drop fi), ptsV (r.pts.take fi)])) => Tryz.concat_c (r.pts.drop fi) (r.pts.take fi) h (by simp; omega) (by simp; omega)
  have hu0 : uq r fi 0 = [] := by simp [uq, uniq]
  have huN : List Int → Prop := fun l => True
  simp only [rgV, strsV, intsV, ptsV] at c0 c2 c3 ⊢
  rw [List.map_append, List.map_drop, List.map_take] at c3
  simp [go_sem, Tryz.C24, hb]
  refine callK_pure c0 ?_
  simp [go_sem, he, (by omega : key.length ≤ 9223372036854775807)]
  refine callK_pure c1 ?_
  simp [go_sem]
  refine callK_pure c2 ?_
  have hfle : fi ≤ r.pts.length := by omega
  have ht : List.take r.pts.length (r.pts.map ptV) = r.pts.map ptV := List.take_of_length_le (by simp)
  simp [go_sem, hb, hfle, ht]
  intro b hb'
  refine callK_pure (c3 b _ _ (upd_eq _ _ _)) ?_
  have hb2 : FinB (upd bx b (some (Box.row 24 1 [V.sl 2 (List.drop fi (List.map ptV r.pts)), V.sl 2 (List.take fi (List.map ptV r.pts))]))) := by simp [finB_upd, hb]
  have hxb : Ext bx (upd bx b (some (Box.row 24 1 [V.sl 2 (List.drop fi (List.map ptV r.pts)), V.sl 2 (List.take fi (List.map ptV r.pts))]))) := (Ext.refl _).new hb' _
  generalize upd bx b (some (Box.row 24 1 [V.sl 2 (List.drop fi (List.map ptV r.pts)), V.sl 2 (List.take fi (List.map ptV r.pts))])) = bx0 at *
  have hcl' : (r.pts.length - fi) + fi = r.pts.length := by omega
  have hatm : ∀ k (hk : k < r.pts.length), (List.drop fi (List.map ptV r.pts) ++ List.take fi (List.map ptV r.pts))[k]? = some (ptV (r.pts[(fi + k) % r.pts.length]'(Nat.mod_lt _ (by omega)))) := fun k hk => by
    have h := congrArg (Option.map ptV) (hat k hk)
    rw [← List.getElem?_map, List.map_append, List.map_drop, List.map_take] at h
    exact h
  have hll : (List.drop fi (List.map ptV r.pts) ++ List.take fi (List.map ptV r.pts)).length = r.pts.length := by simp; omega
  generalize (List.drop fi (List.map ptV r.pts) ++ List.take fi (List.map ptV r.pts)) = L at *
  simp [go_sem, hb2, hll]
  refine pw_for (ι := V × Boxes) r.pts.length (fun k p => Pl.Acc bx0 3 1 ((uq r fi k).map (.int .i64)) p.1 p.2)
    (fun k p => ⟨50, slk [(8, p.1), (32, .sl 2 L), (33, .int .i64 r.pts.length), (34, .int .i64 k)], p.2⟩) (.nils, bx0) (by rw [hu0]; exact acc_nil hb2 _ _) (cov_look (by simp [go_sem])) ?_ ?_
  · rintro k ⟨v, bx1⟩ hk ha N hN
    dsimp only at ha ⊢
    have hw := wr_succ (k := k) (by omega)
    have hg := hatm k hk
    have hs := uq_succ (r := r) (i := fi) hfl hk
    have hlu := hul k
    generalize r.pts[(fi + k) % r.pts.length]'(Nat.mod_lt _ (by omega)) = q at *
    generalize uq r fi (k + 1) = U1 at *
    generalize uq r fi k = U at *
    obtain ⟨qh, qb⟩ := q
    have cC := acc_frame (i := qb) ha (by decide) (r := .bool (decide (qb ∈ U))) rfl (fun bx => Tryz.containsN_c U qb bx (by omega))
    have hkL : k < L.length := by omega
    have hg2 : L[k] = V.agg [.int .u32 qh, .int .i64 qb] := by
      rw [List.getElem?_eq_getElem hkL] at hg; exact Option.some.inj hg
    simp [go_sem, Tryz.L24_0, hk, hkL, hg2, ha.fin]
    intro b10 hb10
    simp [go_sem, upd_self hb10, ha.cells, ha.strip, ha.live]
    refine callK_pure cC ?_
    simp [go_sem]
    refine ⟨fun hin => ?_, fun hin => ?_⟩
    · rw [if_neg hin] at hs
      refine ⟨ha.fin, ?_⟩
      refine Tryz.appI (es := U.map (.int .i64)) (news := [.int .i64 qb]) ha (Ext.refl _) ha.fin (by simp [go_sem, srcEls]) (by simp; omega) (by omega) ?_
      intro v' bx3 ha3
      simp [go_sem, ha3.cells]
      exact hN _ (v', bx3) (by dsimp only; rw [hs]; simpa using ha3) (cov_look (by simp [go_sem, hw]))
    · rw [if_pos hin] at hs
      exact hN _ (v, bx1) (by dsimp only; rw [hs]; exact ha) (cov_look (by simp [go_sem, hw]))
  · rintro ⟨v, bx1⟩ ha N
    dsimp only at ha ⊢
    simp [go_sem, Tryz.L24_0, ha.cells]
    refine ret_frz 2 (by simp [go_sem]) (hxb.trans ha.ext) ⟨?_, rfl⟩
    simp [go_sem]
    exact wk_tup2 (acc_frz (ha.base hxb) (by decide)) (Wk.refl _)
end Go.Proofs

/- Contracts: DeleteFunc of whole numbers. -/
set_option linter.unusedSimpArgs false
set_option linter.unusedVariables false
set_option maxRecDepth 100000
namespace Go.Proofs.Pol
open Go Go.Pl Go.Hs Go.Proofs

theorem upd_same {bx : Boxes} {b : Nat} {x : Box} (h : bx b = some x) : upd bx b (some x) = bx := by
  funext y
  by_cases e : y = b
  · subst e; rw [upd_eq, h]
  · rw [upd_ne _ _ e]
theorem Tryz.indexC_c (g : FuncId) (caps : List V) (p : Int → Bool) (l : List Int) (bx : Boxes) (hl : l.length ≤ 1000000) (hp : ∀ x, x ∈ l → ∀ bx, PureCall Tryz.prog g (.int .i64 x :: caps) bx (.bool (p x))) :
    PureCall Tryz.prog 68 [.sl 1 (l.map (.int .i64)), .fn (.func g) caps] bx (.int .i64 (fiI p l)) := by
  refine Tryz.ctr68 fun hb => ?_
  simp [go_sem, Tryz.C68, hb]
  refine pw_find l.length (hitAt p l) (fun k => ⟨19, slk [(0, .sl 1 (l.map (.int .i64))), (1, .fn (.func g) caps), (7, .int .i64 l.length), (8, .int .i64 k)], bx⟩) (cov_look (by simp [go_sem])) ?_ ?_
  · intro k hk hpre N hN
    have hw := wr_succ (k := k) (by omega)
    simp [go_sem, Tryz.L68_0, hk, hb]
    refine callK_pure (hp _ (List.getElem_mem hk) _) ?_
    simp [go_sem]
    refine ⟨fun h => ret_pure ?_ ?_, fun h => hN _ (by simp [hitAt_at hk, h]) (cov_look (by simp [go_sem, hw]))⟩ <;> simp [go_sem, fiI_hit hk h hpre]
  · intro hpre N
    simp [go_sem, Tryz.L68_0]
    refine ret_pure ?_ ?_ <;> simp [go_sem, fiI_miss hpre]
theorem Tryz.indexO_c {g : FuncId} {caps : List V} {p : Int → Bool} {l : List Int} {b : Nat} {bx : Boxes} (hl : l.length ≤ 1000000) (hp : ∀ x, x ∈ l → ∀ bx, PureCall Tryz.prog g (.int .i64 x :: caps) bx (.bool (p x)))
    (hb : bx b = some (.row 3 1 (l.map (.int .i64)))) (hc : caps.map (frz bx (fun _ => none) 0) = caps) :
    PureCall Tryz.prog 68 [.own b 1 0 l.length, .fn (.func g) caps] bx (.int .i64 (fiI p l)) := by
  refine PureCall.frame 1 (Tryz.indexC_c g caps p l _ hl hp) ?_ rfl
  rw [List.map_cons, frz_own1 (bx' := fun _ => none) hb rfl (by decide) (by simp), List.map_cons, List.map_nil, show frz bx (fun _ => none) 1 (.fn (.func g) caps) = .fn (.func g) (caps.map (frz bx (fun _ => none) 0)) from rfl, hc]
/-- What is kept of a list. -/
def kp (p : Int → Bool) (l : List Int) : List Int := l.filter fun x => !p x
theorem kp_succ (p : Int → Bool) {l : List Int} {j : Nat} (h : j < l.length) : kp p (l.take (j + 1)) = if p l[j] then kp p (l.take j) else kp p (l.take j) ++ [l[j]] := by
  unfold kp
  rw [take_snoc h, List.filter_append]
  cases hp : p l[j] <;> simp [hp]
theorem kp_le (p : Int → Bool) (l : List Int) (j : Nat) : (kp p (l.take j)).length ≤ j := by
  unfold kp
  refine Nat.le_trans (List.length_filter_le _ _) ?_
  rw [List.length_take]; omega
theorem kp_all {p : Int → Bool} {l : List Int} (h : fiI p l = -1) : kp p l = l := by
  unfold kp
  rw [List.filter_eq_self]
  intro x hx
  unfold fiI at h
  cases hf : l.findIdx? p with
  | none =>
    rw [List.findIdx?_eq_none_iff] at hf
    simp [hf x hx]
  | some i => rw [hf] at h; simp only at h; omega
theorem kp_first {p : Int → Bool} {l : List Int} {i : Nat} (h : fiI p l = i) : ∃ h : i < l.length, p l[i] = true ∧ kp p (l.take (i + 1)) = l.take i := by
  unfold fiI at h
  cases hf : l.findIdx? p with
  | none => rw [hf] at h; simp only at h; omega
  | some k =>
    rw [hf] at h; simp only at h
    obtain rfl : k = i := by omega
    obtain ⟨h1, h2, h3⟩ := List.findIdx?_eq_some_iff_getElem.1 hf
    refine ⟨h1, h2, ?_⟩
    rw [kp_succ p h1, if_pos h2]
    unfold kp
    rw [List.filter_eq_self]
    intro x hx
    obtain ⟨j, hj, rfl⟩ := List.getElem_of_mem hx
    have hj' : j < k := by rw [List.length_take] at hj; omega
    have := h3 j hj'
    simpa using this
theorem Tryz.delete_c {g : FuncId} {caps : List V} {p : Int → Bool} {l : List Int} {b : Nat} {bx : Boxes} (hl : l.length ≤ 1000000) (hp : ∀ x, x ∈ l → ∀ bx, PureCall Tryz.prog g (.int .i64 x :: caps) bx (.bool (p x)))
    (hb : bx b = some (.row 3 1 (l.map (.int .i64)))) (hc : ∀ bx : Boxes, caps.map (frz bx (fun _ => none) 0) = caps) :
    AbsCall Tryz.prog 104 [.own b 1 0 l.length, .fn (.func g) caps] bx fun r bx' => ∃ rest : List Int, r = .own b 1 0 (kp p l).length ∧ bx' = upd bx b (some (.row 3 1 ((kp p l ++ rest).map (.int .i64)))) := by
  refine Tryz.ctr104 fun hbx => ?_
  simp [go_sem, Tryz.C104, hbx]
  refine callK_pure (Tryz.indexO_c hl hp hb (hc bx)) ?_
  simp [go_sem]
  refine ⟨fun h => ?_, fun h => ?_⟩
  · refine ret_pure (by simp [go_sem]) ?_
    simp [go_sem, kp_all h]
    refine ⟨[], ?_⟩
    rw [List.map_nil, List.append_nil, upd_same hb]
  · obtain ⟨i, hi⟩ : ∃ i : Nat, fiI p l = i := by
      unfold fiI at h ⊢
      cases hf : l.findIdx? p with
      | none => rw [hf] at h; exact absurd rfl h
      | some i => exact ⟨i, rfl⟩
    obtain ⟨hil, hpi, hk0⟩ := kp_first hi
    have hw := wr_succ (k := i) (by omega)
    have e0 : upd bx b (some (.row 3 1 (l.map (.int .i64)))) = bx := upd_same hb
    simp only [hi]
    simp [go_sem, hw]
    refine pw_for (ι := List Int) (l.length - (i + 1)) (fun k L => L.length = l.length ∧ L.take (kp p (l.take (i + 1 + k))).length = kp p (l.take (i + 1 + k)) ∧ L.drop (i + 1 + k) = l.drop (i + 1 + k) ∧ (kp p (l.take (i + 1 + k))).length < i + 1 + k)
      (fun k L => ⟨42, slk [(0, .own b 1 0 l.length), (1, .fn (.func g) caps), (5, .int .i64 (kp p (l.take (i + 1 + k))).length), (6, .int .i64 (i + 1 + k : Nat))], upd bx b (some (.row 3 1 (L.map (.int .i64))))⟩) l ?_ ?_ ?_ ?_
    · rw [Nat.add_zero, hk0]
      have : (l.take i).length = i := by rw [List.length_take]; omega
      rw [this]
      exact ⟨rfl, rfl, rfl, by omega⟩
    · have : (l.take i).length = i := by rw [List.length_take]; omega
      rw [Nat.add_zero, hk0, this, e0]
      exact cov_look (by simp [go_sem])
    · rintro k L hk ⟨hL, hL1, hL2, hL3⟩ N hN
      have hj : i + 1 + k < l.length := by omega
      have en : i + 1 + (k + 1) = i + 1 + k + 1 := by omega
      simp only [en] at hN
      generalize i + 1 + k = j at *
      have hw1 := wr_succ (k := j) (by omega)
      have hw2 := wr_succ (k := (kp p (l.take j)).length) (by omega)
      have hs := kp_succ p hj
      have hjL : j < L.length := by omega
      have hg : L[j] = l[j] := by
        have h1 : (L.drop j)[0]'(by rw [List.length_drop]; omega) = (l.drop j)[0]'(by rw [List.length_drop]; omega) := by simp only [hL2]
        simpa using h1
      have hd : L.drop (j + 1) = l.drop (j + 1) := by
        have := congrArg (List.drop 1) hL2
        rwa [List.drop_drop, List.drop_drop] at this
      generalize hm : (kp p (l.take j)).length = m at *
      simp [go_sem, Tryz.L104_0, hbx, hjL, hj, hg]
      refine callK_pure (hp _ (List.getElem_mem hj) _) ?_
      simp [go_sem]
      refine ⟨fun hpj => ?_, fun hpj => ?_⟩
      · have hml : m < l.length := by omega
        have hmL : m < L.length := by omega
        rw [if_neg (by simp [hpj])] at hs
        have hsl : (kp p (l.take (j + 1))).length = m + 1 := by rw [hs, List.length_append, hm]; rfl
        have hset : (L.map (V.int .i64)).set m (.int .i64 l[j]) = (L.set m l[j]).map (V.int .i64) := by rw [List.map_set]
        simp [go_sem, hml, hmL, hset, -List.map_set, hw2]
        refine hN _ (L.set m l[j]) ⟨by rw [List.length_set, hL], ?_, ?_, by omega⟩ ?_
        · rw [hsl, hs, take_snoc (by rw [List.length_set]; omega), List.take_set_of_le (Nat.le_refl _), hL1, List.getElem_set_self]
        · rw [List.drop_set_of_lt (by omega), hd]
        · rw [hsl]
          exact cov_look (by simp [go_sem, hw1])
      · rw [if_pos hpj] at hs
        refine hN _ L ⟨hL, ?_, hd, by rw [hs]; omega⟩ ?_
        · rw [hs, hm, hL1]
        · rw [hs, hm]
          exact cov_look (by simp [go_sem, hw1])
    · rintro L ⟨hL, hL1, hL2, hL3⟩ N
      have en : i + 1 + (l.length - (i + 1)) = l.length := by omega
      simp only [en, List.take_length] at hL1 hL3 ⊢
      have hk2 : (kp p l).length ≤ l.length := by omega
      simp [go_sem, Tryz.L104_0, hbx, hk2, hL]
      unfold clearA
      simp [go_sem]
      refine ⟨.inr hL3, by omega, by omega, hk2, ret_pure (by simp [go_sem]) ?_⟩
      simp only [go_sem]
      refine ⟨List.replicate (l.length - (kp p l).length) 0, ?_⟩
      rw [← List.map_take, hL1, List.map_replicate, show (kp p l).length + (l.length - (kp p l).length) = L.length from by omega, List.drop_of_length_le (by rw [List.length_map]; exact Nat.le_refl _), List.append_nil]
/-- The closure of ordered. -/
theorem Tryz.out_c (c : List Int) (x : Int) (bx : Boxes) (hl : c.length ≤ 1000000) : PureCall Tryz.prog 105 [.int .i64 x, .ep (intsV c) 0] bx (.bool (!decide (x ∈ c))) := by
  refine Tryz.ctr105 fun hb => ?_
  have c0 := Tryz.containsN_c c x bx hl
  simp only [intsV] at c0 ⊢
  simp [go_sem, Tryz.C105, hb]
  refine callK_pure c0 ?_
  simp [go_sem]
  refine ret_pure (by simp [go_sem]) ?_
  simp [go_sem]
end Go.Proofs.Pol

/- Contracts: ordered. -/
set_option linter.unusedSimpArgs false
set_option linter.unusedVariables false
set_option maxRecDepth 100000
namespace Go.Proofs.Pol
open Go Go.Pl Go.Hs Go.Proofs

theorem Tryz.OrderA_c (r : Rg) (key : Bs) (bx : Boxes) (hm : Mk bx) (hl : r.wts.length ≤ 9223372036854775807) (hl2 : r.names.length ≤ 9223372036854775807) :
    AbsCall Tryz.prog 24 [rgV r, .str key] bx fun v bx' => ∃ u, v = .tup [u, .int .i64 (order r key).2] ∧ Pl.Acc bx 3 1 ((order r key).1.map (.int .i64)) u bx' := by
  refine Tryz.ctr24 fun hb => ?_
  have c0 := Tryz.ask_c r [key] bx hm hl hl2 (by simp)
  rw [askE_one] at c0
  by_cases he : asked r key ≠ 0
  · have hf : order r key = ([], asked r key) := by unfold order; rw [if_pos he]
    rw [hf]
    simp only [rgV, strsV, intsV, ptsV] at c0 ⊢
    simp [go_sem, Tryz.C24, hb]
    refine callK_pure c0 ?_
    simp [go_sem, he]
    refine ret_pure (by simp [go_sem]) ⟨.nils, ?_⟩
    simp [go_sem]
    exact acc_nil hb _ _
  have he : asked r key = 0 := Decidable.not_not.1 he
  obtain ⟨hch, hkl, hpl, hpm, hso⟩ := asked0 he
  rw [order_eq he]
  have c1 : PureCall Tryz.prog 34 [.sl 1 (key.map byteV)] bx (.int .u32 (sum32 key)) := Tryz.sum32_c key bx (by omega)
  have c2 := Tryz.find_c r (sum32 key) bx (by omega) hso
  have hfl := first_lt (sum32 key) hpl
  generalize first r (sum32 key) = fi at *
  have hcl : (r.pts.drop fi ++ r.pts.take fi).length = r.pts.length := by simp; omega
  have hat : ∀ k (hk : k < r.pts.length), (r.pts.drop fi ++ r.pts.take fi)[k]? = some (r.pts[(fi + k) % r.pts.length]'(Nat.mod_lt _ (by omega))) := fun k hk => by
    rcases Nat.lt_or_ge (fi + k) r.pts.length with h | h
    · rw [List.getElem?_append_left (by simp; omega)]
      simp [Nat.mod_eq_of_lt h, h]
    · rw [List.getElem?_append_right (by simp; omega)]
      have h2 : (fi + k) % r.pts.length = fi + k - r.pts.length := by rw [Nat.mod_eq_sub_mod h, Nat.mod_eq_of_lt (by omega)]
      have h3 : k - (r.pts.length - fi) = fi + k - r.pts.length := by omega
      simp only [h2, List.length_drop, h3]
      rw [List.getElem?_take, if_pos (by omega), List.getElem?_eq_getElem (by omega)]
  have hsu : ∀ k (hk : k < r.pts.length), _ := fun k hk => uq_succ (r := r) (i := fi) hfl hk
  have hul := fun k => uq_len r fi k
  have c3 := fun (b : Nat) (ty : TypeId) (bx : Boxes) (h : bx b = some (.row ty 1 [ptsV (r.pts.drop fi), ptsV (r.pts.take fi)])) => Tryz.concat_c (r.pts.drop fi) (r.pts.take fi) h (by simp; omega) (by simp; omega)
  have hu0 : uq r fi 0 = [] := by simp [uq, uniq]
  have huN : List Int → Prop := fun l => True
  simp only [rgV, strsV, intsV, ptsV] at c0 c2 c3 ⊢
  rw [List.map_append, List.map_drop, List.map_take] at c3
  simp [go_sem, Tryz.C24, hb]
  refine callK_pure c0 ?_
  simp [go_sem, he, (by omega : key.length ≤ 9223372036854775807)]
  refine callK_pure c1 ?_
  simp [go_sem]
  refine callK_pure c2 ?_
  have hfle : fi ≤ r.pts.length := by omega
  have ht : List.take r.pts.length (r.pts.map ptV) = r.pts.map ptV := List.take_of_length_le (by simp)
  simp [go_sem, hb, hfle, ht]
  intro b hb'
  refine callK_pure (c3 b _ _ (upd_eq _ _ _)) ?_
  have hb2 : FinB (upd bx b (some (Box.row 24 1 [V.sl 2 (List.drop fi (List.map ptV r.pts)), V.sl 2 (List.take fi (List.map ptV r.pts))]))) := by simp [finB_upd, hb]
  have hxb : Ext bx (upd bx b (some (Box.row 24 1 [V.sl 2 (List.drop fi (List.map ptV r.pts)), V.sl 2 (List.take fi (List.map ptV r.pts))]))) := (Ext.refl _).new hb' _
  generalize upd bx b (some (Box.row 24 1 [V.sl 2 (List.drop fi (List.map ptV r.pts)), V.sl 2 (List.take fi (List.map ptV r.pts))])) = bx0 at *
  have hcl' : (r.pts.length - fi) + fi = r.pts.length := by omega
  have hatm : ∀ k (hk : k < r.pts.length), (List.drop fi (List.map ptV r.pts) ++ List.take fi (List.map ptV r.pts))[k]? = some (ptV (r.pts[(fi + k) % r.pts.length]'(Nat.mod_lt _ (by omega)))) := fun k hk => by
    have h := congrArg (Option.map ptV) (hat k hk)
    rw [← List.getElem?_map, List.map_append, List.map_drop, List.map_take] at h
    exact h
  have hll : (List.drop fi (List.map ptV r.pts) ++ List.take fi (List.map ptV r.pts)).length = r.pts.length := by simp; omega
  generalize (List.drop fi (List.map ptV r.pts) ++ List.take fi (List.map ptV r.pts)) = L at *
  simp [go_sem, hb2, hll]
  refine pw_for (ι := V × Boxes) r.pts.length (fun k p => Pl.Acc bx0 3 1 ((uq r fi k).map (.int .i64)) p.1 p.2)
    (fun k p => ⟨50, slk [(8, p.1), (32, .sl 2 L), (33, .int .i64 r.pts.length), (34, .int .i64 k)], p.2⟩) (.nils, bx0) (by rw [hu0]; exact acc_nil hb2 _ _) (cov_look (by simp [go_sem])) ?_ ?_
  · rintro k ⟨v, bx1⟩ hk ha N hN
    dsimp only at ha ⊢
    have hw := wr_succ (k := k) (by omega)
    have hg := hatm k hk
    have hs := uq_succ (r := r) (i := fi) hfl hk
    have hlu := hul k
    generalize r.pts[(fi + k) % r.pts.length]'(Nat.mod_lt _ (by omega)) = q at *
    generalize uq r fi (k + 1) = U1 at *
    generalize uq r fi k = U at *
    obtain ⟨qh, qb⟩ := q
    have cC := acc_frame (i := qb) ha (by decide) (r := .bool (decide (qb ∈ U))) rfl (fun bx => Tryz.containsN_c U qb bx (by omega))
    have hkL : k < L.length := by omega
    have hg2 : L[k] = V.agg [.int .u32 qh, .int .i64 qb] := by
      rw [List.getElem?_eq_getElem hkL] at hg; exact Option.some.inj hg
    simp [go_sem, Tryz.L24_0, hk, hkL, hg2, ha.fin]
    intro b10 hb10
    simp [go_sem, upd_self hb10, ha.cells, ha.strip, ha.live]
    refine callK_pure cC ?_
    simp [go_sem]
    refine ⟨fun hin => ?_, fun hin => ?_⟩
    · rw [if_neg hin] at hs
      refine ⟨ha.fin, ?_⟩
      refine Tryz.appI (es := U.map (.int .i64)) (news := [.int .i64 qb]) ha (Ext.refl _) ha.fin (by simp [go_sem, srcEls]) (by simp; omega) (by omega) ?_
      intro v' bx3 ha3
      simp [go_sem, ha3.cells]
      exact hN _ (v', bx3) (by dsimp only; rw [hs]; simpa using ha3) (cov_look (by simp [go_sem, hw]))
    · rw [if_pos hin] at hs
      exact hN _ (v, bx1) (by dsimp only; rw [hs]; exact ha) (cov_look (by simp [go_sem, hw]))
  · rintro ⟨v, bx1⟩ ha N
    dsimp only at ha ⊢
    simp [go_sem, Tryz.L24_0, ha.cells]
    refine ret_pure (by simp [go_sem]) ⟨v, ?_⟩
    simp [go_sem]
    exact ha.base hxb

/-- What is wrong with what is asked of a key. -/
def ordE (l : List Bk) (r : Rg) (percent skip : Int) : Int :=
  if askB l skip ≠ 0 then askB l skip else if check r ≠ 0 then check r else if (r.names.length ≠ l.length) ∨ percent < 100 ∨ 1000 < percent then 2 else 0
def canI (l : List Bk) (skip : Int) : List Int := (canR l skip).map fun (n : Nat) => (n : Int)
/-- Those of an order that can be chosen. -/
def leftL (l : List Bk) (r : Rg) (key : Bs) (skip : Int) : List Int := (order r key).1.filter fun i => decide (i ∈ canI l skip)
def ordered (l : List Bk) (r : Rg) (key : Bs) (percent skip : Int) : List Int × Int :=
  if ordE l r percent skip ≠ 0 then ([], ordE l r percent skip) else (leftL l r key skip, if (order r key).2 = 0 ∧ leftL l r key skip = [] then 4 else (order r key).2)
theorem order_err {r : Rg} {key : Bs} (h : (order r key).2 ≠ 0) : (order r key).1 = [] := by
  unfold order at h ⊢
  split
  · rfl
  · rename_i hh; rw [if_neg hh] at h; exact absurd rfl h
theorem leftL_err {l : List Bk} {r : Rg} {key : Bs} {skip : Int} (h : (order r key).2 ≠ 0) : leftL l r key skip = [] := by
  unfold leftL; rw [order_err h]; rfl
theorem order_len {r : Rg} {key : Bs} : (order r key).1.length ≤ 32000 := by
  by_cases he : asked r key = 0
  · rw [order_eq he]
    obtain ⟨_, _, _, hpm, _⟩ := asked0 he
    have := uq_len r (first r (sum32 key)) r.pts.length
    dsimp only; omega
  · unfold order; rw [if_pos he]; exact Nat.zero_le _
theorem leftL_len {l : List Bk} {r : Rg} {key : Bs} {skip : Int} : (leftL l r key skip).length ≤ 32000 := Nat.le_trans (List.length_filter_le _ _) order_len
theorem canI_ix (l : List Bk) (skip : Int) : V.sl 1 ((canR l skip).map ixV) = intsV (canI l skip) := by
  simp [intsV, canI, ixV, Function.comp_def]
theorem Tryz.delete_n_c (g : FuncId) (caps : List V) (bx : Boxes) :
    PureCall Tryz.prog 104 [.nils, .fn (.func g) caps] bx .nils := by
  refine Tryz.ctr104 fun hbx => ?_
  simp [go_sem, Tryz.C104, hbx]
  have c0 : PureCall Tryz.prog 68 [.nils, .fn (.func g) caps] bx (.int .i64 (fiI (fun _ => true) [])) :=
    AbsCall.args (Tryz.indexC_c g caps (fun _ => true) [] bx (by decide) (fun x hx => nomatch hx)) rfl fun j c c' h1 h2 => by
      rcases j with _ | _ | j
      · cases h1; cases h2; exact wk_nils _
      · cases h1; cases h2; exact Wk.refl _
      · simp at h1
  refine callK_pure c0 ?_
  simp [go_sem, fiI]
  exact ret_pure (by simp [go_sem]) (by simp [go_sem])
theorem kp_left (l : List Bk) (r : Rg) (key : Bs) (skip : Int) : kp (fun x => !decide (x ∈ canI l skip)) (order r key).1 = leftL l r key skip := by
  simp [kp, leftL]
theorem frz_pre {bx bx' : Boxes} {b sz m : Nat} {ty : TypeId} {es rest : List V} (h : bx b = some (.row ty sz (es ++ rest))) (h' : bx' b = none) (hs : 0 < sz) (hn : m = es.length) : frz bx bx' 1 (.own b sz 0 m) = .sl sz es := by
  subst hn
  simp only [frz, h, h']
  rw [if_pos ⟨trivial, hs, by rw [List.length_append]; omega⟩, List.drop_zero, List.take_left]
  simp [frz]
theorem Tryz.ordered_c (l : List Bk) (r : Rg) (key : Bs) (percent skip : Int) (bx : Boxes) (hm : Mk bx) (hl0 : l.length ≤ 50) (hl : r.wts.length ≤ 9223372036854775807) (hl2 : r.names.length ≤ 9223372036854775807) :
    PureCall Tryz.prog 65 [.sl 5 (l.map bkV), rgV r, .str key, .int .i64 percent, .int .i64 skip] bx (.tup [intsV (ordered l r key percent skip).1, .int .i64 (ordered l r key percent skip).2]) := by
  refine PureCall.wk (Tryz.ctr65 fun hb => ?_)
  have c0 := ask_c l skip bx (by omega)
  have c1 := Tryz.check_c r bx hm hl hl2
  have c2 := outside_c percent 100 1000 bx
  have c3 := Tryz.OrderA_c r key bx hm hl hl2
  simp only [rgV, strsV, intsV, ptsV] at c1 c3 ⊢
  by_cases h0 : askB l skip = 0
  case neg =>
    have hr : ordered l r key percent skip = ([], askB l skip) := by simp [ordered, ordE, h0]
    rw [hr]
    simp [go_sem, Tryz.C65, hb]
    refine callK_pure c0 ?_
    simp [go_sem, h0]
    refine ret_wk0 (by simp [go_sem]) ?_
    simp [go_sem]
    exact wk_tup2 (wk_nils _) (Wk.refl _)
  by_cases h1 : check r = 0
  case neg =>
    have hr : ordered l r key percent skip = ([], check r) := by simp [ordered, ordE, h0, h1]
    rw [hr]
    simp [go_sem, Tryz.C65, hb]
    refine callK_pure c0 ?_
    simp [go_sem, h0]
    refine callK_pure c1 ?_
    simp [go_sem, h1]
    refine ret_wk0 (by simp [go_sem]) ?_
    simp [go_sem]
    exact wk_tup2 (wk_nils _) (Wk.refl _)
  simp [go_sem, Tryz.C65, hb]
  refine callK_pure c0 ?_
  simp [go_sem, h0]
  refine callK_pure c1 ?_
  simp [go_sem, h1]
  by_cases hn : r.names.length = l.length
  case neg =>
    have hr : ordered l r key percent skip = ([], 2) := by simp [ordered, ordE, h0, h1, hn]
    rw [hr]
    have hn' : ¬ ((r.names.length : Int) = l.length) := by omega
    simp only [hn', decide_false]
    refine gK_off (.bool false) (by simp [go_sem]) ?_
    simp [go_sem, hn']
    refine ret_wk0 (by simp [go_sem]) ?_
    simp [go_sem]
    exact wk_tup2 (wk_nils _) (Wk.refl _)
  have hn' : ((r.names.length : Int) = l.length) := by omega
  refine gK_pure c2 (by simp [hn']) (by simp [go_sem, hn']) ?_
  simp [go_sem, hn']
  have c4 := collect_c 109 _ l.length _ (fun k => (canL l skip k).map fun i => Int.ofNat i) bx (candit l skip hl0) (by omega) (by simp [canL]) fun k hk => by
    simp only [canX, List.getElem?_eq_getElem hk, canL_succ l skip k hk]
    refine ⟨fun h => ?_, fun args h => ?_⟩
    · simp at h; simp [h]
    · simp only [Option.ite_none_right_eq_some, Option.some.injEq] at h
      obtain ⟨h1, rfl⟩ := h
      exact ⟨k, rfl, by simp [h1]⟩
  have hci : V.sl 1 (((canL l skip l.length).map fun i => Int.ofNat i).map (.int .i64)) = intsV (canI l skip) := by
    simp [intsV, canI, canR, h0]
  refine ⟨fun hp => ?_, fun hp1 hp2 => ?_⟩
  · have hr : ordered l r key percent skip = ([], 2) := by
      have : r.names.length ≠ l.length ∨ percent < 100 ∨ 1000 < percent := by omega
      simp [ordered, ordE, h0, h1, this]
    rw [hr]
    refine ret_wk0 (by simp [go_sem]) ?_
    simp [go_sem]
    exact wk_tup2 (wk_nils _) (Wk.refl _)
  · have hE : ordE l r percent skip = 0 := by
      have : ¬ (r.names.length ≠ l.length ∨ percent < 100 ∨ 1000 < percent) := by omega
      simp [ordE, h0, h1, this]
    have hr : ordered l r key percent skip = (leftL l r key skip, if (order r key).2 = 0 ∧ leftL l r key skip = [] then 4 else (order r key).2) := by
      simp [ordered, hE]
    rw [hr]
    refine callK_pure (cand_c ..) ?_
    simp [go_sem]
    refine callK_pure c4 ?_
    rw [hci]
    simp [go_sem, intsV]
    refine ⟨hb, fun b1 hb1 => ?_⟩
    rw [upd_self hb1]
    refine callK_abs c3 ?_
    rintro _ bx1 ⟨u, rfl, ha⟩
    have hcl : (canI l skip).length ≤ 1000000 := by
      unfold canI; rw [List.length_map]
      exact Nat.le_trans canR_le (by omega)
    have hol := order_len (r := r) (key := key)
    have hkp := kp_left l r key skip
    have hle := fun h => leftL_err (l := l) (r := r) (key := key) (skip := skip) h
    have hp : ∀ x (bx : Boxes), PureCall Tryz.prog 105 (.int .i64 x :: [(V.sl 1 (List.map (V.int .i64) (canI l skip))).ep 0]) bx (.bool (!decide (x ∈ canI l skip))) := fun x bx => Tryz.out_c (canI l skip) x bx hcl
    generalize leftL l r key skip = LL at *
    rcases ha.is with ⟨h5, rfl⟩ | ⟨b, hb5, rfl, hb6⟩
    · have h6 : (order r key).1 = [] := by simpa using h5
      have h7 : LL = [] := by rw [← hkp, h6]; rfl
      subst h7
      simp [go_sem]
      refine callK_pure (Tryz.delete_n_c _ _ bx1) ?_
      · simp [go_sem]
        refine ⟨fun e1 => ?_, fun e1 => ?_⟩
        · refine ret_wk (by simp [go_sem]) ha.ext ?_
          simp [go_sem, e1]
          exact wk_tup2 (wk_nils _) (Wk.refl _)
        · refine ret_wk (by simp [go_sem]) ha.ext ?_
          simp [go_sem, e1]
          exact wk_tup2 (wk_nils _) (Wk.refl _)
    · rw [List.length_map]
      simp [go_sem]
      refine callK_abs (Tryz.delete_c (by omega) (fun x _ => hp x) (by simpa using hb6) (fun _ => rfl)) ?_
      rintro _ _ ⟨rest, rfl, rfl⟩
      rw [hkp]
      simp [go_sem]
      have hx : Ext bx (upd bx1 b (some (.row 3 1 (LL.map (.int .i64) ++ rest.map (.int .i64))))) := ha.ext.upd_own hb5 _
      have hf : Wk (frz (upd bx1 b (some (.row 3 1 (LL.map (.int .i64) ++ rest.map (.int .i64))))) bx 1 (.own b 1 0 LL.length)) (.sl 1 (LL.map (.int .i64))) := by
        rw [frz_pre (es := LL.map (.int .i64)) (rest := rest.map (.int .i64)) (upd_eq _ _ _) hb5 (by decide) (by simp)]
        exact Wk.refl _
      generalize upd bx1 b (some (.row 3 1 (LL.map (.int .i64) ++ rest.map (.int .i64)))) = bx2 at *
      refine ⟨fun e1 e2 => ?_, fun e1 => ?_⟩
      · rw [if_pos ⟨e1, e2⟩]
        refine ret_frz 2 (by simp [go_sem]) hx ⟨?_, rfl⟩
        simp only [go_sem]
        exact wk_tup2 hf (Wk.refl _)
      · rw [if_neg (fun h => e1 h.1 h.2)]
        refine ret_frz 2 (by simp [go_sem]) hx ⟨?_, rfl⟩
        simp only [go_sem]
        exact wk_tup2 hf (Wk.refl _)
end Go.Proofs.Pol

/- Contracts: Hashed and Bounded. -/
set_option linter.unusedSimpArgs false
set_option linter.unusedVariables false
set_option maxRecDepth 100000
namespace Go.Proofs.Pol
open Go Go.Pl Go.Hs Go.Proofs

theorem sum_le_sum (wt ac : Int → Int) (A B : Int) : ∀ (o : List Int), (∀ i, i ∈ o → A * wt i ≤ ac i * B) → A * (o.map wt).sum ≤ (o.map ac).sum * B
  | [], _ => by simp
  | x :: o, h => by
    have h1 := h x (by simp)
    have h2 := sum_le_sum wt ac A B o fun i hi => h i (by simp [hi])
    rw [List.map_cons, List.map_cons, List.sum_cons, List.sum_cons, Int.mul_add, Int.add_mul]
    omega
theorem sum_pos (wt : Int → Int) : ∀ (o : List Int), (∀ i, i ∈ o → 0 < wt i) → (o.length : Int) ≤ (o.map wt).sum
  | [], _ => by simp
  | x :: o, h => by
    have h1 := h x (by simp)
    have h2 := sum_pos wt o fun i hi => h i (by simp [hi])
    rw [List.map_cons, List.sum_cons, List.length_cons]
    omega
theorem sum_rng (wt : Int → Int) (M : Int) : ∀ (o : List Int), (∀ i, i ∈ o → 0 ≤ wt i ∧ wt i ≤ M) → 0 ≤ (o.map wt).sum ∧ (o.map wt).sum ≤ M * o.length
  | [], _ => by simp
  | x :: o, h => by
    have h1 := h x (by simp)
    have h2 := sum_rng wt M o fun i hi => h i (by simp [hi])
    rw [List.map_cons, List.sum_cons, List.length_cons, Int.natCast_add, Int.mul_add]
    omega
/-- One of some backends always lies below its bound. -/
theorem some_below (wt ac : Int → Int) (o : List Int) (p : Int) (hne : o ≠ []) (hp : 100 ≤ p) (hok : ∀ i, i ∈ o → 0 < wt i ∧ 0 ≤ ac i) :
    ∃ i, i ∈ o ∧ ac i * 100 * (o.map wt).sum < p * ((o.map ac).sum + 1) * wt i := by
  refine Classical.byContradiction fun hn => ?_
  have h1 : ∀ i, i ∈ o → p * ((o.map ac).sum + 1) * wt i ≤ ac i * (100 * (o.map wt).sum) := fun i hi => by
    rw [← Int.mul_assoc (ac i)]
    exact Int.not_lt.1 fun h => hn ⟨i, hi, h⟩
  have h2 := sum_le_sum wt ac _ _ o h1
  have h3 := sum_pos wt o fun i hi => (hok i hi).1
  have h4 : 0 < o.length := List.length_pos_iff.2 hne
  have h5 : 0 ≤ (o.map ac).sum := by
    clear h1 h2 h3 h4 hn hne
    induction o with
    | nil => simp
    | cons x o ih =>
      have h1 := hok x (by simp)
      have h2 := ih fun i hi => hok i (by simp [hi])
      rw [List.map_cons, List.sum_cons]
      omega
  generalize (o.map ac).sum = a at *
  generalize (o.map wt).sum = w at *
  have h6 : 100 * (a + 1) * w ≤ p * (a + 1) * w := Int.mul_le_mul_of_nonneg_right (Int.mul_le_mul_of_nonneg_right hp (by omega)) (by omega)
  have h7 : 100 * (a + 1) * w = 100 * (a * w) + 100 * w := by rw [Int.mul_add, Int.add_mul, Int.mul_assoc]; omega
  have h8 : a * (100 * w) = 100 * (a * w) := by rw [← Int.mul_assoc, Int.mul_comm a 100, Int.mul_assoc]
  omega
/-- The bound, rounded up, and the fraction. -/
theorem below_bound (x n d : Int) (hd : 0 < d) : x < (n + d - 1) / d ↔ x * d < n := by
  have h1 := Int.emod_add_mul_ediv (n + d - 1) d
  have h2 := Int.emod_nonneg (n + d - 1) (by omega : d ≠ 0)
  have h3 := Int.emod_lt_of_pos (n + d - 1) hd
  generalize (n + d - 1) / d = q at *
  generalize (n + d - 1) % d = m at *
  constructor
  · intro h
    have h4 : d * (x + 1) ≤ d * q := Int.mul_le_mul_of_nonneg_left (by omega) (by omega)
    rw [Int.mul_add, Int.mul_comm d x] at h4
    omega
  · intro h
    refine Classical.byContradiction fun hh => ?_
    have h4 : d * q ≤ d * x := Int.mul_le_mul_of_nonneg_left (by omega) (by omega)
    rw [Int.mul_comm d x] at h4
    omega

theorem ordered_ok {l : List Bk} {r : Rg} {key : Bs} {percent skip : Int} (h : (ordered l r key percent skip).2 = 0) :
    ordE l r percent skip = 0 ∧ (ordered l r key percent skip).1 = leftL l r key skip ∧ leftL l r key skip ≠ [] ∧ (order r key).2 = 0 := by
  unfold ordered at h ⊢
  by_cases h0 : ordE l r percent skip = 0
  · rw [if_neg (by simp [h0])] at h ⊢
    dsimp only at h ⊢
    refine ⟨h0, rfl, ?_⟩
    by_cases h1 : (order r key).2 = 0
    · refine ⟨fun h2 => ?_, h1⟩
      rw [if_pos ⟨h1, h2⟩] at h; cases h
    · rw [if_neg (fun hh => h1 hh.1)] at h; exact absurd h h1
  · rw [if_pos h0] at h; exact absurd h h0
theorem ordE0 {l : List Bk} {r : Rg} {percent skip : Int} (h : ordE l r percent skip = 0) : askB l skip = 0 ∧ check r = 0 ∧ r.names.length = l.length ∧ 100 ≤ percent ∧ percent ≤ 1000 := by
  unfold ordE at h
  split at h
  · rename_i hh; exact absurd h hh
  · split at h
    · rename_i hh; exact absurd h hh
    · split at h
      · cases h
      · rename_i h1 h2 h3
        exact ⟨Decidable.not_not.1 h1, Decidable.not_not.1 h2, by omega, by omega, by omega⟩
theorem leftL_ok {l : List Bk} {r : Rg} {key : Bs} {skip : Int} (ha : askB l skip = 0) : ∀ i, i ∈ leftL l r key skip → ∃ n : Nat, i = n ∧ n ∈ canR l skip ∧ n < l.length ∧ okB (bk l n) := by
  intro i hi
  unfold leftL at hi
  obtain ⟨_, h2⟩ := List.mem_filter.1 hi
  have h3 : i ∈ canI l skip := by simpa using h2
  unfold canI at h3
  obtain ⟨n, hn, rfl⟩ := List.mem_map.1 h3
  exact ⟨n, rfl, hn, canR_lt n hn, canR_ok ha n hn⟩
def hashed (l : List Bk) (r : Rg) (key : Bs) (skip : Int) : Int × Int :=
  if (ordered l r key 100 skip).2 ≠ 0 then (0, (ordered l r key 100 skip).2) else ((ordered l r key 100 skip).1.headD 0, 0)
def wtI (l : List Bk) (i : Int) : Int := (bk l i.toNat).wt
def acI (l : List Bk) (i : Int) : Int := (bk l i.toNat).ac
def sumW (l : List Bk) (o : List Int) : Int := (o.map (wtI l)).sum
def sumA (l : List Bk) (o : List Int) : Int := (o.map (acI l)).sum
/-- Whether a backend lies below its bound. -/
def below (l : List Bk) (percent w a : Int) (i : Int) : Bool := decide (acI l i * 100 * w < percent * (a + 1) * wtI l i)
def bounded (l : List Bk) (r : Rg) (key : Bs) (percent skip : Int) : Int × Int :=
  if (ordered l r key percent skip).2 ≠ 0 then (0, (ordered l r key percent skip).2)
  else (((ordered l r key percent skip).1.find? (below l percent (sumW l (ordered l r key percent skip).1) (sumA l (ordered l r key percent skip).1))).getD 0, 0)
theorem Tryz.Hashed_c (l : List Bk) (r : Rg) (key : Bs) (skip : Int) (bx : Boxes) (hm : Mk bx) (hl0 : l.length ≤ 50) (hl : r.wts.length ≤ 9223372036854775807) (hl2 : r.names.length ≤ 9223372036854775807) :
    PureCall Tryz.prog 28 [.sl 5 (l.map bkV), rgV r, .str key, .int .i64 skip] bx (.tup [.int .i64 (hashed l r key skip).1, .int .i64 (hashed l r key skip).2]) := by
  refine Tryz.ctr28 fun hb => ?_
  have c0 := Tryz.ordered_c l r key 100 skip bx hm hl0 hl hl2
  have hk := ordered_ok (l := l) (r := r) (key := key) (percent := 100) (skip := skip)
  unfold hashed
  simp only [rgV, strsV, intsV, ptsV] at c0 ⊢
  generalize ordered l r key 100 skip = R at *
  simp [go_sem, Tryz.C28, hb]
  refine callK_pure c0 ?_
  obtain ⟨o, e⟩ := R
  dsimp only at *
  simp [go_sem]
  refine ⟨fun h => ret_pure (by simp [go_sem]) (by simp [go_sem, h]), fun h => ?_⟩
  · obtain ⟨_, rfl, h2, _⟩ := hk h
    generalize leftL l r key skip = LL at *
    obtain ⟨x, LL, rfl⟩ := List.exists_cons_of_ne_nil h2
    simp [go_sem]
    exact ret_pure (by simp [go_sem]) (by simp [go_sem, h])
theorem Tryz.bound_c (x : Bk) (percent a w : Int) (bx : Boxes) (hx : okB x) (hp1 : 100 ≤ percent) (hp2 : percent ≤ 1000) (ha1 : 0 ≤ a) (ha2 : a ≤ 400000000) (hw1 : 0 < w) (hw2 : w ≤ 4000000) :
    PureCall Tryz.prog 67 [bkV x, .ep (.int .i64 percent) 0, .ep (.int .i64 a) 0, .ep (.int .i64 w) 0] bx (.int .i64 ((percent * (a + 1) * x.wt + 100 * w - 1) / (100 * w))) := by
  refine Tryz.ctr67 fun hb => ?_
  simp [go_sem, Tryz.C67, bkV, hb]
  obtain ⟨h1, h2, h3, h4⟩ := hx
  have hP1 : 0 ≤ percent * (a + 1) := Int.mul_nonneg (by omega) (by omega)
  have hP2 : percent * (a + 1) ≤ 1000 * 400000001 := Int.mul_le_mul hp2 (by omega) (by omega) (by omega)
  have hN1 : 0 ≤ percent * (a + 1) * x.wt := Int.mul_nonneg hP1 (by omega)
  have hN2 : percent * (a + 1) * x.wt ≤ 1000 * 400000001 * 100 := Int.mul_le_mul hP2 (by omega) (by omega) (by omega)
  rw [wr64 (n := a + 1) (by omega), wr64 (n := percent * (a + 1)) (by omega), wr64 (n := percent * (a + 1) * x.wt) (by omega), wr64 (n := 100 * w) (by omega)]
  generalize percent * (a + 1) * x.wt = N at *
  rw [wr64 (n := N + 100 * w) (by omega), wr64 (n := N + 100 * w - 1) (by omega), Int.tdiv_eq_ediv_of_nonneg (by omega)]
  have q1 : 0 ≤ (N + 100 * w - 1) / (100 * w) := Int.ediv_nonneg (by omega) (by omega)
  have q2 : (N + 100 * w - 1) / (100 * w) ≤ N + 100 * w - 1 := Int.ediv_le_self _ (by omega)
  rw [wr64 (n := (N + 100 * w - 1) / (100 * w)) (by omega)]
  exact ⟨by omega, ret_pure (by simp [go_sem]) (by simp [go_sem])⟩
theorem Tryz.below_c (l : List Bk) (i percent a w : Int) (bx : Boxes) (hi : ∃ n : Nat, i = n ∧ n < l.length ∧ okB (bk l n)) (hp1 : 100 ≤ percent) (hp2 : percent ≤ 1000) (ha1 : 0 ≤ a) (ha2 : a ≤ 400000000) (hw1 : 0 < w) (hw2 : w ≤ 4000000) :
    PureCall Tryz.prog 69 [.int .i64 i, .ep (.sl 5 (l.map bkV)) 0, .ep (.fn (.func 67) [.ep (.int .i64 percent) 0, .ep (.int .i64 a) 0, .ep (.int .i64 w) 0]) 0] bx (.bool (below l percent w a i)) := by
  refine Tryz.ctr69 fun hb => ?_
  obtain ⟨n, rfl, hn, hok⟩ := hi
  have hbk := bk_get hn
  have c0 := Tryz.bound_c (bk l n) percent a w bx hok hp1 hp2 ha1 ha2 hw1 hw2
  have hbb := below_bound (bk l n).ac (percent * (a + 1) * (bk l n).wt) (100 * w) (by omega)
  have hbe : below l percent w a n = decide ((bk l n).ac < (percent * (a + 1) * (bk l n).wt + 100 * w - 1) / (100 * w)) := by
    unfold below acI wtI
    rw [Int.toNat_natCast, Bool.eq_iff_iff, decide_eq_true_iff, decide_eq_true_iff, hbb, Int.mul_assoc (bk l n).ac]
  rw [hbe]
  generalize (percent * (a + 1) * (bk l n).wt + 100 * w - 1) / (100 * w) = B at *
  rw [hbk] at *
  generalize hx : l[n] = x at *
  obtain ⟨wt, ac, cu, up, op⟩ := x
  simp only [bkV] at c0
  simp [go_sem, Tryz.C69, hb, hn, hx, bkV]
  refine callK_pure c0 ?_
  simp [go_sem]
  exact ret_pure (by simp [go_sem]) (by simp [go_sem])
theorem sumW_rng {l : List Bk} {o : List Int} (h : ∀ i, i ∈ o → ∃ n : Nat, i = n ∧ n < l.length ∧ okB (bk l n)) (k : Nat) : 0 ≤ sumW l (o.take k) ∧ sumW l (o.take k) ≤ 100 * k ∧ 0 ≤ sumA l (o.take k) ∧ sumA l (o.take k) ≤ 10000 * k := by
  have hm : ∀ i, i ∈ o.take k → 0 < wtI l i ∧ wtI l i ≤ 100 ∧ 0 ≤ acI l i ∧ acI l i ≤ 10000 := fun i hi => by
    obtain ⟨n, rfl, _, hok⟩ := h i (List.mem_of_mem_take hi)
    exact hok
  have h1 := sum_rng (wtI l) 100 (o.take k) fun i hi => by have := hm i hi; omega
  have h2 := sum_rng (acI l) 10000 (o.take k) fun i hi => by have := hm i hi; omega
  have h3 : (o.take k).length ≤ k := by rw [List.length_take]; omega
  unfold sumW sumA
  omega
theorem sum_snoc (l : List Bk) {o : List Int} {k : Nat} (h : k < o.length) : sumW l (o.take (k + 1)) = sumW l (o.take k) + wtI l o[k] ∧ sumA l (o.take (k + 1)) = sumA l (o.take k) + acI l o[k] := by
  unfold sumW sumA
  rw [take_snoc h, List.map_append, List.sum_append, List.map_append, List.sum_append]
  simp
theorem find_fi {p : Int → Bool} {o : List Int} (h : ∃ i, i ∈ o ∧ p i = true) : ∃ k : Nat, ∃ hk : k < o.length, fiI p o = k ∧ o.find? p = some o[k] := by
  cases hf : o.findIdx? p with
  | none =>
    rw [List.findIdx?_eq_none_iff] at hf
    obtain ⟨i, hi, hp⟩ := h
    rw [hf i hi] at hp; cases hp
  | some k =>
    obtain ⟨h1, h2, h3⟩ := List.findIdx?_eq_some_iff_getElem.1 hf
    refine ⟨k, h1, by simp [fiI, hf], ?_⟩
    rw [List.find?_eq_some_iff_getElem]
    exact ⟨h2, k, h1, rfl, fun j hj => by simpa using h3 j hj⟩
theorem left_below {l : List Bk} {r : Rg} {key : Bs} {percent skip : Int} (h : (ordered l r key percent skip).2 = 0) : ∃ i, i ∈ leftL l r key skip ∧ below l percent (sumW l (leftL l r key skip)) (sumA l (leftL l r key skip)) i = true := by
  obtain ⟨h1, _, h2, _⟩ := ordered_ok h
  obtain ⟨ha, _, _, hp, _⟩ := ordE0 h1
  obtain ⟨i, hi, hlt⟩ := some_below (wtI l) (acI l) _ percent h2 hp fun i hi => by
    obtain ⟨n, rfl, _, _, hok⟩ := leftL_ok ha i hi
    exact ⟨hok.1, hok.2.2.1⟩
  exact ⟨i, hi, decide_eq_true hlt⟩
theorem Tryz.Bounded_c (l : List Bk) (r : Rg) (key : Bs) (percent skip : Int) (bx : Boxes) (hm : Mk bx) (hl0 : l.length ≤ 50) (hl : r.wts.length ≤ 9223372036854775807) (hl2 : r.names.length ≤ 9223372036854775807) :
    PureCall Tryz.prog 30 [.sl 5 (l.map bkV), rgV r, .str key, .int .i64 percent, .int .i64 skip] bx (.tup [.int .i64 (bounded l r key percent skip).1, .int .i64 (bounded l r key percent skip).2]) := by
  refine PureCall.wk (Tryz.ctr30 fun hb => ?_)
  have c0 := Tryz.ordered_c l r key percent skip bx hm hl0 hl hl2
  have hk := ordered_ok (l := l) (r := r) (key := key) (percent := percent) (skip := skip)
  have hlb := left_below (l := l) (r := r) (key := key) (percent := percent) (skip := skip)
  have hll := leftL_len (l := l) (r := r) (key := key) (skip := skip)
  have hlo := leftL_ok (l := l) (r := r) (key := key) (skip := skip)
  unfold bounded
  simp only [rgV, strsV, intsV, ptsV] at c0 ⊢
  generalize ordered l r key percent skip = R at *
  obtain ⟨o, e⟩ := R
  dsimp only at *
  by_cases he : e = 0
  case neg =>
    rw [if_pos he]
    simp [go_sem, Tryz.C30, hb]
    refine callK_pure c0 ?_
    simp [go_sem, he]
    refine ret_wk0 (by simp [go_sem]) ?_
    simp [go_sem]
    exact Wk.refl _
  obtain ⟨hE, rfl, h2, _⟩ := hk he
  have hlb := hlb he
  obtain ⟨ha, _, _, hp1, hp2⟩ := ordE0 hE
  have hlo := hlo ha
  subst he
  generalize leftL l r key skip = LL at *
  have hok : ∀ i, i ∈ LL → ∃ n : Nat, i = n ∧ n < l.length ∧ okB (bk l n) := fun i hi => by
    obtain ⟨n, h1, _, h3, h4⟩ := hlo i hi
    exact ⟨n, h1, h3, h4⟩
  rw [if_neg (by simp)]
  simp [go_sem, Tryz.C30, hb]
  refine callK_pure c0 ?_
  simp [go_sem]
  refine ⟨hb, fun b1 hb1 => ⟨by simp [finB_upd, hb], fun b2 hb2 => ?_⟩⟩
  have h21 := (new_ne hb2).1
  have hb2' := (new_ne hb2).2
  have hb3 : FinB (upd (upd bx b1 (some (.row 3 1 [V.int .i64 0]))) b2 (some (.row 3 1 [V.int .i64 0]))) := by simp [finB_upd, hb]
  have hcm : ∀ (f : Boxes) x y, upd (upd f b2 x) b1 y = upd (upd f b1 y) b2 x := upd_comm h21
  simp [go_sem, upd_ne, h21, Ne.symm h21, hb3, hcm]
  have hext : ∀ w a : Int, Ext bx (upd (upd bx b1 (some (.row 3 1 [V.int .i64 w]))) b2 (some (.row 3 1 [V.int .i64 a]))) := fun w a => ((Ext.refl _).new hb1 _).upd_own hb2' _
  refine pw_upto LL.length (fun k => ⟨62, slk [(5, .ep (.sl 5 (l.map bkV)) 0), (8, .ep (.int .i64 percent) 0), (12, .sl 1 (LL.map (.int .i64))), (14, .ptr b1 1 0 0), (15, .ptr b2 1 0 0), (32, .sl 1 (LL.map (.int .i64))), (33, .int .i64 LL.length), (34, .int .i64 k)],
    upd (upd bx b1 (some (.row 3 1 [.int .i64 (sumW l (LL.take k))]))) b2 (some (.row 3 1 [.int .i64 (sumA l (LL.take k))]))⟩) ?_ (fun k hk N hN => ?_) (fun N => ?_)
  · have e0 : sumW l (LL.take 0) = 0 := rfl
    have e1 : sumA l (LL.take 0) = 0 := rfl
    simp only [e0, e1]
    exact cov_look (by simp [go_sem])
  · have hw := wr_succ (k := k) (by omega)
    obtain ⟨s1, s2⟩ := sum_snoc l hk
    have r1 := sumW_rng hok k
    have r2 := sumW_rng hok (k + 1)
    obtain ⟨n, hn1, hn2, hn3⟩ := hok _ (List.getElem_mem hk)
    have hbk := bk_get hn2
    have hwt : wtI l LL[k] = l[n].wt := by rw [hn1]; simp [wtI, hbk]
    have hac : acI l LL[k] = l[n].ac := by rw [hn1]; simp [acI, hbk]
    rw [hwt] at s1
    rw [hac] at s2
    generalize hx : l[n] = x at *
    obtain ⟨wt, ac, cu, up, op⟩ := x
    dsimp only at s1 s2
    generalize sumW l (LL.take (k + 1)) = W' at *
    generalize sumA l (LL.take (k + 1)) = A' at *
    generalize sumW l (LL.take k) = W at *
    generalize sumA l (LL.take k) = A at *
    have hwW : IntKind.i64.wrap (W + wt) = W' := by rw [wr64 (by omega), s1]
    have hwA : IntKind.i64.wrap (A + ac) = A' := by rw [wr64 (by omega), s2]
    have hk' : (k : Int) < LL.length := by omega
    simp [go_sem, Tryz.L30_0, hk, hn1, hn2, hx, bkV, upd_ne, h21, Ne.symm h21, hwW, hwA, finB_upd, hb, hcm]
    exact hN _ (cov_look (by simp [go_sem, hw]))
  · have r1 := sumW_rng hok LL.length
    have hwp : 0 < sumW l LL := by
      have := sum_pos (wtI l) LL fun i hi => by
        obtain ⟨n, rfl, _, hk⟩ := hok i hi
        exact hk.1
      have h3 : 0 < LL.length := List.length_pos_iff.2 h2
      unfold sumW; omega
    rw [List.take_length] at r1 ⊢
    have c5 := Tryz.indexC_c 69 [.ep (.sl 5 (l.map bkV)) 0, .ep (.fn (.func 67) [.ep (.int .i64 percent) 0, .ep (.int .i64 (sumA l LL)) 0, .ep (.int .i64 (sumW l LL)) 0]) 0] (below l percent (sumW l LL) (sumA l LL)) LL bx (by omega)
      fun x hx bx => Tryz.below_c l x percent (sumA l LL) (sumW l LL) bx (hok x hx) hp1 hp2 (by omega) (by omega) hwp (by omega)
    obtain ⟨k, hk, hf1, hf2⟩ := find_fi (hlb rfl)
    rw [hf1] at c5
    rw [hf2]
    generalize below l percent (sumW l LL) (sumA l LL) = p at *
    generalize hsw : sumW l LL = W at *
    generalize hsa : sumA l LL = A at *
    simp [go_sem, Tryz.L30_0]
    refine pw_wk (st' := ⟨62, slk [(5, .ep (.sl 5 (l.map bkV)) 0), (8, .ep (.int .i64 percent) 0), (12, .sl 1 (LL.map (.int .i64))), (14, .ep (.int .i64 W) 0), (15, .ep (.int .i64 A) 0)], bx⟩) (cov_frz (hext W A) ?_) ?_
    · intro q hq
      simp at hq
      rcases hq with rfl | rfl | rfl | rfl | rfl
      · exact .inl (by simp [go_sem])
      · exact .inl (by simp [go_sem])
      · exact .inl (by simp [go_sem])
      · refine .inr ⟨1, ?_⟩
        simp [go_sem, frz, upd_ne, h21, Ne.symm h21, hb1]
      · refine .inr ⟨1, ?_⟩
        simp [go_sem, frz, upd_ne, h21, Ne.symm h21, hb2']
    · simp [go_sem, hb]
      intro b3 hb3
      try rw [upd_self hb3]
      refine callK_pure c5 ?_
      have hmx : max (k : Int) 0 = k := by omega
      simp [go_sem, hk, hmx]
      refine ret_wk0 (by simp [go_sem]) ?_
      simp [go_sem]
      exact Wk.refl _
end Go.Proofs.Pol

/- Contracts: far. -/
set_option linter.unusedSimpArgs false
set_option linter.unusedVariables false
set_option maxRecDepth 100000
namespace Go.Proofs
open Go Go.Pl Go.Hs

def okW (nodes w : Int) : Bool := decide (0 ≤ w) && decide (w ≤ 20) && decide (0 ≤ nodes) && decide (nodes ≤ 100)
def addW (nodes : Int) (s w : Int) : Int := if okW nodes w = true then s + w * nodes else s
def manyR (ws : List Int) (nodes : Int) : Int := ws.foldl (addW nodes) 0
def big1 (r : Rg) : Bool := decide (20 < r.names.length) || decide (20 < r.wts.length) || (decide (600 < r.pts.length) && decide (r.pts.length ≤ 4096)) || decide (5000 < r.pts.length)
def longN (s : Bs) : Bool := decide (100 < s.length)
def farB (r : Rg) : Bool := big1 r || (r.names.any longN || (decide (600 < manyR r.wts r.nodes) && decide (manyR r.wts r.nodes ≤ 4096)))
theorem far_not {r : Rg} (h : farB r = false) : r.names.length ≤ 20 ∧ r.wts.length ≤ 20 ∧ r.pts.length ≤ 5000 ∧ ∀ s, s ∈ r.names → s.length ≤ 100 := by
  unfold farB at h
  rw [Bool.or_eq_false_iff, Bool.or_eq_false_iff] at h
  obtain ⟨h1, h2, _⟩ := h
  simp [big1] at h1
  rw [List.any_eq_false] at h2
  refine ⟨by omega, by omega, by omega, fun s hs => ?_⟩
  have := h2 s hs
  simpa [longN] using this
theorem addW_rng {nodes w : Int} (h : okW nodes w = true) : 0 ≤ w * nodes ∧ w * nodes ≤ 2000 := by
  simp [okW] at h
  have h4' : 0 ≤ w * nodes := Int.mul_nonneg (by omega) (by omega)
  have h5' : w * nodes ≤ 20 * 100 := Int.mul_le_mul (by omega) (by omega) (by omega) (by omega)
  omega
theorem manyR_rng (nodes : Int) : ∀ (ws : List Int) (s : Int), 0 ≤ s → 0 ≤ ws.foldl (addW nodes) s ∧ ws.foldl (addW nodes) s ≤ s + 2000 * ws.length := by
  intro ws
  induction ws with
  | nil => intro s h; simp; omega
  | cons w ws ih =>
    intro s h
    rw [List.foldl_cons]
    have h1 : 0 ≤ addW nodes s w ∧ addW nodes s w ≤ s + 2000 := by
      unfold addW
      split
      · rename_i hh
        have := addW_rng hh
        omega
      · omega
    have := ih _ h1.1
    simp only [List.length_cons]
    omega
theorem big1_i (r : Rg) : (decide ((20 : Int) < r.names.length) || (decide ((20 : Int) < r.wts.length) || (decide ((600 : Int) < r.pts.length) && decide ((r.pts.length : Int) ≤ 4096) || decide ((5000 : Int) < r.pts.length)))) = big1 r := by
  rw [Bool.eq_iff_iff]; simp [big1]; omega

theorem Tryz.far_c (r : Rg) (bx : Boxes) (hl : r.wts.length ≤ 9223372036854775807) (hl2 : r.names.length ≤ 9223372036854775807) :
    PureCall Tryz.prog 8 [rgV r] bx (.bool (farB r)) := by
  refine Tryz.ctr8 fun hb => ?_
  have hin : ∀ k : Nat, k ≤ r.wts.length → 0 ≤ manyR (r.wts.take k) r.nodes ∧ manyR (r.wts.take k) r.nodes ≤ 2000 * k := fun k hk => by
    have := manyR_rng r.nodes (r.wts.take k) 0 (by omega)
    rw [List.length_take] at this
    unfold manyR; omega
  simp only [rgV, strsV, intsV, ptsV]
  simp [go_sem, Tryz.C8, hb]
  refine ⟨fun h1 h2 => ⟨⟨h1, h2⟩, fun h3 => ⟨⟨h1, h2⟩, h3⟩⟩, fun h1 h2 h3 => ⟨⟨h1, h2⟩, by omega⟩, fun h => ?_, fun h1 h2 h3 h4 => ?_⟩
  · have hB : big1 r = true := by simp [big1]; omega
    refine ret_pure ?_ ?_ <;> simp [go_sem, farB, hB]
  have hB : big1 r = false := by simp [big1]; omega
  unfold farB
  rw [hB, Bool.false_or]
  refine pw_upto r.wts.length (fun k => ⟨95, slk [(1, .ep (.agg [.sl 1 (r.names.map .str), .sl 1 (r.wts.map (.int .i64)), .int .i64 r.nodes, .sl 2 (r.pts.map ptV)]) 0), (3, .int .i64 (manyR (r.wts.take k) r.nodes)), (4, .int .i64 k)], bx⟩) (cov_look (by simp [go_sem, manyR])) ?_ ?_
  · intro k hk N hN
    have hw := wr_succ (k := k) (by omega)
    have hk0 := hin k (by omega)
    have hsuc : manyR (r.wts.take (k + 1)) r.nodes = addW r.nodes (manyR (r.wts.take k) r.nodes) r.wts[k] := by
      unfold manyR; rw [take_foldl _ _ hk]
    rw [hsuc] at hN
    generalize manyR (r.wts.take k) r.nodes = S at *
    cases hok : okW r.nodes r.wts[k]
    · have hoff : ¬ (((0 ≤ r.wts[k] ∧ r.wts[k] ≤ 20) ∧ 0 ≤ r.nodes) ∧ r.nodes ≤ 100) := by simp [okW] at hok; omega
      have hA : addW r.nodes S r.wts[k] = S := by simp [addW, hok]
      rw [hA] at hN
      simp [go_sem, Tryz.L8_0, hk, hb, hoff]
      intro _
      exact hN _ (cov_look (by simp [go_sem, hw]))
    · have hA : addW r.nodes S r.wts[k] = S + r.wts[k] * r.nodes := by simp [addW, hok]
      have hrg := addW_rng hok
      simp [okW] at hok
      have w1 : IntKind.i64.wrap (r.wts[k] * r.nodes) = r.wts[k] * r.nodes := wr64 (by omega)
      have w2 : IntKind.i64.wrap (S + r.wts[k] * r.nodes) = S + r.wts[k] * r.nodes := wr64 (by omega)
      rw [hA] at hN
      simp [go_sem, Tryz.L8_0, hk, hb, hok, w1, w2]
      exact hN _ (cov_look (by simp [go_sem, hw]))
  · intro N
    have hS := hin r.wts.length (Nat.le_refl _)
    rw [List.take_length] at hS ⊢
    simp [go_sem, Tryz.L8_0, hb]
    generalize manyR r.wts r.nodes = S at *
    refine pw_find r.names.length (hitAt longN r.names) (fun k => ⟨95, slk [(1, .ep (.agg [.sl 1 (r.names.map .str), .sl 1 (r.wts.map (.int .i64)), .int .i64 r.nodes, .sl 2 (r.pts.map ptV)]) 0), (3, .int .i64 S), (5, .int .i64 k)], bx⟩) (cov_look (by simp [go_sem])) ?_ ?_
    · intro k hk hpre N2 hN2
      have hw := wr_succ (k := k) (by omega)
      simp [go_sem, Tryz.L8_1, hk, hb]
      refine ⟨fun h => ret_pure ?_ ?_, fun h => hN2 _ (by rw [hitAt_at hk]; simp [longN]; omega) (cov_look (by simp [go_sem, hw]))⟩
      · simp [go_sem]
      · have : r.names.any longN = true := List.any_eq_true.2 ⟨_, List.getElem_mem hk, by simp [longN]; omega⟩
        simp [go_sem, this]
    · intro hpre N2
      have : r.names.any longN = false := by
        rw [List.any_eq_false]
        intro x hx
        obtain ⟨j, hj, rfl⟩ := List.getElem_of_mem hx
        have := hpre j hj
        rw [hitAt_at hj] at this
        simp [this]
      rw [this, Bool.false_or]
      simp [go_sem, Tryz.L8_1, hb]
      refine ret_pure ?_ ?_ <;> simp [go_sem]
end Go.Proofs

/- Contracts: in and far of the laws. -/
set_option linter.unusedSimpArgs false
set_option linter.unusedVariables false
set_option maxRecDepth 100000
namespace Go.Proofs.Pol
open Go Go.Pl Go.Hs Go.Proofs

theorem Tryz.lin_c (l : List Int) (x : Int) (bx : Boxes) (hl : l.length ≤ 1000000) : PureCall Tryz.prog 33 [intsV l, .int .i64 x] bx (.bool (decide (x ∈ l))) := by
  refine Tryz.ctr33 fun hb => ?_
  unfold intsV
  simp [go_sem, Tryz.C33, hb]
  refine pw_find l.length (hitAt (fun y => decide (y = x)) l) (fun k => ⟨18, slk [(0, .sl 1 (l.map (.int .i64))), (1, .int .i64 x), (5, .int .i64 k)], bx⟩) (cov_look (by simp [go_sem])) ?_ ?_
  · intro k hk hpre N hN
    have hw := wr_succ (k := k) (by omega)
    simp [go_sem, Tryz.L33_0, hk, hb]
    refine ⟨fun h => ret_pure ?_ ?_, fun h => hN _ (by simp [hitAt_at hk, h]) (cov_look (by simp [go_sem, hw]))⟩
    · simp [go_sem]
    · have : x ∈ l := h ▸ List.getElem_mem hk
      simp [go_sem, this]
  · intro hpre N
    have : ¬ x ∈ l := by
      intro h
      obtain ⟨j, hj, he⟩ := List.getElem_of_mem h
      have := hpre j hj
      rw [hitAt_at hj] at this
      simp [he] at this
    simp [go_sem, Tryz.L33_0, hb]
    refine ret_pure ?_ ?_ <;> simp [go_sem, this]

def big2 (r : Rg) : Bool := decide (20 < r.names.length) || (decide (20 < r.wts.length) || decide (600 < r.pts.length))
def farP (r : Rg) : Bool := big2 r || (r.names.any longN || (decide (600 < manyR r.wts r.nodes) && decide (manyR r.wts r.nodes ≤ 4096)))
theorem farP_not {r : Rg} (h : farP r = false) : r.names.length ≤ 20 ∧ r.wts.length ≤ 20 ∧ r.pts.length ≤ 600 ∧ ∀ s, s ∈ r.names → s.length ≤ 100 := by
  unfold farP at h
  rw [Bool.or_eq_false_iff, Bool.or_eq_false_iff] at h
  obtain ⟨h1, h2, _⟩ := h
  simp [big2] at h1
  rw [List.any_eq_false] at h2
  refine ⟨by omega, by omega, by omega, fun s hs => ?_⟩
  have := h2 s hs
  simpa [longN] using this
theorem Tryz.far16_c (r : Rg) (bx : Boxes) (hl : r.wts.length ≤ 9223372036854775807) (hl2 : r.names.length ≤ 9223372036854775807) :
    PureCall Tryz.prog 26 [rgV r] bx (.bool (farP r)) := by
  refine Tryz.ctr26 fun hb => ?_
  have hin : ∀ k : Nat, k ≤ r.wts.length → 0 ≤ manyR (r.wts.take k) r.nodes ∧ manyR (r.wts.take k) r.nodes ≤ 2000 * k := fun k hk => by
    have := manyR_rng r.nodes (r.wts.take k) 0 (by omega)
    rw [List.length_take] at this
    unfold manyR; omega
  simp only [rgV, strsV, intsV, ptsV]
  simp [go_sem, Tryz.C26, hb]
  refine ⟨fun h => ?_, fun h1 h2 h3 => ?_⟩
  · have hB : big2 r = true := by simp [big2]; omega
    refine ret_pure ?_ ?_ <;> simp [go_sem, farP, hB]
  have hB : big2 r = false := by simp [big2]; omega
  unfold farP
  rw [hB, Bool.false_or]
  refine pw_upto r.wts.length (fun k => ⟨83, slk [(1, .ep (.agg [.sl 1 (r.names.map .str), .sl 1 (r.wts.map (.int .i64)), .int .i64 r.nodes, .sl 2 (r.pts.map ptV)]) 0), (3, .int .i64 (manyR (r.wts.take k) r.nodes)), (4, .int .i64 k)], bx⟩) (cov_look (by simp [go_sem, manyR])) ?_ ?_
  · intro k hk N hN
    have hw := wr_succ (k := k) (by omega)
    have hk0 := hin k (by omega)
    have hsuc : manyR (r.wts.take (k + 1)) r.nodes = addW r.nodes (manyR (r.wts.take k) r.nodes) r.wts[k] := by
      unfold manyR; rw [take_foldl _ _ hk]
    rw [hsuc] at hN
    generalize manyR (r.wts.take k) r.nodes = S at *
    cases hok : okW r.nodes r.wts[k]
    · have hoff : ¬ (((0 ≤ r.wts[k] ∧ r.wts[k] ≤ 20) ∧ 0 ≤ r.nodes) ∧ r.nodes ≤ 100) := by simp [okW] at hok; omega
      have hA : addW r.nodes S r.wts[k] = S := by simp [addW, hok]
      rw [hA] at hN
      simp [go_sem, Tryz.L26_0, hk, hb, hoff]
      intro _
      exact hN _ (cov_look (by simp [go_sem, hw]))
    · have hA : addW r.nodes S r.wts[k] = S + r.wts[k] * r.nodes := by simp [addW, hok]
      have hrg := addW_rng hok
      simp [okW] at hok
      have w1 : IntKind.i64.wrap (r.wts[k] * r.nodes) = r.wts[k] * r.nodes := wr64 (by omega)
      have w2 : IntKind.i64.wrap (S + r.wts[k] * r.nodes) = S + r.wts[k] * r.nodes := wr64 (by omega)
      rw [hA] at hN
      simp [go_sem, Tryz.L26_0, hk, hb, hok, w1, w2]
      exact hN _ (cov_look (by simp [go_sem, hw]))
  · intro N
    have hS := hin r.wts.length (Nat.le_refl _)
    rw [List.take_length] at hS ⊢
    simp [go_sem, Tryz.L26_0, hb]
    generalize manyR r.wts r.nodes = S at *
    refine pw_find r.names.length (hitAt longN r.names) (fun k => ⟨83, slk [(1, .ep (.agg [.sl 1 (r.names.map .str), .sl 1 (r.wts.map (.int .i64)), .int .i64 r.nodes, .sl 2 (r.pts.map ptV)]) 0), (3, .int .i64 S), (5, .int .i64 k)], bx⟩) (cov_look (by simp [go_sem])) ?_ ?_
    · intro k hk hpre N2 hN2
      have hw := wr_succ (k := k) (by omega)
      simp [go_sem, Tryz.L26_1, hk, hb]
      refine ⟨fun h => ret_pure ?_ ?_, fun h => hN2 _ (by rw [hitAt_at hk]; simp [longN]; omega) (cov_look (by simp [go_sem, hw]))⟩
      · simp [go_sem]
      · have : r.names.any longN = true := List.any_eq_true.2 ⟨_, List.getElem_mem hk, by simp [longN]; omega⟩
        simp [go_sem, this]
    · intro hpre N2
      have : r.names.any longN = false := by
        rw [List.any_eq_false]
        intro x hx
        obtain ⟨j, hj, rfl⟩ := List.getElem_of_mem hx
        have := hpre j hj
        rw [hitAt_at hj] at this
        simp [this]
      rw [this, Bool.false_or]
      simp [go_sem, Tryz.L26_1, hb]
      refine ret_pure ?_ ?_ <;> simp [go_sem]

/-- What of an order is kept, up to a place. -/
def lf (l : List Bk) (skip : Int) (o : List Int) (k : Nat) : List Int := (o.take k).filter fun i => decide (i ∈ canI l skip)
theorem lf_succ (l : List Bk) (skip : Int) {o : List Int} {k : Nat} (h : k < o.length) : lf l skip o (k + 1) = if o[k] ∈ canI l skip then lf l skip o k ++ [o[k]] else lf l skip o k := by
  unfold lf
  rw [take_snoc h, List.filter_append]
  by_cases hp : o[k] ∈ canI l skip <;> simp [hp]
theorem lf_len (l : List Bk) (skip : Int) (o : List Int) (k : Nat) : (lf l skip o k).length ≤ k := by
  unfold lf
  refine Nat.le_trans (List.length_filter_le _ _) ?_
  rw [List.length_take]; omega
def askV (key : Bs) (percent skip : Int) : V := .agg [.str key, .int .i64 percent, .int .i64 skip]
end Go.Proofs.Pol

set_option linter.unusedVariables false
set_option linter.unusedSimpArgs false
namespace Go.Proofs.YtnijaldhopcpdaaGreatDoor
open Go Go.Pl Go.Hs Go.Proofs
theorem hasBks {n : Nat} {xs : List V} (h : HasL Tryz.prog (n + 2) 48 xs) : ∃ l : List Pol.Bk, xs = [.sl 5 (l.map Pol.bkV)] := by
  obtain ⟨l, h, _⟩ := HasL.slice (r := Pol.bkV) Tryz.knd48 h fun ys hy => by
    have hl := hy.len
    rw [Tryz.tsz57] at hl
    match ys, hl with
    | [a, b, c, d, e], _ =>
      obtain ⟨i0, h0, _⟩ := (hy.fld Tryz.knd57 Tryz.fld57_0).int Tryz.knd3
      obtain ⟨i1, h1, _⟩ := (hy.fld Tryz.knd57 Tryz.fld57_1).int Tryz.knd3
      obtain ⟨i2, h2, _⟩ := (hy.fld Tryz.knd57 Tryz.fld57_2).int Tryz.knd3
      obtain ⟨b3, h3⟩ := (hy.fld Tryz.knd57 Tryz.fld57_3).bool Tryz.knd4
      obtain ⟨b4, h4⟩ := (hy.fld Tryz.knd57 Tryz.fld57_4).bool Tryz.knd4
      simp [Tryz.tsz3, Tryz.tsz4] at h0 h1 h2 h3 h4
      subst h0 h1 h2 h3 h4
      exact ⟨⟨i0, i1, i2, b3, b4⟩, by simp [elV, Tryz.tagg57, Pol.bkV]⟩
  rw [Tryz.tsz57] at h
  exact ⟨l, h⟩
theorem hasAsk {n : Nat} {xs : List V} (h : HasL Tryz.prog (n + 1) 50 xs) : ∃ (key : Bs) (p s : Int), Pol.askV key p s = .agg xs ∧ key.length ≤ maxLen := by
  have hl := h.len
  rw [Tryz.tsz50] at hl
  match xs, hl with
  | [a, b, c], _ =>
    obtain ⟨k, h0, g0⟩ := hasStr (h.fld Tryz.knd50 Tryz.fld50_0)
    obtain ⟨i1, h1⟩ := hasInt (h.fld Tryz.knd50 Tryz.fld50_1)
    obtain ⟨i2, h2⟩ := hasInt (h.fld Tryz.knd50 Tryz.fld50_2)
    simp [Tryz.tsz3, Tryz.tsz9] at h0 h1 h2
    subst h0 h1 h2
    exact ⟨k, i1, i2, rfl, g0⟩
end Go.Proofs.YtnijaldhopcpdaaGreatDoor

/- Contracts: PolicyRing. -/
set_option linter.unusedSimpArgs false
set_option linter.unusedVariables false
set_option maxRecDepth 100000
namespace Go.Proofs.Pol
open Go Go.Pl Go.Hs Go.Proofs

theorem uniq_hd : ∀ (l out : List Int), out ≠ [] → (uniq out l)[0]? = out[0]?
  | [], out, _ => rfl
  | x :: l, out, h => by
    rw [uniq, uniq_hd l _ (by split <;> simp [h])]
    split
    · rfl
    · rw [List.getElem?_append_left (List.length_pos_iff.2 h)]
theorem order_find {r : Rg} {key : Bs} {a : Int} {o : List Int} (h : (order r key).1 = a :: o) : a = (find r key).1 := by
  by_cases he : asked r key = 0
  · obtain ⟨_, _, hpl, _⟩ := asked0 he
    have hfl := first_lt (sum32 key) hpl
    rw [order_eq he] at h
    have hf : (find r key).1 = backAt r (first r (sum32 key)) := by unfold find; rw [if_neg (by simp [he])]
    rw [hf]
    generalize first r (sum32 key) = fi at *
    dsimp only at h
    unfold uq at h
    rw [List.take_of_length_le (by rw [turnB_len _ _ (by omega)]; exact Nat.le_refl _)] at h
    have ht := turnB_at hfl (k := 0) hpl
    simp only [Nat.add_zero, Nat.mod_eq_of_lt hfl] at ht
    cases hl : turnB r fi with
    | nil => rw [hl] at ht; cases ht
    | cons x l =>
      rw [hl] at ht h
      have hx : x = r.pts[fi].b := by simpa using ht
      rw [uniq] at h
      have h2 := uniq_hd l (if x ∈ ([] : List Int) then [] else [] ++ [x]) (by simp)
      rw [h] at h2
      have : a = x := by simpa using h2
      rw [this, hx]
      simp [backAt, List.getD, hfl]
  · unfold order at h
    rw [if_pos he] at h; cases h
theorem ordered_pct (l : List Bk) (r : Rg) (key : Bs) (p skip : Int) (h1 : 100 ≤ p) (h2 : p ≤ 1000) : ordered l r key 100 skip = ordered l r key p skip := by
  have : ordE l r 100 skip = ordE l r p skip := by
    have hh : (r.names.length ≠ l.length ∨ (100 : Int) < 100 ∨ (1000 : Int) < 100) ↔ (r.names.length ≠ l.length ∨ p < 100 ∨ 1000 < p) := by omega
    unfold ordE
    simp only [hh]
  unfold ordered
  rw [this]
theorem both_err (l : List Bk) (r : Rg) (key : Bs) (p skip : Int) (h1 : 100 ≤ p) (h2 : p ≤ 1000) : (hashed l r key skip).2 = (ordered l r key p skip).2 ∧ (bounded l r key p skip).2 = (ordered l r key p skip).2 := by
  have h := ordered_pct l r key p skip h1 h2
  unfold hashed bounded
  rw [h]
  generalize ordered l r key p skip = R
  by_cases hR : R.2 = 0
  · rw [if_neg (by simp [hR]), if_neg (by simp [hR])]
    exact ⟨hR.symm, hR.symm⟩
  · rw [if_pos hR, if_pos hR]
    exact ⟨rfl, rfl⟩
theorem ring_err {l : List Bk} {r : Rg} {key : Bs} {p skip : Int} (h1 : 100 ≤ p) (h2 : p ≤ 1000) (h : askB l skip ≠ 0 ∨ (order r key).2 ≠ 0 ∨ (find r key).2 ≠ 0 ∨ r.names.length ≠ l.length) :
    (hashed l r key skip).2 ≠ 0 ∧ (hashed l r key skip).2 = (bounded l r key p skip).2 := by
  obtain ⟨e1, e2⟩ := both_err l r key p skip h1 h2
  rw [e1, e2]
  refine ⟨fun h0 => ?_, rfl⟩
  obtain ⟨g1, _, _, g2⟩ := ordered_ok h0
  obtain ⟨k1, k2, k3, _, _⟩ := ordE0 g1
  rcases h with h | h | h | h
  · exact h k1
  · exact h g2
  · refine h ?_
    have : asked r key = 0 := Classical.byContradiction fun hh => by
      have h3 : (order r key).2 = asked r key := by unfold order; rw [if_pos hh]
      rw [g2] at h3; exact hh h3.symm
    unfold find; rw [if_neg (by simp [this])]
  · exact h k3
theorem ring_none {l : List Bk} {r : Rg} {key : Bs} {p skip : Int} (h1 : 100 ≤ p) (h2 : p ≤ 1000) (ha : askB l skip = 0) (ho : (order r key).2 = 0) (hn : r.names.length = l.length) : ordered l r key p skip = (leftL l r key skip, if leftL l r key skip = [] then 4 else 0) := by
  have hch : check r = 0 := by
    have : asked r key = 0 := Classical.byContradiction fun hh => by
      have h3 : (order r key).2 = asked r key := by unfold order; rw [if_pos hh]
      rw [ho] at h3; exact hh h3.symm
    exact (asked0 this).1
  have hE : ordE l r p skip = 0 := by
    unfold ordE
    rw [if_neg (by simp [ha]), if_neg (by simp [hch]), if_neg (by omega)]
  unfold ordered
  rw [if_neg (by simp [hE]), ho]
  simp
theorem ring_some {l : List Bk} {r : Rg} {key : Bs} {p skip a : Int} {LL : List Int} (h1 : 100 ≤ p) (h2 : p ≤ 1000) (ha : askB l skip = 0) (ho : (order r key).2 = 0) (hn : r.names.length = l.length) (hL : leftL l r key skip = a :: LL) :
    hashed l r key skip = (a, 0) ∧ ∃ b, bounded l r key p skip = (b, 0) ∧ b ∈ a :: LL ∧ below l p (sumW l (a :: LL)) (sumA l (a :: LL)) b = true ∧ (0 < acI l a ∨ a = b) ∧ ((a :: LL).length = (order r key).1.length → a = (find r key).1) := by
  have hO := ring_none h1 h2 ha ho hn
  have hp := ordered_pct l r key p skip h1 h2
  have hlb := left_below (l := l) (r := r) (key := key) (percent := p) (skip := skip) (by rw [hO, hL]; simp)
  have hlo := leftL_ok (l := l) (r := r) (key := key) (skip := skip) ha
  have hsub : leftL l r key skip = (order r key).1.filter fun i => decide (i ∈ canI l skip) := rfl
  rw [hL] at hO hlb hlo hsub
  rw [if_neg (by simp)] at hO
  obtain ⟨i, hi, hb⟩ := hlb
  obtain ⟨k, hk, hf1, hf2⟩ := find_fi (p := below l p (sumW l (a :: LL)) (sumA l (a :: LL))) ⟨i, hi, hb⟩
  refine ⟨?_, (a :: LL)[k], ?_, List.getElem_mem hk, ?_, ?_, ?_⟩
  · unfold hashed; rw [hp, hO]; simp
  · unfold bounded; rw [hO, if_neg (by simp)]; dsimp only; rw [hf2]; rfl
  · exact (List.find?_eq_some_iff_getElem.1 hf2).1
  · by_cases h0 : 0 < acI l a
    · exact .inl h0
    · refine .inr ?_
      obtain ⟨n, hn1, _, _, hok⟩ := hlo a (by simp)
      have hokw : 0 < wtI l a := by rw [hn1]; exact hok.1
      have hoka : 0 ≤ acI l a := by rw [hn1]; exact hok.2.2.1
      have ha0 : acI l a = 0 := by omega
      have hA : 0 ≤ sumA l (a :: LL) := by
        have := sumW_rng (l := l) (o := a :: LL) (fun i hi => by obtain ⟨n, q1, _, q3, q4⟩ := hlo i hi; exact ⟨n, q1, q3, q4⟩) (a :: LL).length
        rw [List.take_length] at this
        exact this.2.2.1
      have hba : below l p (sumW l (a :: LL)) (sumA l (a :: LL)) a = true := by
        unfold below
        refine decide_eq_true ?_
        rw [ha0, Int.zero_mul, Int.zero_mul]
        exact Int.mul_pos (Int.mul_pos (by omega) (by omega)) hokw
      have : fiI (below l p (sumW l (a :: LL)) (sumA l (a :: LL))) (a :: LL) = ((0 : Nat) : Int) := fiI_hit (k := 0) (by simp) (by simpa using hba) (fun j hj => absurd hj (Nat.not_lt_zero _))
      obtain rfl : k = 0 := by omega
      rfl
  · intro hlen
    have heq : (order r key).1.filter (fun i => decide (i ∈ canI l skip)) = (order r key).1 := List.filter_sublist.eq_of_length (by rw [← hsub]; exact hlen)
    rw [heq] at hsub
    exact order_find hsub.symm
theorem Tryz.policyRing_c (l : List Bk) (r : Rg) (key : Bs) (percent skip : Int) (bx : Boxes) (hm : Mk bx) (hl : r.wts.length ≤ 9223372036854775807) (hl2 : r.names.length ≤ 9223372036854775807) :
    PureCall Tryz.prog 7 [.sl 5 (l.map bkV), rgV r, askV key percent skip] bx (.bool true) := by
  refine PureCall.wk (Tryz.ctr7 fun hb => ?_)
  have d1 := Tryz.far16_c r bx hl hl2
  have d2 := awake_c bx
  simp only [askV]
  by_cases hL : 20 < l.length
  · simp only [rgV, strsV, intsV, ptsV] at d1 ⊢
    have hL' : (20 : Int) < l.length := by omega
    simp [go_sem, Tryz.C7, hb, hL']
    refine gK_off (.bool false) (by simp [go_sem]) ?_
    simp [go_sem, hb]
    refine callK_pure d2 ?_
    simp [go_sem]
    refine ret_wk0 (by simp [go_sem]) ?_
    simp [go_sem]
    exact Wk.refl _
  have hL' : ¬ (20 : Int) < l.length := by omega
  cases hf : farP r
  case true =>
    rw [hf] at d1
    simp only [rgV, strsV, intsV, ptsV] at d1 ⊢
    simp [go_sem, Tryz.C7, hb, hL']
    refine gK_pure d1 (by simp) (by simp [go_sem]) ?_
    simp [go_sem, hb]
    refine callK_pure d2 ?_
    simp [go_sem, hb]
    refine ret_wk0 (by simp [go_sem]) ?_
    simp [go_sem]
    exact Wk.refl _
  rw [hf] at d1
  obtain ⟨f1, f2, f3, f4⟩ := farP_not hf
  by_cases hk : 200 < key.length ∨ percent < 0
  · simp only [rgV, strsV, intsV, ptsV] at d1 ⊢
    have hk' : (200 : Int) < key.length ∨ percent < 0 := by omega
    simp [go_sem, Tryz.C7, hb, hL']
    refine gK_pure d1 (by simp) (by simp [go_sem]) ?_
    simp [go_sem, hb]
    refine ⟨fun _ => ?_, fun h1 h2 => by omega⟩
    refine callK_pure d2 ?_
    simp [go_sem, hb]
    refine ret_wk0 (by simp [go_sem]) ?_
    simp [go_sem]
    exact Wk.refl _
  obtain ⟨p, hp⟩ : ∃ p, p = 100 + percent.tmod 900 := ⟨_, rfl⟩
  have hp1 : 100 ≤ p ∧ p ≤ 1000 := by
    have h0 := Int.emod_nonneg percent (by decide : (900 : Int) ≠ 0)
    have h1 := Int.emod_lt_of_pos percent (by decide : (0 : Int) < 900)
    rw [Int.tmod_eq_emod_of_nonneg (by omega)] at hp
    omega
  have wp : IntKind.i64.wrap (100 + percent.tmod 900) = p := by rw [← hp, wr64 (by omega)]
  have wq : IntKind.i64.wrap (percent.tmod 900) = percent.tmod 900 := wr64 (by omega)
  have hnl : ∀ s, s ∈ r.names → s.length ≤ 1000000 := fun s hs => by have := f4 s hs; omega
  have hcl : (canI l skip).length ≤ 1000000 := by
    unfold canI; rw [List.length_map]
    exact Nat.le_trans canR_le (by omega)
  have c0 := can_c l skip bx (by omega)
  have c1 := Tryz.Order_c r key bx hm hl hl2
  have c2 := Tryz.Find_c r key bx hm hl hl2
  have c3 := Tryz.Hashed_c l r key skip bx hm (by omega) hl hl2
  have c4 := Tryz.Bounded_c l r key p skip bx hm (by omega) hl hl2
  rw [canI_ix] at c0
  have hE := ring_err (l := l) (r := r) (key := key) (p := p) (skip := skip) hp1.1 hp1.2
  simp only [rgV, strsV, intsV, ptsV] at c0 c1 c2 c3 c4 d1 ⊢
  by_cases hbad : askB l skip ≠ 0 ∨ (order r key).2 ≠ 0 ∨ (find r key).2 ≠ 0 ∨ r.names.length ≠ l.length
  · have hE := hE hbad
    have hbad' : ((¬ askB l skip = 0 ∨ ¬ (order r key).2 = 0) ∨ ¬ (find r key).2 = 0) ∨ ¬ (r.names.length : Int) = l.length := by omega
    generalize hashed l r key skip = F at *
    generalize bounded l r key p skip = O at *
    simp [go_sem, Tryz.C7, hb, hL']
    refine gK_pure d1 (by simp) (by simp [go_sem]) ?_
    simp [go_sem, hb, wp, wq]
    refine ⟨fun h => by omega, fun _ _ => ?_⟩
    refine callK_pure c0 ?_
    simp [go_sem, hb]
    refine callK_pure c1 ?_
    simp [go_sem, hb]
    refine callK_pure c2 ?_
    simp [go_sem, hb]
    refine callK_pure c3 ?_
    simp [go_sem, hb]
    refine callK_pure c4 ?_
    simp [go_sem, hb]
    refine ⟨fun _ => ?_, fun a1 a2 a3 a4 => by omega⟩
    have hF : decide (F.2 = 0) = false := decide_eq_false hE.1
    have hFO : decide (F.2 = O.2) = true := decide_eq_true hE.2
    rw [hF, hFO]
    refine gK_pure d2 (by simp) (by simp [go_sem]) ?_
    simp [go_sem, hb]
    refine ret_wk0 (by simp [go_sem]) ?_
    simp [go_sem]
    exact Wk.refl _
  have g1 : askB l skip = 0 := Classical.byContradiction fun h => hbad (.inl h)
  have g2 : (order r key).2 = 0 := Classical.byContradiction fun h => hbad (.inr (.inl h))
  have g3 : (find r key).2 = 0 := Classical.byContradiction fun h => hbad (.inr (.inr (.inl h)))
  have g4 : r.names.length = l.length := Classical.byContradiction fun h => hbad (.inr (.inr (.inr h)))
  have g4' : (r.names.length : Int) = l.length := by omega
  have hN := ring_none (l := l) (r := r) (key := key) (p := p) (skip := skip) hp1.1 hp1.2 g1 g2 g4
  have hS := fun a LL => ring_some (l := l) (r := r) (key := key) (p := p) (skip := skip) (a := a) (LL := LL) hp1.1 hp1.2 g1 g2 g4
  have hBE := both_err l r key p skip hp1.1 hp1.2
  have hlo := leftL_ok (l := l) (r := r) (key := key) (skip := skip) g1
  have hll : leftL l r key skip = lf l skip (order r key).1 (order r key).1.length := by unfold leftL lf; rw [List.take_length]
  have hol := Go.Proofs.Pol.order_len (r := r) (key := key)
  have hlen := leftL_len (l := l) (r := r) (key := key) (skip := skip)
  simp [go_sem, Tryz.C7, hb, hL']
  refine gK_pure d1 (by simp) (by simp [go_sem]) ?_
  simp [go_sem, hb, wp, wq]
  refine ⟨fun h => by omega, fun _ _ => ?_⟩
  refine callK_pure c0 ?_
  simp [go_sem, hb, g1]
  refine callK_pure c1 ?_
  simp [go_sem, hb, g2]
  refine callK_pure c2 ?_
  simp [go_sem, hb, g3]
  refine callK_pure c3 ?_
  simp [go_sem, hb]
  refine callK_pure c4 ?_
  simp [go_sem, hb, g1, g2, g3, g4']
  generalize (find r key).1 = first at *
  generalize (order r key).1 = o at *
  generalize leftL l r key skip = LL at *
  generalize ordered l r key p skip = R at *
  generalize hashed l r key skip = F at *
  generalize bounded l r key p skip = O at *
  refine pw_for (ι := V × Boxes) o.length (fun k p => Pl.Acc bx 3 1 ((lf l skip o k).map (.int .i64)) p.1 p.2)
    (fun k q => ⟨252, slk [(0, .sl 5 (l.map bkV)), (7, .int .i64 p), (8, .sl 1 ((canI l skip).map (.int .i64))), (10, .sl 1 (o.map (.int .i64))), (12, .int .i64 first), (14, .int .i64 F.1), (15, .int .i64 F.2), (16, .int .i64 O.1), (17, .int .i64 O.2), (18, q.1), (19, .int .i64 k)], q.2⟩) (.nils, bx) (by exact acc_nil hb _ _) (cov_look (by simp [go_sem])) ?_ ?_
  · rintro k ⟨v, bx1⟩ hk ha N hN
    dsimp only at ha ⊢
    have hw := wr_succ (k := k) (by omega)
    have hs := lf_succ l skip hk
    have hlu := lf_len l skip o k
    have cC := Tryz.lin_c (canI l skip) o[k] bx1 hcl
    simp only [intsV] at cC
    generalize lf l skip o (k + 1) = U1 at *
    generalize lf l skip o k = U at *
    simp [go_sem, Tryz.L7_0, hk, ha.fin]
    refine callK_pure cC ?_
    simp [go_sem]
    refine ⟨fun hin => ?_, fun hin => ?_⟩
    · rw [if_pos hin] at hs
      simp [go_sem, hk, ha.fin, ha.cells, ha.strip, ha.live]
      intro b4 hb4
      refine Tryz.appI (es := U.map (.int .i64)) (news := [.int .i64 o[k]]) ha ((Ext.refl _).new hb4 _) (by simp [finB_upd, ha.fin]) (by simp [go_sem, srcEls]) (by simp; omega) (by omega) ?_
      intro v' bx3 ha3
      simp [go_sem, ha3.cells]
      exact hN _ (v', bx3) (by dsimp only; rw [hs]; simpa using ha3) (cov_look (by simp [go_sem, hw]))
    · rw [if_neg hin] at hs
      exact hN _ (v, bx1) (by dsimp only; rw [hs]; exact ha) (cov_look (by simp [go_sem, hw]))
  · rintro ⟨v, bx1⟩ ha N
    dsimp only at ha ⊢
    rw [← hll] at ha
    have d3 := awake_c bx1
    rcases ha.is with ⟨h5, hv⟩ | ⟨b4, hb5, hv, hb6⟩
    · have h7 : LL = [] := by simpa using h5
      subst hv
      rw [if_pos h7] at hN
      rw [hN] at hBE
      dsimp only at hBE
      simp [go_sem, Tryz.L7_0, ha.fin, hBE.1, hBE.2]
      refine gK_pure d3 (by simp) (by simp [go_sem]) ?_
      simp [go_sem, ha.fin]
      refine ret_wk (by simp [go_sem]) ha.ext ?_
      simp [go_sem]
      exact Wk.refl _
    · rw [List.length_map] at hv
      subst hv
      simp [go_sem, Tryz.L7_0, ha.fin]
      refine ⟨fun h7 => ?_, fun h7 => ?_⟩
      · rw [if_pos h7] at hN
        rw [hN] at hBE
        dsimp only at hBE
        simp [go_sem, ha.fin, hBE.1, hBE.2]
        refine gK_pure d3 (by simp) (by simp [go_sem]) ?_
        simp [go_sem, ha.fin]
        refine ret_wk (by simp [go_sem]) ha.ext ?_
        simp [go_sem]
        exact Wk.refl _
      · obtain ⟨a, LL, rfl⟩ := List.exists_cons_of_ne_nil h7
        obtain ⟨hF, b, hO, hbm, hbb, hab, hfst⟩ := hS a LL rfl
        subst hF hO
        have hcI := acc_frame (i := b) ha (by decide) (r := .bool (decide (b ∈ a :: LL))) rfl (fun bx => Tryz.lin_c (a :: LL) b bx (by omega))
        rw [decide_eq_true hbm] at hcI
        simp [go_sem, hb6, ha.fin]
        have hok : ∀ i, i ∈ a :: LL → ∃ n : Nat, i = n ∧ n < l.length ∧ okB (bk l n) := fun i hi => by
          obtain ⟨n, q1, _, q3, q4⟩ := hlo i hi
          exact ⟨n, q1, q3, q4⟩
        have hml : ((a :: LL).map (V.int .i64)).length = LL.length + 1 := by simp
        by_cases hle : (LL.length : Int) + 1 = o.length
        · have haf := hfst (by simp only [List.length_cons]; omega)
          subst haf
          simp [go_sem, hb6, ha.fin, hle]
          refine gK_pure hcI (by simp) (by simp [go_sem]) ?_
          simp [go_sem, hb6, ha.fin]
          refine pw_upto (a :: LL).length (fun k => ⟨252, slk [(0, .sl 5 (l.map bkV)), (7, .int .i64 p), (14, .int .i64 a), (16, .int .i64 b), (18, .own b4 1 0 (LL.length + 1)), (20, .int .i64 (sumW l ((a :: LL).take k))), (21, .int .i64 (sumA l ((a :: LL).take k))), (22, .int .i64 k)], bx1⟩) ?_ (fun k hk N hN => ?_) (fun N => ?_)
          · have e0 : sumW l ((a :: LL).take 0) = 0 := rfl
            have e1 : sumA l ((a :: LL).take 0) = 0 := rfl
            simp only [e0, e1]
            exact cov_look (by simp [go_sem])
          · have hw := wr_succ (k := k) (by omega)
            obtain ⟨s1, s2⟩ := sum_snoc l hk
            have r1 := sumW_rng hok k
            have r2 := sumW_rng hok (k + 1)
            obtain ⟨n, hn1, hn2, hn3⟩ := hok _ (List.getElem_mem hk)
            have hbk := bk_get hn2
            have hwt : wtI l (a :: LL)[k] = l[n].wt := by rw [hn1]; simp [wtI, hbk]
            have hac : acI l (a :: LL)[k] = l[n].ac := by rw [hn1]; simp [acI, hbk]
            rw [hwt] at s1
            rw [hac] at s2
            generalize hx : l[n] = x at *
            obtain ⟨wt, ac, cu, up, op⟩ := x
            dsimp only at s1 s2
            generalize sumW l ((a :: LL).take (k + 1)) = W' at *
            generalize sumA l ((a :: LL).take (k + 1)) = A' at *
            generalize sumW l ((a :: LL).take k) = W at *
            generalize sumA l ((a :: LL).take k) = A at *
            have hwW : IntKind.i64.wrap (W + wt) = W' := by rw [wr64 (by omega), s1]
            have hwA : IntKind.i64.wrap (A + ac) = A' := by rw [wr64 (by omega), s2]
            have hkl : k < LL.length + 1 := by simpa using hk
            have hgk : ((a :: LL).map (V.int .i64))[k]? = some (.int .i64 (n : Int)) := by
              rw [List.getElem?_map, List.getElem?_eq_getElem hk, hn1]; rfl
            have hkI : (k : Int) < (LL.length : Int) + 1 := by omega
            generalize (a :: LL).map (V.int .i64) = M at *
            have hkM : k < M.length := by omega
            have hgk2 : M[k] = .int .i64 (n : Int) := by rw [List.getElem?_eq_getElem hkM] at hgk; exact Option.some.inj hgk
            simp [go_sem, Tryz.L7_1, hk, hkl, hkI, hkM, hn2, hx, bkV, hwW, hwA, ha.fin, hb6, hgk2]
            refine ⟨fun h => absurd h (by omega), ?_⟩
            exact hN _ (cov_look (by simp [go_sem, hw]))
          · have r1 := sumW_rng hok (a :: LL).length
            obtain ⟨n, hbn, hn2, hokb⟩ := hok b hbm
            obtain ⟨n', hbn', hn2', hokb'⟩ := hok a (by simp)
            rw [List.take_length] at r1 ⊢
            have hll2 : (a :: LL).length ≤ 32000 := hlen
            unfold below at hbb
            have hbb := of_decide_eq_true hbb
            obtain ⟨q1, q2, q3, q4⟩ := hokb
            generalize sumW l (a :: LL) = W at *
            generalize sumA l (a :: LL) = A at *
            have hbk := bk_get hn2
            have hbk' := bk_get hn2'
            have hwt : wtI l b = l[n].wt := by rw [hbn]; simp [wtI, hbk]
            have hac : acI l b = l[n].ac := by rw [hbn]; simp [acI, hbk]
            have hac' : acI l a = l[n'].ac := by rw [hbn']; simp [acI, hbk']
            rw [hwt, hac] at hbb
            rw [hac'] at hab
            rw [hbk] at q1 q2 q3 q4
            generalize hx' : l[n'] = x' at *
            obtain ⟨wt', ac', cu', up', op'⟩ := x'
            generalize hx : l[n] = x at *
            obtain ⟨wt, ac, cu, up, op⟩ := x
            dsimp only at hbb hab q1 q2 q3 q4
            have hA1 : 0 ≤ p * (A + 1) := Int.mul_nonneg (by omega) (by omega)
            have hA2 : p * (A + 1) ≤ 1000 * 400000001 := Int.mul_le_mul hp1.2 (by omega) (by omega) (by omega)
            have hA3 : 0 ≤ p * (A + 1) * wt := Int.mul_nonneg hA1 (by omega)
            have hA4 : p * (A + 1) * wt ≤ 1000 * 400000001 * 100 := Int.mul_le_mul hA2 (by omega) (by omega) (by omega)
            have hB1 : 0 ≤ ac * 100 * W := Int.mul_nonneg (by omega) (by omega)
            have hB2 : ac * 100 * W ≤ 10000 * 100 * 4000000 := Int.mul_le_mul (by omega) (by omega) (by omega) (by omega)
            have w1 : IntKind.i64.wrap (ac * 100) = ac * 100 := wr64 (by omega)
            have w2 : IntKind.i64.wrap (ac * 100 * W) = ac * 100 * W := wr64 (by omega)
            have w3 : IntKind.i64.wrap (A + 1) = A + 1 := wr64 (by omega)
            have w4 : IntKind.i64.wrap (p * (A + 1)) = p * (A + 1) := wr64 (by omega)
            have w5 : IntKind.i64.wrap (p * (A + 1) * wt) = p * (A + 1) * wt := wr64 (by omega)
            simp [go_sem, Tryz.L7_1, hbn, hbn', hn2, hn2', hx, hx', bkV, ha.fin, hb6]
            intro b5 hb5
            simp only [w1, w2, w3, w4, w5]
            refine ⟨fun _ => ⟨hbb, fun h => ⟨hbb, h⟩⟩, ?_⟩
            have hg : (decide (ac * 100 * W < p * (A + 1) * wt) && (decide (0 < ac') || decide ((n' : Int) = n))) = true := by
              rcases hab with h | h
              · simp [hbb, h]
              · rw [hbn', hbn] at h
                simp [hbb, h]
            rw [hg]
            refine gK_pure (by first | exact d3 | (simp only [upd_self hb5]; exact d3)) (by simp) (by simp [go_sem]) ?_
            simp [go_sem, ha.fin]
            refine ret_wk (by simp [go_sem]) (by have e := upd_self hb5; dsimp only; rw [e]; exact ha.ext) ?_
            simp [go_sem]
            exact Wk.refl _
        · simp [go_sem, hb6, ha.fin, hle]
          refine gK_pure hcI (by simp) (by simp [go_sem]) ?_
          simp [go_sem, hb6, ha.fin]
          refine pw_upto (a :: LL).length (fun k => ⟨252, slk [(0, .sl 5 (l.map bkV)), (7, .int .i64 p), (14, .int .i64 a), (16, .int .i64 b), (18, .own b4 1 0 (LL.length + 1)), (20, .int .i64 (sumW l ((a :: LL).take k))), (21, .int .i64 (sumA l ((a :: LL).take k))), (22, .int .i64 k)], bx1⟩) ?_ (fun k hk N hN => ?_) (fun N => ?_)
          · have e0 : sumW l ((a :: LL).take 0) = 0 := rfl
            have e1 : sumA l ((a :: LL).take 0) = 0 := rfl
            simp only [e0, e1]
            exact cov_look (by simp [go_sem])
          · have hw := wr_succ (k := k) (by omega)
            obtain ⟨s1, s2⟩ := sum_snoc l hk
            have r1 := sumW_rng hok k
            have r2 := sumW_rng hok (k + 1)
            obtain ⟨n, hn1, hn2, hn3⟩ := hok _ (List.getElem_mem hk)
            have hbk := bk_get hn2
            have hwt : wtI l (a :: LL)[k] = l[n].wt := by rw [hn1]; simp [wtI, hbk]
            have hac : acI l (a :: LL)[k] = l[n].ac := by rw [hn1]; simp [acI, hbk]
            rw [hwt] at s1
            rw [hac] at s2
            generalize hx : l[n] = x at *
            obtain ⟨wt, ac, cu, up, op⟩ := x
            dsimp only at s1 s2
            generalize sumW l ((a :: LL).take (k + 1)) = W' at *
            generalize sumA l ((a :: LL).take (k + 1)) = A' at *
            generalize sumW l ((a :: LL).take k) = W at *
            generalize sumA l ((a :: LL).take k) = A at *
            have hwW : IntKind.i64.wrap (W + wt) = W' := by rw [wr64 (by omega), s1]
            have hwA : IntKind.i64.wrap (A + ac) = A' := by rw [wr64 (by omega), s2]
            have hkl : k < LL.length + 1 := by simpa using hk
            have hgk : ((a :: LL).map (V.int .i64))[k]? = some (.int .i64 (n : Int)) := by
              rw [List.getElem?_map, List.getElem?_eq_getElem hk, hn1]; rfl
            have hkI : (k : Int) < (LL.length : Int) + 1 := by omega
            generalize (a :: LL).map (V.int .i64) = M at *
            have hkM : k < M.length := by omega
            have hgk2 : M[k] = .int .i64 (n : Int) := by rw [List.getElem?_eq_getElem hkM] at hgk; exact Option.some.inj hgk
            simp [go_sem, Tryz.L7_1, hk, hkl, hkI, hkM, hn2, hx, bkV, hwW, hwA, ha.fin, hb6, hgk2]
            refine ⟨fun h => absurd h (by omega), ?_⟩
            exact hN _ (cov_look (by simp [go_sem, hw]))
          · have r1 := sumW_rng hok (a :: LL).length
            obtain ⟨n, hbn, hn2, hokb⟩ := hok b hbm
            obtain ⟨n', hbn', hn2', hokb'⟩ := hok a (by simp)
            rw [List.take_length] at r1 ⊢
            have hll2 : (a :: LL).length ≤ 32000 := hlen
            unfold below at hbb
            have hbb := of_decide_eq_true hbb
            obtain ⟨q1, q2, q3, q4⟩ := hokb
            generalize sumW l (a :: LL) = W at *
            generalize sumA l (a :: LL) = A at *
            have hbk := bk_get hn2
            have hbk' := bk_get hn2'
            have hwt : wtI l b = l[n].wt := by rw [hbn]; simp [wtI, hbk]
            have hac : acI l b = l[n].ac := by rw [hbn]; simp [acI, hbk]
            have hac' : acI l a = l[n'].ac := by rw [hbn']; simp [acI, hbk']
            rw [hwt, hac] at hbb
            rw [hac'] at hab
            rw [hbk] at q1 q2 q3 q4
            generalize hx' : l[n'] = x' at *
            obtain ⟨wt', ac', cu', up', op'⟩ := x'
            generalize hx : l[n] = x at *
            obtain ⟨wt, ac, cu, up, op⟩ := x
            dsimp only at hbb hab q1 q2 q3 q4
            have hA1 : 0 ≤ p * (A + 1) := Int.mul_nonneg (by omega) (by omega)
            have hA2 : p * (A + 1) ≤ 1000 * 400000001 := Int.mul_le_mul hp1.2 (by omega) (by omega) (by omega)
            have hA3 : 0 ≤ p * (A + 1) * wt := Int.mul_nonneg hA1 (by omega)
            have hA4 : p * (A + 1) * wt ≤ 1000 * 400000001 * 100 := Int.mul_le_mul hA2 (by omega) (by omega) (by omega)
            have hB1 : 0 ≤ ac * 100 * W := Int.mul_nonneg (by omega) (by omega)
            have hB2 : ac * 100 * W ≤ 10000 * 100 * 4000000 := Int.mul_le_mul (by omega) (by omega) (by omega) (by omega)
            have w1 : IntKind.i64.wrap (ac * 100) = ac * 100 := wr64 (by omega)
            have w2 : IntKind.i64.wrap (ac * 100 * W) = ac * 100 * W := wr64 (by omega)
            have w3 : IntKind.i64.wrap (A + 1) = A + 1 := wr64 (by omega)
            have w4 : IntKind.i64.wrap (p * (A + 1)) = p * (A + 1) := wr64 (by omega)
            have w5 : IntKind.i64.wrap (p * (A + 1) * wt) = p * (A + 1) * wt := wr64 (by omega)
            simp [go_sem, Tryz.L7_1, hbn, hbn', hn2, hn2', hx, hx', bkV, ha.fin, hb6]
            intro b5 hb5
            simp only [w1, w2, w3, w4, w5]
            refine ⟨fun _ => ⟨hbb, fun h => ⟨hbb, h⟩⟩, ?_⟩
            have hg : (decide (ac * 100 * W < p * (A + 1) * wt) && (decide (0 < ac') || decide ((n' : Int) = n))) = true := by
              rcases hab with h | h
              · simp [hbb, h]
              · rw [hbn', hbn] at h
                simp [hbb, h]
            rw [hg]
            refine gK_pure (by first | exact d3 | (simp only [upd_self hb5]; exact d3)) (by simp) (by simp [go_sem]) ?_
            simp [go_sem, ha.fin]
            refine ret_wk (by simp [go_sem]) (by have e := upd_self hb5; dsimp only; rw [e]; exact ha.ext) ?_
            simp [go_sem]
            exact Wk.refl _
end Go.Proofs.Pol
