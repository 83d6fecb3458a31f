/- Texts of the proof, put together: Qa, Qb, Qc, Qd, Qe, Qf, Qg, Qh, Qi, Qj, Qk, Ql, Qm, Qn, Qp, Qq, Qt, Qu, Rs, Qv, Rm, Rn, Ro, Rp, Rq, Rr, Rt, Qw. -/
import Derived.Test.YtnijaldhopcpdaaGreatDoorHi
import Derived.Test.YtnijaldhopcpdaaGreatDoorHc
import Derived.Test.YtnijaldhopcpdaaGreatDoorHh

set_option linter.unusedSimpArgs false
set_option linter.unusedVariables false
set_option maxRecDepth 100000
namespace Go.Proofs.Pol
open Go Go.Pl Go.Proofs
structure Bk where
  wt : Int
  ac : Int
  cu : Int
  up : Bool
  op : Bool
  deriving DecidableEq
def bkV (x : Bk) : V := .agg [.int .i64 x.wt, .int .i64 x.ac, .int .i64 x.cu, .bool x.up, .bool x.op]
theorem outside_c (n lo hi : Int) (bx : Boxes) : PureCall Tryz.prog 98 [.int .i64 n, .int .i64 lo, .int .i64 hi] bx (.bool (decide (n < lo) || decide (hi < n))) := by
  refine Tryz.ctr98 fun hb => ?_
  simp [go_sem, Tryz.C98]
  refine ret_pure ?_ ?_ <;> simp [go_sem]
theorem lighter_c (x y : Bk) (bx : Boxes) : PureCall Tryz.prog 97 [bkV x, bkV y] bx (.bool (decide (IntKind.i64.wrap (x.ac * y.wt) < IntKind.i64.wrap (y.ac * x.wt)))) := by
  refine Tryz.ctr97 fun hb => ?_
  simp [go_sem, Tryz.C97, bkV, hb]
  refine ret_pure ?_ ?_ <;> simp [go_sem]
def badB (x : Bk) : Bool := (decide (x.wt < 0) || decide (100 < x.wt)) || (decide (x.ac < 0) || decide (10000 < x.ac)) || (decide (x.cu < -1000000) || decide (1000000 < x.cu))
theorem bad_c (x : Bk) (bx : Boxes) : PureCall Tryz.prog 128 [bkV x] bx (.bool (badB x)) := by
  refine Tryz.ctr128 fun hb => ?_
  simp [go_sem, Tryz.C128, bkV, hb]
  refine callK_pure (outside_c ..) ?_
  simp [go_sem]
  refine gK_pure (outside_c ..) (by simp) (by simp [go_sem]) ?_
  simp [go_sem]
  refine gK_pure (outside_c ..) (by simp) (by simp [go_sem]) ?_
  simp [go_sem]
  refine ret_pure ?_ ?_ <;> simp [go_sem, badB]
def canP (x : Bk) (skip : Int) (i : Nat) : Bool := x.up && (!x.op && (decide (0 < x.wt) && decide ((skip.fdiv (2 ^ i)).tmod 2 = 0)))
def canL (l : List Bk) (skip : Int) (k : Nat) : List Nat := (List.range k).filter fun i => match l[i]? with | some x => canP x skip i | none => false
theorem canL_le (l : List Bk) (skip : Int) (k : Nat) : (canL l skip k).length ≤ k := by
  simpa [canL] using List.length_filter_le _ (List.range k)
def ixV (i : Nat) : V := .int .i64 i
set_option maxHeartbeats 1000000 in
theorem refcan_c (l : List Bk) (skip : Int) (bx : Boxes) (hl : l.length ≤ 50) : PureCall Tryz.prog 131 [.sl 5 (l.map bkV), .int .i64 skip] bx (.sl 1 ((canL l skip l.length).map ixV)) := by
  refine AbsCall.weak (Kc := fun r bx' => ((r = .nils ∧ (canL l skip l.length).map ixV = []) ∨ r = .sl 1 ((canL l skip l.length).map ixV)) ∧ bx' = bx) (Tryz.ctr131 fun hb => ?_) ?_
  · simp [go_sem, Tryz.C131]
    refine pw_loop (ι := Nat × V × Boxes) (fun p => p.1 ≤ l.length ∧ Acc bx 3 1 ((canL l skip p.1).map ixV) p.2.1 p.2.2)
      (fun p => ⟨46, slk [(0, V.sl 5 (List.map bkV l)), (1, V.int IntKind.i64 skip), (5, p.2.1), (6, .int .i64 p.1)], p.2.2⟩) (fun p => l.length - p.1) (0, .nils, bx) ⟨by simp, acc_nil hb _ _⟩ (cov_look (by simp [go_sem])) ?_
    rintro ⟨k, v, bx1⟩ ⟨hk, ha⟩
    dsimp only at hk ha ⊢
    by_cases hlt : k < l.length
    · have hw : IntKind.i64.wrap ((k : Int) + 1) = ((k + 1 : Nat) : Int) := by rw [wr64 (by omega)]; omega
      have hmin : min k 64 = k := by omega
      have hg : l[k]? = some l[k] := List.getElem?_eq_getElem hlt
      simp [go_sem, Tryz.L131_0, hlt, bkV, hb, hw, hmin, ha.fin]
      refine ⟨fun h1 h2 h3 h4 b hb1 => ?_, fun hno => ?_⟩
      · refine acc_append (es := (canL l skip k).map ixV) (news := [.int .i64 k]) (e := 3) (sz := 1) (bx1 := bx1) (bx := bx) (.int .i64 0) ha ((Ext.refl _).new hb1 _) ((finB_upd _ _ _).2 ha.fin) Tryz.knd23 Tryz.tsz3 (by simp [srcEls, upd]) Tryz.tzero3 (by simp [go_sem]) (by omega) ?_ ?_ (by simp [go_sem]) ?_
        · have := canL_le l skip k
          simp [Tryz.tby3]; omega
        · have := canL_le l skip k
          simp; omega
        · intro v' bx3 ha'
          simp [go_sem, hw]
          refine ⟨(k + 1, v', bx3), ⟨by simp; omega, ?_⟩, cov_look (by simp [go_sem]), by simp; omega⟩
          have : canL l skip (k + 1) = canL l skip k ++ [k] := by simp [canL, List.range_succ, hg, canP, h1, h2, h3, h4]
          simpa [this, ixV] using ha'
      · refine ⟨(k + 1, v, bx1), ⟨by simp; omega, ?_⟩, cov_look (by simp [go_sem, hw]), by simp; omega⟩
        have : canL l skip (k + 1) = canL l skip k := by
          simp [canL, List.range_succ, hg, canP]
          intro h1 h2 h3; exact hno h1 h2 h3
        simpa [this] using ha
    · have hk' : k = l.length := by omega
      subst hk'
      simp [go_sem, Tryz.L131_0]
      refine ret_acc (e := 3) (sz := 1) (es := (canL l skip l.length).map ixV) (by simp [go_sem]) (by simpa [go_sem] using ha) (by omega) ?_
      rintro r (⟨h1, h2⟩ | h1)
      · simp only [List.map_eq_nil_iff] at h2
        exact ⟨.inl ⟨h1, h2⟩, rfl⟩
      · exact ⟨.inr h1, rfl⟩
  · rintro r bx' ⟨h | h, rfl⟩
    · simp [h.1, h.2, wk_nils]
    · simp [h, Wk.refl]
/-- IndexFunc -/
theorem index_c (g : FuncId) (caps : List V) (p : Bk → Bool) (l : List Bk) (bx : Boxes) (hl : l.length ≤ 1000) (hp : ∀ x, x ∈ l → ∀ bx, PureCall Tryz.prog g (bkV x :: caps) bx (.bool (p x))) :
    PureCall Tryz.prog 129 [.sl 5 (l.map bkV), .fn (.func g) caps] bx (.int .i64 (match l.findIdx? p with | some i => (i : Int) | none => -1)) := by
  refine Tryz.ctr129 fun hb => ?_
  simp [go_sem, Tryz.C129, hb]
  refine pw_loop (ι := Nat) (fun k => k ≤ l.length ∧ ∀ j, j < k → ∀ x, l[j]? = some x → p x = false) (fun k => ⟨19, slk [(0, V.sl 5 (List.map bkV l)), (1, V.fn (.func g) caps), (7, .int .i64 l.length), (8, .int .i64 k)], bx⟩) (fun k => l.length - k) 0 ⟨by omega, fun j h => by omega⟩ (cov_look (by simp [go_sem])) ?_
  rintro k ⟨hk, hpre⟩
  by_cases hlt : k < l.length
  · have hw : IntKind.i64.wrap ((k : Int) + 1) = ((k + 1 : Nat) : Int) := by rw [wr64 (by omega)]; omega
    have hmem : l[k] ∈ l := List.getElem_mem hlt
    simp [go_sem, Tryz.L129_0, hlt, bkV, hb]
    refine callK_pure (hp _ hmem bx) ?_
    simp [go_sem]
    refine ⟨fun h => ?_, fun h => ?_⟩
    · refine ret_pure (by simp [go_sem]) ?_
      have : l.findIdx? p = some k := by
        rw [List.findIdx?_eq_some_iff_getElem]
        exact ⟨hlt, h, fun j hj => by have := hpre j hj l[j] (List.getElem?_eq_getElem (by omega)); simp [this]⟩
      simp [go_sem, this]
    · refine ⟨k + 1, ⟨by omega, fun j hj x hx => ?_⟩, cov_look (by simp [go_sem, hw]), by dsimp only; omega⟩
      by_cases e : j = k
      · subst e; rw [List.getElem?_eq_getElem hlt] at hx; injection hx with hx; rw [← hx]; exact h
      · exact hpre j (by omega) x hx
  · have hk' : k = l.length := by omega
    subst hk'
    simp [go_sem, Tryz.L129_0]
    refine ret_pure (by simp [go_sem]) ?_
    have : l.findIdx? p = none := by
      rw [List.findIdx?_eq_none_iff]
      intro x hx
      obtain ⟨j, hj, rfl⟩ := List.getElem_of_mem hx
      exact hpre j hj _ (List.getElem?_eq_getElem hj)
    simp [go_sem, this]
end Go.Proofs.Pol

set_option linter.unusedSimpArgs false
set_option linter.unusedVariables false
set_option maxRecDepth 100000
namespace Go.Proofs.Pol
open Go Go.Pl Go.Proofs
theorem contains_c (g : FuncId) (caps : List V) (p : Bk → Bool) (l : List Bk) (bx : Boxes) (hl : l.length ≤ 1000) (hp : ∀ x, x ∈ l → ∀ bx, PureCall Tryz.prog g (bkV x :: caps) bx (.bool (p x))) :
    PureCall Tryz.prog 101 [.sl 5 (l.map bkV), .fn (.func g) caps] bx (.bool (l.any p)) := by
  refine Tryz.ctr101 fun hb => ?_
  simp [go_sem, Tryz.C101, hb]
  refine callK_pure (index_c g caps p l bx hl hp) ?_
  simp [go_sem]
  refine ret_pure (by simp [go_sem]) ?_
  simp [go_sem]
  cases h : l.findIdx? p with
  | none =>
    rw [List.findIdx?_eq_none_iff] at h
    simp
    exact h
  | some i =>
    rw [List.findIdx?_eq_some_iff_getElem] at h
    obtain ⟨h1, h2, _⟩ := h
    simp
    exact ⟨_, List.getElem_mem h1, h2⟩
def checkB (l : List Bk) : Int := if l.length < 1 ∨ 16 < l.length then 3 else if l.any badB then 7 else 0
theorem check_c (l : List Bk) (bx : Boxes) (hl : l.length ≤ 1000) : PureCall Tryz.prog 99 [.sl 5 (l.map bkV)] bx (.int .i64 (checkB l)) := by
  refine Tryz.ctr99 fun hb => ?_
  simp [go_sem, Tryz.C99, hb]
  refine callK_pure (outside_c ..) ?_
  simp [go_sem]
  refine ⟨fun h => ret_pure (by simp [go_sem]) ?_, fun h1 h2 => callK_pure (contains_c 128 [] badB l bx hl (fun x _ bx => bad_c x bx)) ?_⟩
  · have : l.length < 1 ∨ 16 < l.length := by omega
    have hc : checkB l = 3 := if_pos this
    simp [go_sem, hc]
  · have : ¬ (l.length < 1 ∨ 16 < l.length) := by omega
    simp [go_sem]
    refine ⟨fun x hx hb => ret_pure (by simp [go_sem]) ?_, fun h => ret_pure (by simp [go_sem]) ?_⟩
    · have h3 : l.any badB = true := List.any_eq_true.2 ⟨x, hx, hb⟩
      have hc : checkB l = 7 := by unfold checkB; rw [if_neg this, if_pos h3]
      simp [go_sem, hc]
    · have h3 : l.any badB = false := by simpa using h
      have hc : checkB l = 0 := by unfold checkB; rw [if_neg this, if_neg (by simp [h3])]
      simp [go_sem, hc]
end Go.Proofs.Pol

set_option linter.unusedSimpArgs false
set_option linter.unusedVariables false
set_option maxRecDepth 100000
namespace Go.Proofs.Pol
open Go Go.Pl Go.Proofs
def askB (l : List Bk) (skip : Int) : Int := if checkB l = 0 then (if skip < 0 ∨ 65535 < skip then 2 else 0) else checkB l
theorem ask_c (l : List Bk) (skip : Int) (bx : Boxes) (hl : l.length ≤ 1000) : PureCall Tryz.prog 70 [.sl 5 (l.map bkV), .int .i64 skip] bx (.int .i64 (askB l skip)) := by
  refine Tryz.ctr70 fun hb => ?_
  simp [go_sem, Tryz.C70, hb]
  refine callK_pure (check_c l bx hl) ?_
  simp [go_sem]
  refine ⟨fun h => ret_pure (by simp [go_sem]) ?_, fun h => callK_pure (outside_c ..) ?_⟩
  · simp [go_sem, askB, h]
  · simp [go_sem]
    refine ⟨fun h1 => ret_pure (by simp [go_sem]) ?_, fun h1 h2 => ret_pure (by simp [go_sem]) ?_⟩
    · simp [go_sem, askB, h, h1]
    · have : ¬ (skip < 0 ∨ 65535 < skip) := by omega
      simp [go_sem, askB, h, this]
set_option maxHeartbeats 1000000 in
theorem rcheck_c (l : List Bk) (bx : Boxes) (hl : l.length ≤ 1000) : PureCall Tryz.prog 143 [.sl 5 (l.map bkV)] bx (.int .i64 (checkB l)) := by
  refine Tryz.ctr143 fun hb => ?_
  simp [go_sem, Tryz.C143, hb]
  refine ⟨fun h => ret_pure (by simp [go_sem]) ?_, fun h1 h2 => ?_⟩
  · have hc : checkB l = 3 := if_pos (by omega)
    simp [go_sem, hc]
  · have hn : ¬ (l.length < 1 ∨ 16 < l.length) := by omega
    refine pw_loop (ι := Nat) (fun k => k ≤ l.length ∧ ∀ j, j < k → ∀ x, l[j]? = some x → badB x = false) (fun k => ⟨51, slk [(0, V.sl 5 (List.map bkV l)), (3, .int .i64 k)], bx⟩) (fun k => l.length - k) 0 ⟨by omega, fun j h => by omega⟩ (cov_look (by simp [go_sem])) ?_
    rintro k ⟨hk, hpre⟩
    by_cases hlt : k < l.length
    · have hw : IntKind.i64.wrap ((k : Int) + 1) = ((k + 1 : Nat) : Int) := by rw [wr64 (by omega)]; omega
      have hmem : l[k] ∈ l := List.getElem_mem hlt
      simp [go_sem, Tryz.L143_0, hlt, bkV, hb]
      intro b hb1
      rw [upd_self hb1]
      refine ⟨fun h => ret_pure (by simp [go_sem]) ?_, fun g1 g2 g3 g4 g5 g6 => ⟨k + 1, ⟨by omega, fun j hj x hx => ?_⟩, cov_look (by simp [go_sem, hw]), by dsimp only; omega⟩⟩
      · have h3 : l.any badB = true := List.any_eq_true.2 ⟨_, hmem, by simp [badB]; omega⟩
        have hc : checkB l = 7 := by unfold checkB; rw [if_neg hn, if_pos h3]
        simp [go_sem, hc]
      · by_cases e : j = k
        · subst e; rw [List.getElem?_eq_getElem hlt] at hx; injection hx with hx; rw [← hx]; simp [badB]; omega
        · exact hpre j (by omega) x hx
    · have hk' : k = l.length := by omega
      subst hk'
      simp [go_sem, Tryz.L143_0]
      refine ret_pure (by simp [go_sem]) ?_
      have h3 : l.any badB = false := by
        rw [List.any_eq_false]
        intro x hx
        obtain ⟨j, hj, rfl⟩ := List.getElem_of_mem hx
        simp [hpre j hj _ (List.getElem?_eq_getElem hj)]
      have hc : checkB l = 0 := by unfold checkB; rw [if_neg hn, if_neg (by simp [h3])]
      simp [go_sem, hc]
end Go.Proofs.Pol

set_option linter.unusedSimpArgs false
set_option linter.unusedVariables false
set_option maxRecDepth 100000
namespace Go.Proofs.Pol
open Go Go.Pl Go.Proofs
theorem candit_c (l : List Bk) (skip : Int) (b : Nat) (J : Nat → Boxes → Prop) (S : Boxes → Prop) (hl : l.length ≤ 50)
    (hf : ∀ k bx, J k bx → FinB bx) (hy : ∀ k bx x, l[k]? = some x → J k bx → (canP x skip k = true → AbsYield Tryz.prog b [.int .i64 k] bx fun r bx' => (r = .bool true ∧ J (k + 1) bx') ∨ (r = .bool false ∧ S bx')) ∧ (canP x skip k = false → J (k + 1) bx))
    {bx : Boxes} (h0 : J 0 bx) : AbsCall Tryz.prog 109 [.yl b, .ep (.sl 5 (l.map bkV)) 0, .ep (.int .i64 skip) 0] bx fun _ bx' => J l.length bx' ∨ S bx' := by
  refine Tryz.ctr109 fun hb => ?_
  simp [go_sem, Tryz.C109, hb]
  refine pw_loop (ι := Nat × Boxes) (fun p => p.1 ≤ l.length ∧ J p.1 p.2) (fun p => ⟨39, slk [(0, .yl b), (2, .ep (.int .i64 skip) 0), (6, .sl 5 (l.map bkV)), (7, .int .i64 l.length), (8, .int .i64 p.1)], p.2⟩) (fun p => l.length - p.1) (0, bx) ⟨by simp, h0⟩ (cov_look (by simp [go_sem])) ?_
  rintro ⟨k, bx1⟩ ⟨hk, hJ⟩
  dsimp only at hk hJ ⊢
  by_cases hlt : k < l.length
  · have hw : IntKind.i64.wrap ((k : Int) + 1) = ((k + 1 : Nat) : Int) := by rw [wr64 (by omega)]; omega
    have hg : l[k]? = some l[k] := List.getElem?_eq_getElem hlt
    have hmin : min k 64 = k := by omega
    have := hy k bx1 _ hg hJ
    simp [go_sem, Tryz.L109_0, hlt, bkV, hf _ _ hJ, hmin]
    intro b1 hb1
    rw [upd_self hb1]
    have hbit : bits .and .i64 (skip.fdiv (2 ^ k)) 1 = (skip.fdiv (2 ^ k)) % 2 := by simpa using bits_and_mask .i64 1 (by decide) (skip.fdiv (2 ^ k)) 1 (by decide)
    have hc : (l[k].up && !l[k].op && decide (0 < l[k].wt) && decide (bits BinOp.and IntKind.i64 (skip.fdiv (2 ^ k)) 1 = 0)) = canP l[k] skip k := by
      have : decide ((skip.fdiv (2 ^ k)) % 2 = 0) = decide ((skip.fdiv (2 ^ k)).tmod 2 = 0) := by
        simp [tmod2]
      simp [canP, hbit, this, Bool.and_assoc]
    simp only [hc]
    refine ⟨fun hcp => ⟨?_, by simp [go_sem], ?_⟩, fun hcp => ?_⟩
    · simpa [canP, Bool.and_assoc, hbit, and_assoc, tmod2] using hcp
    · refine yldK_abs (this.1 hcp) ?_
      rintro r bx' (⟨rfl, h⟩ | ⟨rfl, h⟩)
      · simp [go_sem, hcp, hw]
        exact ⟨(k + 1, bx'), ⟨by simp; omega, h⟩, cov_look (by simp [go_sem]), by dsimp only; omega⟩
      · simp [go_sem, hcp]
        exact ret_pure (by simp [go_sem]) (.inr h)
    · simp [go_sem, hcp, hw]
      exact ⟨(k + 1, bx1), ⟨by simp; omega, this.2 hcp⟩, cov_look (by simp [go_sem]), by dsimp only; omega⟩
  · have hk' : k = l.length := by omega
    subst hk'
    simp [go_sem, Tryz.L109_0]
    exact ret_pure (by simp [go_sem]) (.inl hJ)
def canX (l : List Bk) (skip : Int) (k : Nat) : Option (List V) := match l[k]? with
  | some x => if canP x skip k then some [.int .i64 k] else none
  | none => none
theorem candit (l : List Bk) (skip : Int) (hl : l.length ≤ 50) : Iter Tryz.prog 109 [.ep (.sl 5 (l.map bkV)) 0, .ep (.int .i64 skip) 0] l.length (canX l skip) := by
  intro b J S hf hy bx h0
  refine candit_c l skip b J S hl hf (fun k bx x hx hJ => ?_) h0
  obtain ⟨h1, h2⟩ := hy k bx (List.getElem?_eq_some_iff.1 hx).1 hJ
  simp only [canX, hx] at h1 h2
  exact ⟨fun hc => h1 _ (by simp [hc]), fun hc => h2 (by simp [hc])⟩
end Go.Proofs.Pol

set_option linter.unusedSimpArgs false
set_option linter.unusedVariables false
set_option maxRecDepth 100000
namespace Go.Proofs.Pol
open Go Go.Pl Go.Proofs
theorem cand_c (l : List Bk) (skip : Int) (bx : Boxes) : PureCall Tryz.prog 72 [.sl 5 (l.map bkV), .int .i64 skip] bx (.fn (.func 109) [.ep (.sl 5 (l.map bkV)) 0, .ep (.int .i64 skip) 0]) := by
  refine Tryz.ctr72 fun hb => ?_
  simp [go_sem, Tryz.C72, hb]
  refine ret_pure (by simp [go_sem]) ?_
  simp [go_sem]
theorem canX_len (l : List Bk) (skip : Int) (m : Nat) (hm : m = 1) : ∀ k args, canX l skip k = some args → args.length = m := by
  subst hm
  intro k args ha
  simp only [canX] at ha
  split at ha
  · split at ha
    · injection ha with ha; subst ha; rfl
    · cases ha
  · cases ha
def bk0 : Bk := ⟨0, 0, 0, false, false⟩
def bk (l : List Bk) (i : Nat) : Bk := l.getD i bk0
def ltB (x y : Bk) : Bool := decide (IntKind.i64.wrap (x.ac * y.wt) < IntKind.i64.wrap (y.ac * x.wt))
def bestO (l : List Bk) (c : List Nat) : Option Nat := c.foldl (fun o i => match o with | none => some i | some j => if ltB (bk l i) (bk l j) then some i else some j) none
def oI : Option Nat → Int
  | none => -1
  | some j => j
theorem canL_succ (l : List Bk) (skip : Int) (k : Nat) (h : k < l.length) : canL l skip (k + 1) = if canP l[k] skip k then canL l skip k ++ [k] else canL l skip k := by
  simp [canL, List.range_succ, List.getElem?_eq_getElem h]
  split <;> simp [*]
theorem canL_lt (l : List Bk) (skip : Int) (k : Nat) : ∀ i, i ∈ canL l skip k → i < k ∧ i < l.length := by
  intro i hi
  simp [canL] at hi
  refine ⟨hi.1, ?_⟩
  by_cases h : i < l.length
  · exact h
  · rw [List.getElem?_eq_none (by omega)] at hi; simp at hi
theorem bestO_mem (l : List Bk) (c : List Nat) (j : Nat) (h : bestO l c = some j) : j ∈ c := by
  unfold bestO at h
  have : ∀ (c : List Nat) (o : Option Nat), (c.foldl (fun o i => match o with | none => some i | some j => if ltB (bk l i) (bk l j) then some i else some j) o) = some j → j ∈ c ∨ o = some j := by
    intro c
    induction c with
    | nil => intro o h; exact .inr h
    | cons i c ih =>
      intro o h
      rw [List.foldl_cons] at h
      rcases ih _ h with h1 | h1
      · exact .inl (by simp [h1])
      · cases o with
        | none => simp at h1; exact .inl (by simp [h1])
        | some q =>
          dsimp only at h1
          split at h1
          · injection h1 with h1; exact .inl (by simp [h1])
          · exact .inr h1
  rcases this c none h with h1 | h1
  · exact h1
  · cases h1
theorem bestO_snoc (l : List Bk) (c : List Nat) (k : Nat) : bestO l (c ++ [k]) = match bestO l c with | none => some k | some j => if ltB (bk l k) (bk l j) then some k else some j := by
  simp [bestO]
theorem bk_get {l : List Bk} {k : Nat} (h : k < l.length) : bk l k = l[k] := by simp [bk, h]
def least (l : List Bk) (skip : Int) : Int × Int :=
  if askB l skip = 0 then (match bestO l (canL l skip l.length) with | none => (0, 4) | some j => (j, 0)) else (0, askB l skip)
theorem least_c (l : List Bk) (skip : Int) (bx : Boxes) (hl : l.length ≤ 50) : PureCall Tryz.prog 59 [.sl 5 (l.map bkV), .int .i64 skip] bx (.tup [.int .i64 (least l skip).1, .int .i64 (least l skip).2]) := by
  refine Tryz.ctr59 fun hb => ?_
  simp [go_sem, Tryz.C59, hb]
  refine callK_pure (ask_c l skip bx (by omega)) ?_
  simp [go_sem]
  refine ⟨fun h => ret_pure (by simp [go_sem]) ?_, fun h => ⟨hb, fun b7 hb7 => callK_pure (cand_c ..) ?_⟩⟩
  · simp [go_sem, least, h]
  · simp [go_sem]
    refine pw_iter (by kernel_rfl) (candit l skip hl) (fun k bx' => bx' = upd bx b7 (some (.row 3 1 [.int .i64 (oI (bestO l (canL l skip k)))]))) (by simp [go_sem]) (by simp [bestO, canL, oI]) (by rintro k _ rfl; simp [finB_upd, hb]) (fun k args _ => canX_len l skip 1 rfl k args) (by simp) (by rfl) (by rfl) ?_ ?_
    · rintro k _ hk rfl
      refine ⟨fun hn => ?_, fun args ha => ?_⟩
      · rw [canL_succ l skip k hk]
        simp [canX, List.getElem?_eq_getElem hk] at hn
        simp [hn]
      simp only [canX, List.getElem?_eq_getElem hk, Option.ite_none_right_eq_some, Option.some.injEq] at ha
      obtain ⟨hc, rfl⟩ := ha
      intro K k1 k2
      simp [go_sem, Tryz.L59_0a, setPs, upd_look]
      rw [canL_succ l skip k hk, hc] at k1
      cases hb : bestO l (canL l skip k) with
      | none =>
        simp [go_sem, Tryz.L59_0b, hk, oI, bkV]
        refine gK_off .unk (by simp [go_sem]) ?_
        simp [go_sem]
        exact k1 _ (by simp [go_sem, bestO_snoc, hb, oI])
      | some j =>
        have hj := canL_lt _ _ _ _ (bestO_mem _ _ _ hb)
        simp [go_sem, Tryz.L59_0b, hk, oI, hj, bkV]
        refine gK_pure (lighter_c l[k] l[j] _) (by simp) (by simp [go_sem]) ?_
        simp [go_sem]
        have hbs := bestO_snoc l (canL l skip k) k
        simp only [hb, ltB, bk_get hk, bk_get hj.2] at hbs
        refine ⟨fun h => k1 _ ?_, fun h => k1 _ ?_⟩
        · simp [go_sem, hbs, h, oI]
        · simp [go_sem, hbs, Int.not_lt.2 h, oI]
    · simp [go_sem]

      cases hb : bestO l (canL l skip l.length) with
      | none =>
        simp [go_sem, oI]
        refine ret_drop (by simp [go_sem]) ((Ext.refl _).new hb7 _) ?_
        simp [go_sem, least, h, hb]
      | some j =>
        simp [go_sem, oI]
        refine ret_drop (by simp [go_sem]) ((Ext.refl _).new hb7 _) ?_
        simp [go_sem, least, h, hb]
end Go.Proofs.Pol

set_option linter.unusedSimpArgs false
set_option linter.unusedVariables false
set_option maxRecDepth 100000
namespace Go.Proofs.Pol
open Go Go.Pl Go.Proofs
theorem asked_c (l : List Bk) (skip : Int) (bx : Boxes) (hl : l.length ≤ 1000) : PureCall Tryz.prog 130 [.sl 5 (l.map bkV), .int .i64 skip] bx (.int .i64 (askB l skip)) := by
  refine Tryz.ctr130 fun hb => ?_
  simp [go_sem, Tryz.C130, hb]
  refine callK_pure (rcheck_c l bx hl) ?_
  by_cases h1 : checkB l = 0
  · simp [go_sem, h1]
    refine ⟨fun h2 => ret_pure (by simp [go_sem]) ?_, fun h2 h3 => ret_pure (by simp [go_sem]) ?_⟩
    · simp [go_sem, askB, h1, h2]
    · have : ¬ (skip < 0 ∨ 65535 < skip) := by omega
      simp [go_sem, askB, h1, this]
  · simp [go_sem, h1]
    refine ret_pure (by simp [go_sem]) ?_
    simp [go_sem, askB, h1]
def canR (l : List Bk) (skip : Int) : List Nat := if askB l skip = 0 then canL l skip l.length else []
theorem refCan_c (l : List Bk) (skip : Int) (bx : Boxes) (hl : l.length ≤ 50) : PureCall Tryz.prog 106 [.sl 5 (l.map bkV), .int .i64 skip] bx (.tup [.sl 1 ((canR l skip).map ixV), .int .i64 (askB l skip)]) := by
  refine PureCall.wk (Tryz.ctr106 fun hb => ?_)
  simp [go_sem, Tryz.C106, hb]
  refine callK_pure (asked_c l skip bx (by omega)) ?_
  simp [go_sem]
  refine ⟨fun h => ret_wk0 (by simp [go_sem]) ?_, fun h => callK_pure (refcan_c l skip bx hl) ?_⟩
  · simp [go_sem, canR, h]; exact wk_tup2 (wk_nils _) (Wk.refl _)
  · simp [go_sem]
    refine ret_wk0 (by simp [go_sem]) ?_
    simp [go_sem, canR, h]; exact Wk.refl _
theorem appendseq_c (gf : FuncId) (caps : List V) (n : Nat) (xs : Nat → Option (List V)) (ys : Nat → List Int) (bx : Boxes) (it : Iter Tryz.prog gf caps n xs) (hn : n ≤ 100000)
    (h0 : ys 0 = []) (hy : ∀ k, k < n → (xs k = none → ys (k + 1) = ys k) ∧ ∀ args, xs k = some args → ∃ y, args = [.int .i64 y] ∧ ys (k + 1) = ys k ++ [y]) :
    PureCall Tryz.prog 108 [.nils, .fn (.func gf) caps] bx (.sl 1 ((ys n).map (.int .i64))) := by
  have hlen : ∀ k, k ≤ n → (ys k).length ≤ k := by
    intro k
    induction k with
    | zero => intro _; simp [h0]
    | succ k ih =>
      intro hk
      have := ih (by omega)
      cases hx : xs k with
      | none => rw [(hy k (by omega)).1 hx]; omega
      | some args => obtain ⟨y, _, e⟩ := (hy k (by omega)).2 args hx; rw [e]; simp; omega
  refine PureCall.wk (Tryz.ctr108 fun hb => ?_)
  simp [go_sem, Tryz.C108, hb]
  intro b2 hb2
  refine pw_iter (by kernel_rfl) it (fun k bx' => ∃ v, Acc (upd bx b2 (some (.row 23 1 [v]))) 3 1 ((ys k).map (.int .i64)) v bx') (by simp [go_sem]) ?_ ?_ ?_ (by simp) (by rfl) (by rfl) ?_ ?_
  · exact ⟨.nils, by rw [h0]; exact acc_nil (by simp [finB_upd, hb]) _ _⟩
  · rintro k _ ⟨v, ha⟩; exact ha.fin
  · intro k args hk ha
    obtain ⟨y, rfl, _⟩ := (hy k hk).2 args ha; rfl
  · rintro k bx1 hk ⟨v, ha⟩
    refine ⟨fun hx => ⟨v, by rw [(hy k hk).1 hx]; exact ha⟩, fun args hx K k1 k2 => ?_⟩
    obtain ⟨y, rfl, hys⟩ := (hy k hk).2 args hx
    have hl := hlen k (by omega)
    simp [go_sem, Tryz.L108_0a, setPs, upd_look]
    simp [go_sem, Tryz.L108_0b, ha.cells, ha.fin, ha.at]
    intro b hb1
    refine acc_append (es := (ys k).map (.int .i64)) (news := [.int .i64 y]) (e := 3) (sz := 1) (.int .i64 0) ha ((Ext.refl _).new hb1 _) (by simp [finB_upd, ha.fin]) Tryz.knd23 Tryz.tsz3 (by simp [go_sem, srcEls]) Tryz.tzero3 (by simp [go_sem]) (by omega) (by simp [Tryz.tby3]; omega) (by simp; omega) (by simp [go_sem]) ?_
    intro v' bx3 ha'
    simp [go_sem, ha'.at, ha.cells, ha'.cells, ha.setC, ha'.okV]
    exact k1 _ ⟨v', by rw [hys]; simpa using ha'.put _⟩
  · rintro bx1 ⟨v, ha⟩
    simp [go_sem, ha.cells, ha.at]
    refine ret_accw (e := 3) (by simp [go_sem]) ?_ (by omega)
    simpa [go_sem] using ha.base ((Ext.refl _).new hb2 _)
theorem collect_c (gf : FuncId) (caps : List V) (n : Nat) (xs : Nat → Option (List V)) (ys : Nat → List Int) (bx : Boxes) (it : Iter Tryz.prog gf caps n xs) (hn : n ≤ 100000)
    (h0 : ys 0 = []) (hy : ∀ k, k < n → (xs k = none → ys (k + 1) = ys k) ∧ ∀ args, xs k = some args → ∃ y, args = [.int .i64 y] ∧ ys (k + 1) = ys k ++ [y]) :
    PureCall Tryz.prog 71 [.fn (.func gf) caps] bx (.sl 1 ((ys n).map (.int .i64))) := by
  refine Tryz.ctr71 fun hb => ?_
  simp [go_sem, Tryz.C71, hb]
  refine callK_pure (appendseq_c gf caps n xs ys bx it hn h0 hy) ?_
  simp [go_sem]
  refine ret_pure (by simp [go_sem]) ?_
  simp [go_sem]
theorem can_c (l : List Bk) (skip : Int) (bx : Boxes) (hl : l.length ≤ 50) : PureCall Tryz.prog 32 [.sl 5 (l.map bkV), .int .i64 skip] bx (.tup [.sl 1 ((canR l skip).map ixV), .int .i64 (askB l skip)]) := by
  refine PureCall.wk (Tryz.ctr32 fun hb => ?_)
  simp [go_sem, Tryz.C32, hb]
  refine callK_pure (ask_c l skip bx (by omega)) ?_
  simp [go_sem]
  refine ⟨fun h => ret_wk0 (by simp [go_sem]) ?_, fun h => callK_pure (cand_c ..) ?_⟩
  · simp [go_sem, canR, h]; exact wk_tup2 (wk_nils _) (Wk.refl _)
  · simp [go_sem]
    refine callK_pure (collect_c 109 _ l.length _ (fun k => (canL l skip k).map fun i => Int.ofNat i) bx (candit l skip hl) (by omega) (by simp [canL]) fun k hk => ?_) ?_
    · simp only [canX, List.getElem?_eq_getElem hk, canL_succ l skip k hk]
      refine ⟨fun h => ?_, fun args h => ?_⟩
      · simp at h; simp [h]
      · simp only [Option.ite_none_right_eq_some, Option.some.injEq] at h
        obtain ⟨h1, rfl⟩ := h
        exact ⟨k, rfl, by simp [h1]⟩
    · simp [go_sem]
      refine ret_wk0 (by simp [go_sem]) ?_
      simp [go_sem, canR, h]
      exact Wk.refl _
end Go.Proofs.Pol

set_option linter.unusedSimpArgs false
set_option linter.unusedVariables false
set_option maxRecDepth 100000
namespace Go.Proofs.Pol
open Go Go.Pl Go.Proofs
def iV (i : Int) : V := .int .i64 i
theorem ints_c (a b : List Int) (bx : Boxes) (ha : a.length ≤ 1000000) : PureCall Tryz.prog 64 [.sl 1 (a.map iV), .sl 1 (b.map iV)] bx (.bool (decide (a = b))) := by
  refine Tryz.ctr64 fun hb => ?_
  simp [go_sem, Tryz.C64, hb]
  refine ⟨fun h => ret_pure (by simp [go_sem]) ?_, fun h => ?_⟩
  · have : a ≠ b := fun e => h (by rw [e])
    simp [go_sem, this]
  · refine pw_find a.length (fun k => decide (a[k]? ≠ b[k]?)) (fun k => ⟨26, slk [(0, .sl 1 (a.map iV)), (1, .sl 1 (b.map iV)), (5, .int .i64 k)], bx⟩) (cov_look (by simp [go_sem])) (fun k hk hJ N hN => ?_) (fun hJ N => ?_)
    · have hkb : k < b.length := by omega
      simp [go_sem, Tryz.L64_0, hk, hkb, iV, wr_succ (show k < 1000000000 by omega)]
      refine ⟨fun h1 => ret_pure (by simp [go_sem]) ?_, fun h1 => hN _ (by simp [hk, hkb, h1]) (cov_look (by simp [go_sem, iV]))⟩
      have : a ≠ b := fun e => h1 (by simp [e])
      simp [go_sem, this]
    · simp [go_sem, Tryz.L64_0, h]
      refine ret_pure (by simp [go_sem]) ?_
      have : a = b := by
        apply List.ext_getElem? 
        intro i
        by_cases hi : i < a.length
        · simpa using hJ i hi
        · rw [List.getElem?_eq_none (by omega), List.getElem?_eq_none (by omega)]
      simp [go_sem, this]
theorem in_c (a : List Int) (n : Int) (bx : Boxes) (ha : a.length ≤ 1000000) : PureCall Tryz.prog 33 [.sl 1 (a.map iV), .int .i64 n] bx (.bool (decide (n ∈ a))) := by
  refine Tryz.ctr33 fun hb => ?_
  simp [go_sem, Tryz.C33, hb]
  refine pw_find a.length (fun k => decide (a[k]? = some n)) (fun k => ⟨18, slk [(0, .sl 1 (a.map iV)), (1, .int .i64 n), (5, .int .i64 k)], bx⟩) (cov_look (by simp [go_sem])) (fun k hk hJ N hN => ?_) (fun hJ N => ?_)
  · simp [go_sem, Tryz.L33_0, hk, iV, wr_succ (show k < 1000000000 by omega)]
    refine ⟨fun h1 => ret_pure (by simp [go_sem]) ?_, fun h1 => hN _ (by simp [hk, h1]) (cov_look (by simp [go_sem, iV]))⟩
    have : n ∈ a := h1 ▸ List.getElem_mem hk
    simp [go_sem, this]
  · simp [go_sem, Tryz.L33_0]
    refine ret_pure (by simp [go_sem]) ?_
    have : n ∉ a := fun hm => by
      obtain ⟨i, hi, rfl⟩ := List.getElem_of_mem hm
      have := hJ i hi
      simp [hi] at this
    simp [go_sem, this]
theorem still2_c (x : Bk) (bx : Boxes) : PureCall Tryz.prog 102 [bkV x] bx (.bool (decide (x.cu ≠ 0))) := by
  refine Tryz.ctr102 fun hb => ?_
  simp [go_sem, Tryz.C102, bkV, hb]
  refine ret_pure ?_ ?_ <;> simp [go_sem]
def exL : List Bk := [⟨5, 4, 0, true, false⟩, ⟨1, 1, 0, true, false⟩, ⟨1, 0, 0, true, false⟩]
theorem example_c (bx : Boxes) : PureCall Tryz.prog 60 [] bx (.sl 5 (exL.map bkV)) := by
  refine Tryz.ctr60 fun hb => ?_
  simp [go_sem, Tryz.C60, hb]
  intro b hb1
  refine ret_own (b := b) (sz := 5) (n := 3) (by simp [go_sem]) ((Ext.refl _).new hb1 _) (by simp [go_sem]) (upd_eq _ _ _) hb1 (by simp) (by simp) ?_
  simp [exL, bkV]
end Go.Proofs.Pol

set_option linter.unusedSimpArgs false
set_option linter.unusedVariables false
set_option maxRecDepth 100000
namespace Go.Proofs.Pol
open Go Go.Pl Go.Proofs
theorem clone_c (l : List Bk) (bx : Boxes) (hl : l.length ≤ 1000) : AbsCall Tryz.prog 103 [.sl 5 (l.map bkV)] bx fun r bx' => Acc bx 57 5 (l.map bkV) r bx' := by
  refine Tryz.ctr103 fun hb => ?_
  simp [go_sem, Tryz.C103, hb]
  refine ⟨fun b hb1 => ?_, fun hne => ?_⟩
  · refine acc_append (bx := bx) (es := []) (news := l.map bkV) (e := 57) (sz := 5) (.agg #[.int .i64 0, .int .i64 0, .int .i64 0, .bool false, .bool false]) (acc_new hb1 hb 57 5 [] 0 rfl) (Ext.refl _) (by simp [finB_upd, hb]) Tryz.knd48 Tryz.tsz57 (by simp [go_sem, srcEls]) Tryz.tzero57 (by simp [go_sem]) (by omega) (by simp [Tryz.tby57]; omega) (by simp; omega) (by simp [go_sem]) ?_
    intro v' bx3 ha'
    simp [go_sem]
    refine ret_pure (by simp [go_sem]) ?_
    simpa [go_sem] using ha'
  · refine ret_pure (by simp [go_sem]) ?_
    simpa [go_sem, hne] using acc_nil hb 57 5
def StI (l : List Bk) (bo : Nat) (bx : Boxes) : Prop := ∃ l', l'.length = l.length ∧ bx bo = some (.row 57 5 (l'.map bkV)) ∧ ∀ i skip, canP (bk l' i) skip i = canP (bk l i) skip i
theorem canditO (l : List Bk) (bo : Nat) (skip : Int) (hl : l.length ≤ 50) : IterI Tryz.prog 109 [.ep (.own bo 5 0 l.length) 0, .ep (.int .i64 skip) 0] l.length (canX l skip) (StI l bo) := by
  intro b J S hf hy bx h0
  refine Tryz.ctr109 fun hb => ?_
  simp [go_sem, Tryz.C109, hb]
  refine pw_for (ι := Boxes) l.length J (fun k bx' => ⟨39, slk [(0, .yl b), (2, .ep (.int .i64 skip) 0), (6, .own bo 5 0 l.length), (7, .int .i64 l.length), (8, .int .i64 k)], bx'⟩) bx h0 (cov_look (by simp [go_sem])) (fun k bx1 hk hJ N hN => ?_) (fun bx1 hJ N => ?_)
  · obtain ⟨hfin, l', hl', hbo, hst⟩ := hf k bx1 hJ
    have hk' : k < l'.length := by omega
    have hw := wr_succ (show k < 1000000000 by omega)
    have hmin : min k 64 = k := by omega
    obtain ⟨h1, h2⟩ := hy k bx1 hk hJ
    simp only [canX, List.getElem?_eq_getElem hk] at h1 h2
    simp [go_sem, Tryz.L109_0, hk, hk', bkV, hbo, hfin, hmin]
    intro b1 hb1
    rw [upd_self hb1]
    have hbit : bits .and .i64 (skip.fdiv (2 ^ k)) 1 = (skip.fdiv (2 ^ k)) % 2 := by simpa using bits_and_mask .i64 1 (by decide) (skip.fdiv (2 ^ k)) 1 (by decide)
    have hc : (l'[k].up && !l'[k].op && decide (0 < l'[k].wt) && decide (bits BinOp.and IntKind.i64 (skip.fdiv (2 ^ k)) 1 = 0)) = canP l[k] skip k := by
      have := hst k skip
      rw [bk_get hk, bk_get hk'] at this
      rw [← this]
      simp [canP, hbit, tmod2, Bool.and_assoc]
    have hc2 : (((l'[k].up = true ∧ l'[k].op = false) ∧ 0 < l'[k].wt) ∧ bits BinOp.and IntKind.i64 (skip.fdiv (2 ^ k)) 1 = 0) = (canP l[k] skip k = true) := by
      rw [← hc]; simp
    simp only [hc, hc2]
    refine ⟨fun hcp => ⟨by simp [hcp, go_sem], by simp [go_sem], ?_⟩, fun hcp => ?_⟩
    · refine yldK_abs (h1 [.int .i64 k] (by simp [hcp])) ?_
      rintro r bx' (⟨rfl, h⟩ | ⟨rfl, h⟩)
      · simp [go_sem, hcp, hw]
        exact hN _ bx' h (cov_look (by simp [go_sem]))
      · simp [go_sem, hcp]
        exact ret_pure (by simp [go_sem]) (.inr h)
    · simp [go_sem, hcp, hw]
      exact hN _ bx1 (h2 (by simp [hcp])) (cov_look (by simp [go_sem]))
  · simp [go_sem, Tryz.L109_0]
    exact ret_pure (by simp [go_sem]) (.inl hJ)
theorem candO_c (n bo : Nat) (skip : Int) (bx : Boxes) : PureCall Tryz.prog 72 [.own bo 5 0 n, .int .i64 skip] bx (.fn (.func 109) [.ep (.own bo 5 0 n) 0, .ep (.int .i64 skip) 0]) := by
  refine Tryz.ctr72 fun hb => ?_
  simp [go_sem, Tryz.C72, hb]
  refine ret_pure (by simp [go_sem]) ?_
  simp [go_sem]
end Go.Proofs.Pol

set_option linter.unusedSimpArgs false
set_option linter.unusedVariables false
set_option maxRecDepth 100000
namespace Go.Proofs.Pol
open Go Go.Pl Go.Proofs
def addC (x : Bk) (n : Int) : Bk := { x with cu := IntKind.i64.wrap (x.cu + n) }
structure TS where
  l : List Bk
  o : Option Nat
  w : Int
def tstep (s : TS) (i : Nat) : TS :=
  let l' := s.l.set i (addC (bk s.l i) (bk s.l i).wt)
  ⟨l', match s.o with | none => some i | some j => if (bk l' j).cu < (bk l' i).cu then some i else some j, IntKind.i64.wrap (s.w + (bk s.l i).wt)⟩
def turnS (l : List Bk) (c : List Nat) : TS := c.foldl tstep ⟨l, none, 0⟩
def subC (x : Bk) (n : Int) : Bk := { x with cu := IntKind.i64.wrap (x.cu - n) }
def turnL (s : TS) : List Bk := match s.o with | none => s.l | some j => s.l.set j (subC (bk s.l j) s.w)
theorem turnS_snoc (l : List Bk) (c : List Nat) (k : Nat) : turnS l (c ++ [k]) = tstep (turnS l c) k := by simp [turnS]
theorem turnS_len (l : List Bk) : ∀ c : List Nat, (turnS l c).l.length = l.length := by
  have : ∀ (c : List Nat) (s : TS), (c.foldl tstep s).l.length = s.l.length := by
    intro c
    induction c with
    | nil => intro s; rfl
    | cons i c ih => intro s; rw [List.foldl_cons, ih]; simp [tstep]
  intro c; exact this c _
theorem turnS_o (l : List Bk) : ∀ (c : List Nat) (j : Nat), (turnS l c).o = some j → j ∈ c := by
  have : ∀ (c : List Nat) (s : TS) (j : Nat), (c.foldl tstep s).o = some j → j ∈ c ∨ s.o = some j := by
    intro c
    induction c with
    | nil => intro s j h; exact .inr h
    | cons i c ih =>
      intro s j h
      rw [List.foldl_cons] at h
      rcases ih _ j h with h | h
      · exact .inl (by simp [h])
      · simp only [tstep] at h
        split at h
        · injection h with h; exact .inl (by simp [h])
        · rename_i j' hj
          split at h
          · injection h with h; exact .inl (by simp [h])
          · exact .inr (by rw [hj]; exact h)
  intro c j h
  rcases this c _ j h with h | h
  · exact h
  · cases h
theorem bk_set (l : List Bk) (i j : Nat) (x : Bk) (hi : i < l.length) : bk (l.set i x) j = if j = i then x else bk l j := by
  unfold bk
  simp only [List.getD_eq_getElem?_getD, List.getElem?_set]
  by_cases h : i = j
  · subst h; simp [hi]
  · simp [h, Ne.symm h]
theorem canP_addC (x : Bk) (n skip : Int) (i : Nat) : canP (addC x n) skip i = canP x skip i := rfl
theorem turnS_st (l : List Bk) (c : List Nat) (hc : ∀ i, i ∈ c → i < l.length) : ∀ i skip, canP (bk (turnS l c).l i) skip i = canP (bk l i) skip i := by
  have : ∀ (c : List Nat) (s : TS), (∀ i, i ∈ c → i < s.l.length) → ∀ i skip, canP (bk (c.foldl tstep s).l i) skip i = canP (bk s.l i) skip i := by
    intro c
    induction c with
    | nil => intro s _ i skip; rfl
    | cons k c ih =>
      intro s hs i skip
      rw [List.foldl_cons, ih _ (fun i hi => by simp [tstep]; exact hs i (by simp [hi]))]
      simp only [tstep]
      rw [bk_set _ _ _ _ (hs k (by simp))]
      by_cases e : i = k
      · subst e; simp [canP_addC]
      · simp [e]
  exact this c _ hc
set_option maxHeartbeats 1000000 in
theorem turn_c (l : List Bk) (bo : Nat) (skip : Int) (bx : Boxes) (hl : l.length ≤ 50) (hbo : bx bo = some (.row 57 5 (l.map bkV))) :
    AbsCall Tryz.prog 100 [.own bo 5 0 l.length, .int .i64 skip] bx fun r bx' => r = .int .i64 (oI (turnS l (canL l skip l.length)).o) ∧ bx' = upd bx bo (some (.row 57 5 ((turnL (turnS l (canL l skip l.length))).map bkV))) := by
  refine Tryz.ctr100 fun hb => ?_
  simp [go_sem, Tryz.C100, hb]
  intro b5 hb5 b6 hb6
  have h65 := (new_ne hb6).1
  have hb6' := (new_ne hb6).2
  have ho5 : bo ≠ b5 := fun e => by rw [e, hb5] at hbo; cases hbo
  have ho6 : bo ≠ b6 := fun e => by rw [e, hb6'] at hbo; cases hbo
  simp [go_sem, upd_ne, h65, Ne.symm h65, ho5, ho6, Ne.symm ho5, Ne.symm ho6]
  refine callK_pure (candO_c ..) ?_
  simp [go_sem]
  have c1 : ∀ (f : Boxes) x y, upd (upd f bo x) b6 y = upd (upd f b6 y) bo x := upd_comm ho6
  have c2 : ∀ (f : Boxes) x y, upd (upd f bo x) b5 y = upd (upd f b5 y) bo x := upd_comm ho5
  have c3 : ∀ (f : Boxes) x y, upd (upd f b6 x) b5 y = upd (upd f b5 y) b6 x := upd_comm h65
  refine pw_iterI (by kernel_rfl) (canditO l bo skip hl) ?_ (fun k bx' => bx' = upd (upd (upd bx b5 (some (.row 3 1 [.int .i64 (oI (turnS l (canL l skip k)).o)]))) b6 (some (.row 3 1 [.int .i64 (turnS l (canL l skip k)).w]))) bo (some (.row 57 5 ((turnS l (canL l skip k)).l.map bkV)))) (by simp [go_sem]) ?_ ?_ (fun k args _ => canX_len l skip 1 rfl k args) (by simp) (by rfl) (by rfl) ?_ ?_
  · rintro bx b x hb ⟨l', h1, h2, h3⟩
    refine ⟨l', h1, ?_, h3⟩
    rw [upd_ne _ _ (fun e => by rw [e, hb] at h2; cases h2)]; exact h2
  · have e0 : upd (upd (upd bx b5 (some (.row 3 1 [.int .i64 (-1)]))) b6 (some (.row 3 1 [.int .i64 0]))) bo (some (.row 57 5 (l.map bkV))) = upd (upd bx b5 (some (.row 3 1 [.int .i64 (-1)]))) b6 (some (.row 3 1 [.int .i64 0])) := by
      funext z
      simp only [upd]
      by_cases e : z = bo
      · subst e; simp [ho5, ho6, hbo]
      · simp [e]
    simpa [go_sem, canL, turnS, oI, c3] using e0.symm
  · rintro k _ rfl
    refine ⟨by simp [finB_upd, hb], (turnS l (canL l skip k)).l, turnS_len _ _, upd_eq _ _ _, turnS_st _ _ fun i hi => (canL_lt _ _ _ _ hi).2⟩
  · rintro k _ hk rfl
    refine ⟨fun hn => ?_, fun args ha => ?_⟩
    · rw [canL_succ l skip k hk]
      simp [canX, List.getElem?_eq_getElem hk] at hn
      simp [hn]
    simp only [canX, List.getElem?_eq_getElem hk, Option.ite_none_right_eq_some, Option.some.injEq] at ha
    obtain ⟨hc, rfl⟩ := ha
    intro K k1 k2
    clear k2
    have hlen := turnS_len l (canL l skip k)
    rw [canL_succ l skip k hk, hc, if_pos rfl, turnS_snoc] at k1
    have hoj := turnS_o l (canL l skip k)
    generalize turnS l (canL l skip k) = S at *
    have hkS : k < S.l.length := by omega
    have hmem : ∀ j, S.o = some j → j < S.l.length := fun j hj => by have := (canL_lt _ _ _ _ (hoj j hj)).2; omega
    obtain ⟨sl, so, sw⟩ := S
    dsimp only at *
    have hset : (sl.map bkV).set k (.agg [.int .i64 sl[k].wt, .int .i64 sl[k].ac, .int .i64 (IntKind.i64.wrap (sl[k].cu + sl[k].wt)), .bool sl[k].up, .bool sl[k].op]) = (sl.set k (addC sl[k] sl[k].wt)).map bkV := by
      simp [List.map_set, bkV, addC]
    have hk2 : k < (sl.set k (addC sl[k] sl[k].wt)).length := by simpa using hkS
    simp [go_sem, Tryz.L100_0a, setPs, upd_look]
    cases so with
    | none =>
      simp [go_sem, Tryz.L100_0b, hkS, oI, bkV, upd_ne, h65, Ne.symm h65, ho5, ho6, Ne.symm ho5, Ne.symm ho6, c1, c2, c3]
      refine ⟨hk, k1 _ ?_⟩
      simp [tstep, bk_get hkS, hset, oI]
    | some j =>
      have hj := hmem j rfl
      have hj2 : j < (sl.set k (addC sl[k] sl[k].wt)).length := by simpa using hj
      simp [-List.map_set, go_sem, Tryz.L100_0b, hkS, oI, bkV, hj, upd_ne, h65, Ne.symm h65, ho5, ho6, Ne.symm ho5, Ne.symm ho6, c1, c2, c3, hset]
      refine ⟨hk, by omega, fun h => k1 _ ?_, fun h => k1 _ ?_⟩
      · have : (bk (sl.set k (addC sl[k] sl[k].wt)) j).cu < (bk (sl.set k (addC sl[k] sl[k].wt)) k).cu := by
          rw [bk_get hj2, bk_get hk2]; simpa using h
        simp [-List.map_set, tstep, bk_get hkS, this, oI]
        rfl
      · have : ¬ (bk (sl.set k (addC sl[k] sl[k].wt)) j).cu < (bk (sl.set k (addC sl[k] sl[k].wt)) k).cu := by
          rw [bk_get hj2, bk_get hk2]; simpa using h
        simp [-List.map_set, tstep, bk_get hkS, this, oI]
        rfl
  · rintro _ rfl
    have hlen := turnS_len l (canL l skip l.length)
    have hoj := turnS_o l (canL l skip l.length)
    generalize turnS l (canL l skip l.length) = S at *
    obtain ⟨sl, so, sw⟩ := S
    dsimp only at *
    have hext : ∀ X y z, Ext (upd bx bo (some X)) (upd (upd (upd bx b5 y) b6 z) bo (some X)) := by
      intro X y z c hc
      by_cases e : c = bo
      · subst e; simp [upd_eq]
      · rw [upd_ne _ _ e] at hc ⊢
        rw [upd_ne _ _ e, upd_ne _ _ (fun e => hc (by rw [e]; exact hb6')), upd_ne _ _ (fun e => hc (by rw [e]; exact hb5))]
    cases so with
    | none =>
      simp [go_sem, oI, upd_ne, h65, Ne.symm h65, ho5, ho6, Ne.symm ho5, Ne.symm ho6]
      refine ret_drop (by simp [go_sem]) (hext _ _ _) ?_
      simp [go_sem, turnL, oI]
    | some j =>
      have hj : j < sl.length := by have := (canL_lt _ _ _ _ (hoj j rfl)).2; omega
      have hset : (sl.map bkV).set j (.agg [.int .i64 sl[j].wt, .int .i64 sl[j].ac, .int .i64 (IntKind.i64.wrap (sl[j].cu - sw)), .bool sl[j].up, .bool sl[j].op]) = (sl.set j (subC sl[j] sw)).map bkV := by
        simp [List.map_set, bkV, subC]
      simp [-List.map_set, go_sem, oI, bkV, hj, hset, upd_ne, h65, Ne.symm h65, ho5, ho6, Ne.symm ho5, Ne.symm ho6]
      refine ⟨by omega, ret_drop (by simp [go_sem]) (hext _ _ _) ?_⟩
      simp [-List.map_set, go_sem, turnL, oI, bk_get hj]
end Go.Proofs.Pol

set_option linter.unusedSimpArgs false
set_option linter.unusedVariables false
set_option maxRecDepth 100000
namespace Go.Proofs.Pol
open Go Go.Pl Go.Proofs
theorem ask_len {l : List Bk} {skip : Int} (h : askB l skip = 0) : 1 ≤ l.length ∧ l.length ≤ 16 ∧ checkB l = 0 := by
  have hc : checkB l = 0 := by
    by_cases hc : checkB l = 0
    · exact hc
    · simp [askB, hc] at h
  have hc' := hc
  unfold checkB at hc
  split at hc
  · cases hc
  · exact ⟨by omega, by omega, hc'⟩
def smooth (l : List Bk) (skip : Int) : Int × List Bk × Int :=
  if askB l skip = 0 then (match (turnS l (canL l skip l.length)).o with | none => (0, [], 4) | some j => (j, turnL (turnS l (canL l skip l.length)), 0)) else (0, [], askB l skip)
theorem smooth_c (l : List Bk) (skip : Int) (bx : Boxes) (hl : l.length ≤ 50) : PureCall Tryz.prog 62 [.sl 5 (l.map bkV), .int .i64 skip] bx (.tup [.int .i64 (smooth l skip).1, .sl 5 ((smooth l skip).2.1.map bkV), .int .i64 (smooth l skip).2.2]) := by
  refine PureCall.wk (Tryz.ctr62 fun hb => ?_)
  simp [go_sem, Tryz.C62, hb]
  refine callK_pure (ask_c l skip bx (by omega)) ?_
  simp [go_sem]
  refine ⟨fun h => ret_wk0 (by simp [go_sem]) ?_, fun h => callK_abs (clone_c l bx (by omega)) ?_⟩
  · simp [go_sem, smooth, h]; exact wk_tup3 (Wk.refl _) (wk_nils _) (Wk.refl _)
  · intro r bx1 ha
    obtain ⟨h1, h2, h3⟩ := ask_len h
    have hne : l.map bkV ≠ [] := fun e => by simp at e; subst e; simp at h1
    obtain ⟨bo, hbo, rfl, hbo1⟩ := ha.row hne
    simp [go_sem]
    refine callK_abs (turn_c l bo skip bx1 hl hbo1) ?_
    rintro r bx2 ⟨rfl, rfl⟩
    have hlen := turnS_len l (canL l skip l.length)
    have he : ∀ x, Ext bx (upd bx1 bo x) := fun x => ha.ext.upd_own hbo x
    have hlt : (turnL (turnS l (canL l skip l.length))).length = l.length := by
      unfold turnL; split <;> simp [hlen]
    cases ho : (turnS l (canL l skip l.length)).o with
    | none =>
      simp [go_sem, oI]
      refine ret_wk (by simp [go_sem]) (he _) ?_
      simp [go_sem, smooth, h, ho]; exact wk_tup3 (Wk.refl _) (wk_nils _) (Wk.refl _)
    | some j =>
      simp [go_sem, oI]
      refine ret_frz 2 (by simp [go_sem]) (he _) ⟨?_, rfl⟩
      simp [go_sem, smooth, h, ho]
      rw [frz_own1 (upd_eq _ _ _) hbo (by omega) (by simp [hlt])]
      exact Wk.refl _
def rbest (l : List Bk) (c : List Nat) : Nat := c.foldl (fun b i => if (bk l b).cu < (bk l i).cu then i else b) (c.headD 0)
theorem rbest_mem (l : List Bk) (c : List Nat) (h : c ≠ []) : rbest l c ∈ c := by
  have : ∀ (d : List Nat) (b : Nat), b ∈ c → (∀ i, i ∈ d → i ∈ c) → d.foldl (fun b i => if (bk l b).cu < (bk l i).cu then i else b) b ∈ c := by
    intro d
    induction d with
    | nil => intro b hb _; exact hb
    | cons i d ih =>
      intro b hb hd
      rw [List.foldl_cons]
      refine ih _ ?_ (fun i hi => hd i (by simp [hi]))
      split
      · exact hd i (by simp)
      · exact hb
  refine this c _ ?_ fun i hi => hi
  cases c with
  | nil => exact absurd rfl h
  | cons i c => simp
end Go.Proofs.Pol

set_option linter.unusedSimpArgs false
set_option linter.unusedVariables false
set_option maxRecDepth 100000
namespace Go.Proofs.Pol
open Go Go.Pl Go.Proofs
theorem canR_lt {l : List Bk} {skip : Int} : ∀ i, i ∈ canR l skip → i < l.length := by
  intro i hi
  unfold canR at hi
  split at hi
  · exact (canL_lt _ _ _ _ hi).2
  · cases hi
theorem canR_le {l : List Bk} {skip : Int} : (canR l skip).length ≤ l.length := by
  unfold canR
  split
  · exact canL_le _ _ _
  · simp
def two (l : List Bk) (a b : Nat) (skip : Int) : Int × Int :=
  if askB l skip ≠ 0 then (0, askB l skip)
  else if (canR l skip).length = 0 then (0, 4)
  else if (canR l skip).length = 1 then ((canR l skip).getD 0 0, 0)
  else
    let c := canR l skip
    let i := a % c.length
    let k0 := b % (c.length - 1)
    let k := if i ≤ k0 then k0 + 1 else k0
    (if ltB (bk l (c.getD k 0)) (bk l (c.getD i 0)) then c.getD k 0 else c.getD i 0, 0)
theorem lighter_c' (x y : Bk) (bx : Boxes) : PureCall Tryz.prog 97 [bkV x, bkV y] bx (.bool (ltB x y)) := lighter_c x y bx
theorem two_c (l : List Bk) (a b : Nat) (skip : Int) (bx : Boxes) (hl : l.length ≤ 50) (ha : a < 4294967296) (hb' : b < 4294967296) : PureCall Tryz.prog 63 [.sl 5 (l.map bkV), .int .u32 a, .int .u32 b, .int .i64 skip] bx (.tup [.int .i64 (two l a b skip).1, .int .i64 (two l a b skip).2]) := by
  refine Tryz.ctr63 fun hb => ?_
  simp [go_sem, Tryz.C63, hb]
  refine callK_pure (can_c l skip bx hl) ?_
  have hlt := canR_lt (l := l) (skip := skip)
  have hle := canR_le (l := l) (skip := skip)
  by_cases h : askB l skip = 0
  · have hn : IntKind.u32.wrap ((canR l skip).length : Int) = (canR l skip).length := by rw [wru32 (by omega)]
    have htwo : two l a b skip = _ := if_neg (by simp [h])
    rw [htwo]
    generalize canR l skip = c at *
    by_cases h0 : c.length = 0
    · obtain rfl := List.eq_nil_of_length_eq_zero h0
      simp [go_sem, h, IntKind.wrap, IntKind.bits, IntKind.signed]
      refine ret_pure (by simp [go_sem]) ?_
      simp [go_sem]
    · by_cases h1 : c.length = 1
      · obtain ⟨x, rfl⟩ := List.length_eq_one_iff.1 h1
        simp [go_sem, h, ixV, IntKind.wrap, IntKind.bits, IntKind.signed]
        refine ret_pure (by simp [go_sem]) ?_
        simp [go_sem]
      · have h0' : ¬ ((c.length : Int) = 0) := by omega
        have h1' : ¬ ((c.length : Int) = 1) := by omega
        have hn1 : IntKind.u32.wrap ((c.length : Int) - 1) = ((c.length - 1 : Nat) : Int) := by rw [wru32 (by omega)]; omega
        have ht1 : (a : Int).tmod (c.length : Int) = ((a % c.length : Nat) : Int) := by rw [← Int.ofNat_tmod]
        have ht2 : (b : Int).tmod ((c.length - 1 : Nat) : Int) = ((b % (c.length - 1) : Nat) : Int) := by rw [← Int.ofNat_tmod]
        have hm1 : a % c.length < c.length := Nat.mod_lt _ (by omega)
        have hm2 : b % (c.length - 1) < c.length - 1 := Nat.mod_lt _ (by omega)
        have hw : IntKind.u32.wrap (((b % (c.length - 1) : Nat) : Int) + 1) = ((b % (c.length - 1) + 1 : Nat) : Int) := by rw [wru32 (by omega)]; omega
        have h2 : ¬ (((c.length - 1 : Nat) : Int) = 0) := by omega
        simp only [h0, h1, if_false]
        generalize a % c.length = i at *
        generalize b % (c.length - 1) = k0 at *
        by_cases hik : i ≤ k0
        · have hk : k0 + 1 < c.length := by omega
          have e1 : c[k0 + 1] < l.length := hlt _ (List.getElem_mem hk)
          have e2 : c[i] < l.length := hlt _ (List.getElem_mem hm1)
          have hik' : (i : Int) ≤ (k0 : Int) := by omega
          simp [-Int.natCast_emod, go_sem, h, hn, h0, h1, h0', h1', hn1, ht1, ht2, hw, h2, hik, hik', hk, hm1, ixV, e1, e2, bkV]
          refine ⟨by omega, ⟨by omega, by omega⟩, callK_pure (lighter_c' l[c[k0 + 1]] l[c[i]] _) ?_⟩
          simp [go_sem, h, hm1, hk, ixV]
          refine ⟨fun hl => ⟨⟨by omega, by omega⟩, ret_pure (by simp [go_sem]) ?_⟩, fun hl => ret_pure (by simp [go_sem]) ?_⟩
          · simp [go_sem, hl, bk_get e1, bk_get e2]
          · simp [go_sem, hl, bk_get e1, bk_get e2]
        · have hk : k0 < c.length := by omega
          have e1 : c[k0] < l.length := hlt _ (List.getElem_mem hk)
          have e2 : c[i] < l.length := hlt _ (List.getElem_mem hm1)
          have hik' : ¬ (i : Int) ≤ (k0 : Int) := by omega
          simp [-Int.natCast_emod, go_sem, h, hn, h0, h1, h0', h1', hn1, ht1, ht2, hw, h2, hik, hik', hk, hm1, ixV, e1, e2, bkV]
          refine ⟨by omega, callK_pure (lighter_c' l[c[k0]] l[c[i]] _) ?_⟩
          simp [go_sem, h, hm1, hk, ixV]
          refine ⟨fun hl => ret_pure (by simp [go_sem]) ?_, fun hl => ret_pure (by simp [go_sem]) ?_⟩
          · simp [go_sem, hl, bk_get e1, bk_get e2]
          · simp [go_sem, hl, bk_get e1, bk_get e2]
  · simp [go_sem, h]
    refine ret_pure (by simp [go_sem]) ?_
    simp [go_sem, two, h]
theorem appI {bx bx1 bx2 : Boxes} {es news : List V} {v x : V} {d n : Nat} {sl : Nat → V} {K : St → Prop} (ha : Acc bx 3 1 es v bx1) (h2 : Ext bx1 bx2) (hf : FinB bx2) (src : srcEls ⟨n, sl, bx2⟩ 1 x = some news) (hlen : es.length + news.length ≤ 1000000) (hd : d < n)
    (hK : ∀ v' bx3, Acc bx 3 1 (es ++ news) v' bx3 → K (St.put ⟨n, sl, bx3⟩ (some d) v')) : appendA Tryz.prog ⟨n, sl, bx2⟩ (some d) 23 v x K :=
  acc_append (.int .i64 0) ha h2 hf Tryz.knd23 Tryz.tsz3 src Tryz.tzero3 (by simp [go_sem]) (by omega) (by simp [Tryz.tby3]; omega) (by omega) (by simpa [go_sem] using hd) hK
end Go.Proofs.Pol

set_option linter.unusedSimpArgs false
set_option linter.unusedVariables false
set_option maxRecDepth 100000
namespace Go.Proofs.Pol
open Go Go.Pl Go.Proofs
theorem fold_l (c : List Nat) : ∀ (s : TS), c.Nodup → (∀ i, i ∈ c → i < s.l.length) → ∀ i, bk (c.foldl tstep s).l i = if i ∈ c then addC (bk s.l i) (bk s.l i).wt else bk s.l i := by
  induction c with
  | nil => intro s _ _ i; simp
  | cons k c ih =>
    intro s hn hl i
    rw [List.nodup_cons] at hn
    have hk := hl k (by simp)
    rw [List.foldl_cons, ih _ hn.2 (fun i hi => by simp [tstep]; exact hl i (by simp [hi]))]
    have e : ∀ i, bk (tstep s k).l i = if i = k then addC (bk s.l k) (bk s.l k).wt else bk s.l i := fun i => bk_set _ _ _ _ hk
    rw [e]
    by_cases h1 : i = k
    · subst h1; simp [hn.1]
    · simp [h1]
theorem fold_o (L : List Bk) (c : List Nat) : ∀ (s : TS) (j : Nat), c.Nodup → (∀ i, i ∈ c → i < s.l.length) → s.o = some j → j ∉ c → (bk L j).cu = (bk s.l j).cu → (∀ i, i ∈ c → (bk L i).cu = (addC (bk s.l i) (bk s.l i).wt).cu) →
    (c.foldl tstep s).o = some (c.foldl (fun b i => if (bk L b).cu < (bk L i).cu then i else b) j) := by
  induction c with
  | nil => intro s j _ _ h _ _ _; exact h
  | cons k c ih =>
    intro s j hn hl ho hj h1 h2
    rw [List.nodup_cons] at hn
    have hk := hl k (by simp)
    have e : ∀ i, bk (tstep s k).l i = if i = k then addC (bk s.l k) (bk s.l k).wt else bk s.l i := fun i => bk_set _ _ _ _ hk
    have hjk : j ≠ k := fun e => hj (by simp [e])
    have hjc : j ∉ c := fun e => hj (by simp [e])
    have e1 : (bk (tstep s k).l j).cu = (bk L j).cu := by rw [e, if_neg hjk, h1]
    have e2 : (bk (tstep s k).l k).cu = (bk L k).cu := by rw [e, if_pos rfl, h2 k (by simp)]
    have eo : (tstep s k).o = some (if (bk L j).cu < (bk L k).cu then k else j) := by
      have : (tstep s k).o = if (bk (tstep s k).l j).cu < (bk (tstep s k).l k).cu then some k else some j := by simp only [tstep, ho]
      rw [this, e1, e2]
      split <;> rfl
    rw [List.foldl_cons, List.foldl_cons]
    refine ih _ _ hn.2 (fun i hi => by simp [tstep]; exact hl i (by simp [hi])) eo ?_ ?_ ?_
    · split
      · exact hn.1
      · exact hjc
    · split
      · exact e2.symm
      · exact e1.symm
    · intro i hi
      have hik : i ≠ k := fun e => hn.1 (e ▸ hi)
      rw [h2 i (by simp [hi]), e, if_neg hik]
theorem turnS_bk (l : List Bk) (c : List Nat) (hn : c.Nodup) (hl : ∀ i, i ∈ c → i < l.length) (i : Nat) : bk (turnS l c).l i = if i ∈ c then addC (bk l i) (bk l i).wt else bk l i :=
  fold_l c _ hn hl i
theorem turnS_best (l : List Bk) (c : List Nat) (hn : c.Nodup) (hl : ∀ i, i ∈ c → i < l.length) (hne : c ≠ []) : (turnS l c).o = some (rbest (turnS l c).l c) := by
  cases c with
  | nil => exact absurd rfl hne
  | cons k c =>
    have hn' := hn
    rw [List.nodup_cons] at hn
    have hk := hl k (by simp)
    have hb := turnS_bk l (k :: c) hn' hl
    have e : ∀ i, bk (tstep ⟨l, none, 0⟩ k).l i = if i = k then addC (bk l k) (bk l k).wt else bk l i := fun i => bk_set _ _ _ _ hk
    have h := fold_o (turnS l (k :: c)).l c (tstep ⟨l, none, 0⟩ k) k hn.2 (fun i hi => by simp [tstep]; exact hl i (by simp [hi])) rfl hn.1 ?_ ?_
    · simpa [turnS, rbest] using h
    · rw [hb, e]; simp
    · intro i hi
      have hik : i ≠ k := fun e => hn.1 (e ▸ hi)
      rw [hb, e, if_neg hik]; simp [hi]
theorem canL_nodup (l : List Bk) (skip : Int) (k : Nat) : (canL l skip k).Nodup := by
  unfold canL
  exact List.Pairwise.filter _ List.nodup_range
theorem rbest_max (L : List Bk) (c : List Nat) : ∀ i, i ∈ c → (bk L i).cu ≤ (bk L (rbest L c)).cu := by
  have : ∀ (d : List Nat) (b : Nat), (bk L b).cu ≤ (bk L (d.foldl (fun b i => if (bk L b).cu < (bk L i).cu then i else b) b)).cu ∧ ∀ i, i ∈ d → (bk L i).cu ≤ (bk L (d.foldl (fun b i => if (bk L b).cu < (bk L i).cu then i else b) b)).cu := by
    intro d
    induction d with
    | nil => intro b; exact ⟨Int.le_refl _, fun i hi => by cases hi⟩
    | cons k d ih =>
      intro b
      rw [List.foldl_cons]
      obtain ⟨h1, h2⟩ := ih (if (bk L b).cu < (bk L k).cu then k else b)
      have hk : (bk L k).cu ≤ (bk L (if (bk L b).cu < (bk L k).cu then k else b)).cu := by split <;> omega
      have hb : (bk L b).cu ≤ (bk L (if (bk L b).cu < (bk L k).cu then k else b)).cu := by split <;> omega
      refine ⟨Int.le_trans hb h1, fun i hi => ?_⟩
      rcases List.mem_cons.1 hi with rfl | hi
      · exact Int.le_trans hk h1
      · exact h2 i hi
  exact (this c _).2
/-! Sums over indices. -/
def sumC (c : List Nat) (f : Nat → Int) : Int := (c.map f).sum
theorem sumC_nil (f : Nat → Int) : sumC [] f = 0 := rfl
theorem sumC_cons (k : Nat) (c : List Nat) (f : Nat → Int) : sumC (k :: c) f = f k + sumC c f := by simp [sumC]
theorem sumC_congr {c : List Nat} {f g : Nat → Int} (h : ∀ i, i ∈ c → f i = g i) : sumC c f = sumC c g := by
  unfold sumC; rw [List.map_congr_left h]
theorem sumC_add (c : List Nat) (f g : Nat → Int) : sumC c (fun i => f i + g i) = sumC c f + sumC c g := by
  induction c with
  | nil => rfl
  | cons k c ih => simp only [sumC_cons, ih]; omega
theorem sumC_sub (c : List Nat) (f g : Nat → Int) : sumC c (fun i => f i - g i) = sumC c f - sumC c g := by
  induction c with
  | nil => rfl
  | cons k c ih => simp only [sumC_cons, ih]; omega
theorem sumC_zero (c : List Nat) : sumC c (fun _ => 0) = 0 := by
  induction c with
  | nil => rfl
  | cons k c ih => simp only [sumC_cons, ih]; omega
theorem sumC_one (c : List Nat) (j : Nat) (W : Int) (hn : c.Nodup) (hj : j ∈ c) : sumC c (fun i => if i = j then W else 0) = W := by
  induction c with
  | nil => cases hj
  | cons k c ih =>
    rw [List.nodup_cons] at hn
    rw [sumC_cons]
    by_cases e : k = j
    · subst e
      rw [if_pos rfl, sumC_congr (g := fun _ => 0) (fun i hi => if_neg fun (e : i = k) => hn.1 (e ▸ hi)), sumC_zero]; omega
    · rw [if_neg e, ih hn.2 (by rcases List.mem_cons.1 hj with h | h; exact absurd h.symm e; exact h)]; omega
theorem sumC_le {c : List Nat} {f g : Nat → Int} (h : ∀ i, i ∈ c → f i ≤ g i) : sumC c f ≤ sumC c g := by
  induction c with
  | nil => exact Int.le_refl _
  | cons k c ih =>
    have h1 := h k (by simp)
    have h2 := ih fun i hi => h i (by simp [hi])
    simp only [sumC_cons]; omega
theorem sumC_const (c : List Nat) (a : Int) : sumC c (fun _ => a) = c.length * a := by
  induction c with
  | nil => simp [sumC_nil]
  | cons k c ih => simp only [sumC_cons, ih, List.length_cons]; rw [Int.natCast_add, Int.add_mul]; omega
theorem sumC_upper {c : List Nat} {f : Nat → Int} {W : Int} (hW : 0 ≤ W) (h : ∀ i, i ∈ c → -W ≤ f i) {j : Nat} (hj : j ∈ c) (hn : c.Nodup) : f j ≤ sumC c f + c.length * W := by
  induction c with
  | nil => cases hj
  | cons k c ih =>
    rw [List.nodup_cons] at hn
    simp only [sumC_cons, List.length_cons]
    rw [Int.natCast_add, Int.add_mul]
    rcases List.mem_cons.1 hj with rfl | hj
    · have h1 : sumC c (fun _ => -W) ≤ sumC c f := sumC_le fun i hi => h i (by simp [hi])
      rw [sumC_const] at h1
      have : (c.length : Int) * -W = -(c.length * W) := Int.mul_neg _ _
      omega
    · have h1 := ih (fun i hi => h i (by simp [hi])) hj hn.2
      have h2 := h k (by simp)
      omega
theorem sumC_nonneg_zero {c : List Nat} {f : Nat → Int} (h : ∀ i, i ∈ c → 0 ≤ f i) (hs : sumC c f = 0) : ∀ i, i ∈ c → f i = 0 := by
  induction c with
  | nil => intro i hi; cases hi
  | cons k c ih =>
    rw [sumC_cons] at hs
    have h1 := h k (by simp)
    have h2 : sumC c (fun _ => 0) ≤ sumC c f := sumC_le fun i hi => h i (by simp [hi])
    rw [sumC_zero] at h2
    intro i hi
    rcases List.mem_cons.1 hi with rfl | hi
    · omega
    · exact ih (fun i hi => h i (by simp [hi])) (by omega) i hi
/-- What holds of a view from which turns are taken. -/
structure Std (l : List Bk) (c : List Nat) (W : Int) : Prop where
  nd : c.Nodup
  lt : ∀ i, i ∈ c → i < l.length
  wt : ∀ i, i ∈ c → 0 < (bk l i).wt ∧ (bk l i).wt ≤ 100
  sw : W = sumC c fun i => (bk l i).wt
  s0 : (sumC c fun i => (bk l i).cu) = 0
  lo : ∀ i, i ∈ c → -W < (bk l i).cu
  len : c.length ≤ 50
  ne : c ≠ []
theorem Std.wpos {l : List Bk} {c : List Nat} {W : Int} (h : Std l c W) : 0 < W ∧ W ≤ 100 * c.length := by
  have h1 : sumC c (fun _ => 1) ≤ sumC c fun i => (bk l i).wt := sumC_le fun i hi => by have := h.wt i hi; omega
  have h2 : sumC c (fun i => (bk l i).wt) ≤ sumC c fun _ => 100 := sumC_le fun i hi => by have := h.wt i hi; omega
  rw [sumC_const] at h1 h2
  rw [← h.sw] at h1 h2
  have : 0 < c.length := List.length_pos_iff.2 h.ne
  omega
theorem Std.hi {l : List Bk} {c : List Nat} {W : Int} (h : Std l c W) : ∀ i, i ∈ c → (bk l i).cu ≤ 250000 := by
  intro i hi
  have h1 := h.wpos
  have h2 := sumC_upper (W := W) (by omega) (fun i hi => by have := h.lo i hi; omega) hi h.nd (f := fun i => (bk l i).cu)
  rw [h.s0] at h2
  have h3 : (c.length : Int) * W ≤ 50 * 5000 := Int.mul_le_mul (by have := h.len; omega) (by have := h.len; omega) (by omega) (by omega)
  omega
def best (l : List Bk) (c : List Nat) : Nat := rbest (turnS l c).l c
def next (l : List Bk) (c : List Nat) : List Bk := turnL (turnS l c)
theorem fold_w (c : List Nat) : ∀ (s : TS), c.Nodup → (∀ i, i ∈ c → i < s.l.length) → (∀ i, i ∈ c → 0 < (bk s.l i).wt ∧ (bk s.l i).wt ≤ 100) → 0 ≤ s.w → s.w + 100 * c.length ≤ 1000000 → (c.foldl tstep s).w = s.w + sumC c fun i => (bk s.l i).wt := by
  induction c with
  | nil => intro s _ _ _ _ _; simp [sumC_nil]
  | cons k c ih =>
    intro s hn hl hw h0 hb
    rw [List.nodup_cons] at hn
    simp only [List.length_cons] at hb
    have hk := hl k (by simp)
    have hwk := hw k (by simp)
    have e : ∀ i, bk (tstep s k).l i = if i = k then addC (bk s.l k) (bk s.l k).wt else bk s.l i := fun i => bk_set _ _ _ _ hk
    have ew : (tstep s k).w = s.w + (bk s.l k).wt := by
      show IntKind.i64.wrap (s.w + (bk s.l k).wt) = _
      rw [wr64 (by omega)]
    have hne : ∀ i, i ∈ c → i ≠ k := fun i hi e => hn.1 (e ▸ hi)
    rw [List.foldl_cons, ih _ hn.2 (fun i hi => by simp [tstep]; exact hl i (by simp [hi])) (fun i hi => by rw [e, if_neg (hne i hi)]; exact hw i (by simp [hi])) (by omega) (by omega), ew, sumC_cons, sumC_congr (fun i hi => by rw [e, if_neg (hne i hi)])]
    omega
theorem next_bk {l : List Bk} {c : List Nat} {W : Int} (h : Std l c W) : best l c ∈ c ∧ (turnS l c).o = some (best l c) ∧ (next l c).length = l.length ∧ ∀ i, bk (next l c) i = if i ∈ c then { bk l i with cu := (bk l i).cu + (bk l i).wt - (if i = best l c then W else 0) } else bk l i := by
  have hb := turnS_best l c h.nd h.lt h.ne
  have hm : best l c ∈ c := rbest_mem _ _ h.ne
  have hp := h.wpos
  have hlen := h.len
  have hw : (turnS l c).w = W := by
    rw [h.sw]
    have := fold_w c ⟨l, none, 0⟩ h.nd h.lt h.wt (by simp) (by simp; omega)
    simpa [turnS] using this
  have hll := turnS_len l c
  refine ⟨hm, hb, ?_, fun i => ?_⟩
  · unfold next turnL; rw [hb]; simp [hll]
  · unfold next turnL
    rw [hb]
    simp only []
    rw [bk_set _ _ _ _ (by rw [hll]; exact h.lt _ hm), hw, turnS_bk _ _ h.nd h.lt, turnS_bk _ _ h.nd h.lt]
    show (if i = best l c then subC (if best l c ∈ c then addC (bk l (best l c)) (bk l (best l c)).wt else bk l (best l c)) W else _) = _
    rw [if_pos hm]
    by_cases hi : i ∈ c
    · have h1 := h.lo i hi
      have h2 := h.hi i hi
      have h3 := h.wt i hi
      rw [if_pos hi, if_pos hi]
      by_cases e : i = best l c
      · rw [if_pos e, if_pos e, ← e]
        simp only [subC, addC]
        rw [wr64 (show -9223372036854775808 ≤ (bk l i).cu + (bk l i).wt ∧ (bk l i).cu + (bk l i).wt ≤ 9223372036854775807 by omega), wr64 (by omega)]
      · rw [if_neg e, if_neg e]
        simp only [addC]
        rw [wr64 (by omega)]
        simp
    · rw [if_neg hi, if_neg hi, if_neg (fun (e : i = best l c) => hi (e ▸ hm))]
theorem Std.next {l : List Bk} {c : List Nat} {W : Int} (h : Std l c W) : Std (Go.Proofs.Pol.next l c) c W := by
  obtain ⟨hm, ho, hlen, hb⟩ := next_bk h
  have hp := h.wpos
  have hwt : ∀ i, i ∈ c → (bk (Go.Proofs.Pol.next l c) i).wt = (bk l i).wt := fun i hi => by rw [hb, if_pos hi]
  have hcu : ∀ i, i ∈ c → (bk (Go.Proofs.Pol.next l c) i).cu = (bk l i).cu + (bk l i).wt - (if i = best l c then W else 0) := fun i hi => by rw [hb, if_pos hi]
  refine ⟨h.nd, fun i hi => by rw [hlen]; exact h.lt i hi, fun i hi => by rw [hwt i hi]; exact h.wt i hi, ?_, ?_, fun i hi => ?_, h.len, h.ne⟩
  · rw [h.sw]; exact sumC_congr fun i hi => (hwt i hi).symm
  · rw [sumC_congr hcu, sumC_sub, sumC_add, h.s0, sumC_one c _ W h.nd hm, ← h.sw]; omega
  · rw [hcu i hi]
    have h1 := h.lo i hi
    have h2 := h.wt i hi
    split
    · rename_i e
      -- the greatest one is above 0
      have hmax := rbest_max (turnS l c).l c
      have hsum : sumC c (fun i => (bk l i).cu + (bk l i).wt) = W := by rw [sumC_add, h.s0, ← h.sw]; omega
      have hle : ∀ k, k ∈ c → (bk l k).cu + (bk l k).wt ≤ (bk l i).cu + (bk l i).wt := by
        intro k hk
        have := hmax k hk
        rw [turnS_bk _ _ h.nd h.lt, turnS_bk _ _ h.nd h.lt, if_pos hk, if_pos (show rbest (turnS l c).l c ∈ c from hm)] at this
        have e' : rbest (turnS l c).l c = i := e.symm
        rw [e'] at this
        have a1 := h.lo k hk
        have a2 := h.hi k hk
        have a3 := h.wt k hk
        have a4 := h.hi i hi
        have a5 := h.len
        simp only [addC] at this
        rw [wr64 (by omega), wr64 (by omega)] at this
        exact this
      have := sumC_le hle
      rw [hsum, sumC_const] at this
      by_cases hpos : 0 < (bk l i).cu + (bk l i).wt
      · omega
      · have : (c.length : Int) * ((bk l i).cu + (bk l i).wt) ≤ 0 := Int.mul_nonpos_of_nonneg_of_nonpos (by omega) (by omega)
        omega
    · omega
end Go.Proofs.Pol

set_option linter.unusedSimpArgs false
set_option linter.unusedVariables false
set_option maxRecDepth 100000
namespace Go.Proofs.Pol
open Go Go.Pl Go.Proofs
def seqL (l : List Bk) (c : List Nat) : Nat → List Bk
  | 0 => l
  | k + 1 => next (seqL l c k) c
def cnt (l : List Bk) (c : List Nat) (i : Nat) : Nat → Nat
  | 0 => 0
  | k + 1 => cnt l c i k + if i = best (seqL l c k) c then 1 else 0
theorem seq_std {l : List Bk} {c : List Nat} {W : Int} (h : Std l c W) : ∀ k, Std (seqL l c k) c W
  | 0 => h
  | k + 1 => (seq_std h k).next
theorem seq_bk {l : List Bk} {c : List Nat} {W : Int} (h : Std l c W) : ∀ k, (seqL l c k).length = l.length ∧ ∀ i, bk (seqL l c k) i = if i ∈ c then { bk l i with cu := (bk l i).cu + k * (bk l i).wt - W * cnt l c i k } else bk l i
  | 0 => ⟨rfl, fun i => by
      show bk l i = _
      by_cases hi : i ∈ c
      · rw [if_pos hi]
        simp [cnt]
      · rw [if_neg hi]⟩
  | k + 1 => by
    obtain ⟨h1, h2⟩ := seq_bk h k
    obtain ⟨hm, ho, hlen, hb⟩ := next_bk (seq_std h k)
    refine ⟨hlen.trans h1, fun i => ?_⟩
    show bk (next (seqL l c k) c) i = _
    rw [hb]
    by_cases hi : i ∈ c
    · rw [if_pos hi, if_pos hi, h2 i, if_pos hi]
      have : (bk l i).cu + (k : Int) * (bk l i).wt - W * (cnt l c i k : Int) + (bk l i).wt - (if i = best (seqL l c k) c then W else 0) = (bk l i).cu + ((k + 1 : Nat) : Int) * (bk l i).wt - W * (cnt l c i (k + 1) : Int) := by
        simp only [cnt]
        rw [Int.natCast_add, Int.natCast_add, Int.add_mul, Int.mul_add]
        split <;> simp <;> omega
      simp only [this]
    · rw [if_neg hi, if_neg hi, h2 i, if_neg hi]
theorem seq_cu {l : List Bk} {c : List Nat} {W : Int} (h : Std l c W) (k i : Nat) (hi : i ∈ c) : (bk (seqL l c k) i).cu = (bk l i).cu + k * (bk l i).wt - W * cnt l c i k := by
  rw [(seq_bk h k).2 i, if_pos hi]
def gcdC (l : List Bk) (c : List Nat) : Nat := c.foldl (fun g i => Nat.gcd g (bk l i).wt.toNat) 0
theorem gcdC_dvd (l : List Bk) (c : List Nat) : ∀ i, i ∈ c → gcdC l c ∣ (bk l i).wt.toNat := by
  have : ∀ (c : List Nat) (g : Nat), c.foldl (fun g i => Nat.gcd g (bk l i).wt.toNat) g ∣ g ∧ ∀ i, i ∈ c → c.foldl (fun g i => Nat.gcd g (bk l i).wt.toNat) g ∣ (bk l i).wt.toNat := by
    intro c
    induction c with
    | nil => intro g; exact ⟨Nat.dvd_refl _, fun i hi => by cases hi⟩
    | cons k c ih =>
      intro g
      rw [List.foldl_cons]
      obtain ⟨h1, h2⟩ := ih (Nat.gcd g (bk l k).wt.toNat)
      refine ⟨Nat.dvd_trans h1 (Nat.gcd_dvd_left _ _), fun i hi => ?_⟩
      rcases List.mem_cons.1 hi with rfl | hi
      · exact Nat.dvd_trans h1 (Nat.gcd_dvd_right _ _)
      · exact h2 i hi
  exact (this c 0).2
theorem gcdC_mul (l : List Bk) (c : List Nat) (W k : Nat) (h : ∀ i, i ∈ c → W ∣ k * (bk l i).wt.toNat) : W ∣ k * gcdC l c := by
  have : ∀ (c : List Nat) (g : Nat), W ∣ k * g → (∀ i, i ∈ c → W ∣ k * (bk l i).wt.toNat) → W ∣ k * c.foldl (fun g i => Nat.gcd g (bk l i).wt.toNat) g := by
    intro c
    induction c with
    | nil => intro g h _; exact h
    | cons j c ih =>
      intro g hg h
      rw [List.foldl_cons]
      refine ih _ ?_ fun i hi => h i (by simp [hi])
      rw [← Nat.gcd_mul_left]
      exact Nat.dvd_gcd hg (h j (by simp))
  exact this c 0 (by simp) h
theorem gcdC_sum (l : List Bk) (c : List Nat) (hw : ∀ i, i ∈ c → 0 ≤ (bk l i).wt) : (gcdC l c : Int) ∣ sumC c fun i => (bk l i).wt := by
  have h := gcdC_dvd l c
  generalize gcdC l c = g at *
  induction c with
  | nil => simp [sumC_nil]
  | cons k c ih =>
    rw [sumC_cons]
    refine Int.dvd_add ?_ (ih (fun i hi => hw i (by simp [hi])) fun i hi => h i (by simp [hi]))
    have := Int.natCast_dvd_natCast.2 (h k (by simp))
    rwa [Int.toNat_of_nonneg (hw k (by simp))] at this
/-- The length of a cycle. -/
def cycN (l : List Bk) (c : List Nat) : Nat := (sumC c fun i => (bk l i).wt).toNat / gcdC l c
theorem gcdC_pos {l : List Bk} {c : List Nat} {W : Int} (h : Std l c W) : 0 < gcdC l c := by
  rcases Nat.eq_zero_or_pos (gcdC l c) with h0 | h0
  · obtain ⟨i, hi⟩ := List.exists_mem_of_ne_nil _ h.ne
    have h1 := gcdC_dvd l c i hi
    rw [h0, Nat.zero_dvd] at h1
    have := h.wt i hi
    omega
  · exact h0
theorem cycN_mul {l : List Bk} {c : List Nat} {W : Int} (h : Std l c W) : cycN l c * gcdC l c = W.toNat ∧ 0 < cycN l c := by
  have hp := h.wpos
  have hd : gcdC l c ∣ W.toNat := by
    have := gcdC_sum l c fun i hi => by have := h.wt i hi; omega
    rw [← h.sw] at this
    have h2 : (W.toNat : Int) = W := Int.toNat_of_nonneg (by omega)
    rw [← h2] at this
    exact Int.natCast_dvd_natCast.1 this
  have e : cycN l c = W.toNat / gcdC l c := by unfold cycN; rw [← h.sw]
  rw [e]
  refine ⟨Nat.div_mul_cancel hd, Nat.div_pos (Nat.le_of_dvd (by omega) hd) (gcdC_pos h)⟩
/-- When all are 0 again. -/
theorem seq_zero {l : List Bk} {c : List Nat} {W : Int} (h : Std l c W) (h0 : ∀ i, i ∈ c → (bk l i).cu = 0) (k : Nat) : (∀ i, i ∈ c → (bk (seqL l c k) i).cu = 0) ↔ cycN l c ∣ k := by
  obtain ⟨hT, hTp⟩ := cycN_mul h
  have hp := h.wpos
  have hg := gcdC_pos h
  have hWn : (W.toNat : Int) = W := Int.toNat_of_nonneg (by omega)
  have hwn : ∀ i, i ∈ c → ((bk l i).wt.toNat : Int) = (bk l i).wt := fun i hi => Int.toNat_of_nonneg (by have := h.wt i hi; omega)
  constructor
  · intro hz
    have h1 : W.toNat ∣ k * gcdC l c := by
      refine gcdC_mul l c _ _ fun i hi => ?_
      have h2 := hz i hi
      rw [seq_cu h k i hi, h0 i hi, ← hwn i hi, ← hWn] at h2
      refine ⟨cnt l c i k, ?_⟩
      have h3 : (k : Int) * ((bk l i).wt.toNat : Int) = (W.toNat : Int) * (cnt l c i k : Int) := by omega
      exact_mod_cast h3
    rw [← hT] at h1
    exact Nat.dvd_of_mul_dvd_mul_right hg h1
  · rintro ⟨m, rfl⟩
    have hs := (seq_std h (cycN l c * m))
    have hnn : ∀ i, i ∈ c → 0 ≤ (bk (seqL l c (cycN l c * m)) i).cu := by
      intro i hi
      have hlo := hs.lo i hi
      obtain ⟨q, hq⟩ := gcdC_dvd l c i hi
      have e : (bk (seqL l c (cycN l c * m)) i).cu = W * ((m * q : Nat) - cnt l c i (cycN l c * m) : Int) := by
        rw [seq_cu h _ i hi, h0 i hi, ← hwn i hi, hq, ← hWn, Int.mul_sub]
        have : (cycN l c * m) * (gcdC l c * q) = W.toNat * (m * q) := by
          rw [← hT]; simp only [Nat.mul_assoc, Nat.mul_left_comm, Nat.mul_comm]
        have h4 : ((cycN l c * m : Nat) : Int) * ((gcdC l c * q : Nat) : Int) = (W.toNat : Int) * ((m * q : Nat) : Int) := by exact_mod_cast this
        rw [h4]; omega
      rw [e] at hlo ⊢
      generalize ((m * q : Nat) : Int) - (cnt l c i (cycN l c * m) : Int) = z at *
      have hz : -1 < z := by
        have : W * (-1) < W * z := by omega
        exact Int.lt_of_mul_lt_mul_left this (by omega)
      exact Int.mul_nonneg (by omega) (by omega)
    exact sumC_nonneg_zero hnn hs.s0
def cycL (l : List Bk) (c : List Nat) (T : Nat) : List Nat := (List.range T).map fun k => best (seqL l c k) c
end Go.Proofs.Pol

set_option linter.unusedSimpArgs false
set_option linter.unusedVariables false
set_option maxRecDepth 100000
namespace Go.Proofs.Pol
open Go Go.Pl Go.Proofs
def l0 (ws : List Int) : List Bk := ws.map fun w => ⟨w, 0, 0, true, false⟩
def c0 (ws : List Int) : List Nat := canL (l0 ws) 0 ws.length
theorem bk_l0 (ws : List Int) (i : Nat) (h : i < ws.length) : bk (l0 ws) i = ⟨ws[i], 0, 0, true, false⟩ := by
  rw [bk_get (by simpa [l0] using h)]; simp [l0]
theorem canP_l0 (w : Int) (i : Nat) : canP ⟨w, 0, 0, true, false⟩ 0 i = decide (0 < w) := by simp [canP]
theorem c0_mem (ws : List Int) (i : Nat) : i ∈ c0 ws ↔ ∃ h : i < ws.length, 0 < ws[i] := by
  simp only [c0, canL, List.mem_filter, List.mem_range]
  constructor
  · rintro ⟨h, h1⟩
    refine ⟨h, ?_⟩
    simpa [l0, List.getElem?_eq_getElem h, canP_l0] using h1
  · rintro ⟨h, h1⟩
    refine ⟨h, ?_⟩
    simpa [l0, List.getElem?_eq_getElem h, canP_l0] using h1
theorem canL_congr {l l' : List Bk} {skip : Int} (hl : l'.length = l.length) (h : ∀ i, canP (bk l' i) skip i = canP (bk l i) skip i) (n : Nat) : canL l' skip n = canL l skip n := by
  unfold canL
  refine List.filter_congr fun i _ => ?_
  have := h i
  by_cases hi : i < l.length
  · rw [List.getElem?_eq_getElem hi, List.getElem?_eq_getElem (by omega)]
    rw [bk_get hi, bk_get (by omega)] at this
    exact this
  · rw [List.getElem?_eq_none (by omega), List.getElem?_eq_none (by omega)]
def posN (ws : List Int) : Nat := (ws.filter fun w => decide (0 < w)).length
def cycle (ws : List Int) : List Nat × Int :=
  if ws.length < 1 ∨ 16 < ws.length then ([], 3) else if checkB (l0 ws) ≠ 0 then ([], 7) else if c0 ws = [] then ([], 4) else (cycL (l0 ws) (c0 ws) (cycN (l0 ws) (c0 ws)), 0)
theorem contO (g : FuncId) (p : Bk → Bool) (l : List Bk) (b : Nat) (bx : Boxes) (hb : bx b = some (.row 57 5 (l.map bkV))) (hl : l.length ≤ 1000) (hp : ∀ x, x ∈ l → ∀ bx, PureCall Tryz.prog g (bkV x :: []) bx (.bool (p x))) :
    PureCall Tryz.prog 101 [.own b 5 0 l.length, .fn (.func g) []] bx (.bool (l.any p)) :=
  PureCall.frame 1 (contains_c g [] p l _ hl hp) (by rw [List.map_cons, frz_own1 hb rfl (by decide) (by simp)]; rfl) rfl
theorem checkO (l : List Bk) (b : Nat) (bx : Boxes) (hb : bx b = some (.row 57 5 (l.map bkV))) (hl : l.length ≤ 1000) : PureCall Tryz.prog 99 [.own b 5 0 l.length] bx (.int .i64 (checkB l)) :=
  PureCall.frame 1 (check_c l _ hl) (by rw [List.map_cons, frz_own1 hb rfl (by decide) (by simp)]; rfl) rfl
theorem appB {bx bx1 bx2 : Boxes} {es news : List V} {v x : V} {d n : Nat} {sl : Nat → V} {K : St → Prop} (ha : Acc bx 57 5 es v bx1) (h2 : Ext bx1 bx2) (hf : FinB bx2) (src : srcEls ⟨n, sl, bx2⟩ 5 x = some news) (hlen : es.length + news.length ≤ 1000000) (hd : d < n)
    (hK : ∀ v' bx3, Acc bx 57 5 (es ++ news) v' bx3 → K (St.put ⟨n, sl, bx3⟩ (some d) v')) : appendA Tryz.prog ⟨n, sl, bx2⟩ (some d) 48 v x K :=
  acc_append (.agg #[.int .i64 0, .int .i64 0, .int .i64 0, .bool false, .bool false]) ha h2 hf Tryz.knd48 Tryz.tsz57 src Tryz.tzero57 (by simp [go_sem]) (by omega) (by simp [Tryz.tby57]; omega) (by omega) (by simpa [go_sem] using hd) hK
theorem posN_c0 (ws : List Int) : posN ws = 0 ↔ c0 ws = [] := by
  have h1 : posN ws = 0 ↔ ∀ w, w ∈ ws → ¬ 0 < w := by
    unfold posN
    rw [List.length_eq_zero_iff, List.filter_eq_nil_iff]
    simp
  rw [h1]
  constructor
  · intro h
    refine List.eq_nil_iff_forall_not_mem.2 fun i hi => ?_
    obtain ⟨hi, hp⟩ := (c0_mem ws i).1 hi
    exact h _ (List.getElem_mem hi) hp
  · intro h w hw hp
    obtain ⟨i, hi, rfl⟩ := List.getElem_of_mem hw
    have : i ∈ c0 ws := (c0_mem ws i).2 ⟨hi, hp⟩
    rw [h] at this
    cases this
theorem std_l0 (ws : List Int) (hn : ws.length ≤ 50) (hc : checkB (l0 ws) = 0) (hne : c0 ws ≠ []) : Std (l0 ws) (c0 ws) (sumC (c0 ws) fun i => (bk (l0 ws) i).wt) := by
  have hlt : ∀ i, i ∈ c0 ws → ∃ h : i < ws.length, 0 < ws[i] := fun i hi => (c0_mem ws i).1 hi
  have hbad : ∀ i (h : i < ws.length), ws[i] ≤ 100 := by
    intro i h
    unfold checkB at hc
    split at hc
    · cases hc
    · split at hc
      · cases hc
      · rename_i hb
        have hb' := (List.any_eq_false (p := badB)).1 (by simpa using hb) ⟨ws[i], 0, 0, true, false⟩ (by simp [l0])
        simp [badB] at hb'
        omega
  have hwt : ∀ i, i ∈ c0 ws → 0 < (bk (l0 ws) i).wt ∧ (bk (l0 ws) i).wt ≤ 100 := by
    intro i hi
    obtain ⟨h1, h2⟩ := hlt i hi
    rw [bk_l0 ws i h1]
    exact ⟨h2, hbad i h1⟩
  have hcu : ∀ i, i ∈ c0 ws → (bk (l0 ws) i).cu = 0 := by
    intro i hi
    obtain ⟨h1, h2⟩ := hlt i hi
    rw [bk_l0 ws i h1]
  have hpos : 0 < sumC (c0 ws) fun i => (bk (l0 ws) i).wt := by
    have h1 : sumC (c0 ws) (fun _ => 1) ≤ sumC (c0 ws) fun i => (bk (l0 ws) i).wt := sumC_le fun i hi => by have := hwt i hi; omega
    rw [sumC_const] at h1
    have := List.length_pos_iff.2 hne
    omega
  refine ⟨canL_nodup _ _ _, fun i hi => by have := (hlt i hi).1; simpa [l0] using this, hwt, rfl, ?_, fun i hi => by rw [hcu i hi]; omega, ?_, hne⟩
  · rw [sumC_congr hcu, sumC_zero]
  · exact Nat.le_trans (canL_le _ _ _) hn
theorem seq_can {l : List Bk} {c : List Nat} {W : Int} (h : Std l c W) (k : Nat) (skip : Int) (n : Nat) : canL (seqL l c k) skip n = canL l skip n := by
  obtain ⟨h1, h2⟩ := seq_bk h k
  refine canL_congr h1 (fun i => ?_) n
  rw [h2 i]
  split <;> rfl
theorem seq_any (ws : List Int) (hn : ws.length ≤ 50) (hc : checkB (l0 ws) = 0) (hne : c0 ws ≠ []) (k : Nat) : ((seqL (l0 ws) (c0 ws) k).any fun x => decide (x.cu ≠ 0)) = !decide (cycN (l0 ws) (c0 ws) ∣ k) := by
  have hs := std_l0 ws hn hc hne
  have h0 : ∀ i, i < ws.length → (bk (l0 ws) i).cu = 0 := fun i hi => by rw [bk_l0 ws i hi]
  have hz := seq_zero hs (fun i hi => h0 i ((c0_mem ws i).1 hi).1) k
  obtain ⟨hl, hb⟩ := seq_bk hs k
  have hll : (l0 ws).length = ws.length := by simp [l0]
  by_cases hd : cycN (l0 ws) (c0 ws) ∣ k
  · simp only [hd, decide_true, Bool.not_true]
    rw [List.any_eq_false]
    intro x hx
    obtain ⟨i, hi, rfl⟩ := List.getElem_of_mem hx
    rw [← bk_get hi]
    by_cases hic : i ∈ c0 ws
    · simp [hz.2 hd i hic]
    · rw [hb i, if_neg hic, h0 i (by omega)]; simp
  · simp only [hd, decide_false, Bool.not_false]
    rw [List.any_eq_true]
    have : ¬ ∀ i, i ∈ c0 ws → (bk (seqL (l0 ws) (c0 ws) k) i).cu = 0 := fun h => hd (hz.1 h)
    simp only [Classical.not_forall] at this
    obtain ⟨i, hi, hne⟩ := this
    have hi' : i < (seqL (l0 ws) (c0 ws) k).length := by have := ((c0_mem ws i).1 hi).1; omega
    refine ⟨(seqL (l0 ws) (c0 ws) k)[i], List.getElem_mem hi', ?_⟩
    rw [← bk_get hi']
    simpa using hne
theorem turn_seq (ws : List Int) (hn : ws.length ≤ 50) (hc : checkB (l0 ws) = 0) (hne : c0 ws ≠ []) (k bo : Nat) (bx : Boxes) (hbo : bx bo = some (.row 57 5 ((seqL (l0 ws) (c0 ws) k).map bkV))) :
    AbsCall Tryz.prog 100 [.own bo 5 0 ws.length, .int .i64 0] bx fun r bx' => r = .int .i64 (best (seqL (l0 ws) (c0 ws) k) (c0 ws)) ∧ bx' = upd bx bo (some (.row 57 5 ((seqL (l0 ws) (c0 ws) (k + 1)).map bkV))) := by
  have hs := std_l0 ws hn hc hne
  obtain ⟨hl, hb⟩ := seq_bk hs k
  have hll : (l0 ws).length = ws.length := by simp [l0]
  have h := turn_c (seqL (l0 ws) (c0 ws) k) bo 0 bx (by omega) hbo
  rw [seq_can hs k 0, hl, hll] at h
  obtain ⟨h1, h2, _, _⟩ := next_bk (seq_std hs k)
  have hcc : canL (l0 ws) 0 ws.length = c0 ws := rfl
  rw [hcc, h2] at h
  exact h
set_option maxHeartbeats 1000000 in
theorem cycle_c (ws : List Int) (bx : Boxes) (hl : ws.length ≤ 50) : PureCall Tryz.prog 61 [.sl 1 (ws.map iV)] bx (.tup [.sl 1 ((cycle ws).1.map ixV), .int .i64 (cycle ws).2]) := by
  refine PureCall.wk (Tryz.ctr61 fun hb => ?_)
  have hm : (if (16 : Int) < (ws.length : Int) then (16 : Int) else ws.length) = ((min ws.length 16 : Nat) : Int) := by split <;> omega
  have hm2 : min ws.length 16 ≤ ws.length := Nat.min_le_left _ _
  simp [go_sem, Tryz.C61, hb, hm]
  generalize hmd : min ws.length 16 = m at *
  refine ⟨by omega, ?_⟩
  refine pw_for (ι := V × Boxes) m (fun k p => Acc bx 57 5 ((l0 (ws.take k)).map bkV) p.1 p.2) (fun k p => ⟨52, slk [(0, .sl 1 (ws.map iV)), (4, p.1), (5, .int .i64 (posN (ws.take k))), (13, .sl 1 ((ws.take m).map iV)), (14, .int .i64 m), (15, .int .i64 k)], p.2⟩) (.nils, bx) (by simpa [l0] using acc_nil hb _ _) (cov_look (by simp [go_sem, posN])) (fun k p hk hJ N hN => ?_) (fun p hJ N => ?_)
  · obtain ⟨v, bx1⟩ := p
    dsimp only at *
    have hkw : k < ws.length := by omega
    simp [go_sem, Tryz.L61_0, hk, hkw, iV, hJ.fin]
    refine ⟨by omega, fun b hb1 => ?_⟩
    have hpk : posN (ws.take (k + 1)) = posN (ws.take k) + if 0 < ws[k] then 1 else 0 := by
      rw [take_snoc hkw]; unfold posN; rw [List.filter_append, List.length_append]
      simp only [List.filter_cons, List.filter_nil, decide_eq_true_eq]
      split <;> rfl
    have hpl : posN (ws.take k) ≤ k := by
      unfold posN
      refine Nat.le_trans (List.length_filter_le _ _) ?_
      simp; omega
    refine appB hJ ((Ext.refl _).new hb1 _) (by simp [finB_upd, hJ.fin]) (by simp [srcEls, upd_eq]; rfl) (by simp [l0]; omega) (by omega) fun v' bx3 ha' => ?_
    have hmx : IntKind.i64.wrap (((posN (ws.take k) : Nat) : Int) + if (1 : Int) < (if ws[k] < 0 then 0 else ws[k]) then 1 else (if ws[k] < 0 then 0 else ws[k])) = ((posN (ws.take (k + 1)) : Nat) : Int) := by
      rw [hpk, wr64 (by split <;> split <;> omega)]
      split <;> split <;> split <;> omega
    simp [go_sem, hmx, wr_succ (show k < 1000000000 by omega)]
    refine hN _ (v', bx3) ?_ (cov_look (by simp [go_sem]))
    have e : (l0 (ws.take (k + 1))).map bkV = (l0 (ws.take k)).map bkV ++ [V.agg [.int .i64 ws[k], .int .i64 0, .int .i64 0, .bool true, .bool false]] := by
      rw [take_snoc hkw]; simp only [l0, List.map_append, List.map_cons, List.map_nil, bkV]
    rw [e]
    exact ha'
  · obtain ⟨v, bx1⟩ := p
    dsimp only at *
    simp [go_sem, Tryz.L61_0, iV]
    refine callK_pure (outside_c ..) ?_
    by_cases hbad : ws.length < 1 ∨ 16 < ws.length
    · have hcy : cycle ws = ([], 3) := if_pos hbad
      have hd : (decide ((ws.length : Int) < 1) || decide ((16 : Int) < (ws.length : Int))) = true := by simp; omega
      simp [go_sem, hd]
      refine ret_wk (by simp [go_sem]) hJ.ext ?_
      simp [go_sem, hcy]; exact wk_tup2 (wk_nils _) (Wk.refl _)
    · have hd : (decide ((ws.length : Int) < 1) || decide ((16 : Int) < (ws.length : Int))) = false := by simp; omega
      have hmw : m = ws.length := by omega
      subst hmw
      rw [List.take_length] at hJ
      have hne : (l0 ws).map bkV ≠ [] := fun e => by simp [l0] at e; subst e; simp at hbad
      obtain ⟨bo, hbo, rfl, hbo1⟩ := hJ.row hne
      have hll : (l0 ws).length = ws.length := by simp [l0]
      have hll2 : ((l0 ws).map bkV).length = (l0 ws).length := by simp
      rw [hll2] at hJ ⊢
      simp [go_sem, hd]
      refine callK_pure (checkO (l0 ws) bo bx1 hbo1 (by omega)) ?_
      by_cases hck : checkB (l0 ws) = 0
      · simp [go_sem, hck]
        refine ⟨fun hp => ?_, fun hp => ?_⟩
        · have hcy : cycle ws = ([], 4) := by unfold cycle; rw [if_neg hbad, if_neg (by simp [hck]), if_pos ((posN_c0 ws).1 hp)]
          refine ret_wk (by simp [go_sem]) hJ.ext ?_
          simp [go_sem, hcy]; exact wk_tup2 (wk_nils _) (Wk.refl _)
        · have hne : c0 ws ≠ [] := fun e => hp ((posN_c0 ws).2 e)
          have hcy : cycle ws = (cycL (l0 ws) (c0 ws) (cycN (l0 ws) (c0 ws)), 0) := by unfold cycle; rw [if_neg hbad, if_neg (by simp [hck]), if_neg hne]
          have hs := std_l0 ws hl hck hne
          have hTp := (cycN_mul hs).2
          have hany := seq_any ws hl hck hne
          have hturn := turn_seq ws hl hck hne
          have hseq := fun k => (seq_bk hs k).1
          have hcyc : ∀ k, cycL (l0 ws) (c0 ws) (k + 1) = cycL (l0 ws) (c0 ws) k ++ [best (seqL (l0 ws) (c0 ws) k) (c0 ws)] := fun k => by simp [cycL, List.range_succ]
          have hcl : ∀ k, (cycL (l0 ws) (c0 ws) k).length = k := fun k => by simp [cycL]
          have hTle : cycN (l0 ws) (c0 ws) ≤ 5000 := by
            have h1 := hs.wpos
            have h2 := hs.len
            unfold cycN
            refine Nat.le_trans (Nat.div_le_self _ _) ?_
            omega
          generalize hT : cycN (l0 ws) (c0 ws) = T at *
          rw [hll] at hJ ⊢
          refine callK_abs (hturn 0 bo bx1 hbo1) ?_
          rintro r bx2 ⟨rfl, rfl⟩
          simp [go_sem, hJ.fin]
          intro b8 hb8
          refine pw_for (ι := V × Boxes) (T - 1) (fun j p => Acc (upd bx1 bo (some (.row 57 5 ((seqL (l0 ws) (c0 ws) (j + 1)).map bkV)))) 3 1 ((cycL (l0 ws) (c0 ws) (j + 1)).map ixV) p.1 p.2) (fun j p => ⟨52, slk [(4, .own bo 5 0 ws.length), (8, p.1)], p.2⟩) (.own b8 1 0 1, _) ?_ (cov_look (by simp [go_sem])) (fun j p hj hA N hN => ?_) (fun p hA N => ?_)
          · dsimp only
            have : cycL (l0 ws) (c0 ws) (0 + 1) = [best (seqL (l0 ws) (c0 ws) 0) (c0 ws)] := by rw [hcyc]; simp [cycL]
            rw [this]
            exact acc_new hb8 (by simp [finB_upd, hJ.fin]) 3 1 _ 1 rfl
          · obtain ⟨v, bx3⟩ := p
            dsimp only at *
            simp [go_sem, Tryz.L61_1]
            have hc1 := contO 102 (fun x => decide (x.cu ≠ 0)) (seqL (l0 ws) (c0 ws) (j + 1)) bo bx3 hA.at (by rw [hseq, hll]; omega) (fun x _ bx => still2_c x bx)
            rw [hseq, hll] at hc1
            refine callK_pure hc1 ?_
            have hnd : ¬ T ∣ j + 1 := fun hd => by have := Nat.le_of_dvd (by omega) hd; omega
            rw [hany]
            simp [go_sem, hnd]
            refine callK_abs (hturn (j + 1) bo bx3 hA.at) ?_
            rintro r bx4 ⟨rfl, rfl⟩
            have hA' := hA.put (.row 57 5 ((seqL (l0 ws) (c0 ws) (j + 1 + 1)).map bkV))
            simp [go_sem, hA'.fin]
            intro b hb1
            refine appI hA' ((Ext.refl _).new hb1 _) (by simp [finB_upd, hA'.fin]) (by simp [srcEls, upd_eq]; rfl) (by simp [hcl]; omega) (by omega) fun v2 bx5 hA2 => ?_
            simp [go_sem]
            refine hN _ (v2, bx5) ?_ (cov_look (by simp [go_sem]))
            dsimp only
            rw [hcyc (j + 1), List.map_append]
            exact hA2
          · obtain ⟨v, bx3⟩ := p
            dsimp only at *
            simp [go_sem, Tryz.L61_1]
            have e1 : T - 1 + 1 = T := by omega
            rw [e1] at hA
            have hc1 := contO 102 (fun x => decide (x.cu ≠ 0)) (seqL (l0 ws) (c0 ws) T) bo bx3 hA.at (by rw [hseq, hll]; omega) (fun x _ bx => still2_c x bx)
            rw [hseq, hll] at hc1
            refine callK_pure hc1 ?_
            rw [hany]
            simp [go_sem]
            have hA0 := hA.base (hJ.ext.upd_own hbo _)
            obtain ⟨b9, hb9, rfl, hb91⟩ := hA0.row (by simp [cycL]; omega)
            refine ret_frz 2 (by simp [go_sem]) hA0.ext ⟨?_, rfl⟩
            simp [go_sem, hcy]
            rw [frz_own1 hb91 hb9 (by decide) (by simp)]
            exact Wk.refl _
      · have hcy : cycle ws = ([], 7) := by unfold cycle; rw [if_neg hbad, if_pos hck]
        simp [go_sem, hck]
        refine ret_wk (by simp [go_sem]) hJ.ext ?_
        simp [go_sem, hcy]; exact wk_tup2 (wk_nils _) (Wk.refl _)
end Go.Proofs.Pol

set_option linter.unusedSimpArgs false
set_option linter.unusedVariables false
set_option maxRecDepth 100000
namespace Go.Proofs.Pol
open Go Go.Pl Go.Proofs
theorem awake_c (bx : Boxes) : PureCall Tryz.prog 27 [] bx (.bool true) := by
  refine Tryz.ctr27 fun hb => ?_
  have e1 : least exL 0 = (2, 0) := by decide +kernel
  have e2 : least exL 4 = (0, 0) := by decide +kernel
  have e3 : cycle [5, 1, 1] = ([0, 0, 1, 0, 2, 0, 0], 0) := by decide +kernel
  have e4 : smooth exL 0 = (0, [⟨5, 4, -2, true, false⟩, ⟨1, 1, 1, true, false⟩, ⟨1, 0, 1, true, false⟩], 0) := by decide +kernel
  have e5 : two exL 1 1 0 = (2, 0) := by decide +kernel
  have hx : exL.length ≤ 50 := by decide
  have c1 := least_c exL 0 bx hx
  have c2 := least_c exL 4 bx hx
  have c3 := cycle_c [5, 1, 1] bx (by decide)
  have c4 := smooth_c exL 0 bx hx
  have c5 := two_c exL 1 1 0 bx hx (by decide) (by decide)
  rw [e1] at c1
  rw [e2] at c2
  rw [e3] at c3
  rw [e4] at c4
  rw [e5] at c5
  simp [go_sem, Tryz.C27, hb]
  refine callK_pure (example_c bx) ?_
  simp [go_sem]
  refine callK_pure c1 ?_
  simp [go_sem]
  refine callK_pure (example_c bx) ?_
  simp [go_sem]
  refine callK_pure c2 ?_
  simp [go_sem, hb]
  refine callK_pure c3 ?_
  simp [go_sem]
  refine callK_pure (example_c bx) ?_
  simp [go_sem]
  refine callK_pure c4 ?_
  simp [go_sem]
  refine callK_pure (example_c bx) ?_
  simp [go_sem]
  refine callK_pure c5 ?_
  simp [go_sem, hb, ixV]
  refine gK_pure (ints_c [0, 0, 1, 0, 2, 0, 0] [0, 0, 1, 0, 2, 0, 0] bx (by decide)) (by simp) (by simp [go_sem]) ?_
  simp [go_sem, bkV]
  refine ret_pure (by simp [go_sem]) ?_
  simp [go_sem]
end Go.Proofs.Pol

set_option linter.unusedSimpArgs false
set_option linter.unusedVariables false
set_option maxRecDepth 100000
namespace Go.Proofs.Pol
open Go Go.Pl Go.Proofs
theorem ixs (l : List Nat) : l.map ixV = (l.map Int.ofNat).map iV := by simp [ixV, iV, Function.comp_def]
end Go.Proofs.Pol

set_option linter.unusedSimpArgs false
set_option linter.unusedVariables false
set_option maxRecDepth 100000
namespace Go.Proofs.Pol
open Go Go.Pl Go.Proofs
def okB (x : Bk) : Prop := 0 < x.wt ∧ x.wt ≤ 100 ∧ 0 ≤ x.ac ∧ x.ac ≤ 10000
theorem canR_ok {l : List Bk} {skip : Int} (h : askB l skip = 0) : ∀ i, i ∈ canR l skip → okB (bk l i) := by
  intro i hi
  obtain ⟨_, _, hc⟩ := ask_len h
  have hil := canR_lt i hi
  have hcan : canP l[i] skip i = true := by
    have : canR l skip = canL l skip l.length := by simp [canR, h]
    rw [this] at hi
    simp [canL] at hi
    simpa [List.getElem?_eq_getElem hil] using hi.2
  have hbad : badB l[i] = false := by
    unfold checkB at hc
    split at hc
    · cases hc
    · split at hc
      · cases hc
      · rename_i hb
        have := (List.any_eq_false (p := badB)).1 (by simpa using hb) l[i] (List.getElem_mem hil)
        simpa using this
  rw [bk_get hil]
  simp [canP] at hcan
  simp [badB] at hbad
  unfold okB
  omega
end Go.Proofs.Pol

set_option linter.unusedSimpArgs false
set_option linter.unusedVariables false
set_option maxRecDepth 100000
namespace Go.Proofs.Pol
open Go Go.Pl Go.Proofs
theorem inR_c (c : List Nat) (n : Nat) (bx : Boxes) (hc : c.length ≤ 1000) (h : n ∈ c) : PureCall Tryz.prog 33 [.sl 1 (c.map ixV), .int .i64 n] bx (.bool true) := by
  have := in_c (c.map Int.ofNat) n bx (by simpa using (by omega : c.length ≤ 1000000))
  rw [← ixs] at this
  have h2 : ((n : Int) ∈ c.map Int.ofNat) := List.mem_map.2 ⟨n, h, rfl⟩
  simpa [h2] using this
end Go.Proofs.Pol

/- Contracts: Order. -/
set_option linter.unusedSimpArgs false
set_option linter.unusedVariables false
set_option maxRecDepth 100000
namespace Go.Proofs
open Go Go.Pl Go.Hs

theorem acc_frame {P : Program} {f : FuncId} {bx bx1 : Boxes} {e sz : Nat} {es : List V} {v r : V} {k : IntKind} {i : Int} (ha : Pl.Acc bx e sz es v bx1) (hs : 0 < sz) (hr : flatV r = true) (h : ∀ bx, PureCall P f [.sl sz es, .int k i] bx r) : PureCall P f [v, .int k i] bx1 r := by
  rcases ha.is with ⟨rfl, rfl⟩ | ⟨b, hb, rfl, hb2⟩
  · refine AbsCall.args (h bx1) rfl fun j c c' h1 h2 => ?_
    rcases j with _ | _ | j
    · cases h1; cases h2; exact wk_nils _
    · cases h1; cases h2; exact Wk.refl _
    · simp at h1
  · refine PureCall.frame 1 (h _) ?_ hr
    rw [List.map_cons, frz_own1 hb2 rfl hs rfl]; rfl
theorem acc_frz {bx bx1 : Boxes} {e sz : Nat} {es : List V} {v : V} (ha : Pl.Acc bx e sz es v bx1) (hs : 0 < sz) : Wk (frz bx1 bx 1 v) (.sl sz es) := by
  rcases ha.is with ⟨h1, rfl⟩ | ⟨b, hb, rfl, hb2⟩
  · exact wk_nil' h1
  · rw [frz_own1 hb2 hb hs rfl]; exact Wk.refl _
theorem uniq_snoc : ∀ (l : List Int) (out : List Int) (x : Int), uniq out (l ++ [x]) = if x ∈ uniq out l then uniq out l else uniq out l ++ [x]
  | [], out, x => by
    by_cases h : x ∈ out <;> simp [h, uniq]
  | y :: l, out, x => by rw [List.cons_append, uniq, uniq]; exact uniq_snoc l _ x
theorem uniq_len : ∀ (l : List Int) (out : List Int), (uniq out l).length ≤ out.length + l.length
  | [], out => by simp [uniq]
  | y :: l, out => by
    rw [uniq]
    refine Nat.le_trans (uniq_len l _) ?_
    split <;> simp <;> omega
/-- The backends in the order of the points, from one on. -/
def turnB (r : Rg) (i : Nat) : List Int := (r.pts.drop i ++ r.pts.take i).map (·.b)
theorem turnB_len (r : Rg) (i : Nat) (hi : i ≤ r.pts.length) : (turnB r i).length = r.pts.length := by simp [turnB]; omega
theorem turnB_at {r : Rg} {i k : Nat} (hi : i < r.pts.length) (hk : k < r.pts.length) : (turnB r i)[k]? = some ((r.pts[(i + k) % r.pts.length]'(Nat.mod_lt _ (by omega))).b) := by
  unfold turnB
  rw [List.getElem?_map]
  rcases Nat.lt_or_ge (i + k) r.pts.length with h | h
  · rw [List.getElem?_append_left (by simp; omega)]
    simp [Nat.mod_eq_of_lt h, h]
  · rw [List.getElem?_append_right (by simp; omega)]
    have h2 : (i + k) % r.pts.length = i + k - r.pts.length := by rw [Nat.mod_eq_sub_mod h, Nat.mod_eq_of_lt (by omega)]
    have h3 : k - (r.pts.length - i) = i + k - r.pts.length := by omega
    simp only [h2, List.length_drop, h3]
    rw [List.getElem?_take, if_pos (by omega), List.getElem?_eq_getElem (by omega)]
    rfl
def uq (r : Rg) (i k : Nat) : List Int := uniq [] ((turnB r i).take k)
theorem uq_succ {r : Rg} {i k : Nat} (hi : i < r.pts.length) (hk : k < r.pts.length) : uq r i (k + 1) = if (r.pts[(i + k) % r.pts.length]'(Nat.mod_lt _ (by omega))).b ∈ uq r i k then uq r i k else uq r i k ++ [(r.pts[(i + k) % r.pts.length]'(Nat.mod_lt _ (by omega))).b] := by
  have h := turnB_at hi hk
  have hl := turnB_len r i (by omega)
  have hk2 : k < (turnB r i).length := by omega
  rw [List.getElem?_eq_getElem hk2] at h
  unfold uq
  rw [take_snoc hk2, Option.some.inj h, uniq_snoc]
theorem uq_len (r : Rg) (i k : Nat) : (uq r i k).length ≤ k := by
  unfold uq
  refine Nat.le_trans (uniq_len _ _) ?_
  rw [List.length_take]
  simp; omega
theorem order_eq {r : Rg} {key : Bs} (he : asked r key = 0) : order r key = (uq r (first r (sum32 key)) r.pts.length, 0) := by
  unfold order uq
  rw [if_neg (by simpa using he)]
  obtain ⟨_, _, hpl, _⟩ := asked0 he
  rw [List.take_of_length_le (l := turnB r (first r (sum32 key))) (by rw [turnB_len _ _ (Nat.le_of_lt (first_lt _ hpl))]; exact Nat.le_refl _)]
  rfl
theorem Tryz.Order_c (r : Rg) (key : Bs) (bx : Boxes) (hm : Mk bx) (hl : r.wts.length ≤ 9223372036854775807) (hl2 : r.names.length ≤ 9223372036854775807) :
    PureCall Tryz.prog 24 [rgV r, .str key] bx (.tup [intsV (order r key).1, .int .i64 (order r key).2]) := by
  refine PureCall.wk (Tryz.ctr24 fun hb => ?_)
  have c0 := Tryz.ask_c r [key] bx hm hl hl2 (by simp)
  rw [askE_one] at c0
  by_cases he : asked r key ≠ 0
  · have hf : order r key = ([], asked r key) := by unfold order; rw [if_pos he]
    rw [hf]
    simp only [rgV, strsV, intsV, ptsV] at c0 ⊢
    simp [go_sem, Tryz.C24, hb]
    refine callK_pure c0 ?_
    simp [go_sem, he]
    refine ret_wk0 (by simp [go_sem]) ?_
    simp [go_sem]
    exact wk_tup2 (wk_nils _) (Wk.refl _)
  have he : asked r key = 0 := Decidable.not_not.1 he
  obtain ⟨hch, hkl, hpl, hpm, hso⟩ := asked0 he
  rw [order_eq he]
  have c1 : PureCall Tryz.prog 34 [.sl 1 (key.map byteV)] bx (.int .u32 (sum32 key)) := Tryz.sum32_c key bx (by omega)
  have c2 := Tryz.find_c r (sum32 key) bx (by omega) hso
  have hfl := first_lt (sum32 key) hpl
  generalize first r (sum32 key) = fi at *
  have hcl : (r.pts.drop fi ++ r.pts.take fi).length = r.pts.length := by simp; omega
  have hat : ∀ k (hk : k < r.pts.length), (r.pts.drop fi ++ r.pts.take fi)[k]? = some (r.pts[(fi + k) % r.pts.length]'(Nat.mod_lt _ (by omega))) := fun k hk => by
    rcases Nat.lt_or_ge (fi + k) r.pts.length with h | h
    · rw [List.getElem?_append_left (by simp; omega)]
      simp [Nat.mod_eq_of_lt h, h]
    · rw [List.getElem?_append_right (by simp; omega)]
      have h2 : (fi + k) % r.pts.length = fi + k - r.pts.length := by rw [Nat.mod_eq_sub_mod h, Nat.mod_eq_of_lt (by omega)]
      have h3 : k - (r.pts.length - fi) = fi + k - r.pts.length := by omega
      simp only [h2, List.length_drop, h3]
      rw [List.getElem?_take, if_pos (by omega), List.getElem?_eq_getElem (by omega)]
  have hsu : ∀ k (hk : k < r.pts.length), _ := fun k hk => uq_succ (r := r) (i := fi) hfl hk
  have hul := fun k => uq_len r fi k
  have c3 := fun (b : Nat) (ty : TypeId) (bx : Boxes) (h : bx b = some (.row ty 1 [ptsV (r.pts.drop fi), ptsV (r.pts.take fi)])) => Tryz.concat_c (r.pts.drop fi) (r.pts.take fi) h (by simp; omega) (by simp; omega)
  have hu0 : uq r fi 0 = [] := by simp [uq, uniq]
  have huN : List Int → Prop := fun l => True
  simp only [rgV, strsV, intsV, ptsV] at c0 c2 c3 ⊢
  rw [List.map_append, List.map_drop, List.map_take] at c3
  simp [go_sem, Tryz.C24, hb]
  refine callK_pure c0 ?_
  simp [go_sem, he, (by omega : key.length ≤ 9223372036854775807)]
  refine callK_pure c1 ?_
  simp [go_sem]
  refine callK_pure c2 ?_
  have hfle : fi ≤ r.pts.length := by omega
  have ht : List.take r.pts.length (r.pts.map ptV) = r.pts.map ptV := List.take_of_length_le (by simp)
  simp [go_sem, hb, hfle, ht]
  intro b hb'
  refine callK_pure (c3 b _ _ (upd_eq _ _ _)) ?_
  have hb2 : FinB (upd bx b (some (Box.row 24 1 [V.sl 2 (List.drop fi (List.map ptV r.pts)), V.sl 2 (List.take fi (List.map ptV r.pts))]))) := by simp [finB_upd, hb]
  have hxb : Ext bx (upd bx b (some (Box.row 24 1 [V.sl 2 (List.drop fi (List.map ptV r.pts)), V.sl 2 (List.take fi (List.map ptV r.pts))]))) := (Ext.refl _).new hb' _
  generalize upd bx b (some (Box.row 24 1 [V.sl 2 (List.drop fi (List.map ptV r.pts)), V.sl 2 (List.take fi (List.map ptV r.pts))])) = bx0 at *
  have hcl' : (r.pts.length - fi) + fi = r.pts.length := by omega
  have hatm : ∀ k (hk : k < r.pts.length), (List.drop fi (List.map ptV r.pts) ++ List.take fi (List.map ptV r.pts))[k]? = some (ptV (r.pts[(fi + k) % r.pts.length]'(Nat.mod_lt _ (by omega)))) := fun k hk => by
    have h := congrArg (Option.map ptV) (hat k hk)
    rw [← List.getElem?_map, List.map_append, List.map_drop, List.map_take] at h
    exact h
  have hll : (List.drop fi (List.map ptV r.pts) ++ List.take fi (List.map ptV r.pts)).length = r.pts.length := by simp; omega
  generalize (List.drop fi (List.map ptV r.pts) ++ List.take fi (List.map ptV r.pts)) = L at *
  simp [go_sem, hb2, hll]
  refine pw_for (ι := V × Boxes) r.pts.length (fun k p => Pl.Acc bx0 3 1 ((uq r fi k).map (.int .i64)) p.1 p.2)
    (fun k p => ⟨50, slk [(8, p.1), (32, .sl 2 L), (33, .int .i64 r.pts.length), (34, .int .i64 k)], p.2⟩) (.nils, bx0) (by rw [hu0]; exact acc_nil hb2 _ _) (cov_look (by simp [go_sem])) ?_ ?_
  · rintro k ⟨v, bx1⟩ hk ha N hN
    dsimp only at ha ⊢
    have hw := wr_succ (k := k) (by omega)
    have hg := hatm k hk
    have hs := uq_succ (r := r) (i := fi) hfl hk
    have hlu := hul k
    generalize r.pts[(fi + k) % r.pts.length]'(Nat.mod_lt _ (by omega)) = q at *
    generalize uq r fi (k + 1) = U1 at *
    generalize uq r fi k = U at *
    obtain ⟨qh, qb⟩ := q
    have cC := acc_frame (i := qb) ha (by decide) (r := .bool (decide (qb ∈ U))) rfl (fun bx => Tryz.containsN_c U qb bx (by omega))
    have hkL : k < L.length := by omega
    have hg2 : L[k] = V.agg [.int .u32 qh, .int .i64 qb] := by
      rw [List.getElem?_eq_getElem hkL] at hg; exact Option.some.inj hg
    simp [go_sem, Tryz.L24_0, hk, hkL, hg2, ha.fin]
    intro b10 hb10
    simp [go_sem, upd_self hb10, ha.cells, ha.strip, ha.live]
    refine callK_pure cC ?_
    simp [go_sem]
    refine ⟨fun hin => ?_, fun hin => ?_⟩
    · rw [if_neg hin] at hs
      refine ⟨ha.fin, ?_⟩
      refine Tryz.appI (es := U.map (.int .i64)) (news := [.int .i64 qb]) ha (Ext.refl _) ha.fin (by simp [go_sem, srcEls]) (by simp; omega) (by omega) ?_
      intro v' bx3 ha3
      simp [go_sem, ha3.cells]
      exact hN _ (v', bx3) (by dsimp only; rw [hs]; simpa using ha3) (cov_look (by simp [go_sem, hw]))
    · rw [if_pos hin] at hs
      exact hN _ (v, bx1) (by dsimp only; rw [hs]; exact ha) (cov_look (by simp [go_sem, hw]))
  · rintro ⟨v, bx1⟩ ha N
    dsimp only at ha ⊢
    simp [go_sem, Tryz.L24_0, ha.cells]
    refine ret_frz 2 (by simp [go_sem]) (hxb.trans ha.ext) ⟨?_, rfl⟩
    simp [go_sem]
    exact wk_tup2 (acc_frz (ha.base hxb) (by decide)) (Wk.refl _)
end Go.Proofs

/- Contracts: DeleteFunc of whole numbers. -/
set_option linter.unusedSimpArgs false
set_option linter.unusedVariables false
set_option maxRecDepth 100000
namespace Go.Proofs.Pol
open Go Go.Pl Go.Hs Go.Proofs

theorem upd_same {bx : Boxes} {b : Nat} {x : Box} (h : bx b = some x) : upd bx b (some x) = bx := by
  funext y
  by_cases e : y = b
  · subst e; rw [upd_eq, h]
  · rw [upd_ne _ _ e]
theorem Tryz.indexC_c (g : FuncId) (caps : List V) (p : Int → Bool) (l : List Int) (bx : Boxes) (hl : l.length ≤ 1000000) (hp : ∀ x, x ∈ l → ∀ bx, PureCall Tryz.prog g (.int .i64 x :: caps) bx (.bool (p x))) :
    PureCall Tryz.prog 68 [.sl 1 (l.map (.int .i64)), .fn (.func g) caps] bx (.int .i64 (fiI p l)) := by
  refine Tryz.ctr68 fun hb => ?_
  simp [go_sem, Tryz.C68, hb]
  refine pw_find l.length (hitAt p l) (fun k => ⟨19, slk [(0, .sl 1 (l.map (.int .i64))), (1, .fn (.func g) caps), (7, .int .i64 l.length), (8, .int .i64 k)], bx⟩) (cov_look (by simp [go_sem])) ?_ ?_
  · intro k hk hpre N hN
    have hw := wr_succ (k := k) (by omega)
    simp [go_sem, Tryz.L68_0, hk, hb]
    refine callK_pure (hp _ (List.getElem_mem hk) _) ?_
    simp [go_sem]
    refine ⟨fun h => ret_pure ?_ ?_, fun h => hN _ (by simp [hitAt_at hk, h]) (cov_look (by simp [go_sem, hw]))⟩ <;> simp [go_sem, fiI_hit hk h hpre]
  · intro hpre N
    simp [go_sem, Tryz.L68_0]
    refine ret_pure ?_ ?_ <;> simp [go_sem, fiI_miss hpre]
theorem Tryz.indexO_c {g : FuncId} {caps : List V} {p : Int → Bool} {l : List Int} {b : Nat} {bx : Boxes} (hl : l.length ≤ 1000000) (hp : ∀ x, x ∈ l → ∀ bx, PureCall Tryz.prog g (.int .i64 x :: caps) bx (.bool (p x)))
    (hb : bx b = some (.row 3 1 (l.map (.int .i64)))) (hc : caps.map (frz bx (fun _ => none) 0) = caps) :
    PureCall Tryz.prog 68 [.own b 1 0 l.length, .fn (.func g) caps] bx (.int .i64 (fiI p l)) := by
  refine PureCall.frame 1 (Tryz.indexC_c g caps p l _ hl hp) ?_ rfl
  rw [List.map_cons, frz_own1 (bx' := fun _ => none) hb rfl (by decide) (by simp), List.map_cons, List.map_nil, show frz bx (fun _ => none) 1 (.fn (.func g) caps) = .fn (.func g) (caps.map (frz bx (fun _ => none) 0)) from rfl, hc]
/-- What is kept of a list. -/
def kp (p : Int → Bool) (l : List Int) : List Int := l.filter fun x => !p x
theorem kp_succ (p : Int → Bool) {l : List Int} {j : Nat} (h : j < l.length) : kp p (l.take (j + 1)) = if p l[j] then kp p (l.take j) else kp p (l.take j) ++ [l[j]] := by
  unfold kp
  rw [take_snoc h, List.filter_append]
  cases hp : p l[j] <;> simp [hp]
theorem kp_le (p : Int → Bool) (l : List Int) (j : Nat) : (kp p (l.take j)).length ≤ j := by
  unfold kp
  refine Nat.le_trans (List.length_filter_le _ _) ?_
  rw [List.length_take]; omega
theorem kp_all {p : Int → Bool} {l : List Int} (h : fiI p l = -1) : kp p l = l := by
  unfold kp
  rw [List.filter_eq_self]
  intro x hx
  unfold fiI at h
  cases hf : l.findIdx? p with
  | none =>
    rw [List.findIdx?_eq_none_iff] at hf
    simp [hf x hx]
  | some i => rw [hf] at h; simp only at h; omega
theorem kp_first {p : Int → Bool} {l : List Int} {i : Nat} (h : fiI p l = i) : ∃ h : i < l.length, p l[i] = true ∧ kp p (l.take (i + 1)) = l.take i := by
  unfold fiI at h
  cases hf : l.findIdx? p with
  | none => rw [hf] at h; simp only at h; omega
  | some k =>
    rw [hf] at h; simp only at h
    obtain rfl : k = i := by omega
    obtain ⟨h1, h2, h3⟩ := List.findIdx?_eq_some_iff_getElem.1 hf
    refine ⟨h1, h2, ?_⟩
    rw [kp_succ p h1, if_pos h2]
    unfold kp
    rw [List.filter_eq_self]
    intro x hx
    obtain ⟨j, hj, rfl⟩ := List.getElem_of_mem hx
    have hj' : j < k := by rw [List.length_take] at hj; omega
    have := h3 j hj'
    simpa using this
theorem Tryz.delete_c {g : FuncId} {caps : List V} {p : Int → Bool} {l : List Int} {b : Nat} {bx : Boxes} (hl : l.length ≤ 1000000) (hp : ∀ x, x ∈ l → ∀ bx, PureCall Tryz.prog g (.int .i64 x :: caps) bx (.bool (p x)))
    (hb : bx b = some (.row 3 1 (l.map (.int .i64)))) (hc : ∀ bx : Boxes, caps.map (frz bx (fun _ => none) 0) = caps) :
    AbsCall Tryz.prog 104 [.own b 1 0 l.length, .fn (.func g) caps] bx fun r bx' => ∃ rest : List Int, r = .own b 1 0 (kp p l).length ∧ bx' = upd bx b (some (.row 3 1 ((kp p l ++ rest).map (.int .i64)))) := by
  refine Tryz.ctr104 fun hbx => ?_
  simp [go_sem, Tryz.C104, hbx]
  refine callK_pure (Tryz.indexO_c hl hp hb (hc bx)) ?_
  simp [go_sem]
  refine ⟨fun h => ?_, fun h => ?_⟩
  · refine ret_pure (by simp [go_sem]) ?_
    simp [go_sem, kp_all h]
    refine ⟨[], ?_⟩
    rw [List.map_nil, List.append_nil, upd_same hb]
  · obtain ⟨i, hi⟩ : ∃ i : Nat, fiI p l = i := by
      unfold fiI at h ⊢
      cases hf : l.findIdx? p with
      | none => rw [hf] at h; exact absurd rfl h
      | some i => exact ⟨i, rfl⟩
    obtain ⟨hil, hpi, hk0⟩ := kp_first hi
    have hw := wr_succ (k := i) (by omega)
    have e0 : upd bx b (some (.row 3 1 (l.map (.int .i64)))) = bx := upd_same hb
    simp only [hi]
    simp [go_sem, hw]
    refine pw_for (ι := List Int) (l.length - (i + 1)) (fun k L => L.length = l.length ∧ L.take (kp p (l.take (i + 1 + k))).length = kp p (l.take (i + 1 + k)) ∧ L.drop (i + 1 + k) = l.drop (i + 1 + k) ∧ (kp p (l.take (i + 1 + k))).length < i + 1 + k)
      (fun k L => ⟨42, slk [(0, .own b 1 0 l.length), (1, .fn (.func g) caps), (5, .int .i64 (kp p (l.take (i + 1 + k))).length), (6, .int .i64 (i + 1 + k : Nat))], upd bx b (some (.row 3 1 (L.map (.int .i64))))⟩) l ?_ ?_ ?_ ?_
    · rw [Nat.add_zero, hk0]
      have : (l.take i).length = i := by rw [List.length_take]; omega
      rw [this]
      exact ⟨rfl, rfl, rfl, by omega⟩
    · have : (l.take i).length = i := by rw [List.length_take]; omega
      rw [Nat.add_zero, hk0, this, e0]
      exact cov_look (by simp [go_sem])
    · rintro k L hk ⟨hL, hL1, hL2, hL3⟩ N hN
      have hj : i + 1 + k < l.length := by omega
      have en : i + 1 + (k + 1) = i + 1 + k + 1 := by omega
      simp only [en] at hN
      generalize i + 1 + k = j at *
      have hw1 := wr_succ (k := j) (by omega)
      have hw2 := wr_succ (k := (kp p (l.take j)).length) (by omega)
      have hs := kp_succ p hj
      have hjL : j < L.length := by omega
      have hg : L[j] = l[j] := by
        have h1 : (L.drop j)[0]'(by rw [List.length_drop]; omega) = (l.drop j)[0]'(by rw [List.length_drop]; omega) := by simp only [hL2]
        simpa using h1
      have hd : L.drop (j + 1) = l.drop (j + 1) := by
        have := congrArg (List.drop 1) hL2
        rwa [List.drop_drop, List.drop_drop] at this
      generalize hm : (kp p (l.take j)).length = m at *
      simp [go_sem, Tryz.L104_0, hbx, hjL, hj, hg]
      refine callK_pure (hp _ (List.getElem_mem hj) _) ?_
      simp [go_sem]
      refine ⟨fun hpj => ?_, fun hpj => ?_⟩
      · have hml : m < l.length := by omega
        have hmL : m < L.length := by omega
        rw [if_neg (by simp [hpj])] at hs
        have hsl : (kp p (l.take (j + 1))).length = m + 1 := by rw [hs, List.length_append, hm]; rfl
        have hset : (L.map (V.int .i64)).set m (.int .i64 l[j]) = (L.set m l[j]).map (V.int .i64) := by rw [List.map_set]
        simp [go_sem, hml, hmL, hset, -List.map_set, hw2]
        refine hN _ (L.set m l[j]) ⟨by rw [List.length_set, hL], ?_, ?_, by omega⟩ ?_
        · rw [hsl, hs, take_snoc (by rw [List.length_set]; omega), List.take_set_of_le (Nat.le_refl _), hL1, List.getElem_set_self]
        · rw [List.drop_set_of_lt (by omega), hd]
        · rw [hsl]
          exact cov_look (by simp [go_sem, hw1])
      · rw [if_pos hpj] at hs
        refine hN _ L ⟨hL, ?_, hd, by rw [hs]; omega⟩ ?_
        · rw [hs, hm, hL1]
        · rw [hs, hm]
          exact cov_look (by simp [go_sem, hw1])
    · rintro L ⟨hL, hL1, hL2, hL3⟩ N
      have en : i + 1 + (l.length - (i + 1)) = l.length := by omega
      simp only [en, List.take_length] at hL1 hL3 ⊢
      have hk2 : (kp p l).length ≤ l.length := by omega
      simp [go_sem, Tryz.L104_0, hbx, hk2, hL]
      unfold clearA
      simp [go_sem]
      refine ⟨.inr hL3, by omega, by omega, hk2, ret_pure (by simp [go_sem]) ?_⟩
      simp only [go_sem]
      refine ⟨List.replicate (l.length - (kp p l).length) 0, ?_⟩
      rw [← List.map_take, hL1, List.map_replicate, show (kp p l).length + (l.length - (kp p l).length) = L.length from by omega, List.drop_of_length_le (by rw [List.length_map]; exact Nat.le_refl _), List.append_nil]
/-- The closure of ordered. -/
theorem Tryz.out_c (c : List Int) (x : Int) (bx : Boxes) (hl : c.length ≤ 1000000) : PureCall Tryz.prog 105 [.int .i64 x, .ep (intsV c) 0] bx (.bool (!decide (x ∈ c))) := by
  refine Tryz.ctr105 fun hb => ?_
  have c0 := Tryz.containsN_c c x bx hl
  simp only [intsV] at c0 ⊢
  simp [go_sem, Tryz.C105, hb]
  refine callK_pure c0 ?_
  simp [go_sem]
  refine ret_pure (by simp [go_sem]) ?_
  simp [go_sem]
end Go.Proofs.Pol

/- Contracts: the document's names, numerals, sums. -/
set_option linter.unusedSimpArgs false
set_option linter.unusedVariables false
set_option maxRecDepth 100000
namespace Go.Proofs
open Go Go.Pl Go.Hs

theorem Tryz.ron32_c (h : Int) (l : Bs) (bx : Boxes) (hl : l.length ≤ 1000000) : PureCall Tryz.prog 90 [.int .u32 h, .sl 1 (bytesV l)] bx (.int .u32 (on32 h l)) := by
  refine Tryz.ctr90 fun hb => ?_
  simp [go_sem, Tryz.C90, hb, bytesV]
  refine pw_upto l.length (fun k => ⟨21, slk [(0, .int .u32 ((l.take k).foldl step32 h)), (1, V.sl 1 (bytesV l)), (5, .int .i64 k)], bx⟩) (cov_look (by simp [go_sem, bytesV])) ?_ ?_
  · intro k hk N hN
    have hw := wr_succ (k := k) (by omega)
    have hc8 := (l[k]).toNat_lt
    have hw8 : IntKind.u32.wrap ((l[k]).toNat : Int) = (l[k]).toNat := wru32 (by omega)
    simp [go_sem, Tryz.L90_0, hk, hb, bytesV, hw8]
    refine hN _ (cov_look (by simp [go_sem, bytesV, hw, take_foldl _ _ hk, step32]))
  · intro N
    simp [go_sem, Tryz.L90_0, bytesV]
    refine ret_pure ?_ ?_ <;> simp [go_sem, on32]
theorem Tryz.rsum32_c (l : Bs) (bx : Boxes) (hl : l.length ≤ 1000000) : PureCall Tryz.prog 47 [.sl 1 (bytesV l)] bx (.int .u32 (sum32 l)) := by
  refine Tryz.ctr47 fun hb => ?_
  simp [go_sem, Tryz.C47]
  refine callK_pure (Tryz.ron32_c _ l bx hl) ?_
  simp [go_sem]
  refine ret_pure ?_ ?_ <;> simp [go_sem, sum32]

theorem dec_len (n : Nat) (h : n ≤ 9223372036854775807) : (Lib.decDigits n).length ≤ 21 := by
  have := Lib.itoa_length_le (n : Int) (by omega) (by omega)
  have e : Lib.itoa (n : Int) = Lib.decDigits n := by unfold Lib.itoa; rw [if_neg (by omega)]; rfl
  rwa [e] at this
theorem Tryz.digits_c : ∀ (m n : Nat), n ≤ m → n ≤ 1000000000 → ∀ bx, PureCall Tryz.prog 48 [.int .i64 n] bx (.str (Lib.decDigits n)) := by
  intro m
  induction m with
  | zero =>
    intro n hn _ bx
    obtain rfl : n = 0 := by omega
    refine Tryz.ctr48 fun hb => ?_
    simp [go_sem, Tryz.C48, hb, wr64, wru8, toByte]
    refine ret_pure ?_ ?_ <;> simp [go_sem, Lib.decDigits_one]
  | succ m ih =>
    intro n hn hn2 bx
    refine Tryz.ctr48 fun hb => ?_
    by_cases h10 : n < 10
    · have h10i : (n : Int) < 10 := by omega
      have w1 : IntKind.i64.wrap (48 + (n : Int)) = 48 + (n : Int) := wr64 (by omega)
      have w2 : IntKind.u8.wrap (48 + (n : Int)) = 48 + (n : Int) := wru8 (by omega)
      have e1 : ((48 + (n : Int)).toNat) = 48 + n := by omega
      simp [go_sem, Tryz.C48, hb, h10i, w1, w2, toByte, e1]
      refine ret_pure ?_ ?_ <;> simp [go_sem, Lib.decDigits_one h10]
    · have h10i : ¬ ((n : Int) < 10) := by omega
      have w1 : IntKind.i64.wrap ((n : Int) / 10) = ((n / 10 : Nat) : Int) := by rw [wr64 (by omega)]; omega
      have w2 : IntKind.i64.wrap ((n : Int) % 10) = ((n % 10 : Nat) : Int) := by rw [wr64 (by omega)]; omega
      have w3 : IntKind.i64.wrap ((n : Int).tmod 10) = ((n % 10 : Nat) : Int) := by rw [Int.tmod_eq_emod_of_nonneg (by omega)]; exact w2
      have w4 : IntKind.i64.wrap ((n : Int).tdiv 10) = ((n / 10 : Nat) : Int) := by rw [Int.tdiv_eq_ediv_of_nonneg (by omega)]; exact w1
      have w5 : (n : Int).tmod 10 = ((n % 10 : Nat) : Int) := by rw [Int.tmod_eq_emod_of_nonneg (by omega)]; omega
      have w6 : (n : Int) % 10 = ((n % 10 : Nat) : Int) := by omega
      have d1 := ih (n / 10) (by omega) (by omega) bx
      have d2 := ih (n % 10) (by omega) (by omega) bx
      have hd : Lib.decDigits n = Lib.decDigits (n / 10) ++ Lib.decDigits (n % 10) := by
        rw [Lib.decDigits, dif_neg h10, Lib.decDigits_one (Nat.mod_lt n (by decide))]
      rw [hd]
      have l1 := dec_len (n / 10) (by omega)
      have l2 := dec_len (n % 10) (by omega)
      generalize Lib.decDigits (n / 10) = x at *
      generalize Lib.decDigits (n % 10) = y at *
      generalize hq : ((n / 10 : Nat) : Int) = q at *
      generalize hr : ((n % 10 : Nat) : Int) = r at *
      simp [go_sem, Tryz.C48, hb, h10i, w1, w4]
      refine callK_pure d1 ?_
      simp [go_sem, w5]
      try rw [w6]
      refine callK_pure d2 ?_
      have l3 : x.length + y.length ≤ 9223372036854775807 := by omega
      simp [go_sem, l3]
      refine ret_pure ?_ ?_ <;> simp [go_sem]
theorem badN_not (s : Bs) : (decide (1 ≤ s.length) && decide (s.length ≤ 32)) = !decide (s.length < 1 ∨ 32 < s.length) := by
  rw [Bool.eq_iff_iff]
  simp only [Bool.and_eq_true, decide_eq_true_eq, Bool.not_eq_true', decide_eq_false_iff_not]
  omega
theorem Tryz.name_c (s : Bs) (bx : Boxes) (hl : s.length ≤ 1000000) : PureCall Tryz.prog 89 [.str s] bx (.bool (!badN s)) := by
  refine Tryz.ctr89 fun hb => ?_
  simp [go_sem, Tryz.C89, hb]
  refine pw_find s.length (hitAt badC s) (fun k => ⟨28, slk [(0, .str s), (3, .int .i64 k)], bx⟩) (cov_look (by simp [go_sem])) ?_ ?_
  · intro k hk hpre N hN
    have hw := wr_succ (k := k) (by omega)
    simp [go_sem, Tryz.L89_0, hk, hb]
    have hbc : badC s[k] = true ↔ ((s[k].toNat : Int) < 33 ∨ 126 < (s[k].toNat : Int)) := by simp [badC]
    refine ⟨fun h => ret_pure ?_ ?_, fun h1 h2 => hN _ ?_ (cov_look (by simp [go_sem, hw]))⟩
    · simp [go_sem]
    · have : badN s = true := by
        unfold badN
        rw [List.any_eq_true.2 ⟨s[k], List.getElem_mem hk, hbc.2 h⟩]; simp
      simp [go_sem, this]
    · rw [hitAt_at hk]
      cases hc : badC s[k]
      · rfl
      · have := hbc.1 hc; omega
  · intro hpre N
    have hany : s.any badC = false := by
      rw [List.any_eq_false]
      intro x hx
      obtain ⟨j, hj, rfl⟩ := List.getElem_of_mem hx
      have := hpre j hj
      rw [hitAt_at hj] at this
      simp [this]
    have hnn : (!badN s) = (decide ((1 : Int) ≤ s.length) && decide ((s.length : Int) ≤ 32)) := by
      unfold badN
      rw [hany, Bool.or_false, ← badN_not]
      rw [Bool.eq_iff_iff]
      simp only [Bool.and_eq_true, decide_eq_true_eq]
      omega
    simp [go_sem, Tryz.L89_0]
    refine ret_pure ?_ ?_
    · simp [go_sem]
    · rw [hnn]; simp [go_sem]
end Go.Proofs

/- Contracts: what the document says is wrong. -/
set_option linter.unusedSimpArgs false
set_option linter.unusedVariables false
set_option maxRecDepth 100000
namespace Go.Proofs
open Go Go.Pl Go.Hs

theorem nodup_take {α : Type} {l : List α} : ∀ k, k ≤ l.length → (∀ i j, (hi : i < l.length) → (hj : j < l.length) → i < j → j < k → l[i] ≠ l[j]) → k = l.length → l.Nodup := by
  intro k _ h he
  rw [List.Nodup, List.pairwise_iff_getElem]
  intro i j hi hj hij
  exact h i j hi hj hij (by omega)

theorem Tryz.rwrong_c (names : List Bs) (wts : List Int) (nodes : Int) (bx : Boxes) (hnl : ∀ s, s ∈ names → s.length ≤ 1000000) : PureCall Tryz.prog 46 [strsV names, intsV wts, .int .i64 nodes] bx (.int .i64 (wrong names wts nodes)) := by
  refine Tryz.ctr46 fun hb => ?_
  unfold strsV intsV
  by_cases h1 : names.length < 1 ∨ 16 < names.length
  · have hw : wrong names wts nodes = 3 := by unfold wrong; rw [if_pos h1]
    have h2 : (decide ((names.length : Int) < 1) || decide (16 < (names.length : Int))) = true := by
      simp; omega
    simp [go_sem, Tryz.C46, hb, h2]
    refine ret_pure ?_ ?_ <;> simp [go_sem, hw]
  have h2 : (decide ((names.length : Int) < 1) || decide (16 < (names.length : Int))) = false := by
    simp; omega
  by_cases h3 : ¬ wts.length = names.length
  · have hw : wrong names wts nodes = 2 := by unfold wrong; rw [if_neg h1, if_pos h3]
    simp [go_sem, Tryz.C46, hb, h2]
    refine ⟨fun _ => ?_, fun h => absurd h (by omega)⟩
    refine ret_pure ?_ ?_ <;> simp [go_sem, hw]
  have h3 : wts.length = names.length := Decidable.not_not.1 h3
  by_cases h4 : nodes < 1 ∨ 100 < nodes
  · have hw : wrong names wts nodes = 7 := by unfold wrong; rw [if_neg h1, if_neg (by simpa using h3), if_pos h4]
    have h5 : (decide (nodes < 1) || decide (100 < nodes)) = true := by simpa using h4
    simp [go_sem, Tryz.C46, hb, h2, h3, h5]
    refine ret_pure ?_ ?_ <;> simp [go_sem, hw]
  have h5 : (decide (nodes < 1) || decide (100 < nodes)) = false := by simpa using h4
  simp [go_sem, Tryz.C46, hb, h2, h3, h5]
  refine pw_for (ι := Unit) wts.length (fun k _ => (wts.take k).any badW = false) (fun k _ => ⟨91, slk [(0, .sl 1 (names.map .str)), (1, .sl 1 (wts.map (.int .i64))), (2, .int .i64 nodes), (7, .int .i64 (wsum (wts.take k) nodes)), (8, .int .i64 k)], bx⟩) () (by simp) (cov_look (by simp [go_sem, wsum])) ?_ ?_
  · rintro k _ hk h6k N hN
    have hw := wr_succ (k := k) (by omega)
    have hg : wts[k]? = some wts[k] := List.getElem?_eq_getElem hk
    have hbw : badW wts[k] = (decide (wts[k] < 0) || decide (20 < wts[k])) := rfl
    have hany : (wts.take (k + 1)).any badW = badW wts[k] := by rw [take_snoc hk, List.any_append, h6k]; simp
    simp [go_sem, Tryz.L46_0, hk, hb]
    have hm0 : 0 ≤ nodes := by omega
    refine ⟨fun h => ret_pure ?_ ?_, fun h7 h8 => hN _ () ?_ (cov_look ?_)⟩
    · simp [go_sem]
    · have hA : wts.any badW = true := List.any_eq_true.2 ⟨_, List.getElem_mem hk, by rw [hbw]; simpa using h⟩
      have hw : wrong names wts nodes = 7 := by unfold wrong; rw [if_neg h1, if_neg (by simpa using h3), if_neg h4, if_pos hA]
      simp [go_sem, hw]
    · rw [hany, hbw]; simp; omega
    · have h4' : 0 ≤ wts[k] * nodes := Int.mul_nonneg h7 hm0
      have h5' : wts[k] * nodes ≤ 20 * 100 := Int.mul_le_mul h8 (by omega) hm0 (by omega)
      obtain ⟨q0, q1⟩ := wsum_le h6k (by omega) (by omega : nodes ≤ 100)
      rw [List.length_take] at q1
      have hsw : IntKind.i64.wrap (wsum (wts.take k) nodes + IntKind.i64.wrap (wts[k] * nodes)) = wsum (wts.take (k + 1)) nodes := by rw [wsum_take hk, wr64 (n := wts[k] * nodes) (by omega), wr64 (by omega)]
      simp [go_sem, hw, hsw]
  · rintro _ h6 N
    rw [List.take_length] at h6
    simp [go_sem, Tryz.L46_0]
    generalize hS : wsum wts nodes = S at *
    refine pw_find names.length (hitAt badN names) (fun k => ⟨91, slk [(0, .sl 1 (names.map .str)), (7, .int .i64 S), (9, .int .i64 k)], bx⟩) (cov_look (by simp [go_sem])) ?_ ?_
    · intro k hk hpre N2 hN2
      have hw := wr_succ (k := k) (by omega)
      have cn := Tryz.name_c names[k] bx (hnl _ (List.getElem_mem hk))
      simp [go_sem, Tryz.L46_1, hk, hb]
      refine callK_pure cn ?_
      cases hbn : badN names[k]
      · simp [go_sem]
        exact hN2 _ (by rw [hitAt_at hk]; exact hbn) (cov_look (by simp [go_sem, hw]))
      · have hA : names.any badN = true := List.any_eq_true.2 ⟨_, List.getElem_mem hk, hbn⟩
        have hw : wrong names wts nodes = 6 := by unfold wrong; rw [if_neg h1, if_neg (by simpa using h3), if_neg h4, if_neg (by simp [h6]), if_pos hA]
        simp [go_sem]
        refine ret_pure ?_ ?_ <;> simp [go_sem, hw]
    · intro hpre N2
      have h7 : names.any badN = false := by
        rw [List.any_eq_false]
        intro x hx
        obtain ⟨j, hj, rfl⟩ := List.getElem_of_mem hx
        have := hpre j hj
        rw [hitAt_at hj] at this
        simp [this]
      simp [go_sem, Tryz.L46_1]
      refine pw_for (ι := Unit) names.length (fun i _ => ∀ a b, (ha : a < names.length) → (hb : b < names.length) → a < b → b < i → names[a] ≠ names[b]) (fun k _ => ⟨91, slk [(0, .sl 1 (names.map .str)), (7, .int .i64 S), (10, .int .i64 k)], bx⟩) () (fun a b _ _ _ h => by omega) (cov_look (by simp [go_sem])) ?_ ?_
      · rintro i _ hi hJ N3 hN3
        have hwi := wr_succ (k := i) (by omega)
        simp [go_sem, Tryz.L46_3, hi, hb]
        refine pw_find i (fun k => match names[k]?, names[i]? with | some x, some y => decide (x = y) | _, _ => false) (fun k => ⟨91, slk [(0, .sl 1 (names.map .str)), (7, .int .i64 S), (10, .int .i64 i), (11, .int .i64 k)], bx⟩) (cov_look (by simp [go_sem])) ?_ ?_
        · intro k hk hpre2 N4 hN4
          have hk2 : k < names.length := by omega
          have hwk := wr_succ (k := k) (by omega)
          simp [go_sem, Tryz.L46_2, hk, hk2, hi, hb]
          refine ⟨fun h => ret_pure ?_ ?_, fun h => hN4 _ ?_ (cov_look ?_)⟩
          · simp [go_sem]
          · have hnd : ¬ names.Nodup := fun hn => List.pairwise_iff_getElem.1 hn k i hk2 hi hk h
            have hw : wrong names wts nodes = 8 := by unfold wrong; rw [if_neg h1, if_neg (by simpa using h3), if_neg h4, if_neg (by simp [h6]), if_neg (by simp [h7]), if_pos hnd]
            simp [go_sem, hw]
          · simp [hk2, hi, h]
          · simp [go_sem, hwk]
        · intro hpre2 N4
          simp [go_sem, Tryz.L46_2]
          refine hN3 _ () (fun a b ha hb' hab hbi => ?_) (cov_look (by simp [go_sem, hwi]))
          rcases Nat.lt_or_ge b i with h | h
          · exact hJ a b ha hb' hab h
          · obtain rfl : b = i := by omega
            have := hpre2 a hab
            simpa [ha, hb'] using this
      · rintro _ hJ N3
        have hnd : names.Nodup := nodup_take names.length (Nat.le_refl _) hJ rfl
        have hw : wrong names wts nodes = if 4096 < S then 3 else 0 := by unfold wrong; rw [if_neg h1, if_neg (by simpa using h3), if_neg h4, if_neg (by simp [h6]), if_neg (by simp [h7]), if_neg (by simpa using hnd), hS]
        simp [go_sem, Tryz.L46_3]
        refine ⟨fun h => ret_pure ?_ ?_, fun h => ret_pure ?_ ?_⟩ <;> simp [go_sem, hw, h]

/-! The document's sort -/
theorem srt_min {x : Pt} {l l' : List Pt} (h : ∀ y, y ∈ l → ple x y = true) (hp : l'.Perm (x :: l)) : srt l' = x :: srt l := by
  symm
  refine srt_eq ?_ ?_
  · exact (List.Perm.cons x (List.mergeSort_perm l ple)).trans hp.symm
  · rw [List.pairwise_cons]
    exact ⟨fun y hy => h y ((List.mergeSort_perm l ple).subset hy), srt_pair l⟩
theorem srt_perm {l l' : List Pt} (hp : l.Perm l') : srt l = srt l' := srt_eq ((List.mergeSort_perm l ple).trans hp) (srt_pair l)
theorem srt_sorted {l : List Pt} (h : l.Pairwise fun a b => ple a b = true) : srt l = l := (srt_eq (List.Perm.refl l) h).symm
def bef (a b : Pt) : Bool := decide (a.h < b.h) || (decide (a.h = b.h) && decide (a.b < b.b))
theorem bef_ple (a b : Pt) : bef b a = !ple a b := by
  rw [Bool.eq_iff_iff]; simp [bef, ple]; omega
theorem Tryz.before_c (a b : Pt) (bx : Boxes) : PureCall Tryz.prog 127 [ptV a, ptV b] bx (.bool (bef a b)) := by
  refine Tryz.ctr127 fun hb => ?_
  simp [go_sem, Tryz.C127, hb, ptV]
  refine ⟨fun h => ⟨h, fun h2 => ⟨h, h2⟩⟩, ?_⟩
  refine ret_pure ?_ ?_ <;> simp [go_sem, bef]

theorem step_a {a b : List Pt} {i k : Nat} (hi : i < a.length) (ha : a.Pairwise fun a b => ple a b = true) (hb : b.Pairwise fun a b => ple a b = true) (h : ∀ (hk : k < b.length), ple a[i] b[k] = true) : srt (a.drop i ++ b.drop k) = a[i] :: srt (a.drop (i + 1) ++ b.drop k) := by
  rw [List.drop_eq_getElem_cons hi, List.cons_append]
  refine srt_min (fun y hy => ?_) (List.Perm.refl _)
  rcases List.mem_append.1 hy with h1 | h1
  · obtain ⟨j, hj, rfl⟩ := List.getElem_of_mem h1
    simp at hj
    rw [List.getElem_drop]
    exact List.pairwise_iff_getElem.1 ha i (i + 1 + j) hi (by omega) (by omega)
  · obtain ⟨j, hj, rfl⟩ := List.getElem_of_mem h1
    simp at hj
    rw [List.getElem_drop]
    have h2 := h (by omega)
    rcases Nat.eq_zero_or_pos j with h3 | h3
    · subst h3; exact h2
    · exact ple_trans _ _ _ h2 (List.pairwise_iff_getElem.1 hb k (k + j) (by omega) (by omega) (by omega))
theorem step_b {a b : List Pt} {i k : Nat} (hk : k < b.length) (ha : a.Pairwise fun a b => ple a b = true) (hb : b.Pairwise fun a b => ple a b = true) (h : ∀ (hi : i < a.length), ple b[k] a[i] = true) : srt (a.drop i ++ b.drop k) = b[k] :: srt (a.drop i ++ b.drop (k + 1)) := by
  have h1 := step_a (a := b) (b := a) (i := k) (k := i) hk hb ha h
  rw [srt_perm (List.perm_append_comm (l₁ := a.drop i) (l₂ := b.drop k)), h1, srt_perm (List.perm_append_comm (l₁ := b.drop (k + 1)) (l₂ := a.drop i))]

theorem Tryz.merged_c (a b : List Pt) (bx : Boxes) (ha : a.Pairwise fun a b => ple a b = true) (hbp : b.Pairwise fun a b => ple a b = true) (la : a.length ≤ 400000) (lb : b.length ≤ 400000) :
    PureCall Tryz.prog 91 [ptsV a, ptsV b] bx (ptsV (srt (a ++ b))) := by
  refine pure_acc (e := 63) (Tryz.ctr91 fun hb => ?_) (by decide)
  unfold ptsV
  simp [go_sem, Tryz.C91, hb]
  refine pw_loop (ι := Nat × Nat × List Pt × V × Boxes) (fun p => p.1 ≤ a.length ∧ p.2.1 ≤ b.length ∧ p.2.2.1.length = p.1 + p.2.1 ∧ p.2.2.1 ++ srt (a.drop p.1 ++ b.drop p.2.1) = srt (a ++ b) ∧ Pl.Acc bx 63 2 (p.2.2.1.map ptV) p.2.2.2.1 p.2.2.2.2)
    (fun p => ⟨59, slk [(0, .sl 2 (a.map ptV)), (1, .sl 2 (b.map ptV)), (5, p.2.2.2.1), (6, .int .i64 p.1), (7, .int .i64 p.2.1)], p.2.2.2.2⟩) (fun p => a.length + b.length - p.1 - p.2.1) (0, 0, [], .nils, bx) ⟨by simp, by simp, by simp, by simp, acc_nil hb _ _⟩ (cov_look (by simp [go_sem])) ?_
  rintro ⟨i, k, o, v, bx1⟩ ⟨h1, h2, h3, h4, hacc⟩
  dsimp only at h1 h2 h3 h4 hacc ⊢
  have hwi := wr_succ (k := i) (by omega)
  have hwk := wr_succ (k := k) (by omega)
  have takeA : ∀ (hi : i < a.length) (h : ∀ (hk : k < b.length), ple a[i] b[k] = true) v' bx3, Pl.Acc bx 63 2 (o.map ptV ++ [ptV a[i]]) v' bx3 → (fun p : Nat × Nat × List Pt × V × Boxes => p.1 ≤ a.length ∧ p.2.1 ≤ b.length ∧ p.2.2.1.length = p.1 + p.2.1 ∧ p.2.2.1 ++ srt (a.drop p.1 ++ b.drop p.2.1) = srt (a ++ b) ∧ Pl.Acc bx 63 2 (p.2.2.1.map ptV) p.2.2.2.1 p.2.2.2.2) (i + 1, k, o ++ [a[i]], v', bx3) := by
    intro hi h v' bx3 h5
    refine ⟨by dsimp only; omega, h2, by simp; omega, ?_, by simpa using h5⟩
    dsimp only
    rw [← h4, step_a hi ha hbp h]; simp
  have takeB : ∀ (hk : k < b.length) (h : ∀ (hi : i < a.length), ple b[k] a[i] = true) v' bx3, Pl.Acc bx 63 2 (o.map ptV ++ [ptV b[k]]) v' bx3 → (fun p : Nat × Nat × List Pt × V × Boxes => p.1 ≤ a.length ∧ p.2.1 ≤ b.length ∧ p.2.2.1.length = p.1 + p.2.1 ∧ p.2.2.1 ++ srt (a.drop p.1 ++ b.drop p.2.1) = srt (a ++ b) ∧ Pl.Acc bx 63 2 (p.2.2.1.map ptV) p.2.2.2.1 p.2.2.2.2) (i, k + 1, o ++ [b[k]], v', bx3) := by
    intro hk h v' bx3 h5
    refine ⟨h1, by dsimp only; omega, by simp; omega, ?_, by simpa using h5⟩
    dsimp only
    rw [← h4, step_b hk ha hbp h]; simp
  have hol : (o.map ptV).length ≤ 800000 := by simp; omega
  by_cases hi : i < a.length
  · by_cases hk : k < b.length
    · have hkn : ¬ ((k : Int) = b.length) := by omega
      have hbp' := bef_ple a[i] b[k]
      simp [go_sem, Tryz.L91_0, hi, hk, hacc.fin, ptV, hkn]
      refine gK_pure (Tryz.before_c b[k] a[i] _) (by simp) (by simp [go_sem]) ?_
      cases hp : ple a[i] b[k]
      · rw [hp] at hbp'
        have hqb : ple b[k] a[i] = true := by
          rcases Bool.or_eq_true_iff.1 (ple_total a[i] b[k]) with h | h
          · rw [hp] at h; cases h
          · exact h
        simp [go_sem, hbp', hi, hk, hacc.fin, hacc.cells, ptV]
        refine Tryz.appP (es := o.map ptV) (news := [ptV b[k]]) hacc (Ext.refl _) hacc.fin (by simp [go_sem, srcEls, ptV]) (by simp; omega) (by omega) ?_
        intro v' bx3 ha3
        simp [go_sem, ha3.cells]
        exact ⟨(i, k + 1, o ++ [b[k]], v', bx3), takeB hk (fun _ => hqb) v' bx3 ha3, cov_look (by simp [go_sem, hwk, ptV]), by dsimp only; omega⟩
      · rw [hp] at hbp'
        simp [go_sem, hbp', hi, hk, hacc.fin, hacc.cells, ptV]
        refine Tryz.appP (es := o.map ptV) (news := [ptV a[i]]) hacc (Ext.refl _) hacc.fin (by simp [go_sem, srcEls, ptV]) (by simp; omega) (by omega) ?_
        intro v' bx3 ha3
        simp [go_sem, ha3.cells]
        exact ⟨(i + 1, k, o ++ [a[i]], v', bx3), takeA hi (fun _ => hp) v' bx3 ha3, cov_look (by simp [go_sem, hwi, ptV]), by dsimp only; omega⟩
    · obtain rfl : k = b.length := by omega
      simp [go_sem, Tryz.L91_0, hi, hacc.fin, ptV]
      refine gK_off (.bool false) (by simp [go_sem]) ?_
      simp [go_sem, hi, hacc.fin, hacc.cells, ptV]
      refine Tryz.appP (es := o.map ptV) (news := [ptV a[i]]) hacc (Ext.refl _) hacc.fin (by simp [go_sem, srcEls, ptV]) (by simp; omega) (by omega) ?_
      intro v' bx3 ha3
      simp [go_sem, ha3.cells]
      exact ⟨(i + 1, b.length, o ++ [a[i]], v', bx3), takeA hi (fun h => absurd h (by omega)) v' bx3 ha3, cov_look (by simp [go_sem, hwi, ptV]), by dsimp only; omega⟩
  · by_cases hk : k < b.length
    · obtain rfl : i = a.length := by omega
      have hkn : ¬ ((k : Int) = b.length) := by omega
      simp [go_sem, Tryz.L91_0, hk, hacc.fin, ptV, hkn]
      refine gK_off (.bool false) (by simp [go_sem]) ?_
      simp [go_sem, hk, hkn, hacc.fin, hacc.cells, ptV]
      refine Tryz.appP (es := o.map ptV) (news := [ptV b[k]]) hacc (Ext.refl _) hacc.fin (by simp [go_sem, srcEls, ptV]) (by simp; omega) (by omega) ?_
      intro v' bx3 ha3
      simp [go_sem, ha3.cells]
      exact ⟨(a.length, k + 1, o ++ [b[k]], v', bx3), takeB hk (fun h => absurd h (by omega)) v' bx3 ha3, cov_look (by simp [go_sem, hwk, ptV]), by dsimp only; omega⟩
    · obtain rfl : i = a.length := by omega
      obtain rfl : k = b.length := by omega
      have he : o = srt (a ++ b) := by simpa [srt] using h4
      simp [go_sem, Tryz.L91_0, hacc.fin, ptV]
      refine ret_pure ?_ ?_
      · simp [go_sem]
      · rw [← he]; simpa [go_sem] using hacc
theorem Tryz.sorted_ref_c : ∀ (m : Nat) (l : List Pt), l.length ≤ m → l.length ≤ 100000 → ∀ bx, PureCall Tryz.prog 49 [ptsV l] bx (ptsV (srt l)) := by
  intro m
  induction m with
  | zero =>
    intro l hl _ bx
    obtain rfl : l = [] := List.eq_nil_of_length_eq_zero (by omega)
    refine Tryz.ctr49 fun hb => ?_
    unfold ptsV
    simp [go_sem, Tryz.C49, hb]
    refine ret_pure ?_ ?_ <;> simp [go_sem, srt]
  | succ m ih =>
    intro l hl hl2 bx
    by_cases h2 : l.length < 2
    · have hs : srt l = l := by
        refine srt_sorted ?_
        rw [List.pairwise_iff_getElem]
        intro i j hi hj hij; omega
      rw [hs]
      refine Tryz.ctr49 fun hb => ?_
      have h2i : (l.length : Int) < 2 := by omega
      unfold ptsV
      simp [go_sem, Tryz.C49, hb, h2i]
      refine ret_pure ?_ ?_ <;> simp [go_sem]
    · have h2i : ¬ ((l.length : Int) < 2) := by omega
      obtain ⟨q, hq⟩ : ∃ q, q = l.length / 2 := ⟨_, rfl⟩
      have hql : q ≤ l.length := by omega
      have d1 := ih (l.take q) (by simp; omega) (by simp; omega) bx
      have d2 := ih (l.drop q) (by simp; omega) (by simp; omega) bx
      have d3 := Tryz.merged_c (srt (l.take q)) (srt (l.drop q)) bx (srt_pair _) (srt_pair _) (by simp [srt]; omega) (by simp [srt]; omega)
      have hfin : srt (srt (l.take q) ++ srt (l.drop q)) = srt l := by
        refine srt_perm ?_
        have h3 := (List.mergeSort_perm (l.take q) ple).append (List.mergeSort_perm (l.drop q) ple)
        rw [List.take_append_drop] at h3
        exact h3
      rw [hfin] at d3
      refine Tryz.ctr49 fun hb => ?_
      have w1 : IntKind.i64.wrap ((l.length : Int) / 2) = (q : Int) := by rw [wr64 (by omega)]; omega
      have w2 : IntKind.i64.wrap ((l.length : Int).tdiv 2) = (q : Int) := by rw [Int.tdiv_eq_ediv_of_nonneg (by omega)]; exact w1
      generalize srt (l.take q) = x1 at *
      generalize srt (l.drop q) = x2 at *
      simp only [ptsV] at d1 d2 d3 ⊢
      rw [List.map_take] at d1
      rw [List.map_drop] at d2
      simp [go_sem, Tryz.C49, hb, h2i, w1, w2, hql]
      refine callK_pure d1 ?_
      have ht : List.take l.length (l.map ptV) = l.map ptV := List.take_of_length_le (by simp)
      simp [go_sem, w1, w2, hql, ht]
      refine callK_pure d2 ?_
      simp [go_sem]
      refine callK_pure d3 ?_
      simp [go_sem]
      refine ret_pure ?_ ?_ <;> simp [go_sem]
end Go.Proofs

/- Contracts: the document's Ring. -/
set_option linter.unusedSimpArgs false
set_option linter.unusedVariables false
set_option maxRecDepth 100000
namespace Go.Proofs
open Go Go.Pl Go.Hs

theorem acc_drop {P : Program} {f : FuncId} {bx bx1 : Boxes} {e sz : Nat} {es : List V} {v r : V} (ha : Pl.Acc bx e sz es v bx1) (hs : 0 < sz) (hc : PureCall P f [.sl sz es] bx r) : AbsCall P f [v] bx1 fun r' bx' => r' = r ∧ bx' = bx := by
  refine abs_drop 1 ha.ext.sub ?_
  rw [List.map_cons, List.map_nil]
  rcases ha.is with ⟨rfl, rfl⟩ | ⟨b, hb, rfl, hb2⟩
  · refine AbsCall.args hc rfl fun i c c' h1 h2 => ?_
    rcases i with _ | i
    · cases h1; cases h2; exact wk_nils _
    · simp at h1
  · rw [frz_own1 hb2 hb hs rfl]; exact hc

theorem Tryz.rring_c (names : List Bs) (wts : List Int) (nodes : Int) (bx : Boxes) (hnl : ∀ s, s ∈ names → s.length ≤ 1000000) :
    PureCall Tryz.prog 11 [strsV names, intsV wts, .int .i64 nodes] bx (.tup [rgV (ring names wts nodes).1, .int .i64 (ring names wts nodes).2]) := by
  refine PureCall.wk (Tryz.ctr11 fun hb => ?_)
  have c0 := fun bx => Tryz.rwrong_c names wts nodes bx hnl
  by_cases hw : wrong names wts nodes = 0
  · have hr : ring names wts nodes = (⟨names, wts, nodes, srt (raw names wts nodes names.length)⟩, 0) := by unfold ring; rw [if_pos hw]
    obtain ⟨g1, g2, g3, g4, g5, g6, g7, g8, g9⟩ := wrong0 hw
    have hrle := raw_le hw names.length (Nat.le_refl _)
    have cS := fun bx => Tryz.sorted_ref_c (raw names wts nodes names.length).length (raw names wts nodes names.length) (Nat.le_refl _) (by omega) bx
    rw [hr]
    generalize hS : srt (raw names wts nodes names.length) = S at *
    unfold rgV
    simp only
    simp only [strsV, intsV] at c0 ⊢
    simp [go_sem, Tryz.C11, hb]
    intro b6 hb6
    refine callK_pure (c0 _) ?_
    simp [go_sem, hw, hb]
    intro bn hbn
    generalize hbx0 : upd bx b6 (some (Box.row 26 4 [V.agg [V.nils, V.nils, V.int IntKind.i64 0, V.nils]])) = bx0 at *
    have hf0 : FinB bx0 := by rw [← hbx0]; simp [finB_upd, hb]
    refine Tryz.appS (bx := bx0) (es := []) (news := names.map .str) (acc_new hbn hf0 9 1 [] 0 rfl) (Ext.refl _) (by simp [finB_upd, hf0]) (by simp [go_sem, srcEls]) (by simp; omega) (by omega) ?_
    intro r1 bx1 ha1
    rw [List.nil_append] at ha1
    have hf1 := ha1.fin
    simp [go_sem, ha1.cells, ha1.okV, hf1]
    intro bi hbi
    refine Tryz.appI (bx := bx1) (es := []) (news := wts.map (.int .i64)) (acc_new hbi hf1 3 1 [] 0 rfl) (Ext.refl _) (by simp [finB_upd, hf1]) (by simp [go_sem, srcEls]) (by simp; omega) (by omega) ?_
    intro r2 bx2 ha2
    rw [List.nil_append] at ha2
    have hf2 := ha2.fin
    simp [go_sem, ha1.cells, ha1.okV, ha2.cells, ha2.okV, hf2]
    intro b9 hb9
    refine pw_for (ι := V × Boxes) names.length (fun i p => Pl.Acc (upd bx2 b9 (some (Box.row 26 4 [V.agg [r1, r2, V.int IntKind.i64 nodes, p.1]]))) 63 2 ((raw names wts nodes i).map ptV) p.1 p.2 ∧ (raw names wts nodes i).length ≤ 2000 * i)
      (fun i p => ⟨66, slk [(0, V.sl 1 (List.map V.str names)), (1, V.sl 1 (List.map (V.int IntKind.i64) wts)), (2, V.int IntKind.i64 nodes), (6, .ptr b6 4 0 0), (9, .ptr b9 4 0 0), (10, .int .i64 i)], p.2⟩) (.nils, upd bx2 b9 (some (Box.row 26 4 [V.agg [r1, r2, V.int IntKind.i64 nodes, .nils]]))) ⟨acc_nil (by simp [finB_upd, hf2]) _ _, by simp [raw]⟩ (cov_look (by simp [go_sem])) ?_ ?_
    · rintro i ⟨v, bx3⟩ hi ⟨ha, hlen⟩ N hN
      dsimp only at ha ⊢
      have hi2 : i < wts.length := by omega
      have hwi := wr_succ (k := i) (by omega)
      have hbn' : badN names[i] = false := by
        have := List.any_eq_false.1 g7 names[i] (List.getElem_mem hi)
        simpa using this
      have hnl' : names[i].length ≤ 32 := by
        simp [badN] at hbn'; omega
      have hbw : badW wts[i] = false := by
        have := List.any_eq_false.1 g6 wts[i] (List.getElem_mem hi2)
        simpa using this
      simp [badW] at hbw
      have h4' : 0 ≤ wts[i] * nodes := Int.mul_nonneg hbw.1 (by omega)
      have h5' : wts[i] * nodes ≤ 20 * 100 := Int.mul_le_mul hbw.2 (by omega) (by omega) (by omega)
      have hmul : IntKind.i64.wrap (wts[i] * nodes) = wts[i] * nodes := wr64 (by omega)
      have e1 : names.getD i [] = names[i] := by simp [hi]
      have e2 : wts.getD i 0 = wts[i] := by simp [hi2]
      have hraw : raw names wts nodes (i + 1) = raw names wts nodes i ++ ptsOf names[i] (wts[i] * nodes).toNat i := by rw [raw, e1, e2]
      obtain ⟨m, hmm⟩ : ∃ m : Nat, wts[i] * nodes = m := ⟨(wts[i] * nodes).toNat, by omega⟩
      rw [hmm] at hmul hraw
      rw [Int.toNat_natCast] at hraw
      simp [go_sem, Tryz.L11_1, hi, hi2, ha.fin]
      have hL : ∀ n, n < m → (ptsOf names[i] m i).take (n + 1) = (ptsOf names[i] m i).take n ++ [⟨sum32 (names[i] ++ [35] ++ Lib.decDigits n), i⟩] := by
        intro n hn
        rw [take_snoc (by rw [pts_len]; exact hn)]
        congr 1
        simp [ptsOf, tagS]
      have hpl := pts_len names[i] m i
      generalize hP : ptsOf names[i] m i = Ps at *
      generalize hR : raw names wts nodes i = Rs at *
      have hm2 : m ≤ 2000 := by omega
      refine pw_for (ι := V × Boxes) m (fun n p => Pl.Acc (upd bx2 b9 (some (Box.row 26 4 [V.agg [r1, r2, V.int IntKind.i64 nodes, p.1]]))) 63 2 ((Rs ++ Ps.take n).map ptV) p.1 p.2)
        (fun n p => ⟨66, slk [(0, V.sl 1 (List.map V.str names)), (1, V.sl 1 (List.map (V.int IntKind.i64) wts)), (2, V.int IntKind.i64 nodes), (6, .ptr b6 4 0 0), (9, .ptr b9 4 0 0), (10, .int .i64 i), (11, .int .i64 n)], p.2⟩) (v, bx3) (by simpa using ha) (cov_look (by simp [go_sem])) ?_ ?_
      · rintro n ⟨v2, bx4⟩ hn ha4 N2 hN2
        dsimp only at ha4 ⊢
        have hwn := wr_succ (k := n) (by omega)
        have hlt2 : (Rs ++ Ps.take n).length ≤ 100000 := by
          rw [List.length_append, List.length_take]; omega
        have hnew : (Rs ++ Ps.take (n + 1)).map ptV = (Rs ++ Ps.take n).map ptV ++ [ptV ⟨sum32 (names[i] ++ [35] ++ Lib.decDigits n), i⟩] := by rw [hL n hn]; simp
        generalize hE : (Rs ++ Ps.take n).map ptV = E at *
        have hEl : E.length ≤ 100000 := by rw [← hE]; simpa using hlt2
        have hdl := dec_len n (by omega)
        have cD := Tryz.digits_c n n (Nat.le_refl _) (by omega) bx4
        have cO := Tryz.rsum32_c (names[i] ++ [35] ++ Lib.decDigits n) bx4 (by simp; omega)
        have eO : bytesV (names[i] ++ [35] ++ Lib.decDigits n) = List.map byteV names[i] ++ byteV 35 :: List.map byteV (Lib.decDigits n) := by show (names[i] ++ [35] ++ Lib.decDigits n).map byteV = _; simp
        rw [eO] at cO
        generalize sum32 (names[i] ++ [35] ++ Lib.decDigits n) = hv at *
        have hnm : (n : Int) < m := by omega
        simp [go_sem, Tryz.L11_0, hi, hi2, hmm, hmul, hn, hnm, ha4.fin, ha4.at, ha4.cells, fzAt, fzb, (by omega : names[i].length ≤ 9223372036854775806)]
        refine callK_pure cD ?_
        simp [go_sem]
        refine ⟨by omega, by omega, ?_⟩
        refine callK_pure cO ?_
        simp [go_sem]
        refine Tryz.appP (es := E) (news := [.agg [V.int IntKind.u32 hv, V.int IntKind.i64 i]]) ha4 (Ext.refl _) ha4.fin (by simp [go_sem, srcEls]) (by simp; omega) (by omega) ?_
        intro v' bx5 ha5
        simp [go_sem, ha5.at, ha4.cells, ha5.cells, ha4.setC, ha5.okV]
        refine hN2 _ (v', upd bx5 b9 (some (Box.row 26 4 [V.agg [r1, r2, V.int IntKind.i64 nodes, v']]))) ?_ (cov_look (by simp [go_sem, hwn]))
        rw [hnew]
        exact ha5.put _
      · rintro ⟨v2, bx4⟩ ha4 N2
        dsimp only at ha4 ⊢
        have hpt : Ps.take m = Ps := by rw [← hpl]; simp
        rw [hpt] at ha4
        have hmn : ¬ ((m : Int) < m) := by omega
        simp [go_sem, Tryz.L11_0, hi, hi2, hmm, hmul]
        refine hN _ (v2, bx4) ⟨?_, ?_⟩ (cov_look (by simp [go_sem, hwi]))
        · rw [hraw]; exact ha4
        · rw [hraw, List.length_append]; omega
    · rintro ⟨v, bx3⟩ ⟨ha, hlen⟩ N
      dsimp only at ha ⊢
      generalize hR : raw names wts nodes names.length = Rs at *
      simp [go_sem, Tryz.L11_1, ha.at, ha.cells, ha.strip, ha.live]
      refine callK_abs (acc_drop ha (by decide) (cS _)) ?_
      rintro r bx4 ⟨rfl, rfl⟩
      have hb69 : b6 ≠ b9 := by
        rintro rfl
        rw [ha2.ext b6 (by rw [ha1.ext b6 (by rw [← hbx0, upd_eq]; simp), ← hbx0, upd_eq]; simp), ha1.ext b6 (by rw [← hbx0, upd_eq]; simp), ← hbx0, upd_eq] at hb9; cases hb9
      have h6 : bx2 b6 = some (Box.row 26 4 [V.agg [V.nils, V.nils, V.int IntKind.i64 0, V.nils]]) := by
        rw [ha2.ext b6 (by rw [ha1.ext b6 (by rw [← hbx0, upd_eq]; simp), ← hbx0, upd_eq]; simp), ha1.ext b6 (by rw [← hbx0, upd_eq]; simp), ← hbx0, upd_eq]
      obtain ⟨c1, k1, k2, k3⟩ := ha1.row (by intro h; simp at h; subst h; simp at g1)
      obtain ⟨c2, k4, k5, k6⟩ := ha2.row (by intro h; simp at h; subst h; simp at g3; omega)
      have k3' : bx2 c1 = some (.row 9 1 (names.map .str)) := by rw [ha2.ext c1 (by rw [k3]; simp), k3]
      have e1 : c1 ≠ b9 := by rintro rfl; rw [hb9] at k3'; cases k3'
      have e2 : c2 ≠ b9 := by rintro rfl; rw [hb9] at k6; cases k6
      have e3 : c1 ≠ b6 := by rintro rfl; rw [← hbx0, upd_eq] at k1; cases k1
      have e4 : c2 ≠ b6 := by rintro rfl; rw [h6] at k6; cases k6
      have n1 : bx c1 = none := by rwa [← hbx0, upd_ne _ _ e3] at k1
      have n2 : bx c2 = none := by
        have h : bx0 c2 = none := ha1.ext.none k4
        rwa [← hbx0, upd_ne _ _ e4] at h
      have hx0 : Ext bx bx0 := by rw [← hbx0]; exact (Ext.refl _).new hb6 _
      have hx : Ext bx bx2 := hx0.trans (ha1.ext.trans ha2.ext)
      subst k2 k5
      simp only [ptsV]
      simp [go_sem]
      rw [upd_ne _ _ hb69, h6]
      simp [go_sem]
      refine ret_frz 3 (by simp [go_sem]) ((hx.upd_own (hx.none hb9) _).upd_own hb6 _) ⟨?_, rfl⟩
      simp [go_sem]
      rw [frz_own1 (by rw [upd_ne _ _ e3, upd_ne _ _ e1]; exact k3') n1 (by decide) (by simp), frz_own1 (by rw [upd_ne _ _ e4, upd_ne _ _ e2]; exact k6) n2 (by decide) (by simp)]
      exact Wk.refl _
  · have hr : ring names wts nodes = (none_, wrong names wts nodes) := by unfold ring; rw [if_neg hw]
    rw [hr]
    unfold rgV none_
    simp only
    simp only [strsV, intsV, ptsV] at c0 ⊢
    simp [go_sem, Tryz.C11, hb]
    intro b6 hb6
    refine callK_pure (c0 _) ?_
    simp [go_sem, hw]
    refine ret_drop (by simp [go_sem]) ((Ext.refl _).new hb6 _) ⟨?_, rfl⟩
    simp [go_sem]
    refine wk_tup2 (wk_aggL rfl ?_) (Wk.refl _)
    intro j c d hc hd
    rcases j with _ | _ | _ | _ | j
    · simp at hc hd; subst hc hd; exact wk_nils _
    · simp at hc hd; subst hc hd; exact wk_nils _
    · simp at hc hd; subst hc hd; exact Wk.refl _
    · simp at hc hd; subst hc hd; exact wk_nils _
    · simp at hd
end Go.Proofs

/- Contracts: the document's Check, Weigh, Find; lists that are alike. -/
set_option linter.unusedSimpArgs false
set_option linter.unusedVariables false
set_option maxRecDepth 100000
namespace Go.Proofs
open Go Go.Pl Go.Hs

theorem Tryz.rpoints_c (a b : List Pt) (bx : Boxes) (ha : a.length ≤ 1000000) : PureCall Tryz.prog 50 [ptsV a, ptsV b] bx (.bool (decide (a = b))) := by
  refine Tryz.ctr50 fun hb => ?_
  unfold ptsV
  by_cases hl : ¬ a.length = b.length
  · have hab : a ≠ b := by rintro rfl; exact hl rfl
    simp [go_sem, Tryz.C50, hb]
    refine ⟨fun _ => ?_, fun h => absurd h (by omega)⟩
    refine ret_pure ?_ ?_ <;> simp [go_sem, hab]
  have hl : a.length = b.length := Decidable.not_not.1 hl
  simp [go_sem, Tryz.C50, hb, hl]
  refine pw_find a.length (fun k => decide (a[k]? ≠ b[k]?)) (fun k => ⟨26, slk [(0, .sl 2 (a.map ptV)), (1, .sl 2 (b.map ptV)), (5, .int .i64 k)], bx⟩) (cov_look (by simp [go_sem, hl])) ?_ ?_
  · intro k hk hpre N hN
    have hk2 : k < b.length := by omega
    have hw := wr_succ (k := k) (by omega)
    simp [go_sem, Tryz.L50_0, hk, hk2, ptV]
    have hab : ¬ (a[k].h = b[k].h ∧ a[k].b = b[k].b) → a ≠ b := fun h he => h (by subst he; exact ⟨rfl, rfl⟩)
    refine ⟨fun h => ret_pure ?_ ?_, fun h1 h2 => hN _ ?_ (cov_look (by simp [go_sem, hw, ptV]))⟩
    · simp [go_sem]
    · have := hab (by rintro ⟨h1, h2⟩; rcases h with h | h <;> contradiction)
      simp [go_sem, this]
    · have : a[k] = b[k] := by
        generalize a[k] = x at *
        generalize b[k] = y at *
        obtain ⟨x1, x2⟩ := x
        obtain ⟨y1, y2⟩ := y
        simp_all
      simp [hk, hk2, this]
  · intro hpre N
    have hab : a = b := by
      apply List.ext_getElem? 
      intro i
      by_cases hi : i < a.length
      · have := hpre i hi; simpa using this
      · rw [List.getElem?_eq_none (by omega), List.getElem?_eq_none (by omega)]
    simp [go_sem, Tryz.L50_0, hl]
    refine ret_pure ?_ ?_ <;> simp [go_sem, hab]

theorem Tryz.rcheck_c (r : Rg) (bx : Boxes) (hnl : ∀ s, s ∈ r.names → s.length ≤ 1000000) :
    PureCall Tryz.prog 16 [rgV r] bx (.int .i64 (check r)) := by
  refine Tryz.ctr16 fun hb => ?_
  have c0 := Tryz.rring_c r.names r.wts r.nodes bx hnl
  have hpl : (ring r.names r.wts r.nodes).1.pts.length ≤ 1000000 := by have := ring_le r.names r.wts r.nodes; omega
  have c1 := fun bx => Tryz.rpoints_c (ring r.names r.wts r.nodes).1.pts r.pts bx hpl
  unfold check
  generalize hR : ring r.names r.wts r.nodes = R at *
  obtain ⟨x, e⟩ := R
  simp only [rgV, strsV, intsV, ptsV] at c0 c1 ⊢
  simp [go_sem, Tryz.C16, hb]
  refine callK_pure c0 ?_
  simp [go_sem, hb]
  intro b3 hb3
  by_cases he : e = 0
  · simp [go_sem, hb, he, upd_self hb3]
    refine gK_pure (c1 _) (by simp) (by simp [go_sem]) ?_
    simp [go_sem]
    refine ⟨fun h => ?_, fun h => ?_⟩
    · refine ret_pure ?_ ?_ <;> simp [go_sem, h]
    · refine ret_pure ?_ ?_ <;> simp [go_sem, h]
  · simp [go_sem, hb, he, upd_self hb3]
    refine gK_off (.bool false) (by simp [go_sem]) ?_
    simp [go_sem]
    refine ret_pure ?_ ?_ <;> simp [go_sem]

theorem Tryz.same_c (r : Rg) (bx : Boxes) (h1 : r.pts.length ≤ 1000000) (h2 : r.names.length ≤ 1000000) (h3 : r.wts.length ≤ 1000000) : PureCall Tryz.prog 14 [rgV r, rgV r] bx (.bool true) := by
  refine Tryz.ctr14 fun hb => ?_
  have c0 := fun bx => Tryz.rpoints_c r.pts r.pts bx h1
  simp only [rgV, strsV, intsV, ptsV] at c0 ⊢
  simp [go_sem, Tryz.C14, hb]
  refine gK_pure (c0 _) (by simp) (by simp [go_sem]) ?_
  simp [go_sem]
  refine pw_upto r.names.length (fun k => ⟨74, slk [(2, .ep (.agg [.sl 1 (r.names.map .str), .sl 1 (r.wts.map (.int .i64)), .int .i64 r.nodes, .sl 2 (r.pts.map ptV)]) 0), (3, .ep (.agg [.sl 1 (r.names.map .str), .sl 1 (r.wts.map (.int .i64)), .int .i64 r.nodes, .sl 2 (r.pts.map ptV)]) 0), (5, .int .i64 k)], bx⟩) (cov_look (by simp [go_sem])) ?_ ?_
  · intro k hk N hN
    have hw := wr_succ (k := k) (by omega)
    simp [go_sem, Tryz.L14_0, hk, hb]
    exact hN _ (cov_look (by simp [go_sem, hw]))
  · intro N
    simp [go_sem, Tryz.L14_0, hb]
    refine pw_upto r.wts.length (fun k => ⟨74, slk [(2, .ep (.agg [.sl 1 (r.names.map .str), .sl 1 (r.wts.map (.int .i64)), .int .i64 r.nodes, .sl 2 (r.pts.map ptV)]) 0), (3, .ep (.agg [.sl 1 (r.names.map .str), .sl 1 (r.wts.map (.int .i64)), .int .i64 r.nodes, .sl 2 (r.pts.map ptV)]) 0), (6, .int .i64 k)], bx⟩) (cov_look (by simp [go_sem])) ?_ ?_
    · intro k hk N2 hN2
      have hw := wr_succ (k := k) (by omega)
      simp [go_sem, Tryz.L14_1, hk, hb]
      exact hN2 _ (cov_look (by simp [go_sem, hw]))
    · intro N2
      simp [go_sem, Tryz.L14_1, hb]
      refine ret_pure ?_ ?_ <;> simp [go_sem]
theorem Tryz.ints_c (l : List Int) (bx : Boxes) (h1 : l.length ≤ 1000000) : PureCall Tryz.prog 21 [intsV l, intsV l] bx (.bool true) := by
  refine Tryz.ctr21 fun hb => ?_
  unfold intsV
  simp [go_sem, Tryz.C21, hb]
  refine pw_upto l.length (fun k => ⟨26, slk [(0, .sl 1 (l.map (.int .i64))), (1, .sl 1 (l.map (.int .i64))), (5, .int .i64 k)], bx⟩) (cov_look (by simp [go_sem])) ?_ ?_
  · intro k hk N hN
    have hw := wr_succ (k := k) (by omega)
    simp [go_sem, Tryz.L21_0, hk, hb]
    exact hN _ (cov_look (by simp [go_sem, hw]))
  · intro N
    simp [go_sem, Tryz.L21_0, hb]
    refine ret_pure ?_ ?_ <;> simp [go_sem]

theorem Tryz.first_ref_c (r : Rg) (h : Int) (bx : Boxes) (hl : r.pts.length ≤ 1000000) : PureCall Tryz.prog 54 [rgV r, .int .u32 h] bx (.int .i64 (first r h)) := by
  refine Tryz.ctr54 fun hb => ?_
  simp only [rgV, strsV, intsV, ptsV]
  simp [go_sem, Tryz.C54, hb]
  refine pw_find r.pts.length (hitAt (fun p => decide (h ≤ p.h)) r.pts) (fun k => ⟨22, slk [(1, .int .u32 h), (2, .ep (.agg [.sl 1 (r.names.map .str), .sl 1 (r.wts.map (.int .i64)), .int .i64 r.nodes, .sl 2 (r.pts.map ptV)]) 0), (5, .int .i64 k)], bx⟩) (cov_look (by simp [go_sem])) ?_ ?_
  · intro k hk hpre N hN
    have hw := wr_succ (k := k) (by omega)
    simp [go_sem, Tryz.L54_0, hk, hb, ptV]
    refine ⟨fun hh => ret_pure ?_ ?_, fun hh => hN _ (by simp [hitAt_at hk]; omega) (cov_look (by simp [go_sem, hw, ptV]))⟩
    · simp [go_sem]
    · have : first r h = k := by
        unfold first
        have : r.pts.findIdx? (fun p => decide (h ≤ p.h)) = some k := by
          rw [List.findIdx?_eq_some_iff_getElem]
          exact ⟨hk, by simpa using hh, fun j hj => by have := hpre j hj; rw [hitAt_at (by omega)] at this; simpa using this⟩
        rw [this]
      simp [go_sem, this]
  · intro hpre N
    have : first r h = 0 := by
      unfold first
      have : r.pts.findIdx? (fun p => decide (h ≤ p.h)) = none := by
        rw [List.findIdx?_eq_none_iff]
        intro x hx
        obtain ⟨j, hj, rfl⟩ := List.getElem_of_mem hx
        have := hpre j hj
        rwa [hitAt_at hj] at this
      rw [this]
    simp [go_sem, Tryz.L54_0, hb]
    refine ret_pure ?_ ?_ <;> simp [go_sem, this]
theorem Tryz.asked_c (r : Rg) (key : Bs) (bx : Boxes) (hnl : ∀ s, s ∈ r.names → s.length ≤ 1000000) :
    PureCall Tryz.prog 55 [rgV r, .str key] bx (.int .i64 (asked r key)) := by
  refine Tryz.ctr55 fun hb => ?_
  have c0 := Tryz.rcheck_c r bx hnl
  unfold asked
  generalize check r = c at *
  simp only [rgV, strsV, intsV, ptsV] at c0 ⊢
  simp [go_sem, Tryz.C55, hb]
  refine callK_pure c0 ?_
  by_cases hc : c = 0
  · subst hc
    simp [go_sem, hb]
    refine ⟨fun h => ?_, fun h => ?_⟩
    · refine ret_pure ?_ ?_
      · simp [go_sem]
      · rw [if_pos (by omega)]; simp [go_sem]
    · rw [if_neg (by omega)]
      refine ⟨fun h2 => ?_, fun h2 => ?_⟩ <;> refine ret_pure ?_ ?_ <;> simp [go_sem, h2]
  · simp [go_sem, hb, hc]
    refine ret_pure ?_ ?_ <;> simp [go_sem]
theorem Tryz.rFind_c (r : Rg) (key : Bs) (bx : Boxes) (hnl : ∀ s, s ∈ r.names → s.length ≤ 1000000) :
    PureCall Tryz.prog 23 [rgV r, .str key] bx (.tup [.int .i64 (find r key).1, .int .i64 (find r key).2]) := by
  refine Tryz.ctr23 fun hb => ?_
  have c0 := Tryz.asked_c r key bx hnl
  by_cases he : asked r key ≠ 0
  · have hf : find r key = (0, asked r key) := by unfold find; rw [if_pos he]
    rw [hf]
    simp only [rgV, strsV, intsV, ptsV] at c0 ⊢
    simp [go_sem, Tryz.C23, hb]
    refine callK_pure c0 ?_
    simp [go_sem, he]
    refine ret_pure ?_ ?_ <;> simp [go_sem]
  have he : asked r key = 0 := Decidable.not_not.1 he
  have hf : find r key = (backAt r (first r (sum32 key)), 0) := by unfold find; rw [if_neg (by simpa using he)]
  obtain ⟨hch, hkl, hpl, hpm, hso⟩ := asked0 he
  have c1 : PureCall Tryz.prog 47 [.sl 1 (key.map byteV)] bx (.int .u32 (sum32 key)) := Tryz.rsum32_c key bx (by omega)
  have c2 := Tryz.first_ref_c r (sum32 key) bx (by omega)
  have hfl := first_lt (sum32 key) hpl
  rw [hf]
  have hba : backAt r (first r (sum32 key)) = (r.pts[first r (sum32 key)]).b := by simp [backAt, hfl]
  rw [hba]
  generalize first r (sum32 key) = fi at *
  simp only [rgV, strsV, intsV, ptsV] at c0 c2 ⊢
  simp [go_sem, Tryz.C23, hb]
  refine callK_pure c0 ?_
  simp [go_sem, he, (by omega : key.length ≤ 9223372036854775807)]
  refine callK_pure c1 ?_
  simp [go_sem]
  refine callK_pure c2 ?_
  simp [go_sem, hfl, ptV]
  refine ret_pure ?_ ?_ <;> simp [go_sem]
theorem Tryz.in_c (l : List Int) (x : Int) (bx : Boxes) (hl : l.length ≤ 1000000) : PureCall Tryz.prog 58 [intsV l, .int .i64 x] bx (.bool (decide (x ∈ l))) := by
  refine Tryz.ctr58 fun hb => ?_
  unfold intsV
  simp [go_sem, Tryz.C58, hb]
  refine pw_find l.length (hitAt (fun y => decide (y = x)) l) (fun k => ⟨18, slk [(0, .sl 1 (l.map (.int .i64))), (1, .int .i64 x), (5, .int .i64 k)], bx⟩) (cov_look (by simp [go_sem])) ?_ ?_
  · intro k hk hpre N hN
    have hw := wr_succ (k := k) (by omega)
    simp [go_sem, Tryz.L58_0, hk, hb]
    refine ⟨fun h => ret_pure ?_ ?_, fun h => hN _ (by simp [hitAt_at hk, h]) (cov_look (by simp [go_sem, hw]))⟩
    · simp [go_sem]
    · have : x ∈ l := h ▸ List.getElem_mem hk
      simp [go_sem, this]
  · intro hpre N
    have : ¬ x ∈ l := by
      intro h
      obtain ⟨j, hj, he⟩ := List.getElem_of_mem h
      have := hpre j hj
      rw [hitAt_at hj] at this
      simp [he] at this
    simp [go_sem, Tryz.L58_0, hb]
    refine ret_pure ?_ ?_ <;> simp [go_sem, this]
end Go.Proofs

/- Contracts: far. -/
set_option linter.unusedSimpArgs false
set_option linter.unusedVariables false
set_option maxRecDepth 100000
namespace Go.Proofs
open Go Go.Pl Go.Hs

def okW (nodes w : Int) : Bool := decide (0 ≤ w) && decide (w ≤ 20) && decide (0 ≤ nodes) && decide (nodes ≤ 100)
def addW (nodes : Int) (s w : Int) : Int := if okW nodes w = true then s + w * nodes else s
def manyR (ws : List Int) (nodes : Int) : Int := ws.foldl (addW nodes) 0
def big1 (r : Rg) : Bool := decide (20 < r.names.length) || decide (20 < r.wts.length) || (decide (600 < r.pts.length) && decide (r.pts.length ≤ 4096)) || decide (5000 < r.pts.length)
def longN (s : Bs) : Bool := decide (100 < s.length)
def farB (r : Rg) : Bool := big1 r || (r.names.any longN || (decide (600 < manyR r.wts r.nodes) && decide (manyR r.wts r.nodes ≤ 4096)))
theorem far_not {r : Rg} (h : farB r = false) : r.names.length ≤ 20 ∧ r.wts.length ≤ 20 ∧ r.pts.length ≤ 5000 ∧ ∀ s, s ∈ r.names → s.length ≤ 100 := by
  unfold farB at h
  rw [Bool.or_eq_false_iff, Bool.or_eq_false_iff] at h
  obtain ⟨h1, h2, _⟩ := h
  simp [big1] at h1
  rw [List.any_eq_false] at h2
  refine ⟨by omega, by omega, by omega, fun s hs => ?_⟩
  have := h2 s hs
  simpa [longN] using this
theorem addW_rng {nodes w : Int} (h : okW nodes w = true) : 0 ≤ w * nodes ∧ w * nodes ≤ 2000 := by
  simp [okW] at h
  have h4' : 0 ≤ w * nodes := Int.mul_nonneg (by omega) (by omega)
  have h5' : w * nodes ≤ 20 * 100 := Int.mul_le_mul (by omega) (by omega) (by omega) (by omega)
  omega
theorem manyR_rng (nodes : Int) : ∀ (ws : List Int) (s : Int), 0 ≤ s → 0 ≤ ws.foldl (addW nodes) s ∧ ws.foldl (addW nodes) s ≤ s + 2000 * ws.length := by
  intro ws
  induction ws with
  | nil => intro s h; simp; omega
  | cons w ws ih =>
    intro s h
    rw [List.foldl_cons]
    have h1 : 0 ≤ addW nodes s w ∧ addW nodes s w ≤ s + 2000 := by
      unfold addW
      split
      · rename_i hh
        have := addW_rng hh
        omega
      · omega
    have := ih _ h1.1
    simp only [List.length_cons]
    omega
theorem big1_i (r : Rg) : (decide ((20 : Int) < r.names.length) || (decide ((20 : Int) < r.wts.length) || (decide ((600 : Int) < r.pts.length) && decide ((r.pts.length : Int) ≤ 4096) || decide ((5000 : Int) < r.pts.length)))) = big1 r := by
  rw [Bool.eq_iff_iff]; simp [big1]; omega

theorem Tryz.far_c (r : Rg) (bx : Boxes) (hl : r.wts.length ≤ 9223372036854775807) (hl2 : r.names.length ≤ 9223372036854775807) :
    PureCall Tryz.prog 8 [rgV r] bx (.bool (farB r)) := by
  refine Tryz.ctr8 fun hb => ?_
  have hin : ∀ k : Nat, k ≤ r.wts.length → 0 ≤ manyR (r.wts.take k) r.nodes ∧ manyR (r.wts.take k) r.nodes ≤ 2000 * k := fun k hk => by
    have := manyR_rng r.nodes (r.wts.take k) 0 (by omega)
    rw [List.length_take] at this
    unfold manyR; omega
  simp only [rgV, strsV, intsV, ptsV]
  simp [go_sem, Tryz.C8, hb]
  refine ⟨fun h1 h2 => ⟨⟨h1, h2⟩, fun h3 => ⟨⟨h1, h2⟩, h3⟩⟩, fun h1 h2 h3 => ⟨⟨h1, h2⟩, by omega⟩, fun h => ?_, fun h1 h2 h3 h4 => ?_⟩
  · have hB : big1 r = true := by simp [big1]; omega
    refine ret_pure ?_ ?_ <;> simp [go_sem, farB, hB]
  have hB : big1 r = false := by simp [big1]; omega
  unfold farB
  rw [hB, Bool.false_or]
  refine pw_upto r.wts.length (fun k => ⟨95, slk [(1, .ep (.agg [.sl 1 (r.names.map .str), .sl 1 (r.wts.map (.int .i64)), .int .i64 r.nodes, .sl 2 (r.pts.map ptV)]) 0), (3, .int .i64 (manyR (r.wts.take k) r.nodes)), (4, .int .i64 k)], bx⟩) (cov_look (by simp [go_sem, manyR])) ?_ ?_
  · intro k hk N hN
    have hw := wr_succ (k := k) (by omega)
    have hk0 := hin k (by omega)
    have hsuc : manyR (r.wts.take (k + 1)) r.nodes = addW r.nodes (manyR (r.wts.take k) r.nodes) r.wts[k] := by
      unfold manyR; rw [take_foldl _ _ hk]
    rw [hsuc] at hN
    generalize manyR (r.wts.take k) r.nodes = S at *
    cases hok : okW r.nodes r.wts[k]
    · have hoff : ¬ (((0 ≤ r.wts[k] ∧ r.wts[k] ≤ 20) ∧ 0 ≤ r.nodes) ∧ r.nodes ≤ 100) := by simp [okW] at hok; omega
      have hA : addW r.nodes S r.wts[k] = S := by simp [addW, hok]
      rw [hA] at hN
      simp [go_sem, Tryz.L8_0, hk, hb, hoff]
      intro _
      exact hN _ (cov_look (by simp [go_sem, hw]))
    · have hA : addW r.nodes S r.wts[k] = S + r.wts[k] * r.nodes := by simp [addW, hok]
      have hrg := addW_rng hok
      simp [okW] at hok
      have w1 : IntKind.i64.wrap (r.wts[k] * r.nodes) = r.wts[k] * r.nodes := wr64 (by omega)
      have w2 : IntKind.i64.wrap (S + r.wts[k] * r.nodes) = S + r.wts[k] * r.nodes := wr64 (by omega)
      rw [hA] at hN
      simp [go_sem, Tryz.L8_0, hk, hb, hok, w1, w2]
      exact hN _ (cov_look (by simp [go_sem, hw]))
  · intro N
    have hS := hin r.wts.length (Nat.le_refl _)
    rw [List.take_length] at hS ⊢
    simp [go_sem, Tryz.L8_0, hb]
    generalize manyR r.wts r.nodes = S at *
    refine pw_find r.names.length (hitAt longN r.names) (fun k => ⟨95, slk [(1, .ep (.agg [.sl 1 (r.names.map .str), .sl 1 (r.wts.map (.int .i64)), .int .i64 r.nodes, .sl 2 (r.pts.map ptV)]) 0), (3, .int .i64 S), (5, .int .i64 k)], bx⟩) (cov_look (by simp [go_sem])) ?_ ?_
    · intro k hk hpre N2 hN2
      have hw := wr_succ (k := k) (by omega)
      simp [go_sem, Tryz.L8_1, hk, hb]
      refine ⟨fun h => ret_pure ?_ ?_, fun h => hN2 _ (by rw [hitAt_at hk]; simp [longN]; omega) (cov_look (by simp [go_sem, hw]))⟩
      · simp [go_sem]
      · have : r.names.any longN = true := List.any_eq_true.2 ⟨_, List.getElem_mem hk, by simp [longN]; omega⟩
        simp [go_sem, this]
    · intro hpre N2
      have : r.names.any longN = false := by
        rw [List.any_eq_false]
        intro x hx
        obtain ⟨j, hj, rfl⟩ := List.getElem_of_mem hx
        have := hpre j hj
        rw [hitAt_at hj] at this
        simp [this]
      rw [this, Bool.false_or]
      simp [go_sem, Tryz.L8_1, hb]
      refine ret_pure ?_ ?_ <;> simp [go_sem]
end Go.Proofs

/- Contracts: the document's Weigh; HashesRings. -/
set_option linter.unusedSimpArgs false
set_option linter.unusedVariables false
set_option maxRecDepth 100000
namespace Go.Proofs
open Go Go.Pl Go.Hs

theorem Tryz.rweigh_c (r : Rg) (k w : Int) (bx : Boxes) (hnl : ∀ s, s ∈ r.names → s.length ≤ 1000000) :
    PureCall Tryz.prog 13 [rgV r, .int .i64 k, .int .i64 w] bx (.tup [rgV (weigh r k w).1, .int .i64 (weigh r k w).2]) := by
  refine PureCall.wk (Tryz.ctr13 fun hb => ?_)
  have c0 := fun bx => Tryz.rcheck_c r bx hnl
  by_cases h1 : check r ≠ 0
  · have hw : weigh r k w = (none_, check r) := by unfold weigh; rw [if_pos h1]
    rw [hw]
    simp only [rgV, strsV, intsV, ptsV, none_] at c0 ⊢
    simp [go_sem, Tryz.C13, hb]
    intro b6 hb6
    refine callK_pure (c0 _) ?_
    simp [go_sem, h1, hb]
    refine ret_drop (by simp [go_sem]) ((Ext.refl _).new hb6 _) ⟨?_, rfl⟩
    simp [go_sem]
    exact wk_none _
  have h1 : check r = 0 := Decidable.not_not.1 h1
  obtain ⟨g1, g2, g3, g4, g5, g6, g7, g8, g9⟩ := wrong0 (check0 h1).1
  by_cases h2 : k < 0 ∨ (r.names.length : Int) ≤ k
  · have hw : weigh r k w = (none_, 2) := by unfold weigh; rw [if_neg (by simpa using h1), if_pos h2]
    have h3 : (decide (k < 0) || decide ((r.names.length : Int) ≤ k)) = true := by simpa using h2
    rw [hw]
    simp only [rgV, strsV, intsV, ptsV, none_] at c0 ⊢
    simp [go_sem, Tryz.C13, hb]
    intro b6 hb6
    refine callK_pure (c0 _) ?_
    simp [go_sem, h1, hb, h3, h2]
    refine ret_drop (by simp [go_sem]) ((Ext.refl _).new hb6 _) ⟨?_, rfl⟩
    simp [go_sem]
    exact wk_none _
  have hw : weigh r k w = ring r.names (r.wts.set k.toNat w) r.nodes := by unfold weigh; rw [if_neg (by simpa using h1), if_neg h2]
  obtain ⟨kn, rfl⟩ : ∃ kn : Nat, k = kn := ⟨k.toNat, by omega⟩
  rw [hw]
  have c2 := fun bx => Tryz.rring_c r.names (r.wts.set kn w) r.nodes bx hnl
  rw [Int.toNat_natCast]
  generalize ring r.names (r.wts.set kn w) r.nodes = R at *
  simp only [rgV, strsV, intsV, ptsV] at c0 c2 ⊢
  simp [go_sem, Tryz.C13, hb]
  intro b6 hb6
  refine callK_pure (c0 _) ?_
  have h5 : ¬ (r.names.length ≤ kn) := by omega
  have h5' : ¬ ((r.names.length : Int) ≤ kn) := by omega
  have h5n : ¬ ((kn : Int) < 0) := by omega
  simp [go_sem, h1, hb, h5, h5', h5n]
  intro bn hbn
  refine Tryz.appI (es := []) (news := r.wts.map (.int .i64)) (acc_new hbn (by simp [finB_upd, hb]) 3 1 [] 0 rfl) (Ext.refl _) (by simp [finB_upd, hb]) (by simp [go_sem, srcEls]) (by simp; omega) (by omega) ?_
  intro v bx1 ha
  rw [List.nil_append] at ha
  have hne : r.wts.map (V.int .i64) ≠ [] := by
    intro h; have := congrArg List.length h; simp at this; rw [this] at g3; simp at g3; omega
  obtain ⟨bw, hbw, rfl, hbw2⟩ := ha.row hne
  have hkn : kn < r.wts.length := by omega
  have hne6 : b6 ≠ bw := by rintro rfl; rw [upd_eq] at hbw; cases hbw
  rw [upd_ne _ _ (Ne.symm hne6)] at hbw
  have h6 : bx1 b6 = some (Box.row 26 4 [V.agg [V.nils, V.nils, V.int IntKind.i64 0, V.nils]]) := by
    rw [ha.ext b6 (by rw [upd_eq]; simp), upd_eq]
  have hx1 : Ext bx bx1 := ((Ext.refl _).new hb6 _).trans ha.ext
  have hx2 : Ext bx (upd bx1 bw none) := hx1.upd_own hbw _
  simp [go_sem, hbw2, hkn]
  generalize hX : (List.map (V.int IntKind.i64) r.wts).set kn (V.int IntKind.i64 w) = X
  have hXl : r.wts.length = X.length := by rw [← hX]; simp
  have hXe : X = List.map (V.int IntKind.i64) (r.wts.set kn w) := by rw [← hX, List.map_set]
  have hfin : AbsCall Tryz.prog 11 [V.sl 1 (List.map V.str r.names), V.own bw 1 0 r.wts.length, V.int IntKind.i64 r.nodes] (upd bx1 bw (some (Box.row 3 1 X))) (fun r' bx' => r' = V.tup [V.agg [V.sl 1 (List.map V.str R.fst.names), V.sl 1 (List.map (V.int IntKind.i64) R.fst.wts), V.int IntKind.i64 R.fst.nodes, V.sl 2 (List.map ptV R.fst.pts)], V.int IntKind.i64 R.snd] ∧ bx' = upd bx1 bw none) := by
    refine abs_drop 1 (bx0 := upd bx1 bw none) (fun q => ?_) ?_
    · by_cases e : q = bw
      · subst e; exact .inl (upd_eq _ _ _)
      · exact .inr (by rw [upd_ne _ _ e, upd_ne _ _ e])
    · rw [List.map_cons, List.map_cons, List.map_cons, List.map_nil, frz_own1 (upd_eq _ _ _) (upd_eq _ _ _) (by decide) hXl]
      show AbsCall _ _ [V.sl 1 (List.map V.str r.names), _, V.int IntKind.i64 r.nodes] _ _
      rw [hXe]
      exact c2 _
  refine callK_abs hfin ?_
  rintro r' bx' ⟨rfl, rfl⟩
  have h6n : upd bx1 bw none b6 = some (Box.row 26 4 [V.agg [V.nils, V.nils, V.int IntKind.i64 0, V.nils]]) := by rw [upd_ne _ _ hne6]; exact h6
  simp [go_sem, h6n]
  refine ret_drop (by simp [go_sem]) (hx2.upd_own hb6 _) ⟨?_, rfl⟩
  simp [go_sem]
  exact Wk.refl _
theorem ring_nl (names : List Bs) (wts : List Int) (nodes : Int) : (ring names wts nodes).1.names.length ≤ 16 ∧ (ring names wts nodes).1.wts.length ≤ 16 := by
  unfold ring
  split
  · rename_i h
    have := wrong0 h
    simp only; omega
  · simp [none_]
theorem weigh_le (r : Rg) (k w : Int) : (weigh r k w).1.pts.length ≤ 32000 ∧ (weigh r k w).1.names.length ≤ 16 ∧ (weigh r k w).1.wts.length ≤ 16 := by
  unfold weigh
  split
  · simp [none_]
  · split
    · simp [none_]
    · exact ⟨ring_le _ _ _, (ring_nl _ _ _).1, (ring_nl _ _ _).2⟩
theorem Tryz.hashesRings_c (r : Rg) (k w : Int) (bx : Boxes) (hm : Mk bx) (hl : r.wts.length ≤ 9223372036854775807) (hl2 : r.names.length ≤ 9223372036854775807) :
    PureCall Tryz.prog 3 [rgV r, .int .i64 k, .int .i64 w] bx (.bool true) := by
  refine Tryz.ctr3 fun hb => ?_
  have d1 := Tryz.far_c r bx hl hl2
  have d2 := Tryz.awake_c bx hm
  cases hf : farB r
  · rw [hf] at d1
    obtain ⟨f1, f2, f3, f4⟩ := far_not hf
    have hnl : ∀ s, s ∈ r.names → s.length ≤ 1000000 := fun s hs => by have := f4 s hs; omega
    have c1 := Tryz.ring_c r.names r.wts r.nodes bx hm hl hl2
    have c2 := Tryz.rring_c r.names r.wts r.nodes bx hnl
    have c3 := Tryz.weigh_c r k w bx hm hl hl2
    have c4 := Tryz.rweigh_c r k w bx hnl
    have c5 := Tryz.same_c (ring r.names r.wts r.nodes).1 bx (by have := ring_le r.names r.wts r.nodes; omega) (by have := ring_nl r.names r.wts r.nodes; omega) (by have := ring_nl r.names r.wts r.nodes; omega)
    have c6 := Tryz.check_c r bx hm hl hl2
    have c7 := Tryz.rcheck_c r bx hnl
    have c8 := Tryz.same_c (weigh r k w).1 bx (by have := weigh_le r k w; omega) (by have := weigh_le r k w; omega) (by have := weigh_le r k w; omega)
    generalize ring r.names r.wts r.nodes = R at *
    generalize weigh r k w = S at *
    simp only [rgV, strsV, intsV, ptsV] at c1 c2 c3 c4 c5 c6 c7 c8 d1 ⊢
    simp [go_sem, Tryz.C3, hb]
    refine callK_pure d1 ?_
    simp [go_sem, hb]
    refine callK_pure c1 ?_
    simp [go_sem, hb]
    intro b7 hb7
    simp [go_sem, hb, upd_self hb7]
    refine callK_pure c2 ?_
    simp [go_sem, hb]
    intro b9 hb9
    simp [go_sem, hb, upd_self hb9]
    refine callK_pure c3 ?_
    simp [go_sem, hb]
    intro b11 hb11
    simp [go_sem, hb, upd_self hb11]
    refine callK_pure c4 ?_
    simp [go_sem, hb]
    intro b13 hb13
    simp [go_sem, hb, upd_self hb13]
    refine callK_pure c5 ?_
    simp [go_sem, hb]
    refine gK_pure c6 (by simp) (by simp [go_sem]) ?_
    simp [go_sem, hb]
    refine gK_pure c7 (by simp) (by simp [go_sem]) ?_
    simp [go_sem, hb]
    refine gK_pure c8 (by simp) (by simp [go_sem]) ?_
    simp [go_sem, hb]
    refine gK_pure d2 (by simp) (by simp [go_sem]) ?_
    simp [go_sem, hb]
    refine ret_pure ?_ ?_ <;> simp [go_sem]
  · rw [hf] at d1
    simp only [rgV, strsV, intsV, ptsV] at d1 ⊢
    simp [go_sem, Tryz.C3, hb]
    refine callK_pure d1 ?_
    simp [go_sem, hb]
    refine callK_pure d2 ?_
    simp [go_sem, hb]
    refine ret_pure ?_ ?_ <;> simp [go_sem]
end Go.Proofs

/- Contracts: the document's Order; HashesFinds. -/
set_option linter.unusedSimpArgs false
set_option linter.unusedVariables false
set_option maxRecDepth 100000
namespace Go.Proofs
open Go Go.Pl Go.Hs

theorem Tryz.rOrder_c (r : Rg) (key : Bs) (bx : Boxes) (hnl : ∀ s, s ∈ r.names → s.length ≤ 1000000) :
    PureCall Tryz.prog 25 [rgV r, .str key] bx (.tup [intsV (order r key).1, .int .i64 (order r key).2]) := by
  refine PureCall.wk (Tryz.ctr25 fun hb => ?_)
  have c0 := Tryz.asked_c r key bx hnl
  by_cases he : asked r key ≠ 0
  · have hf : order r key = ([], asked r key) := by unfold order; rw [if_pos he]
    rw [hf]
    simp only [rgV, strsV, intsV, ptsV] at c0 ⊢
    simp [go_sem, Tryz.C25, hb]
    refine callK_pure c0 ?_
    simp [go_sem, he]
    refine ret_wk0 (by simp [go_sem]) ?_
    simp [go_sem]
    exact wk_tup2 (wk_nils _) (Wk.refl _)
  have he : asked r key = 0 := Decidable.not_not.1 he
  obtain ⟨hch, hkl, hpl, hpm, hso⟩ := asked0 he
  rw [order_eq he]
  have c1 : PureCall Tryz.prog 47 [.sl 1 (key.map byteV)] bx (.int .u32 (sum32 key)) := Tryz.rsum32_c key bx (by omega)
  have c2 := Tryz.first_ref_c r (sum32 key) bx (by omega)
  have hfl := first_lt (sum32 key) hpl
  generalize first r (sum32 key) = fi at *
  have hul := fun k => uq_len r fi k
  have hu0 : uq r fi 0 = [] := by simp [uq, uniq]
  simp only [rgV, strsV, intsV, ptsV] at c0 c2 ⊢
  simp [go_sem, Tryz.C25, hb]
  refine callK_pure c0 ?_
  simp [go_sem, he, (by omega : key.length ≤ 9223372036854775807)]
  refine callK_pure c1 ?_
  simp [go_sem]
  refine callK_pure c2 ?_
  simp [go_sem, hb]
  refine pw_for (ι := V × Boxes) r.pts.length (fun k p => Pl.Acc bx 3 1 ((uq r fi k).map (.int .i64)) p.1 p.2)
    (fun k p => ⟨50, slk [(2, .ep (.agg [.sl 1 (r.names.map .str), .sl 1 (r.wts.map (.int .i64)), .int .i64 r.nodes, .sl 2 (r.pts.map ptV)]) 0), (7, p.1), (8, .int .i64 fi), (9, .int .i64 k)], p.2⟩) (.nils, bx) (by rw [hu0]; exact acc_nil hb _ _) (cov_look (by simp [go_sem])) ?_ ?_
  · rintro k ⟨v, bx1⟩ hk ha N hN
    dsimp only at ha ⊢
    have hw := wr_succ (k := k) (by omega)
    have hs := uq_succ (r := r) (i := fi) hfl hk
    have hlu := hul k
    have hql := Nat.mod_lt (fi + k) (by omega : 0 < r.pts.length)
    have w1 : IntKind.i64.wrap ((fi : Int) + k) = (fi : Int) + k := wr64 (by omega)
    have w0 : ((fi : Int) + k) % (r.pts.length : Int) = (((fi + k) % r.pts.length : Nat) : Int) := by simp
    obtain ⟨qi, hqi⟩ : ∃ qi, (fi + k) % r.pts.length = qi := ⟨_, rfl⟩
    rw [hqi] at hql w0
    have w2 : IntKind.i64.wrap (((fi : Int) + k) % r.pts.length) = (qi : Int) := by rw [w0, wr64 (by omega)]
    have w3 : IntKind.i64.wrap (((fi : Int) + k).tmod r.pts.length) = (qi : Int) := by rw [Int.tmod_eq_emod_of_nonneg (by omega)]; exact w2
    have w4 : ((fi : Int) + k).tmod r.pts.length = (qi : Int) := by rw [Int.tmod_eq_emod_of_nonneg (by omega)]; exact w0
    simp only [hqi] at hs
    obtain ⟨q, hq⟩ : ∃ q, r.pts[qi] = q := ⟨_, rfl⟩
    rw [hq] at hs
    generalize uq r fi (k + 1) = U1 at *
    generalize uq r fi k = U at *
    obtain ⟨qh, qb⟩ := q
    have cC := acc_frame (i := qb) ha (by decide) (r := .bool (decide (qb ∈ U))) rfl (fun bx => Tryz.in_c U qb bx (by omega))
    have hn0 : ¬ r.pts.length = 0 := by omega
    simp [go_sem, Tryz.L25_0, hk, w1, w3, w4, hql, hn0, ha.fin, hq, ptV, ha.cells, ha.strip, ha.live]
    refine callK_pure cC ?_
    simp [go_sem]
    refine ⟨fun hin => ?_, fun hin => ?_⟩
    · rw [if_neg hin] at hs
      refine ⟨ha.fin, ?_⟩
      refine Tryz.appI (es := U.map (.int .i64)) (news := [.int .i64 qb]) ha (Ext.refl _) ha.fin (by simp [go_sem, srcEls]) (by simp; omega) (by omega) ?_
      intro v' bx3 ha3
      simp [go_sem, ha3.cells]
      exact hN _ (v', bx3) (by dsimp only; rw [hs]; simpa using ha3) (cov_look (by simp [go_sem, hw, ptV]))
    · rw [if_pos hin] at hs
      exact hN _ (v, bx1) (by dsimp only; rw [hs]; exact ha) (cov_look (by simp [go_sem, hw, ptV]))
  · rintro ⟨v, bx1⟩ ha N
    dsimp only at ha ⊢
    simp [go_sem, Tryz.L25_0, ha.cells, ha.fin]
    refine ret_frz 2 (by simp [go_sem]) ha.ext ⟨?_, rfl⟩
    simp [go_sem]
    exact wk_tup2 (acc_frz ha (by decide)) (Wk.refl _)
theorem order_len (r : Rg) (key : Bs) : (order r key).1.length ≤ 32000 := by
  by_cases he : asked r key = 0
  · rw [order_eq he]
    have := uq_len r (first r (sum32 key)) r.pts.length
    obtain ⟨_, _, _, h, _⟩ := asked0 he
    simp only; omega
  · unfold order; rw [if_pos he]; simp
theorem Tryz.hashesFinds_c (r : Rg) (key : Bs) (bx : Boxes) (hm : Mk bx) (hl : r.wts.length ≤ 9223372036854775807) (hl2 : r.names.length ≤ 9223372036854775807) :
    PureCall Tryz.prog 5 [rgV r, .str key] bx (.bool true) := by
  refine Tryz.ctr5 fun hb => ?_
  have d1 := Tryz.far_c r bx hl hl2
  have d2 := Tryz.awake_c bx hm
  cases hf : farB r
  · rw [hf] at d1
    obtain ⟨f1, f2, f3, f4⟩ := far_not hf
    have hnl : ∀ s, s ∈ r.names → s.length ≤ 1000000 := fun s hs => by have := f4 s hs; omega
    have c1 := Tryz.Find_c r key bx hm hl hl2
    have c2 := Tryz.rFind_c r key bx hnl
    have c3 := Tryz.Order_c r key bx hm hl hl2
    have c4 := Tryz.rOrder_c r key bx hnl
    have c5 := Tryz.ints_c (order r key).1 bx (by have := order_len r key; omega)
    generalize find r key = F at *
    generalize order r key = O at *
    simp only [rgV, strsV, intsV, ptsV] at c1 c2 c3 c4 c5 d1 ⊢
    simp [go_sem, Tryz.C5, hb]
    refine callK_pure d1 ?_
    simp [go_sem, hb]
    refine ⟨fun h => ?_, fun h => ?_⟩
    · refine callK_pure d2 ?_
      simp [go_sem, hb]
      refine ret_pure ?_ ?_ <;> simp [go_sem]
    · refine callK_pure c1 ?_
      simp [go_sem, hb]
      refine callK_pure c2 ?_
      simp [go_sem, hb]
      refine callK_pure c3 ?_
      simp [go_sem, hb]
      refine callK_pure c4 ?_
      simp [go_sem, hb]
      refine gK_pure c5 (by simp) (by simp [go_sem]) ?_
      simp [go_sem, hb]
      refine gK_pure d2 (by simp) (by simp [go_sem]) ?_
      simp [go_sem, hb]
      refine ret_pure ?_ ?_ <;> simp [go_sem]
  · rw [hf] at d1
    simp only [rgV, strsV, intsV, ptsV] at d1 ⊢
    simp [go_sem, Tryz.C5, hb]
    refine callK_pure d1 ?_
    simp [go_sem, hb]
    refine callK_pure d2 ?_
    simp [go_sem, hb]
    refine ret_pure ?_ ?_ <;> simp [go_sem]
end Go.Proofs

/- Contracts: ordered. -/
set_option linter.unusedSimpArgs false
set_option linter.unusedVariables false
set_option maxRecDepth 100000
namespace Go.Proofs.Pol
open Go Go.Pl Go.Hs Go.Proofs

theorem Tryz.OrderA_c (r : Rg) (key : Bs) (bx : Boxes) (hm : Mk bx) (hl : r.wts.length ≤ 9223372036854775807) (hl2 : r.names.length ≤ 9223372036854775807) :
    AbsCall Tryz.prog 24 [rgV r, .str key] bx fun v bx' => ∃ u, v = .tup [u, .int .i64 (order r key).2] ∧ Pl.Acc bx 3 1 ((order r key).1.map (.int .i64)) u bx' := by
  refine Tryz.ctr24 fun hb => ?_
  have c0 := Tryz.ask_c r [key] bx hm hl hl2 (by simp)
  rw [askE_one] at c0
  by_cases he : asked r key ≠ 0
  · have hf : order r key = ([], asked r key) := by unfold order; rw [if_pos he]
    rw [hf]
    simp only [rgV, strsV, intsV, ptsV] at c0 ⊢
    simp [go_sem, Tryz.C24, hb]
    refine callK_pure c0 ?_
    simp [go_sem, he]
    refine ret_pure (by simp [go_sem]) ⟨.nils, ?_⟩
    simp [go_sem]
    exact acc_nil hb _ _
  have he : asked r key = 0 := Decidable.not_not.1 he
  obtain ⟨hch, hkl, hpl, hpm, hso⟩ := asked0 he
  rw [order_eq he]
  have c1 : PureCall Tryz.prog 34 [.sl 1 (key.map byteV)] bx (.int .u32 (sum32 key)) := Tryz.sum32_c key bx (by omega)
  have c2 := Tryz.find_c r (sum32 key) bx (by omega) hso
  have hfl := first_lt (sum32 key) hpl
  generalize first r (sum32 key) = fi at *
  have hcl : (r.pts.drop fi ++ r.pts.take fi).length = r.pts.length := by simp; omega
  have hat : ∀ k (hk : k < r.pts.length), (r.pts.drop fi ++ r.pts.take fi)[k]? = some (r.pts[(fi + k) % r.pts.length]'(Nat.mod_lt _ (by omega))) := fun k hk => by
    rcases Nat.lt_or_ge (fi + k) r.pts.length with h | h
    · rw [List.getElem?_append_left (by simp; omega)]
      simp [Nat.mod_eq_of_lt h, h]
    · rw [List.getElem?_append_right (by simp; omega)]
      have h2 : (fi + k) % r.pts.length = fi + k - r.pts.length := by rw [Nat.mod_eq_sub_mod h, Nat.mod_eq_of_lt (by omega)]
      have h3 : k - (r.pts.length - fi) = fi + k - r.pts.length := by omega
      simp only [h2, List.length_drop, h3]
      rw [List.getElem?_take, if_pos (by omega), List.getElem?_eq_getElem (by omega)]
  have hsu : ∀ k (hk : k < r.pts.length), _ := fun k hk => uq_succ (r := r) (i := fi) hfl hk
  have hul := fun k => uq_len r fi k
  have c3 := fun (b : Nat) (ty : TypeId) (bx : Boxes) (h : bx b = some (.row ty 1 [ptsV (r.pts.drop fi), ptsV (r.pts.take fi)])) => Tryz.concat_c (r.pts.drop fi) (r.pts.take fi) h (by simp; omega) (by simp; omega)
  have hu0 : uq r fi 0 = [] := by simp [uq, uniq]
  have huN : List Int → Prop := fun l => True
  simp only [rgV, strsV, intsV, ptsV] at c0 c2 c3 ⊢
  rw [List.map_append, List.map_drop, List.map_take] at c3
  simp [go_sem, Tryz.C24, hb]
  refine callK_pure c0 ?_
  simp [go_sem, he, (by omega : key.length ≤ 9223372036854775807)]
  refine callK_pure c1 ?_
  simp [go_sem]
  refine callK_pure c2 ?_
  have hfle : fi ≤ r.pts.length := by omega
  have ht : List.take r.pts.length (r.pts.map ptV) = r.pts.map ptV := List.take_of_length_le (by simp)
  simp [go_sem, hb, hfle, ht]
  intro b hb'
  refine callK_pure (c3 b _ _ (upd_eq _ _ _)) ?_
  have hb2 : FinB (upd bx b (some (Box.row 24 1 [V.sl 2 (List.drop fi (List.map ptV r.pts)), V.sl 2 (List.take fi (List.map ptV r.pts))]))) := by simp [finB_upd, hb]
  have hxb : Ext bx (upd bx b (some (Box.row 24 1 [V.sl 2 (List.drop fi (List.map ptV r.pts)), V.sl 2 (List.take fi (List.map ptV r.pts))]))) := (Ext.refl _).new hb' _
  generalize upd bx b (some (Box.row 24 1 [V.sl 2 (List.drop fi (List.map ptV r.pts)), V.sl 2 (List.take fi (List.map ptV r.pts))])) = bx0 at *
  have hcl' : (r.pts.length - fi) + fi = r.pts.length := by omega
  have hatm : ∀ k (hk : k < r.pts.length), (List.drop fi (List.map ptV r.pts) ++ List.take fi (List.map ptV r.pts))[k]? = some (ptV (r.pts[(fi + k) % r.pts.length]'(Nat.mod_lt _ (by omega)))) := fun k hk => by
    have h := congrArg (Option.map ptV) (hat k hk)
    rw [← List.getElem?_map, List.map_append, List.map_drop, List.map_take] at h
    exact h
  have hll : (List.drop fi (List.map ptV r.pts) ++ List.take fi (List.map ptV r.pts)).length = r.pts.length := by simp; omega
  generalize (List.drop fi (List.map ptV r.pts) ++ List.take fi (List.map ptV r.pts)) = L at *
  simp [go_sem, hb2, hll]
  refine pw_for (ι := V × Boxes) r.pts.length (fun k p => Pl.Acc bx0 3 1 ((uq r fi k).map (.int .i64)) p.1 p.2)
    (fun k p => ⟨50, slk [(8, p.1), (32, .sl 2 L), (33, .int .i64 r.pts.length), (34, .int .i64 k)], p.2⟩) (.nils, bx0) (by rw [hu0]; exact acc_nil hb2 _ _) (cov_look (by simp [go_sem])) ?_ ?_
  · rintro k ⟨v, bx1⟩ hk ha N hN
    dsimp only at ha ⊢
    have hw := wr_succ (k := k) (by omega)
    have hg := hatm k hk
    have hs := uq_succ (r := r) (i := fi) hfl hk
    have hlu := hul k
    generalize r.pts[(fi + k) % r.pts.length]'(Nat.mod_lt _ (by omega)) = q at *
    generalize uq r fi (k + 1) = U1 at *
    generalize uq r fi k = U at *
    obtain ⟨qh, qb⟩ := q
    have cC := acc_frame (i := qb) ha (by decide) (r := .bool (decide (qb ∈ U))) rfl (fun bx => Tryz.containsN_c U qb bx (by omega))
    have hkL : k < L.length := by omega
    have hg2 : L[k] = V.agg [.int .u32 qh, .int .i64 qb] := by
      rw [List.getElem?_eq_getElem hkL] at hg; exact Option.some.inj hg
    simp [go_sem, Tryz.L24_0, hk, hkL, hg2, ha.fin]
    intro b10 hb10
    simp [go_sem, upd_self hb10, ha.cells, ha.strip, ha.live]
    refine callK_pure cC ?_
    simp [go_sem]
    refine ⟨fun hin => ?_, fun hin => ?_⟩
    · rw [if_neg hin] at hs
      refine ⟨ha.fin, ?_⟩
      refine Tryz.appI (es := U.map (.int .i64)) (news := [.int .i64 qb]) ha (Ext.refl _) ha.fin (by simp [go_sem, srcEls]) (by simp; omega) (by omega) ?_
      intro v' bx3 ha3
      simp [go_sem, ha3.cells]
      exact hN _ (v', bx3) (by dsimp only; rw [hs]; simpa using ha3) (cov_look (by simp [go_sem, hw]))
    · rw [if_pos hin] at hs
      exact hN _ (v, bx1) (by dsimp only; rw [hs]; exact ha) (cov_look (by simp [go_sem, hw]))
  · rintro ⟨v, bx1⟩ ha N
    dsimp only at ha ⊢
    simp [go_sem, Tryz.L24_0, ha.cells]
    refine ret_pure (by simp [go_sem]) ⟨v, ?_⟩
    simp [go_sem]
    exact ha.base hxb

/-- What is wrong with what is asked of a key. -/
def ordE (l : List Bk) (r : Rg) (percent skip : Int) : Int :=
  if askB l skip ≠ 0 then askB l skip else if check r ≠ 0 then check r else if (r.names.length ≠ l.length) ∨ percent < 100 ∨ 1000 < percent then 2 else 0
def canI (l : List Bk) (skip : Int) : List Int := (canR l skip).map fun (n : Nat) => (n : Int)
/-- Those of an order that can be chosen. -/
def leftL (l : List Bk) (r : Rg) (key : Bs) (skip : Int) : List Int := (order r key).1.filter fun i => decide (i ∈ canI l skip)
def ordered (l : List Bk) (r : Rg) (key : Bs) (percent skip : Int) : List Int × Int :=
  if ordE l r percent skip ≠ 0 then ([], ordE l r percent skip) else (leftL l r key skip, if (order r key).2 = 0 ∧ leftL l r key skip = [] then 4 else (order r key).2)
theorem order_err {r : Rg} {key : Bs} (h : (order r key).2 ≠ 0) : (order r key).1 = [] := by
  unfold order at h ⊢
  split
  · rfl
  · rename_i hh; rw [if_neg hh] at h; exact absurd rfl h
theorem leftL_err {l : List Bk} {r : Rg} {key : Bs} {skip : Int} (h : (order r key).2 ≠ 0) : leftL l r key skip = [] := by
  unfold leftL; rw [order_err h]; rfl
theorem order_len {r : Rg} {key : Bs} : (order r key).1.length ≤ 32000 := by
  by_cases he : asked r key = 0
  · rw [order_eq he]
    obtain ⟨_, _, _, hpm, _⟩ := asked0 he
    have := uq_len r (first r (sum32 key)) r.pts.length
    dsimp only; omega
  · unfold order; rw [if_pos he]; exact Nat.zero_le _
theorem leftL_len {l : List Bk} {r : Rg} {key : Bs} {skip : Int} : (leftL l r key skip).length ≤ 32000 := Nat.le_trans (List.length_filter_le _ _) order_len
theorem canI_ix (l : List Bk) (skip : Int) : V.sl 1 ((canR l skip).map ixV) = intsV (canI l skip) := by
  simp [intsV, canI, ixV, Function.comp_def]
theorem Tryz.delete_n_c (g : FuncId) (caps : List V) (bx : Boxes) :
    PureCall Tryz.prog 104 [.nils, .fn (.func g) caps] bx .nils := by
  refine Tryz.ctr104 fun hbx => ?_
  simp [go_sem, Tryz.C104, hbx]
  have c0 : PureCall Tryz.prog 68 [.nils, .fn (.func g) caps] bx (.int .i64 (fiI (fun _ => true) [])) :=
    AbsCall.args (Tryz.indexC_c g caps (fun _ => true) [] bx (by decide) (fun x hx => nomatch hx)) rfl fun j c c' h1 h2 => by
      rcases j with _ | _ | j
      · cases h1; cases h2; exact wk_nils _
      · cases h1; cases h2; exact Wk.refl _
      · simp at h1
  refine callK_pure c0 ?_
  simp [go_sem, fiI]
  exact ret_pure (by simp [go_sem]) (by simp [go_sem])
theorem kp_left (l : List Bk) (r : Rg) (key : Bs) (skip : Int) : kp (fun x => !decide (x ∈ canI l skip)) (order r key).1 = leftL l r key skip := by
  simp [kp, leftL]
theorem frz_pre {bx bx' : Boxes} {b sz m : Nat} {ty : TypeId} {es rest : List V} (h : bx b = some (.row ty sz (es ++ rest))) (h' : bx' b = none) (hs : 0 < sz) (hn : m = es.length) : frz bx bx' 1 (.own b sz 0 m) = .sl sz es := by
  subst hn
  simp only [frz, h, h']
  rw [if_pos ⟨trivial, hs, by rw [List.length_append]; omega⟩, List.drop_zero, List.take_left]
  simp [frz]
theorem Tryz.ordered_c (l : List Bk) (r : Rg) (key : Bs) (percent skip : Int) (bx : Boxes) (hm : Mk bx) (hl0 : l.length ≤ 50) (hl : r.wts.length ≤ 9223372036854775807) (hl2 : r.names.length ≤ 9223372036854775807) :
    PureCall Tryz.prog 65 [.sl 5 (l.map bkV), rgV r, .str key, .int .i64 percent, .int .i64 skip] bx (.tup [intsV (ordered l r key percent skip).1, .int .i64 (ordered l r key percent skip).2]) := by
  refine PureCall.wk (Tryz.ctr65 fun hb => ?_)
  have c0 := ask_c l skip bx (by omega)
  have c1 := Tryz.check_c r bx hm hl hl2
  have c2 := outside_c percent 100 1000 bx
  have c3 := Tryz.OrderA_c r key bx hm hl hl2
  simp only [rgV, strsV, intsV, ptsV] at c1 c3 ⊢
  by_cases h0 : askB l skip = 0
  case neg =>
    have hr : ordered l r key percent skip = ([], askB l skip) := by simp [ordered, ordE, h0]
    rw [hr]
    simp [go_sem, Tryz.C65, hb]
    refine callK_pure c0 ?_
    simp [go_sem, h0]
    refine ret_wk0 (by simp [go_sem]) ?_
    simp [go_sem]
    exact wk_tup2 (wk_nils _) (Wk.refl _)
  by_cases h1 : check r = 0
  case neg =>
    have hr : ordered l r key percent skip = ([], check r) := by simp [ordered, ordE, h0, h1]
    rw [hr]
    simp [go_sem, Tryz.C65, hb]
    refine callK_pure c0 ?_
    simp [go_sem, h0]
    refine callK_pure c1 ?_
    simp [go_sem, h1]
    refine ret_wk0 (by simp [go_sem]) ?_
    simp [go_sem]
    exact wk_tup2 (wk_nils _) (Wk.refl _)
  simp [go_sem, Tryz.C65, hb]
  refine callK_pure c0 ?_
  simp [go_sem, h0]
  refine callK_pure c1 ?_
  simp [go_sem, h1]
  by_cases hn : r.names.length = l.length
  case neg =>
    have hr : ordered l r key percent skip = ([], 2) := by simp [ordered, ordE, h0, h1, hn]
    rw [hr]
    have hn' : ¬ ((r.names.length : Int) = l.length) := by omega
    simp only [hn', decide_false]
    refine gK_off (.bool false) (by simp [go_sem]) ?_
    simp [go_sem, hn']
    refine ret_wk0 (by simp [go_sem]) ?_
    simp [go_sem]
    exact wk_tup2 (wk_nils _) (Wk.refl _)
  have hn' : ((r.names.length : Int) = l.length) := by omega
  refine gK_pure c2 (by simp [hn']) (by simp [go_sem, hn']) ?_
  simp [go_sem, hn']
  have c4 := collect_c 109 _ l.length _ (fun k => (canL l skip k).map fun i => Int.ofNat i) bx (candit l skip hl0) (by omega) (by simp [canL]) fun k hk => by
    simp only [canX, List.getElem?_eq_getElem hk, canL_succ l skip k hk]
    refine ⟨fun h => ?_, fun args h => ?_⟩
    · simp at h; simp [h]
    · simp only [Option.ite_none_right_eq_some, Option.some.injEq] at h
      obtain ⟨h1, rfl⟩ := h
      exact ⟨k, rfl, by simp [h1]⟩
  have hci : V.sl 1 (((canL l skip l.length).map fun i => Int.ofNat i).map (.int .i64)) = intsV (canI l skip) := by
    simp [intsV, canI, canR, h0]
  refine ⟨fun hp => ?_, fun hp1 hp2 => ?_⟩
  · have hr : ordered l r key percent skip = ([], 2) := by
      have : r.names.length ≠ l.length ∨ percent < 100 ∨ 1000 < percent := by omega
      simp [ordered, ordE, h0, h1, this]
    rw [hr]
    refine ret_wk0 (by simp [go_sem]) ?_
    simp [go_sem]
    exact wk_tup2 (wk_nils _) (Wk.refl _)
  · have hE : ordE l r percent skip = 0 := by
      have : ¬ (r.names.length ≠ l.length ∨ percent < 100 ∨ 1000 < percent) := by omega
      simp [ordE, h0, h1, this]
    have hr : ordered l r key percent skip = (leftL l r key skip, if (order r key).2 = 0 ∧ leftL l r key skip = [] then 4 else (order r key).2) := by
      simp [ordered, hE]
    rw [hr]
    refine callK_pure (cand_c ..) ?_
    simp [go_sem]
    refine callK_pure c4 ?_
    rw [hci]
    simp [go_sem, intsV]
    refine ⟨hb, fun b1 hb1 => ?_⟩
    rw [upd_self hb1]
    refine callK_abs c3 ?_
    rintro _ bx1 ⟨u, rfl, ha⟩
    have hcl : (canI l skip).length ≤ 1000000 := by
      unfold canI; rw [List.length_map]
      exact Nat.le_trans canR_le (by omega)
    have hol := order_len (r := r) (key := key)
    have hkp := kp_left l r key skip
    have hle := fun h => leftL_err (l := l) (r := r) (key := key) (skip := skip) h
    have hp : ∀ x (bx : Boxes), PureCall Tryz.prog 105 (.int .i64 x :: [(V.sl 1 (List.map (V.int .i64) (canI l skip))).ep 0]) bx (.bool (!decide (x ∈ canI l skip))) := fun x bx => Tryz.out_c (canI l skip) x bx hcl
    generalize leftL l r key skip = LL at *
    rcases ha.is with ⟨h5, rfl⟩ | ⟨b, hb5, rfl, hb6⟩
    · have h6 : (order r key).1 = [] := by simpa using h5
      have h7 : LL = [] := by rw [← hkp, h6]; rfl
      subst h7
      simp [go_sem]
      refine callK_pure (Tryz.delete_n_c _ _ bx1) ?_
      · simp [go_sem]
        refine ⟨fun e1 => ?_, fun e1 => ?_⟩
        · refine ret_wk (by simp [go_sem]) ha.ext ?_
          simp [go_sem, e1]
          exact wk_tup2 (wk_nils _) (Wk.refl _)
        · refine ret_wk (by simp [go_sem]) ha.ext ?_
          simp [go_sem, e1]
          exact wk_tup2 (wk_nils _) (Wk.refl _)
    · rw [List.length_map]
      simp [go_sem]
      refine callK_abs (Tryz.delete_c (by omega) (fun x _ => hp x) (by simpa using hb6) (fun _ => rfl)) ?_
      rintro _ _ ⟨rest, rfl, rfl⟩
      rw [hkp]
      simp [go_sem]
      have hx : Ext bx (upd bx1 b (some (.row 3 1 (LL.map (.int .i64) ++ rest.map (.int .i64))))) := ha.ext.upd_own hb5 _
      have hf : Wk (frz (upd bx1 b (some (.row 3 1 (LL.map (.int .i64) ++ rest.map (.int .i64))))) bx 1 (.own b 1 0 LL.length)) (.sl 1 (LL.map (.int .i64))) := by
        rw [frz_pre (es := LL.map (.int .i64)) (rest := rest.map (.int .i64)) (upd_eq _ _ _) hb5 (by decide) (by simp)]
        exact Wk.refl _
      generalize upd bx1 b (some (.row 3 1 (LL.map (.int .i64) ++ rest.map (.int .i64)))) = bx2 at *
      refine ⟨fun e1 e2 => ?_, fun e1 => ?_⟩
      · rw [if_pos ⟨e1, e2⟩]
        refine ret_frz 2 (by simp [go_sem]) hx ⟨?_, rfl⟩
        simp only [go_sem]
        exact wk_tup2 hf (Wk.refl _)
      · rw [if_neg (fun h => e1 h.1 h.2)]
        refine ret_frz 2 (by simp [go_sem]) hx ⟨?_, rfl⟩
        simp only [go_sem]
        exact wk_tup2 hf (Wk.refl _)
end Go.Proofs.Pol
