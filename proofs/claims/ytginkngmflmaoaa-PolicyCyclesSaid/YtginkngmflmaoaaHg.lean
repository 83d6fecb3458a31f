/- Texts of the proof, put together: Ca, Cb, Cc, Cd, Ce, Cf, Cg, Ch, Ci, Cj, Ck, Cl, Cm, Cn, Co, Cp, Cq, Cr, Cs, Ct, Cu, Cv, Y. -/
import Derived.Test.YtginkngmflmaoaaHf
import Derived.Test.YtginkngmflmaoaaHc
import Derived.Test.YtginkngmflmaoaaRows
import Derived.Test.YtginkngmflmaoaaHd
import Derived.WalkKit
import Derived.ProofKit

set_option linter.unusedSimpArgs false
namespace Go.Proofs
open Go Go.Pl
structure Bk where
  wt : Int
  ac : Int
  cu : Int
  up : Bool
  op : Bool
  deriving DecidableEq
def bkV (x : Bk) : V := .agg [.int .i64 x.wt, .int .i64 x.ac, .int .i64 x.cu, .bool x.up, .bool x.op]

theorem outside_c (n lo hi : Int) (bx : Boxes) : PureCall Try.prog 34 [.int .i64 n, .int .i64 lo, .int .i64 hi] bx (.bool (decide (n < lo) || decide (hi < n))) := by
  refine Try.ctr34 fun hb => ?_
  simp [go_sem, Try.C34]
  refine ret_pure ?_ ?_ <;> simp [go_sem]

theorem lighter_c (x y : Bk) (bx : Boxes) : PureCall Try.prog 32 [bkV x, bkV y] bx (.bool (decide (IntKind.i64.wrap (x.ac * y.wt) < IntKind.i64.wrap (y.ac * x.wt)))) := by
  refine Try.ctr32 fun hb => ?_
  simp [go_sem, Try.C32, bkV, hb]
  refine ret_pure ?_ ?_ <;> simp [go_sem]

theorem Lighter_c (x y : Bk) (bx : Boxes) : PureCall Try.prog 25 [bkV x, bkV y] bx (.bool (decide (IntKind.i64.wrap (x.ac * y.wt) < IntKind.i64.wrap (y.ac * x.wt)))) := by
  refine Try.ctr25 fun hb => ?_
  simp [go_sem, Try.C25, bkV, hb]
  refine ret_pure ?_ ?_ <;> simp [go_sem]

def badB (x : Bk) : Bool := (decide (x.wt < 0) || decide (100 < x.wt)) || (decide (x.ac < 0) || decide (10000 < x.ac)) || (decide (x.cu < -1000000) || decide (1000000 < x.cu))

theorem bad_c (x : Bk) (bx : Boxes) : PureCall Try.prog 35 [bkV x] bx (.bool (badB x)) := by
  refine Try.ctr35 fun hb => ?_
  simp [go_sem, Try.C35, bkV, hb]
  refine callK_pure (outside_c ..) ?_
  simp [go_sem]
  refine gK_pure (outside_c ..) (by simp) (by simp [go_sem]) ?_
  simp [go_sem]
  refine gK_pure (outside_c ..) (by simp) (by simp [go_sem]) ?_
  simp [go_sem]
  refine ret_pure ?_ ?_ <;> simp [go_sem, badB]

def canP (x : Bk) (skip : Int) (i : Nat) : Bool := x.up && (!x.op && (decide (0 < x.wt) && decide ((skip.fdiv (2 ^ i)).tmod 2 = 0)))
def canL (l : List Bk) (skip : Int) (k : Nat) : List Nat := (List.range k).filter fun i => match l[i]? with | some x => canP x skip i | none => false
theorem canL_le (l : List Bk) (skip : Int) (k : Nat) : (canL l skip k).length ≤ k := by
  simpa [canL] using List.length_filter_le _ (List.range k)
def ixV (i : Nat) : V := .int .i64 i

set_option maxHeartbeats 1000000 in
theorem refcan_c (l : List Bk) (skip : Int) (bx : Boxes) (hl : l.length ≤ 50) : PureCall Try.prog 31 [.sl 5 (l.map bkV), .int .i64 skip] bx (.sl 1 ((canL l skip l.length).map ixV)) := by
  refine AbsCall.weak (Kc := fun r bx' => ((r = .nils ∧ (canL l skip l.length).map ixV = []) ∨ r = .sl 1 ((canL l skip l.length).map ixV)) ∧ bx' = bx) (Try.ctr31 fun hb => ?_) ?_
  · simp [go_sem, Try.C31]
    refine pw_loop (ι := Nat × V × Boxes) (fun p => p.1 ≤ l.length ∧ Acc bx 3 1 ((canL l skip p.1).map ixV) p.2.1 p.2.2)
      (fun p => ⟨46, slk [(0, V.sl 5 (List.map bkV l)), (1, V.int IntKind.i64 skip), (5, p.2.1), (6, .int .i64 p.1)], p.2.2⟩) (fun p => l.length - p.1) (0, .nils, bx) ⟨by simp, acc_nil hb _ _⟩ (cov_look (by simp [go_sem])) ?_
    rintro ⟨k, v, bx1⟩ ⟨hk, ha⟩
    dsimp only at hk ha ⊢
    by_cases hlt : k < l.length
    · have hw : IntKind.i64.wrap ((k : Int) + 1) = ((k + 1 : Nat) : Int) := by rw [wr64 (by omega)]; omega
      have hmin : min k 64 = k := by omega
      have hg : l[k]? = some l[k] := List.getElem?_eq_getElem hlt
      simp [go_sem, Try.L31_0, hlt, bkV, hb, hw, hmin, ha.fin]
      refine ⟨fun h1 h2 h3 h4 b hb1 => ?_, fun hno => ?_⟩
      · refine acc_append (es := (canL l skip k).map ixV) (news := [.int .i64 k]) (e := 3) (sz := 1) (bx1 := bx1) (bx := bx) (.int .i64 0) ha ((Ext.refl _).new hb1 _) ((finB_upd _ _ _).2 ha.fin) Try.knd26 Try.tsz3 (by simp [srcEls, upd]) Try.tzero3 (by simp [go_sem]) (by omega) ?_ ?_ (by simp [go_sem]) ?_
        · have := canL_le l skip k
          simp [Try.tby3]; omega
        · have := canL_le l skip k
          simp; omega
        · intro v' bx3 ha'
          simp [go_sem, hw]
          refine ⟨(k + 1, v', bx3), ⟨by simp; omega, ?_⟩, cov_look (by simp [go_sem]), by simp; omega⟩
          have : canL l skip (k + 1) = canL l skip k ++ [k] := by simp [canL, List.range_succ, hg, canP, h1, h2, h3, h4]
          simpa [this, ixV] using ha'
      · refine ⟨(k + 1, v, bx1), ⟨by simp; omega, ?_⟩, cov_look (by simp [go_sem, hw]), by simp; omega⟩
        have : canL l skip (k + 1) = canL l skip k := by
          simp [canL, List.range_succ, hg, canP]
          intro h1 h2 h3; exact hno h1 h2 h3
        simpa [this] using ha
    · have hk' : k = l.length := by omega
      subst hk'
      simp [go_sem, Try.L31_0]
      refine ret_acc (e := 3) (sz := 1) (es := (canL l skip l.length).map ixV) (by simp [go_sem]) (by simpa [go_sem] using ha) (by omega) ?_
      rintro r (⟨h1, h2⟩ | h1)
      · simp only [List.map_eq_nil_iff] at h2
        exact ⟨.inl ⟨h1, h2⟩, rfl⟩
      · exact ⟨.inr h1, rfl⟩
  · rintro r bx' ⟨h | h, rfl⟩
    · simp [h.1, h.2, wk_nils]
    · simp [h, Wk.refl]


/-- IndexFunc -/
theorem index_c (g : FuncId) (caps : List V) (p : Bk → Bool) (l : List Bk) (bx : Boxes) (hl : l.length ≤ 1000) (hp : ∀ x, x ∈ l → ∀ bx, PureCall Try.prog g (bkV x :: caps) bx (.bool (p x))) :
    PureCall Try.prog 44 [.sl 5 (l.map bkV), .fn (.func g) caps] bx (.int .i64 (match l.findIdx? p with | some i => (i : Int) | none => -1)) := by
  refine Try.ctr44 fun hb => ?_
  simp [go_sem, Try.C44, hb]
  refine pw_loop (ι := Nat) (fun k => k ≤ l.length ∧ ∀ j, j < k → ∀ x, l[j]? = some x → p x = false) (fun k => ⟨19, slk [(0, V.sl 5 (List.map bkV l)), (1, V.fn (.func g) caps), (7, .int .i64 l.length), (8, .int .i64 k)], bx⟩) (fun k => l.length - k) 0 ⟨by omega, fun j h => by omega⟩ (cov_look (by simp [go_sem])) ?_
  rintro k ⟨hk, hpre⟩
  by_cases hlt : k < l.length
  · have hw : IntKind.i64.wrap ((k : Int) + 1) = ((k + 1 : Nat) : Int) := by rw [wr64 (by omega)]; omega
    have hmem : l[k] ∈ l := List.getElem_mem hlt
    simp [go_sem, Try.L44_0, hlt, bkV, hb]
    refine callK_pure (hp _ hmem bx) ?_
    simp [go_sem]
    refine ⟨fun h => ?_, fun h => ?_⟩
    · refine ret_pure (by simp [go_sem]) ?_
      have : l.findIdx? p = some k := by
        rw [List.findIdx?_eq_some_iff_getElem]
        exact ⟨hlt, h, fun j hj => by have := hpre j hj l[j] (List.getElem?_eq_getElem (by omega)); simp [this]⟩
      simp [go_sem, this]
    · refine ⟨k + 1, ⟨by omega, fun j hj x hx => ?_⟩, cov_look (by simp [go_sem, hw]), by dsimp only; omega⟩
      by_cases e : j = k
      · subst e; rw [List.getElem?_eq_getElem hlt] at hx; injection hx with hx; rw [← hx]; exact h
      · exact hpre j (by omega) x hx
  · have hk' : k = l.length := by omega
    subst hk'
    simp [go_sem, Try.L44_0]
    refine ret_pure (by simp [go_sem]) ?_
    have : l.findIdx? p = none := by
      rw [List.findIdx?_eq_none_iff]
      intro x hx
      obtain ⟨j, hj, rfl⟩ := List.getElem_of_mem hx
      exact hpre j hj _ (List.getElem?_eq_getElem hj)
    simp [go_sem, this]
end Go.Proofs

set_option linter.unusedSimpArgs false
namespace Go.Proofs
open Go Go.Pl
theorem contains_c (g : FuncId) (caps : List V) (p : Bk → Bool) (l : List Bk) (bx : Boxes) (hl : l.length ≤ 1000) (hp : ∀ x, x ∈ l → ∀ bx, PureCall Try.prog g (bkV x :: caps) bx (.bool (p x))) :
    PureCall Try.prog 36 [.sl 5 (l.map bkV), .fn (.func g) caps] bx (.bool (l.any p)) := by
  refine Try.ctr36 fun hb => ?_
  simp [go_sem, Try.C36, hb]
  refine callK_pure (index_c g caps p l bx hl hp) ?_
  simp [go_sem]
  refine ret_pure (by simp [go_sem]) ?_
  simp [go_sem]
  cases h : l.findIdx? p with
  | none =>
    rw [List.findIdx?_eq_none_iff] at h
    simp
    exact h
  | some i =>
    rw [List.findIdx?_eq_some_iff_getElem] at h
    obtain ⟨h1, h2, _⟩ := h
    simp
    exact ⟨_, List.getElem_mem h1, h2⟩
def checkB (l : List Bk) : Int := if l.length < 1 ∨ 16 < l.length then 3 else if l.any badB then 7 else 0
theorem check_c (l : List Bk) (bx : Boxes) (hl : l.length ≤ 1000) : PureCall Try.prog 13 [.sl 5 (l.map bkV)] bx (.int .i64 (checkB l)) := by
  refine Try.ctr13 fun hb => ?_
  simp [go_sem, Try.C13, hb]
  refine callK_pure (outside_c ..) ?_
  simp [go_sem]
  refine ⟨fun h => ret_pure (by simp [go_sem]) ?_, fun h1 h2 => callK_pure (contains_c 35 [] badB l bx hl (fun x _ bx => bad_c x bx)) ?_⟩
  · have : l.length < 1 ∨ 16 < l.length := by omega
    have hc : checkB l = 3 := if_pos this
    simp [go_sem, hc]
  · have : ¬ (l.length < 1 ∨ 16 < l.length) := by omega
    simp [go_sem]
    refine ⟨fun x hx hb => ret_pure (by simp [go_sem]) ?_, fun h => ret_pure (by simp [go_sem]) ?_⟩
    · have h3 : l.any badB = true := List.any_eq_true.2 ⟨x, hx, hb⟩
      have hc : checkB l = 7 := by unfold checkB; rw [if_neg this, if_pos h3]
      simp [go_sem, hc]
    · have h3 : l.any badB = false := by simpa using h
      have hc : checkB l = 0 := by unfold checkB; rw [if_neg this, if_neg (by simp [h3])]
      simp [go_sem, hc]
end Go.Proofs

set_option linter.unusedSimpArgs false
namespace Go.Proofs
open Go Go.Pl
def askB (l : List Bk) (skip : Int) : Int := if checkB l = 0 then (if skip < 0 ∨ 65535 < skip then 2 else 0) else checkB l
theorem ask_c (l : List Bk) (skip : Int) (bx : Boxes) (hl : l.length ≤ 1000) : PureCall Try.prog 27 [.sl 5 (l.map bkV), .int .i64 skip] bx (.int .i64 (askB l skip)) := by
  refine Try.ctr27 fun hb => ?_
  simp [go_sem, Try.C27, hb]
  refine callK_pure (check_c l bx hl) ?_
  simp [go_sem]
  refine ⟨fun h => ret_pure (by simp [go_sem]) ?_, fun h => callK_pure (outside_c ..) ?_⟩
  · simp [go_sem, askB, h]
  · simp [go_sem]
    refine ⟨fun h1 => ret_pure (by simp [go_sem]) ?_, fun h1 h2 => ret_pure (by simp [go_sem]) ?_⟩
    · simp [go_sem, askB, h, h1]
    · have : ¬ (skip < 0 ∨ 65535 < skip) := by omega
      simp [go_sem, askB, h, this]
set_option maxHeartbeats 1000000 in
theorem rcheck_c (l : List Bk) (bx : Boxes) (hl : l.length ≤ 1000) : PureCall Try.prog 14 [.sl 5 (l.map bkV)] bx (.int .i64 (checkB l)) := by
  refine Try.ctr14 fun hb => ?_
  simp [go_sem, Try.C14, hb]
  refine ⟨fun h => ret_pure (by simp [go_sem]) ?_, fun h1 h2 => ?_⟩
  · have hc : checkB l = 3 := if_pos (by omega)
    simp [go_sem, hc]
  · have hn : ¬ (l.length < 1 ∨ 16 < l.length) := by omega
    refine pw_loop (ι := Nat) (fun k => k ≤ l.length ∧ ∀ j, j < k → ∀ x, l[j]? = some x → badB x = false) (fun k => ⟨51, slk [(0, V.sl 5 (List.map bkV l)), (3, .int .i64 k)], bx⟩) (fun k => l.length - k) 0 ⟨by omega, fun j h => by omega⟩ (cov_look (by simp [go_sem])) ?_
    rintro k ⟨hk, hpre⟩
    by_cases hlt : k < l.length
    · have hw : IntKind.i64.wrap ((k : Int) + 1) = ((k + 1 : Nat) : Int) := by rw [wr64 (by omega)]; omega
      have hmem : l[k] ∈ l := List.getElem_mem hlt
      simp [go_sem, Try.L14_0, hlt, bkV, hb]
      intro b hb1
      rw [upd_self hb1]
      refine ⟨fun h => ret_pure (by simp [go_sem]) ?_, fun g1 g2 g3 g4 g5 g6 => ⟨k + 1, ⟨by omega, fun j hj x hx => ?_⟩, cov_look (by simp [go_sem, hw]), by dsimp only; omega⟩⟩
      · have h3 : l.any badB = true := List.any_eq_true.2 ⟨_, hmem, by simp [badB]; omega⟩
        have hc : checkB l = 7 := by unfold checkB; rw [if_neg hn, if_pos h3]
        simp [go_sem, hc]
      · by_cases e : j = k
        · subst e; rw [List.getElem?_eq_getElem hlt] at hx; injection hx with hx; rw [← hx]; simp [badB]; omega
        · exact hpre j (by omega) x hx
    · have hk' : k = l.length := by omega
      subst hk'
      simp [go_sem, Try.L14_0]
      refine ret_pure (by simp [go_sem]) ?_
      have h3 : l.any badB = false := by
        rw [List.any_eq_false]
        intro x hx
        obtain ⟨j, hj, rfl⟩ := List.getElem_of_mem hx
        simp [hpre j hj _ (List.getElem?_eq_getElem hj)]
      have hc : checkB l = 0 := by unfold checkB; rw [if_neg hn, if_neg (by simp [h3])]
      simp [go_sem, hc]
end Go.Proofs

set_option linter.unusedVariables false
set_option linter.unusedSimpArgs false
namespace Go.Proofs
open Go Go.Pl
theorem candit_c (l : List Bk) (skip : Int) (b : Nat) (J : Nat → Boxes → Prop) (S : Boxes → Prop) (hl : l.length ≤ 50)
    (hf : ∀ k bx, J k bx → FinB bx) (hy : ∀ k bx x, l[k]? = some x → J k bx → (canP x skip k = true → AbsYield Try.prog b [.int .i64 k] bx fun r bx' => (r = .bool true ∧ J (k + 1) bx') ∨ (r = .bool false ∧ S bx')) ∧ (canP x skip k = false → J (k + 1) bx))
    {bx : Boxes} (h0 : J 0 bx) : AbsCall Try.prog 43 [.yl b, .ep (.sl 5 (l.map bkV)) 0, .ep (.int .i64 skip) 0] bx fun _ bx' => J l.length bx' ∨ S bx' := by
  refine Try.ctr43 fun hb => ?_
  simp [go_sem, Try.C43, hb]
  refine pw_loop (ι := Nat × Boxes) (fun p => p.1 ≤ l.length ∧ J p.1 p.2) (fun p => ⟨39, slk [(0, .yl b), (2, .ep (.int .i64 skip) 0), (6, .sl 5 (l.map bkV)), (7, .int .i64 l.length), (8, .int .i64 p.1)], p.2⟩) (fun p => l.length - p.1) (0, bx) ⟨by simp, h0⟩ (cov_look (by simp [go_sem])) ?_
  rintro ⟨k, bx1⟩ ⟨hk, hJ⟩
  dsimp only at hk hJ ⊢
  by_cases hlt : k < l.length
  · have hw : IntKind.i64.wrap ((k : Int) + 1) = ((k + 1 : Nat) : Int) := by rw [wr64 (by omega)]; omega
    have hg : l[k]? = some l[k] := List.getElem?_eq_getElem hlt
    have hmin : min k 64 = k := by omega
    have := hy k bx1 _ hg hJ
    simp [go_sem, Try.L43_0, hlt, bkV, hf _ _ hJ, hmin]
    intro b1 hb1
    rw [upd_self hb1]
    have hbit : bits .and .i64 (skip.fdiv (2 ^ k)) 1 = (skip.fdiv (2 ^ k)) % 2 := by simpa using bits_and_mask .i64 1 (by decide) (skip.fdiv (2 ^ k)) 1 (by decide)
    have hc : (l[k].up && !l[k].op && decide (0 < l[k].wt) && decide (bits BinOp.and IntKind.i64 (skip.fdiv (2 ^ k)) 1 = 0)) = canP l[k] skip k := by
      have : decide ((skip.fdiv (2 ^ k)) % 2 = 0) = decide ((skip.fdiv (2 ^ k)).tmod 2 = 0) := by
        simp [tmod2]
      simp [canP, hbit, this, Bool.and_assoc]
    simp only [hc]
    refine ⟨fun hcp => ⟨?_, by simp [go_sem], ?_⟩, fun hcp => ?_⟩
    · simpa [canP, Bool.and_assoc, hbit, and_assoc, tmod2] using hcp
    · refine yldK_abs (this.1 hcp) ?_
      rintro r bx' (⟨rfl, h⟩ | ⟨rfl, h⟩)
      · simp [go_sem, hcp, hw]
        exact ⟨(k + 1, bx'), ⟨by simp; omega, h⟩, cov_look (by simp [go_sem]), by dsimp only; omega⟩
      · simp [go_sem, hcp]
        exact ret_pure (by simp [go_sem]) (.inr h)
    · simp [go_sem, hcp, hw]
      exact ⟨(k + 1, bx1), ⟨by simp; omega, this.2 hcp⟩, cov_look (by simp [go_sem]), by dsimp only; omega⟩
  · have hk' : k = l.length := by omega
    subst hk'
    simp [go_sem, Try.L43_0]
    exact ret_pure (by simp [go_sem]) (.inl hJ)

def canX (l : List Bk) (skip : Int) (k : Nat) : Option (List V) := match l[k]? with
  | some x => if canP x skip k then some [.int .i64 k] else none
  | none => none
theorem candit (l : List Bk) (skip : Int) (hl : l.length ≤ 50) : Iter Try.prog 43 [.ep (.sl 5 (l.map bkV)) 0, .ep (.int .i64 skip) 0] l.length (canX l skip) := by
  intro b J S hf hy bx h0
  refine candit_c l skip b J S hl hf (fun k bx x hx hJ => ?_) h0
  obtain ⟨h1, h2⟩ := hy k bx (List.getElem?_eq_some_iff.1 hx).1 hJ
  simp only [canX, hx] at h1 h2
  exact ⟨fun hc => h1 _ (by simp [hc]), fun hc => h2 (by simp [hc])⟩
end Go.Proofs

set_option linter.unusedSimpArgs false
set_option linter.unusedVariables false
namespace Go.Proofs
open Go Go.Pl
theorem cand_c (l : List Bk) (skip : Int) (bx : Boxes) : PureCall Try.prog 29 [.sl 5 (l.map bkV), .int .i64 skip] bx (.fn (.func 43) [.ep (.sl 5 (l.map bkV)) 0, .ep (.int .i64 skip) 0]) := by
  refine Try.ctr29 fun hb => ?_
  simp [go_sem, Try.C29, hb]
  refine ret_pure (by simp [go_sem]) ?_
  simp [go_sem]

theorem canX_len (l : List Bk) (skip : Int) (m : Nat) (hm : m = 1) : ∀ k args, canX l skip k = some args → args.length = m := by
  subst hm
  intro k args ha
  simp only [canX] at ha
  split at ha
  · split at ha
    · injection ha with ha; subst ha; rfl
    · cases ha
  · cases ha
def bk0 : Bk := ⟨0, 0, 0, false, false⟩
def bk (l : List Bk) (i : Nat) : Bk := l.getD i bk0
def ltB (x y : Bk) : Bool := decide (IntKind.i64.wrap (x.ac * y.wt) < IntKind.i64.wrap (y.ac * x.wt))
def bestO (l : List Bk) (c : List Nat) : Option Nat := c.foldl (fun o i => match o with | none => some i | some j => if ltB (bk l i) (bk l j) then some i else some j) none
def oI : Option Nat → Int
  | none => -1
  | some j => j
theorem canL_succ (l : List Bk) (skip : Int) (k : Nat) (h : k < l.length) : canL l skip (k + 1) = if canP l[k] skip k then canL l skip k ++ [k] else canL l skip k := by
  simp [canL, List.range_succ, List.getElem?_eq_getElem h]
  split <;> simp [*]
theorem canL_lt (l : List Bk) (skip : Int) (k : Nat) : ∀ i, i ∈ canL l skip k → i < k ∧ i < l.length := by
  intro i hi
  simp [canL] at hi
  refine ⟨hi.1, ?_⟩
  by_cases h : i < l.length
  · exact h
  · rw [List.getElem?_eq_none (by omega)] at hi; simp at hi
theorem bestO_mem (l : List Bk) (c : List Nat) (j : Nat) (h : bestO l c = some j) : j ∈ c := by
  unfold bestO at h
  have : ∀ (c : List Nat) (o : Option Nat), (c.foldl (fun o i => match o with | none => some i | some j => if ltB (bk l i) (bk l j) then some i else some j) o) = some j → j ∈ c ∨ o = some j := by
    intro c
    induction c with
    | nil => intro o h; exact .inr h
    | cons i c ih =>
      intro o h
      rw [List.foldl_cons] at h
      rcases ih _ h with h1 | h1
      · exact .inl (by simp [h1])
      · cases o with
        | none => simp at h1; exact .inl (by simp [h1])
        | some q =>
          dsimp only at h1
          split at h1
          · injection h1 with h1; exact .inl (by simp [h1])
          · exact .inr h1
  rcases this c none h with h1 | h1
  · exact h1
  · cases h1

theorem bestO_snoc (l : List Bk) (c : List Nat) (k : Nat) : bestO l (c ++ [k]) = match bestO l c with | none => some k | some j => if ltB (bk l k) (bk l j) then some k else some j := by
  simp [bestO]
theorem bk_get {l : List Bk} {k : Nat} (h : k < l.length) : bk l k = l[k] := by simp [bk, h]
def least (l : List Bk) (skip : Int) : Int × Int :=
  if askB l skip = 0 then (match bestO l (canL l skip l.length) with | none => (0, 4) | some j => (j, 0)) else (0, askB l skip)

theorem least_c (l : List Bk) (skip : Int) (bx : Boxes) (hl : l.length ≤ 50) : PureCall Try.prog 11 [.sl 5 (l.map bkV), .int .i64 skip] bx (.tup [.int .i64 (least l skip).1, .int .i64 (least l skip).2]) := by
  refine Try.ctr11 fun hb => ?_
  simp [go_sem, Try.C11, hb]
  refine callK_pure (ask_c l skip bx (by omega)) ?_
  simp [go_sem]
  refine ⟨fun h => ret_pure (by simp [go_sem]) ?_, fun h => ⟨hb, fun b7 hb7 => callK_pure (cand_c ..) ?_⟩⟩
  · simp [go_sem, least, h]
  · simp [go_sem]
    refine pw_iter (by kernel_rfl) (candit l skip hl) (fun k bx' => bx' = upd bx b7 (some (.row 3 1 [.int .i64 (oI (bestO l (canL l skip k)))]))) (by simp [go_sem]) (by simp [bestO, canL, oI]) (by rintro k _ rfl; simp [finB_upd, hb]) (fun k args _ => canX_len l skip 1 rfl k args) (by simp) (by rfl) (by rfl) ?_ ?_
    · rintro k _ hk rfl
      refine ⟨fun hn => ?_, fun args ha => ?_⟩
      · rw [canL_succ l skip k hk]
        simp [canX, List.getElem?_eq_getElem hk] at hn
        simp [hn]
      simp only [canX, List.getElem?_eq_getElem hk, Option.ite_none_right_eq_some, Option.some.injEq] at ha
      obtain ⟨hc, rfl⟩ := ha
      intro K k1 k2
      simp [go_sem, Try.L11_0a, setPs, upd_look]
      rw [canL_succ l skip k hk, hc] at k1
      cases hb : bestO l (canL l skip k) with
      | none =>
        simp [go_sem, Try.L11_0b, hk, oI, bkV]
        refine gK_off .unk (by simp [go_sem]) ?_
        simp [go_sem]
        exact k1 _ (by simp [go_sem, bestO_snoc, hb, oI])
      | some j =>
        have hj := canL_lt _ _ _ _ (bestO_mem _ _ _ hb)
        simp [go_sem, Try.L11_0b, hk, oI, hj, bkV]
        refine gK_pure (lighter_c l[k] l[j] _) (by simp) (by simp [go_sem]) ?_
        simp [go_sem]
        have hbs := bestO_snoc l (canL l skip k) k
        simp only [hb, ltB, bk_get hk, bk_get hj.2] at hbs
        refine ⟨fun h => k1 _ ?_, fun h => k1 _ ?_⟩
        · simp [go_sem, hbs, h, oI]
        · simp [go_sem, hbs, Int.not_lt.2 h, oI]
    · simp [go_sem]

      cases hb : bestO l (canL l skip l.length) with
      | none =>
        simp [go_sem, oI]
        refine ret_drop (by simp [go_sem]) ((Ext.refl _).new hb7 _) ?_
        simp [go_sem, least, h, hb]
      | some j =>
        simp [go_sem, oI]
        refine ret_drop (by simp [go_sem]) ((Ext.refl _).new hb7 _) ?_
        simp [go_sem, least, h, hb]
end Go.Proofs

set_option linter.unusedSimpArgs false
set_option linter.unusedVariables false
namespace Go.Proofs
open Go Go.Pl
theorem asked_c (l : List Bk) (skip : Int) (bx : Boxes) (hl : l.length ≤ 1000) : PureCall Try.prog 30 [.sl 5 (l.map bkV), .int .i64 skip] bx (.int .i64 (askB l skip)) := by
  refine Try.ctr30 fun hb => ?_
  simp [go_sem, Try.C30, hb]
  refine callK_pure (rcheck_c l bx hl) ?_
  by_cases h1 : checkB l = 0
  · simp [go_sem, h1]
    refine ⟨fun h2 => ret_pure (by simp [go_sem]) ?_, fun h2 h3 => ret_pure (by simp [go_sem]) ?_⟩
    · simp [go_sem, askB, h1, h2]
    · have : ¬ (skip < 0 ∨ 65535 < skip) := by omega
      simp [go_sem, askB, h1, this]
  · simp [go_sem, h1]
    refine ret_pure (by simp [go_sem]) ?_
    simp [go_sem, askB, h1]
def canR (l : List Bk) (skip : Int) : List Nat := if askB l skip = 0 then canL l skip l.length else []
theorem refCan_c (l : List Bk) (skip : Int) (bx : Boxes) (hl : l.length ≤ 50) : PureCall Try.prog 10 [.sl 5 (l.map bkV), .int .i64 skip] bx (.tup [.sl 1 ((canR l skip).map ixV), .int .i64 (askB l skip)]) := by
  refine PureCall.wk (Try.ctr10 fun hb => ?_)
  simp [go_sem, Try.C10, hb]
  refine callK_pure (asked_c l skip bx (by omega)) ?_
  simp [go_sem]
  refine ⟨fun h => ret_wk0 (by simp [go_sem]) ?_, fun h => callK_pure (refcan_c l skip bx hl) ?_⟩
  · simp [go_sem, canR, h]; exact wk_tup2 (wk_nils _) (Wk.refl _)
  · simp [go_sem]
    refine ret_wk0 (by simp [go_sem]) ?_
    simp [go_sem, canR, h]; exact Wk.refl _
def someE (l : List Bk) (skip : Int) : Int := if askB l skip = 0 then (if canL l skip l.length = [] then 4 else 0) else askB l skip
theorem some_c (l : List Bk) (skip : Int) (bx : Boxes) (hl : l.length ≤ 50) : PureCall Try.prog 33 [.sl 5 (l.map bkV), .int .i64 skip] bx (.tup [.sl 1 ((canR l skip).map ixV), .int .i64 (someE l skip)]) := by
  refine Try.ctr33 fun hb => ?_
  simp [go_sem, Try.C33, hb]
  refine callK_pure (refCan_c l skip bx hl) ?_
  simp [go_sem]
  refine ⟨fun h1 h2 => ret_pure (by simp [go_sem]) ?_, fun h1 => ret_pure (by simp [go_sem]) ?_⟩
  · have h2' : canL l skip l.length = [] := by simpa [canR, h1] using h2
    simp [go_sem, someE, h1, h2, h2']
  · by_cases h : askB l skip = 0
    · have : ¬ canL l skip l.length = [] := by simpa [canR, h] using h1 h
      simp [go_sem, someE, h, this]
    · simp [go_sem, someE, h]
theorem appendseq_c (gf : FuncId) (caps : List V) (n : Nat) (xs : Nat → Option (List V)) (ys : Nat → List Int) (bx : Boxes) (it : Iter Try.prog gf caps n xs) (hn : n ≤ 100000)
    (h0 : ys 0 = []) (hy : ∀ k, k < n → (xs k = none → ys (k + 1) = ys k) ∧ ∀ args, xs k = some args → ∃ y, args = [.int .i64 y] ∧ ys (k + 1) = ys k ++ [y]) :
    PureCall Try.prog 42 [.nils, .fn (.func gf) caps] bx (.sl 1 ((ys n).map (.int .i64))) := by
  have hlen : ∀ k, k ≤ n → (ys k).length ≤ k := by
    intro k
    induction k with
    | zero => intro _; simp [h0]
    | succ k ih =>
      intro hk
      have := ih (by omega)
      cases hx : xs k with
      | none => rw [(hy k (by omega)).1 hx]; omega
      | some args => obtain ⟨y, _, e⟩ := (hy k (by omega)).2 args hx; rw [e]; simp; omega
  refine PureCall.wk (Try.ctr42 fun hb => ?_)
  simp [go_sem, Try.C42, hb]
  intro b2 hb2
  refine pw_iter (by kernel_rfl) it (fun k bx' => ∃ v, Acc (upd bx b2 (some (.row 26 1 [v]))) 3 1 ((ys k).map (.int .i64)) v bx') (by simp [go_sem]) ?_ ?_ ?_ (by simp) (by rfl) (by rfl) ?_ ?_
  · exact ⟨.nils, by rw [h0]; exact acc_nil (by simp [finB_upd, hb]) _ _⟩
  · rintro k _ ⟨v, ha⟩; exact ha.fin
  · intro k args hk ha
    obtain ⟨y, rfl, _⟩ := (hy k hk).2 args ha; rfl
  · rintro k bx1 hk ⟨v, ha⟩
    refine ⟨fun hx => ⟨v, by rw [(hy k hk).1 hx]; exact ha⟩, fun args hx K k1 k2 => ?_⟩
    obtain ⟨y, rfl, hys⟩ := (hy k hk).2 args hx
    have hl := hlen k (by omega)
    simp [go_sem, Try.L42_0a, setPs, upd_look]
    simp [go_sem, Try.L42_0b, ha.cells, ha.fin, ha.at]
    intro b hb1
    refine acc_append (es := (ys k).map (.int .i64)) (news := [.int .i64 y]) (e := 3) (sz := 1) (.int .i64 0) ha ((Ext.refl _).new hb1 _) (by simp [finB_upd, ha.fin]) Try.knd26 Try.tsz3 (by simp [go_sem, srcEls]) Try.tzero3 (by simp [go_sem]) (by omega) (by simp [Try.tby3]; omega) (by simp; omega) (by simp [go_sem]) ?_
    intro v' bx3 ha'
    simp [go_sem, ha'.at, ha.cells, ha'.cells, ha.setC, ha'.okV]
    exact k1 _ ⟨v', by rw [hys]; simpa using ha'.put _⟩
  · rintro bx1 ⟨v, ha⟩
    simp [go_sem, ha.cells, ha.at]
    refine ret_accw (e := 3) (by simp [go_sem]) ?_ (by omega)
    simpa [go_sem] using ha.base ((Ext.refl _).new hb2 _)
theorem collect_c (gf : FuncId) (caps : List V) (n : Nat) (xs : Nat → Option (List V)) (ys : Nat → List Int) (bx : Boxes) (it : Iter Try.prog gf caps n xs) (hn : n ≤ 100000)
    (h0 : ys 0 = []) (hy : ∀ k, k < n → (xs k = none → ys (k + 1) = ys k) ∧ ∀ args, xs k = some args → ∃ y, args = [.int .i64 y] ∧ ys (k + 1) = ys k ++ [y]) :
    PureCall Try.prog 28 [.fn (.func gf) caps] bx (.sl 1 ((ys n).map (.int .i64))) := by
  refine Try.ctr28 fun hb => ?_
  simp [go_sem, Try.C28, hb]
  refine callK_pure (appendseq_c gf caps n xs ys bx it hn h0 hy) ?_
  simp [go_sem]
  refine ret_pure (by simp [go_sem]) ?_
  simp [go_sem]
theorem can_c (l : List Bk) (skip : Int) (bx : Boxes) (hl : l.length ≤ 50) : PureCall Try.prog 9 [.sl 5 (l.map bkV), .int .i64 skip] bx (.tup [.sl 1 ((canR l skip).map ixV), .int .i64 (askB l skip)]) := by
  refine PureCall.wk (Try.ctr9 fun hb => ?_)
  simp [go_sem, Try.C9, hb]
  refine callK_pure (ask_c l skip bx (by omega)) ?_
  simp [go_sem]
  refine ⟨fun h => ret_wk0 (by simp [go_sem]) ?_, fun h => callK_pure (cand_c ..) ?_⟩
  · simp [go_sem, canR, h]; exact wk_tup2 (wk_nils _) (Wk.refl _)
  · simp [go_sem]
    refine callK_pure (collect_c 43 _ l.length _ (fun k => (canL l skip k).map fun i => Int.ofNat i) bx (candit l skip hl) (by omega) (by simp [canL]) fun k hk => ?_) ?_
    · simp only [canX, List.getElem?_eq_getElem hk, canL_succ l skip k hk]
      refine ⟨fun h => ?_, fun args h => ?_⟩
      · simp at h; simp [h]
      · simp only [Option.ite_none_right_eq_some, Option.some.injEq] at h
        obtain ⟨h1, rfl⟩ := h
        exact ⟨k, rfl, by simp [h1]⟩
    · simp [go_sem]
      refine ret_wk0 (by simp [go_sem]) ?_
      simp [go_sem, canR, h]
      exact Wk.refl _
end Go.Proofs

set_option linter.unusedSimpArgs false
set_option linter.unusedVariables false
namespace Go.Proofs
open Go Go.Pl
def iV (i : Int) : V := .int .i64 i
theorem ints_c (a b : List Int) (bx : Boxes) (ha : a.length ≤ 1000000) : PureCall Try.prog 15 [.sl 1 (a.map iV), .sl 1 (b.map iV)] bx (.bool (decide (a = b))) := by
  refine Try.ctr15 fun hb => ?_
  simp [go_sem, Try.C15, hb]
  refine ⟨fun h => ret_pure (by simp [go_sem]) ?_, fun h => ?_⟩
  · have : a ≠ b := fun e => h (by rw [e])
    simp [go_sem, this]
  · refine pw_find a.length (fun k => decide (a[k]? ≠ b[k]?)) (fun k => ⟨26, slk [(0, .sl 1 (a.map iV)), (1, .sl 1 (b.map iV)), (5, .int .i64 k)], bx⟩) (cov_look (by simp [go_sem])) (fun k hk hJ N hN => ?_) (fun hJ N => ?_)
    · have hkb : k < b.length := by omega
      simp [go_sem, Try.L15_0, hk, hkb, iV, wr_succ (show k < 1000000000 by omega)]
      refine ⟨fun h1 => ret_pure (by simp [go_sem]) ?_, fun h1 => hN _ (by simp [hk, hkb, h1]) (cov_look (by simp [go_sem, iV]))⟩
      have : a ≠ b := fun e => h1 (by simp [e])
      simp [go_sem, this]
    · simp [go_sem, Try.L15_0, h]
      refine ret_pure (by simp [go_sem]) ?_
      have : a = b := by
        apply List.ext_getElem? 
        intro i
        by_cases hi : i < a.length
        · simpa using hJ i hi
        · rw [List.getElem?_eq_none (by omega), List.getElem?_eq_none (by omega)]
      simp [go_sem, this]
theorem same_c (a b : List Bk) (bx : Boxes) (ha : a.length ≤ 1000000) : PureCall Try.prog 22 [.sl 5 (a.map bkV), .sl 5 (b.map bkV)] bx (.bool (decide (a = b))) := by
  refine Try.ctr22 fun hb => ?_
  simp [go_sem, Try.C22, hb]
  refine ⟨fun h => ret_pure (by simp [go_sem]) ?_, fun h => ?_⟩
  · have : a ≠ b := fun e => h (by rw [e])
    simp [go_sem, this]
  · refine pw_find a.length (fun k => decide (a[k]? ≠ b[k]?)) (fun k => ⟨26, slk [(0, .sl 5 (a.map bkV)), (1, .sl 5 (b.map bkV)), (5, .int .i64 k)], bx⟩) (cov_look (by simp [go_sem])) (fun k hk hJ N hN => ?_) (fun hJ N => ?_)
    · have hkb : k < b.length := by omega
      simp [go_sem, Try.L22_0, hk, hkb, bkV, wr_succ (show k < 1000000000 by omega)]
      refine ⟨fun h1 => ret_pure (by simp [go_sem]) ?_, fun h1 h2 h3 h4 h5 => hN _ ?_ (cov_look (by simp [go_sem, bkV]))⟩
      · have : a ≠ b := fun e => by subst e; simp at h1
        simp [go_sem, this]
      · have : a[k] = b[k] := by
          cases ha : a[k]; cases hb : b[k]
          simp only [ha, hb] at h1 h2 h3 h4 h5
          simp [*]
        simp [hk, hkb, this]
    · simp [go_sem, Try.L22_0, h]
      refine ret_pure (by simp [go_sem]) ?_
      have : a = b := by
        apply List.ext_getElem? 
        intro i
        by_cases hi : i < a.length
        · simpa using hJ i hi
        · rw [List.getElem?_eq_none (by omega), List.getElem?_eq_none (by omega)]
      simp [go_sem, this]
theorem in_c (a : List Int) (n : Int) (bx : Boxes) (ha : a.length ≤ 1000000) : PureCall Try.prog 24 [.sl 1 (a.map iV), .int .i64 n] bx (.bool (decide (n ∈ a))) := by
  refine Try.ctr24 fun hb => ?_
  simp [go_sem, Try.C24, hb]
  refine pw_find a.length (fun k => decide (a[k]? = some n)) (fun k => ⟨18, slk [(0, .sl 1 (a.map iV)), (1, .int .i64 n), (5, .int .i64 k)], bx⟩) (cov_look (by simp [go_sem])) (fun k hk hJ N hN => ?_) (fun hJ N => ?_)
  · simp [go_sem, Try.L24_0, hk, iV, wr_succ (show k < 1000000000 by omega)]
    refine ⟨fun h1 => ret_pure (by simp [go_sem]) ?_, fun h1 => hN _ (by simp [hk, h1]) (cov_look (by simp [go_sem, iV]))⟩
    have : n ∈ a := h1 ▸ List.getElem_mem hk
    simp [go_sem, this]
  · simp [go_sem, Try.L24_0]
    refine ret_pure (by simp [go_sem]) ?_
    have : n ∉ a := fun hm => by
      obtain ⟨i, hi, rfl⟩ := List.getElem_of_mem hm
      have := hJ i hi
      simp [hi] at this
    simp [go_sem, this]
theorem still_c (l : List Bk) (bx : Boxes) (ha : l.length ≤ 1000000) : PureCall Try.prog 41 [.sl 5 (l.map bkV)] bx (.bool (l.all fun x => decide (x.cu = 0))) := by
  refine Try.ctr41 fun hb => ?_
  simp [go_sem, Try.C41, hb]
  refine pw_find l.length (fun k => decide ((bk l k).cu ≠ 0)) (fun k => ⟨16, slk [(0, .sl 5 (l.map bkV)), (3, .int .i64 k)], bx⟩) (cov_look (by simp [go_sem])) (fun k hk hJ N hN => ?_) (fun hJ N => ?_)
  · simp [go_sem, Try.L41_0, hk, bkV, wr_succ (show k < 1000000000 by omega)]
    refine ⟨fun h1 => ret_pure (by simp [go_sem]) ?_, fun h1 => hN _ (by simp [bk_get hk, h1]) (cov_look (by simp [go_sem, bkV]))⟩
    have : (l.all fun x => decide (x.cu = 0)) = false := List.all_eq_false.2 ⟨_, List.getElem_mem hk, by simpa using h1⟩
    simp [go_sem, this]
  · simp [go_sem, Try.L41_0]
    refine ret_pure (by simp [go_sem]) ?_
    have : (l.all fun x => decide (x.cu = 0)) = true := List.all_eq_true.2 fun x hm => by
      obtain ⟨i, hi, rfl⟩ := List.getElem_of_mem hm
      have := hJ i hi
      simpa [bk_get hi] using this
    simp [go_sem, this]
theorem still2_c (x : Bk) (bx : Boxes) : PureCall Try.prog 40 [bkV x] bx (.bool (decide (x.cu ≠ 0))) := by
  refine Try.ctr40 fun hb => ?_
  simp [go_sem, Try.C40, bkV, hb]
  refine ret_pure ?_ ?_ <;> simp [go_sem]
theorem div_c (a b : Int) (bx : Boxes) (ha : 0 ≤ a) (hb0 : 0 ≤ b) : PureCall Try.prog 23 [.int .i64 a, .int .i64 b] bx (.int .i64 (Int.gcd a b)) := by
  refine Try.ctr23 fun hb => ?_
  simp [go_sem, Try.C23, hb]
  refine pw_loop (ι := Int × Int) (fun p => 0 ≤ p.1 ∧ 0 ≤ p.2 ∧ Int.gcd p.1 p.2 = Int.gcd a b) (fun p => ⟨12, slk [(0, .int .i64 p.1), (1, .int .i64 p.2)], bx⟩) (fun p => p.2.toNat) (a, b) ⟨ha, hb0, rfl⟩ (cov_look (by simp [go_sem])) ?_
  rintro ⟨x, y⟩ ⟨hx, hy, hg⟩
  dsimp only at hx hy hg ⊢
  by_cases h : 0 < y
  · simp [go_sem, Try.L23_0, h]
    refine ⟨by omega, (y, x.tmod y), ⟨hy, Int.tmod_nonneg _ hx, ?_⟩, cov_look (by simp [go_sem]), ?_⟩
    · rw [← hg, Int.tmod_eq_emod_of_nonneg hx]
      rw [Int.gcd_comm x y]
      obtain ⟨a', rfl⟩ := Int.eq_ofNat_of_zero_le hx
      obtain ⟨b', rfl⟩ := Int.eq_ofNat_of_zero_le hy
      rw [← Int.natCast_emod, Int.gcd_natCast_natCast, Int.gcd_natCast_natCast, Nat.gcd_comm b' (a' % b'), ← Nat.gcd_rec]
    · dsimp only
      have := Int.tmod_lt_of_pos x h
      omega
  · have : y = 0 := by omega
    subst this
    simp [go_sem, Try.L23_0]
    refine ret_pure (by simp [go_sem]) ?_
    simp at hg
    simp [go_sem, ← hg]
    omega
def exL : List Bk := [⟨5, 4, 0, true, false⟩, ⟨1, 1, 0, true, false⟩, ⟨1, 0, 0, true, false⟩]
theorem example_c (bx : Boxes) : PureCall Try.prog 26 [] bx (.sl 5 (exL.map bkV)) := by
  refine Try.ctr26 fun hb => ?_
  simp [go_sem, Try.C26, hb]
  intro b hb1
  refine ret_own (b := b) (sz := 5) (n := 3) (by simp [go_sem]) ((Ext.refl _).new hb1 _) (by simp [go_sem]) (upd_eq _ _ _) hb1 (by simp) (by simp) ?_
  simp [exL, bkV]
end Go.Proofs

set_option linter.unusedSimpArgs false
set_option linter.unusedVariables false
namespace Go.Proofs
open Go Go.Pl
theorem clone_c (l : List Bk) (bx : Boxes) (hl : l.length ≤ 1000) : AbsCall Try.prog 37 [.sl 5 (l.map bkV)] bx fun r bx' => Acc bx 45 5 (l.map bkV) r bx' := by
  refine Try.ctr37 fun hb => ?_
  simp [go_sem, Try.C37, hb]
  refine ⟨fun b hb1 => ?_, fun hne => ?_⟩
  · refine acc_append (bx := bx) (es := []) (news := l.map bkV) (e := 45) (sz := 5) (.agg #[.int .i64 0, .int .i64 0, .int .i64 0, .bool false, .bool false]) (acc_new hb1 hb 45 5 [] 0 rfl) (Ext.refl _) (by simp [finB_upd, hb]) Try.knd22 Try.tsz45 (by simp [go_sem, srcEls]) Try.tzero45 (by simp [go_sem]) (by omega) (by simp [Try.tby45]; omega) (by simp; omega) (by simp [go_sem]) ?_
    intro v' bx3 ha'
    simp [go_sem]
    refine ret_pure (by simp [go_sem]) ?_
    simpa [go_sem] using ha'
  · refine ret_pure (by simp [go_sem]) ?_
    simpa [go_sem, hne] using acc_nil hb 45 5
def StI (l : List Bk) (bo : Nat) (bx : Boxes) : Prop := ∃ l', l'.length = l.length ∧ bx bo = some (.row 45 5 (l'.map bkV)) ∧ ∀ i skip, canP (bk l' i) skip i = canP (bk l i) skip i
theorem canditO (l : List Bk) (bo : Nat) (skip : Int) (hl : l.length ≤ 50) : IterI Try.prog 43 [.ep (.own bo 5 0 l.length) 0, .ep (.int .i64 skip) 0] l.length (canX l skip) (StI l bo) := by
  intro b J S hf hy bx h0
  refine Try.ctr43 fun hb => ?_
  simp [go_sem, Try.C43, hb]
  refine pw_for (ι := Boxes) l.length J (fun k bx' => ⟨39, slk [(0, .yl b), (2, .ep (.int .i64 skip) 0), (6, .own bo 5 0 l.length), (7, .int .i64 l.length), (8, .int .i64 k)], bx'⟩) bx h0 (cov_look (by simp [go_sem])) (fun k bx1 hk hJ N hN => ?_) (fun bx1 hJ N => ?_)
  · obtain ⟨hfin, l', hl', hbo, hst⟩ := hf k bx1 hJ
    have hk' : k < l'.length := by omega
    have hw := wr_succ (show k < 1000000000 by omega)
    have hmin : min k 64 = k := by omega
    obtain ⟨h1, h2⟩ := hy k bx1 hk hJ
    simp only [canX, List.getElem?_eq_getElem hk] at h1 h2
    simp [go_sem, Try.L43_0, hk, hk', bkV, hbo, hfin, hmin]
    intro b1 hb1
    rw [upd_self hb1]
    have hbit : bits .and .i64 (skip.fdiv (2 ^ k)) 1 = (skip.fdiv (2 ^ k)) % 2 := by simpa using bits_and_mask .i64 1 (by decide) (skip.fdiv (2 ^ k)) 1 (by decide)
    have hc : (l'[k].up && !l'[k].op && decide (0 < l'[k].wt) && decide (bits BinOp.and IntKind.i64 (skip.fdiv (2 ^ k)) 1 = 0)) = canP l[k] skip k := by
      have := hst k skip
      rw [bk_get hk, bk_get hk'] at this
      rw [← this]
      simp [canP, hbit, tmod2, Bool.and_assoc]
    have hc2 : (((l'[k].up = true ∧ l'[k].op = false) ∧ 0 < l'[k].wt) ∧ bits BinOp.and IntKind.i64 (skip.fdiv (2 ^ k)) 1 = 0) = (canP l[k] skip k = true) := by
      rw [← hc]; simp
    simp only [hc, hc2]
    refine ⟨fun hcp => ⟨by simp [hcp, go_sem], by simp [go_sem], ?_⟩, fun hcp => ?_⟩
    · refine yldK_abs (h1 [.int .i64 k] (by simp [hcp])) ?_
      rintro r bx' (⟨rfl, h⟩ | ⟨rfl, h⟩)
      · simp [go_sem, hcp, hw]
        exact hN _ bx' h (cov_look (by simp [go_sem]))
      · simp [go_sem, hcp]
        exact ret_pure (by simp [go_sem]) (.inr h)
    · simp [go_sem, hcp, hw]
      exact hN _ bx1 (h2 (by simp [hcp])) (cov_look (by simp [go_sem]))
  · simp [go_sem, Try.L43_0]
    exact ret_pure (by simp [go_sem]) (.inl hJ)
theorem candO_c (n bo : Nat) (skip : Int) (bx : Boxes) : PureCall Try.prog 29 [.own bo 5 0 n, .int .i64 skip] bx (.fn (.func 43) [.ep (.own bo 5 0 n) 0, .ep (.int .i64 skip) 0]) := by
  refine Try.ctr29 fun hb => ?_
  simp [go_sem, Try.C29, hb]
  refine ret_pure (by simp [go_sem]) ?_
  simp [go_sem]
end Go.Proofs

set_option linter.unusedSimpArgs false
set_option linter.unusedVariables false
namespace Go.Proofs
open Go Go.Pl
def addC (x : Bk) (n : Int) : Bk := { x with cu := IntKind.i64.wrap (x.cu + n) }
structure TS where
  l : List Bk
  o : Option Nat
  w : Int
def tstep (s : TS) (i : Nat) : TS :=
  let l' := s.l.set i (addC (bk s.l i) (bk s.l i).wt)
  ⟨l', match s.o with | none => some i | some j => if (bk l' j).cu < (bk l' i).cu then some i else some j, IntKind.i64.wrap (s.w + (bk s.l i).wt)⟩
def turnS (l : List Bk) (c : List Nat) : TS := c.foldl tstep ⟨l, none, 0⟩
def subC (x : Bk) (n : Int) : Bk := { x with cu := IntKind.i64.wrap (x.cu - n) }
def turnL (s : TS) : List Bk := match s.o with | none => s.l | some j => s.l.set j (subC (bk s.l j) s.w)
theorem turnS_snoc (l : List Bk) (c : List Nat) (k : Nat) : turnS l (c ++ [k]) = tstep (turnS l c) k := by simp [turnS]
theorem turnS_len (l : List Bk) : ∀ c : List Nat, (turnS l c).l.length = l.length := by
  have : ∀ (c : List Nat) (s : TS), (c.foldl tstep s).l.length = s.l.length := by
    intro c
    induction c with
    | nil => intro s; rfl
    | cons i c ih => intro s; rw [List.foldl_cons, ih]; simp [tstep]
  intro c; exact this c _
theorem turnS_o (l : List Bk) : ∀ (c : List Nat) (j : Nat), (turnS l c).o = some j → j ∈ c := by
  have : ∀ (c : List Nat) (s : TS) (j : Nat), (c.foldl tstep s).o = some j → j ∈ c ∨ s.o = some j := by
    intro c
    induction c with
    | nil => intro s j h; exact .inr h
    | cons i c ih =>
      intro s j h
      rw [List.foldl_cons] at h
      rcases ih _ j h with h | h
      · exact .inl (by simp [h])
      · simp only [tstep] at h
        split at h
        · injection h with h; exact .inl (by simp [h])
        · rename_i j' hj
          split at h
          · injection h with h; exact .inl (by simp [h])
          · exact .inr (by rw [hj]; exact h)
  intro c j h
  rcases this c _ j h with h | h
  · exact h
  · cases h
theorem bk_set (l : List Bk) (i j : Nat) (x : Bk) (hi : i < l.length) : bk (l.set i x) j = if j = i then x else bk l j := by
  unfold bk
  simp only [List.getD_eq_getElem?_getD, List.getElem?_set]
  by_cases h : i = j
  · subst h; simp [hi]
  · simp [h, Ne.symm h]
theorem canP_addC (x : Bk) (n skip : Int) (i : Nat) : canP (addC x n) skip i = canP x skip i := rfl
theorem turnS_st (l : List Bk) (c : List Nat) (hc : ∀ i, i ∈ c → i < l.length) : ∀ i skip, canP (bk (turnS l c).l i) skip i = canP (bk l i) skip i := by
  have : ∀ (c : List Nat) (s : TS), (∀ i, i ∈ c → i < s.l.length) → ∀ i skip, canP (bk (c.foldl tstep s).l i) skip i = canP (bk s.l i) skip i := by
    intro c
    induction c with
    | nil => intro s _ i skip; rfl
    | cons k c ih =>
      intro s hs i skip
      rw [List.foldl_cons, ih _ (fun i hi => by simp [tstep]; exact hs i (by simp [hi]))]
      simp only [tstep]
      rw [bk_set _ _ _ _ (hs k (by simp))]
      by_cases e : i = k
      · subst e; simp [canP_addC]
      · simp [e]
  exact this c _ hc
set_option maxHeartbeats 1000000 in
theorem turn_c (l : List Bk) (bo : Nat) (skip : Int) (bx : Boxes) (hl : l.length ≤ 50) (hbo : bx bo = some (.row 45 5 (l.map bkV))) :
    AbsCall Try.prog 38 [.own bo 5 0 l.length, .int .i64 skip] bx fun r bx' => r = .int .i64 (oI (turnS l (canL l skip l.length)).o) ∧ bx' = upd bx bo (some (.row 45 5 ((turnL (turnS l (canL l skip l.length))).map bkV))) := by
  refine Try.ctr38 fun hb => ?_
  simp [go_sem, Try.C38, hb]
  intro b5 hb5 b6 hb6
  have h65 := (new_ne hb6).1
  have hb6' := (new_ne hb6).2
  have ho5 : bo ≠ b5 := fun e => by rw [e, hb5] at hbo; cases hbo
  have ho6 : bo ≠ b6 := fun e => by rw [e, hb6'] at hbo; cases hbo
  simp [go_sem, upd_ne, h65, Ne.symm h65, ho5, ho6, Ne.symm ho5, Ne.symm ho6]
  refine callK_pure (candO_c ..) ?_
  simp [go_sem]
  have c1 : ∀ (f : Boxes) x y, upd (upd f bo x) b6 y = upd (upd f b6 y) bo x := upd_comm ho6
  have c2 : ∀ (f : Boxes) x y, upd (upd f bo x) b5 y = upd (upd f b5 y) bo x := upd_comm ho5
  have c3 : ∀ (f : Boxes) x y, upd (upd f b6 x) b5 y = upd (upd f b5 y) b6 x := upd_comm h65
  refine pw_iterI (by kernel_rfl) (canditO l bo skip hl) ?_ (fun k bx' => bx' = upd (upd (upd bx b5 (some (.row 3 1 [.int .i64 (oI (turnS l (canL l skip k)).o)]))) b6 (some (.row 3 1 [.int .i64 (turnS l (canL l skip k)).w]))) bo (some (.row 45 5 ((turnS l (canL l skip k)).l.map bkV)))) (by simp [go_sem]) ?_ ?_ (fun k args _ => canX_len l skip 1 rfl k args) (by simp) (by rfl) (by rfl) ?_ ?_
  · rintro bx b x hb ⟨l', h1, h2, h3⟩
    refine ⟨l', h1, ?_, h3⟩
    rw [upd_ne _ _ (fun e => by rw [e, hb] at h2; cases h2)]; exact h2
  · have e0 : upd (upd (upd bx b5 (some (.row 3 1 [.int .i64 (-1)]))) b6 (some (.row 3 1 [.int .i64 0]))) bo (some (.row 45 5 (l.map bkV))) = upd (upd bx b5 (some (.row 3 1 [.int .i64 (-1)]))) b6 (some (.row 3 1 [.int .i64 0])) := by
      funext z
      simp only [upd]
      by_cases e : z = bo
      · subst e; simp [ho5, ho6, hbo]
      · simp [e]
    simpa [go_sem, canL, turnS, oI, c3] using e0.symm
  · rintro k _ rfl
    refine ⟨by simp [finB_upd, hb], (turnS l (canL l skip k)).l, turnS_len _ _, upd_eq _ _ _, turnS_st _ _ fun i hi => (canL_lt _ _ _ _ hi).2⟩
  · rintro k _ hk rfl
    refine ⟨fun hn => ?_, fun args ha => ?_⟩
    · rw [canL_succ l skip k hk]
      simp [canX, List.getElem?_eq_getElem hk] at hn
      simp [hn]
    simp only [canX, List.getElem?_eq_getElem hk, Option.ite_none_right_eq_some, Option.some.injEq] at ha
    obtain ⟨hc, rfl⟩ := ha
    intro K k1 k2
    clear k2
    have hlen := turnS_len l (canL l skip k)
    rw [canL_succ l skip k hk, hc, if_pos rfl, turnS_snoc] at k1
    have hoj := turnS_o l (canL l skip k)
    generalize turnS l (canL l skip k) = S at *
    have hkS : k < S.l.length := by omega
    have hmem : ∀ j, S.o = some j → j < S.l.length := fun j hj => by have := (canL_lt _ _ _ _ (hoj j hj)).2; omega
    obtain ⟨sl, so, sw⟩ := S
    dsimp only at *
    have hset : (sl.map bkV).set k (.agg [.int .i64 sl[k].wt, .int .i64 sl[k].ac, .int .i64 (IntKind.i64.wrap (sl[k].cu + sl[k].wt)), .bool sl[k].up, .bool sl[k].op]) = (sl.set k (addC sl[k] sl[k].wt)).map bkV := by
      simp [List.map_set, bkV, addC]
    have hk2 : k < (sl.set k (addC sl[k] sl[k].wt)).length := by simpa using hkS
    simp [go_sem, Try.L38_0a, setPs, upd_look]
    cases so with
    | none =>
      simp [go_sem, Try.L38_0b, hkS, oI, bkV, upd_ne, h65, Ne.symm h65, ho5, ho6, Ne.symm ho5, Ne.symm ho6, c1, c2, c3]
      refine ⟨hk, k1 _ ?_⟩
      simp [tstep, bk_get hkS, hset, oI]
    | some j =>
      have hj := hmem j rfl
      have hj2 : j < (sl.set k (addC sl[k] sl[k].wt)).length := by simpa using hj
      simp [-List.map_set, go_sem, Try.L38_0b, hkS, oI, bkV, hj, upd_ne, h65, Ne.symm h65, ho5, ho6, Ne.symm ho5, Ne.symm ho6, c1, c2, c3, hset]
      refine ⟨hk, by omega, fun h => k1 _ ?_, fun h => k1 _ ?_⟩
      · have : (bk (sl.set k (addC sl[k] sl[k].wt)) j).cu < (bk (sl.set k (addC sl[k] sl[k].wt)) k).cu := by
          rw [bk_get hj2, bk_get hk2]; simpa using h
        simp [-List.map_set, tstep, bk_get hkS, this, oI]
        rfl
      · have : ¬ (bk (sl.set k (addC sl[k] sl[k].wt)) j).cu < (bk (sl.set k (addC sl[k] sl[k].wt)) k).cu := by
          rw [bk_get hj2, bk_get hk2]; simpa using h
        simp [-List.map_set, tstep, bk_get hkS, this, oI]
        rfl
  · rintro _ rfl
    have hlen := turnS_len l (canL l skip l.length)
    have hoj := turnS_o l (canL l skip l.length)
    generalize turnS l (canL l skip l.length) = S at *
    obtain ⟨sl, so, sw⟩ := S
    dsimp only at *
    have hext : ∀ X y z, Ext (upd bx bo (some X)) (upd (upd (upd bx b5 y) b6 z) bo (some X)) := by
      intro X y z c hc
      by_cases e : c = bo
      · subst e; simp [upd_eq]
      · rw [upd_ne _ _ e] at hc ⊢
        rw [upd_ne _ _ e, upd_ne _ _ (fun e => hc (by rw [e]; exact hb6')), upd_ne _ _ (fun e => hc (by rw [e]; exact hb5))]
    cases so with
    | none =>
      simp [go_sem, oI, upd_ne, h65, Ne.symm h65, ho5, ho6, Ne.symm ho5, Ne.symm ho6]
      refine ret_drop (by simp [go_sem]) (hext _ _ _) ?_
      simp [go_sem, turnL, oI]
    | some j =>
      have hj : j < sl.length := by have := (canL_lt _ _ _ _ (hoj j rfl)).2; omega
      have hset : (sl.map bkV).set j (.agg [.int .i64 sl[j].wt, .int .i64 sl[j].ac, .int .i64 (IntKind.i64.wrap (sl[j].cu - sw)), .bool sl[j].up, .bool sl[j].op]) = (sl.set j (subC sl[j] sw)).map bkV := by
        simp [List.map_set, bkV, subC]
      simp [-List.map_set, go_sem, oI, bkV, hj, hset, upd_ne, h65, Ne.symm h65, ho5, ho6, Ne.symm ho5, Ne.symm ho6]
      refine ⟨by omega, ret_drop (by simp [go_sem]) (hext _ _ _) ?_⟩
      simp [-List.map_set, go_sem, turnL, oI, bk_get hj]
end Go.Proofs

set_option linter.unusedSimpArgs false
set_option linter.unusedVariables false
namespace Go.Proofs
open Go Go.Pl
theorem ask_len {l : List Bk} {skip : Int} (h : askB l skip = 0) : 1 ≤ l.length ∧ l.length ≤ 16 ∧ checkB l = 0 := by
  have hc : checkB l = 0 := by
    by_cases hc : checkB l = 0
    · exact hc
    · simp [askB, hc] at h
  have hc' := hc
  unfold checkB at hc
  split at hc
  · cases hc
  · exact ⟨by omega, by omega, hc'⟩
def smooth (l : List Bk) (skip : Int) : Int × List Bk × Int :=
  if askB l skip = 0 then (match (turnS l (canL l skip l.length)).o with | none => (0, [], 4) | some j => (j, turnL (turnS l (canL l skip l.length)), 0)) else (0, [], askB l skip)
theorem smooth_c (l : List Bk) (skip : Int) (bx : Boxes) (hl : l.length ≤ 50) : PureCall Try.prog 18 [.sl 5 (l.map bkV), .int .i64 skip] bx (.tup [.int .i64 (smooth l skip).1, .sl 5 ((smooth l skip).2.1.map bkV), .int .i64 (smooth l skip).2.2]) := by
  refine PureCall.wk (Try.ctr18 fun hb => ?_)
  simp [go_sem, Try.C18, hb]
  refine callK_pure (ask_c l skip bx (by omega)) ?_
  simp [go_sem]
  refine ⟨fun h => ret_wk0 (by simp [go_sem]) ?_, fun h => callK_abs (clone_c l bx (by omega)) ?_⟩
  · simp [go_sem, smooth, h]; exact wk_tup3 (Wk.refl _) (wk_nils _) (Wk.refl _)
  · intro r bx1 ha
    obtain ⟨h1, h2, h3⟩ := ask_len h
    have hne : l.map bkV ≠ [] := fun e => by simp at e; subst e; simp at h1
    obtain ⟨bo, hbo, rfl, hbo1⟩ := ha.row hne
    simp [go_sem]
    refine callK_abs (turn_c l bo skip bx1 hl hbo1) ?_
    rintro r bx2 ⟨rfl, rfl⟩
    have hlen := turnS_len l (canL l skip l.length)
    have he : ∀ x, Ext bx (upd bx1 bo x) := fun x => ha.ext.upd_own hbo x
    have hlt : (turnL (turnS l (canL l skip l.length))).length = l.length := by
      unfold turnL; split <;> simp [hlen]
    cases ho : (turnS l (canL l skip l.length)).o with
    | none =>
      simp [go_sem, oI]
      refine ret_wk (by simp [go_sem]) (he _) ?_
      simp [go_sem, smooth, h, ho]; exact wk_tup3 (Wk.refl _) (wk_nils _) (Wk.refl _)
    | some j =>
      simp [go_sem, oI]
      refine ret_frz 2 (by simp [go_sem]) (he _) ⟨?_, rfl⟩
      simp [go_sem, smooth, h, ho]
      rw [frz_own1 (upd_eq _ _ _) hbo (by omega) (by simp [hlt])]
      exact Wk.refl _
def rstep (s : List Bk × Int) (i : Nat) : List Bk × Int := (s.1.set i (addC (bk s.1 i) (bk s.1 i).wt), IntKind.i64.wrap (s.2 + (bk s.1 i).wt))
def radd (l : List Bk) (c : List Nat) : List Bk × Int := c.foldl rstep (l, 0)
def rbest (l : List Bk) (c : List Nat) : Nat := c.foldl (fun b i => if (bk l b).cu < (bk l i).cu then i else b) (c.headD 0)
def rturn (l : List Bk) (c : List Nat) : Nat × List Bk :=
  let s := radd l c
  (rbest s.1 c, s.1.set (rbest s.1 c) (subC (bk s.1 (rbest s.1 c)) s.2))
theorem rbest_mem (l : List Bk) (c : List Nat) (h : c ≠ []) : rbest l c ∈ c := by
  have : ∀ (d : List Nat) (b : Nat), b ∈ c → (∀ i, i ∈ d → i ∈ c) → d.foldl (fun b i => if (bk l b).cu < (bk l i).cu then i else b) b ∈ c := by
    intro d
    induction d with
    | nil => intro b hb _; exact hb
    | cons i d ih =>
      intro b hb hd
      rw [List.foldl_cons]
      refine ih _ ?_ (fun i hi => hd i (by simp [hi]))
      split
      · exact hd i (by simp)
      · exact hb
  refine this c _ ?_ fun i hi => hi
  cases c with
  | nil => exact absurd rfl h
  | cons i c => simp
theorem rbest_take (l : List Bk) (c : List Nat) (h : c ≠ []) (k : Nat) (hk : k < c.length) : True := trivial
theorem radd_len (l : List Bk) (c : List Nat) : (radd l c).1.length = l.length := by
  have : ∀ (c : List Nat) (s : List Bk × Int), (c.foldl rstep s).1.length = s.1.length := by
    intro c
    induction c with
    | nil => intro s; rfl
    | cons i c ih => intro s; rw [List.foldl_cons, ih]; simp [rstep]
  exact this c _
set_option maxHeartbeats 1000000 in
theorem rturn_c (l : List Bk) (c : List Nat) (bx : Boxes) (hl : l.length ≤ 50) (hcl : c.length ≤ 50) (hne : c ≠ []) (hc : ∀ i, i ∈ c → i < l.length) :
    PureCall Try.prog 39 [.sl 5 (l.map bkV), .sl 1 (c.map ixV)] bx (.tup [.int .i64 (rturn l c).1, .sl 5 ((rturn l c).2.map bkV)]) := by
  refine PureCall.wk (Try.ctr39 fun hb => ?_)
  simp [go_sem, Try.C39, hb]
  intro b hb1
  refine acc_append (bx := bx) (es := []) (news := l.map bkV) (e := 45) (sz := 5) (.agg #[.int .i64 0, .int .i64 0, .int .i64 0, .bool false, .bool false]) (acc_new hb1 hb 45 5 [] 0 rfl) (Ext.refl _) (by simp [finB_upd, hb]) Try.knd22 Try.tsz45 (by simp [go_sem, srcEls]) Try.tzero45 (by simp [go_sem]) (by omega) (by simp [Try.tby45]; omega) (by simp; omega) (by simp [go_sem]) ?_
  intro v bx1 ha
  have hlne : l.map bkV ≠ [] := fun e => by
    simp at e; subst e
    cases c with
    | nil => exact hne rfl
    | cons i c => have := hc i (by simp); simp at this
  simp only [List.nil_append] at ha
  obtain ⟨bo, hbo, rfl, hbo1⟩ := ha.row hlne
  have hfin := ha.fin
  simp [go_sem]
  refine pw_upto c.length (fun k => ⟨94, slk [(1, .sl 1 (c.map ixV)), (6, .own bo 5 0 l.length), (7, .int .i64 (radd l (c.take k)).2), (8, .int .i64 k)], upd bx1 bo (some (.row 45 5 ((radd l (c.take k)).1.map bkV)))⟩) ?_ (fun k hk N hN => ?_) (fun N => ?_)
  · have e : upd bx1 bo (some (.row 45 5 (l.map bkV))) = bx1 := by
      funext z
      by_cases e : z = bo
      · subst e; rw [upd_eq, hbo1]
      · rw [upd_ne _ _ e]
    simp [radd, e]
    exact cov_look (by simp [go_sem])
  · have hck : c[k] < l.length := hc _ (List.getElem_mem hk)
    have hrl := radd_len l (c.take k)
    have hrs : radd l (c.take (k + 1)) = rstep (radd l (c.take k)) c[k] := by rw [take_snoc hk]; simp only [radd, List.foldl_append, List.foldl_cons, List.foldl_nil]
    rw [hrs] at hN
    generalize radd l (c.take k) = S at *
    obtain ⟨sl, sw⟩ := S
    dsimp only at *
    have hks : c[k] < sl.length := by omega
    have hset : (sl.map bkV).set c[k] (.agg [.int .i64 sl[c[k]].wt, .int .i64 sl[c[k]].ac, .int .i64 (IntKind.i64.wrap (sl[c[k]].cu + sl[c[k]].wt)), .bool sl[c[k]].up, .bool sl[c[k]].op]) = (sl.set c[k] (addC sl[c[k]] sl[c[k]].wt)).map bkV := by
      simp [List.map_set, bkV, addC]
    simp [-List.map_set, go_sem, Try.L39_0, hk, hck, hks, ixV, bkV, hset, wr_succ (show k < 1000000000 by omega)]
    exact hN _ (by simp [-List.map_set, rstep, bk_get hks]; exact cov_look (by simp [go_sem, ixV]))
  · have hc0 : 0 < c.length := by cases c with
      | nil => exact absurd rfl hne
      | cons => simp
    simp [go_sem, Try.L39_0, ixV, hc0]
    have hrl := radd_len l c
    have hrt : rturn l c = (rbest (radd l c).1 c, (radd l c).1.set (rbest (radd l c).1 c) (subC (bk (radd l c).1 (rbest (radd l c).1 c)) (radd l c).2)) := rfl
    have hbm := hc _ (rbest_mem (radd l c).1 c hne)
    rw [hrt]
    generalize radd l c = S at *
    obtain ⟨sl, sw⟩ := S
    dsimp only at *
    let bst : Nat → Nat := fun k => (c.take k).foldl (fun b i => if (bk sl b).cu < (bk sl i).cu then i else b) (c.headD 0)
    have hb0 : bst 0 = c[0] := by cases c with
      | nil => exact absurd rfl hne
      | cons => simp [bst]
    have hbm2 : ∀ k, bst k < sl.length := by
      intro k
      have : ∀ (d : List Nat) (b : Nat), b < sl.length → (∀ i, i ∈ d → i < sl.length) → d.foldl (fun b i => if (bk sl b).cu < (bk sl i).cu then i else b) b < sl.length := by
        intro d
        induction d with
        | nil => intro b hb _; exact hb
        | cons i d ih =>
          intro b hb hd
          rw [List.foldl_cons]
          refine ih _ ?_ (fun i hi => hd i (by simp [hi]))
          split
          · exact hd i (by simp)
          · exact hb
      refine this _ _ ?_ (fun i hi => by rw [hrl]; exact hc i (List.mem_of_mem_take hi))
      cases c with
      | nil => exact absurd rfl hne
      | cons i c => simp; rw [hrl]; exact hc i (by simp)
    refine pw_upto c.length (fun k => ⟨94, slk [(1, .sl 1 (c.map ixV)), (6, .own bo 5 0 l.length), (7, .int .i64 sw), (9, .int .i64 (bst k)), (10, .int .i64 k)], upd bx1 bo (some (.row 45 5 (sl.map bkV)))⟩) ?_ (fun k hk N hN => ?_) (fun N => ?_)
    · exact cov_look (by simp [go_sem, hb0, ixV])
    · have hck : c[k] < sl.length := by rw [hrl]; exact hc _ (List.getElem_mem hk)
      have hbk := hbm2 k
      have hbs : bst (k + 1) = if (bk sl (bst k)).cu < (bk sl c[k]).cu then c[k] else bst k := by
        simp only [bst, take_snoc hk, List.foldl_append, List.foldl_cons, List.foldl_nil]
      rw [hbs, bk_get hbk, bk_get hck] at hN
      simp [go_sem, Try.L39_1, hk, hck, hbk, hrl ▸ hck, hrl ▸ hbk, ixV, bkV, wr_succ (show k < 1000000000 by omega)]
      refine ⟨fun h => hN _ ?_, fun h => hN _ ?_⟩
      · rw [if_pos h]; exact cov_look (by simp [go_sem, ixV])
      · rw [if_neg (by omega)]; exact cov_look (by simp [go_sem, ixV])
    · have hbe : bst c.length = rbest sl c := by simp [bst, rbest]
      rw [hbe]
      have hbs : rbest sl c < sl.length := by omega
      have hset : (sl.map bkV).set (rbest sl c) (.agg [.int .i64 sl[rbest sl c].wt, .int .i64 sl[rbest sl c].ac, .int .i64 (IntKind.i64.wrap (sl[rbest sl c].cu - sw)), .bool sl[rbest sl c].up, .bool sl[rbest sl c].op]) = (sl.set (rbest sl c) (subC sl[rbest sl c] sw)).map bkV := by
        simp [List.map_set, bkV, subC]
      simp [-List.map_set, go_sem, Try.L39_1, hbm, hbs, ixV, bkV, hset]
      refine ret_frz 2 (by simp [go_sem]) (ha.ext.upd_own hbo _) ⟨?_, rfl⟩
      simp [-List.map_set, go_sem, bk_get hbs]
      rw [frz_own1 (upd_eq _ _ _) hbo (by omega) (by simp [hrl])]
      exact Wk.refl _
end Go.Proofs

set_option linter.unusedSimpArgs false
set_option linter.unusedVariables false
namespace Go.Proofs
open Go Go.Pl
theorem canR_lt {l : List Bk} {skip : Int} : ∀ i, i ∈ canR l skip → i < l.length := by
  intro i hi
  unfold canR at hi
  split at hi
  · exact (canL_lt _ _ _ _ hi).2
  · cases hi
theorem canR_le {l : List Bk} {skip : Int} : (canR l skip).length ≤ l.length := by
  unfold canR
  split
  · exact canL_le _ _ _
  · simp
theorem someE_ne {l : List Bk} {skip : Int} (h : someE l skip = 0) : canR l skip ≠ [] ∧ askB l skip = 0 := by
  unfold someE at h
  split at h
  · rename_i ha
    split at h
    · cases h
    · rename_i hc; exact ⟨by simpa [canR, ha] using hc, ha⟩
  · rename_i ha; exact absurd h ha
def rsmooth (l : List Bk) (skip : Int) : Int × List Bk × Int :=
  if someE l skip = 0 then ((rturn l (canR l skip)).1, (rturn l (canR l skip)).2, 0) else (0, [], someE l skip)
theorem rsmooth_c (l : List Bk) (skip : Int) (bx : Boxes) (hl : l.length ≤ 50) : PureCall Try.prog 19 [.sl 5 (l.map bkV), .int .i64 skip] bx (.tup [.int .i64 (rsmooth l skip).1, .sl 5 ((rsmooth l skip).2.1.map bkV), .int .i64 (rsmooth l skip).2.2]) := by
  refine PureCall.wk (Try.ctr19 fun hb => ?_)
  simp [go_sem, Try.C19, hb]
  refine callK_pure (some_c l skip bx hl) ?_
  simp [go_sem]
  refine ⟨fun h => ret_wk0 (by simp [go_sem]) ?_, fun h => callK_pure (rturn_c l _ bx hl (by have := canR_le (l := l) (skip := skip); omega) (someE_ne h).1 canR_lt) ?_⟩
  · simp [go_sem, rsmooth, h]; exact wk_tup3 (Wk.refl _) (wk_nils _) (Wk.refl _)
  · simp [go_sem]
    refine ret_wk0 (by simp [go_sem]) ?_
    simp [go_sem, rsmooth, h]; exact Wk.refl _
def rleastN (l : List Bk) (c : List Nat) : Nat := c.foldl (fun b i => if ltB (bk l i) (bk l b) then i else b) (c.headD 0)
def rleast (l : List Bk) (skip : Int) : Int × Int := if someE l skip = 0 then (rleastN l (canR l skip), 0) else (0, someE l skip)
theorem foldl_inv {α β : Type} {f : β → α → β} {I : β → Prop} : ∀ {l : List α} {b : β}, I b → (∀ (b : β) (a : α), a ∈ l → I b → I (f b a)) → I (l.foldl f b)
  | [], b, h, _ => h
  | a :: l, b, h, hs => foldl_inv (l := l) (hs b a (by simp) h) fun b a' ha => hs b a' (by simp [ha])
theorem Rlighter_c (x y : Bk) (bx : Boxes) : PureCall Try.prog 25 [bkV x, bkV y] bx (.bool (ltB x y)) := Lighter_c x y bx
theorem rleast_c (l : List Bk) (skip : Int) (bx : Boxes) (hl : l.length ≤ 50) : PureCall Try.prog 12 [.sl 5 (l.map bkV), .int .i64 skip] bx (.tup [.int .i64 (rleast l skip).1, .int .i64 (rleast l skip).2]) := by
  refine Try.ctr12 fun hb => ?_
  simp [go_sem, Try.C12, hb]
  refine callK_pure (some_c l skip bx hl) ?_
  by_cases h : someE l skip = 0
  · obtain ⟨hne, _⟩ := someE_ne h
    have hlt := canR_lt (l := l) (skip := skip)
    have hle := canR_le (l := l) (skip := skip)
    have hr : rleast l skip = (((rleastN l (canR l skip) : Nat) : Int), 0) := if_pos h
    rw [hr]
    generalize canR l skip = c at *
    have hc0 : 0 < c.length := by cases c with
      | nil => exact absurd rfl hne
      | cons => simp
    simp [go_sem, h, hc0, ixV]
    let bst : Nat → Nat := fun k => (c.take k).foldl (fun b i => if ltB (bk l i) (bk l b) then i else b) (c.headD 0)
    have hb0 : bst 0 = c[0] := by cases c with
      | nil => exact absurd rfl hne
      | cons => simp [bst]
    have hbm2 : ∀ k, bst k < l.length := by
      intro k
      refine foldl_inv (I := fun b => b < l.length) ?_ (fun b i hi hb => ?_)
      · cases c with
        | nil => exact absurd rfl hne
        | cons i c => simp; exact hlt i (by simp)
      · split
        · exact hlt i (List.mem_of_mem_take hi)
        · exact hb
    refine pw_upto c.length (fun k => ⟨45, slk [(0, .sl 5 (l.map bkV)), (6, .sl 1 (c.map ixV)), (8, .int .i64 (bst k)), (9, .int .i64 k)], bx⟩) ?_ (fun k hk N hN => ?_) (fun N => ?_)
    · exact cov_look (by simp [go_sem, hb0, ixV])
    · have hck : c[k] < l.length := hlt _ (List.getElem_mem hk)
      have hbk := hbm2 k
      have hbs : bst (k + 1) = if ltB (bk l c[k]) (bk l (bst k)) then c[k] else bst k := by
        simp only [bst, take_snoc hk, List.foldl_append, List.foldl_cons, List.foldl_nil]
      rw [hbs, bk_get hbk, bk_get hck] at hN
      simp [go_sem, Try.L12_0, hk, hck, hbk, ixV, bkV, wr_succ (show k < 1000000000 by omega)]
      refine callK_pure (Rlighter_c l[c[k]] l[bst k] _) ?_
      simp [go_sem, hk, ixV, wr_succ (show k < 1000000000 by omega)]
      refine ⟨fun h => hN _ ?_, fun h => hN _ ?_⟩
      · rw [if_pos h]; exact cov_look (by simp [go_sem, ixV])
      · rw [if_neg (by simp [h])]; exact cov_look (by simp [go_sem, ixV])
    · have hbe : bst c.length = rleastN l c := by simp [bst, rleastN]
      rw [hbe]
      simp [go_sem, Try.L12_0]
      refine ret_pure (by simp [go_sem]) ?_
      simp [go_sem]
  · simp [go_sem, h]
    refine ret_pure (by simp [go_sem]) ?_
    simp [go_sem, rleast, h]
def two (l : List Bk) (a b : Nat) (skip : Int) : Int × Int :=
  if askB l skip ≠ 0 then (0, askB l skip)
  else if (canR l skip).length = 0 then (0, 4)
  else if (canR l skip).length = 1 then ((canR l skip).getD 0 0, 0)
  else
    let c := canR l skip
    let i := a % c.length
    let k0 := b % (c.length - 1)
    let k := if i ≤ k0 then k0 + 1 else k0
    (if ltB (bk l (c.getD k 0)) (bk l (c.getD i 0)) then c.getD k 0 else c.getD i 0, 0)
theorem lighter_c' (x y : Bk) (bx : Boxes) : PureCall Try.prog 32 [bkV x, bkV y] bx (.bool (ltB x y)) := lighter_c x y bx
theorem two_c (l : List Bk) (a b : Nat) (skip : Int) (bx : Boxes) (hl : l.length ≤ 50) (ha : a < 4294967296) (hb' : b < 4294967296) : PureCall Try.prog 16 [.sl 5 (l.map bkV), .int .u32 a, .int .u32 b, .int .i64 skip] bx (.tup [.int .i64 (two l a b skip).1, .int .i64 (two l a b skip).2]) := by
  refine Try.ctr16 fun hb => ?_
  simp [go_sem, Try.C16, hb]
  refine callK_pure (can_c l skip bx hl) ?_
  have hlt := canR_lt (l := l) (skip := skip)
  have hle := canR_le (l := l) (skip := skip)
  by_cases h : askB l skip = 0
  · have hn : IntKind.u32.wrap ((canR l skip).length : Int) = (canR l skip).length := by rw [wru32 (by omega)]
    have htwo : two l a b skip = _ := if_neg (by simp [h])
    rw [htwo]
    generalize canR l skip = c at *
    by_cases h0 : c.length = 0
    · obtain rfl := List.eq_nil_of_length_eq_zero h0
      simp [go_sem, h, IntKind.wrap, IntKind.bits, IntKind.signed]
      refine ret_pure (by simp [go_sem]) ?_
      simp [go_sem]
    · by_cases h1 : c.length = 1
      · obtain ⟨x, rfl⟩ := List.length_eq_one_iff.1 h1
        simp [go_sem, h, ixV, IntKind.wrap, IntKind.bits, IntKind.signed]
        refine ret_pure (by simp [go_sem]) ?_
        simp [go_sem]
      · have h0' : ¬ ((c.length : Int) = 0) := by omega
        have h1' : ¬ ((c.length : Int) = 1) := by omega
        have hn1 : IntKind.u32.wrap ((c.length : Int) - 1) = ((c.length - 1 : Nat) : Int) := by rw [wru32 (by omega)]; omega
        have ht1 : (a : Int).tmod (c.length : Int) = ((a % c.length : Nat) : Int) := by rw [← Int.ofNat_tmod]
        have ht2 : (b : Int).tmod ((c.length - 1 : Nat) : Int) = ((b % (c.length - 1) : Nat) : Int) := by rw [← Int.ofNat_tmod]
        have hm1 : a % c.length < c.length := Nat.mod_lt _ (by omega)
        have hm2 : b % (c.length - 1) < c.length - 1 := Nat.mod_lt _ (by omega)
        have hw : IntKind.u32.wrap (((b % (c.length - 1) : Nat) : Int) + 1) = ((b % (c.length - 1) + 1 : Nat) : Int) := by rw [wru32 (by omega)]; omega
        have h2 : ¬ (((c.length - 1 : Nat) : Int) = 0) := by omega
        simp only [h0, h1, if_false]
        generalize a % c.length = i at *
        generalize b % (c.length - 1) = k0 at *
        by_cases hik : i ≤ k0
        · have hk : k0 + 1 < c.length := by omega
          have e1 : c[k0 + 1] < l.length := hlt _ (List.getElem_mem hk)
          have e2 : c[i] < l.length := hlt _ (List.getElem_mem hm1)
          have hik' : (i : Int) ≤ (k0 : Int) := by omega
          simp [-Int.natCast_emod, go_sem, h, hn, h0, h1, h0', h1', hn1, ht1, ht2, hw, h2, hik, hik', hk, hm1, ixV, e1, e2, bkV]
          refine ⟨by omega, ⟨by omega, by omega⟩, callK_pure (lighter_c' l[c[k0 + 1]] l[c[i]] _) ?_⟩
          simp [go_sem, h, hm1, hk, ixV]
          refine ⟨fun hl => ⟨⟨by omega, by omega⟩, ret_pure (by simp [go_sem]) ?_⟩, fun hl => ret_pure (by simp [go_sem]) ?_⟩
          · simp [go_sem, hl, bk_get e1, bk_get e2]
          · simp [go_sem, hl, bk_get e1, bk_get e2]
        · have hk : k0 < c.length := by omega
          have e1 : c[k0] < l.length := hlt _ (List.getElem_mem hk)
          have e2 : c[i] < l.length := hlt _ (List.getElem_mem hm1)
          have hik' : ¬ (i : Int) ≤ (k0 : Int) := by omega
          simp [-Int.natCast_emod, go_sem, h, hn, h0, h1, h0', h1', hn1, ht1, ht2, hw, h2, hik, hik', hk, hm1, ixV, e1, e2, bkV]
          refine ⟨by omega, callK_pure (lighter_c' l[c[k0]] l[c[i]] _) ?_⟩
          simp [go_sem, h, hm1, hk, ixV]
          refine ⟨fun hl => ret_pure (by simp [go_sem]) ?_, fun hl => ret_pure (by simp [go_sem]) ?_⟩
          · simp [go_sem, hl, bk_get e1, bk_get e2]
          · simp [go_sem, hl, bk_get e1, bk_get e2]
  · simp [go_sem, h]
    refine ret_pure (by simp [go_sem]) ?_
    simp [go_sem, two, h]
theorem appI {bx bx1 bx2 : Boxes} {es news : List V} {v x : V} {d n : Nat} {sl : Nat → V} {K : St → Prop} (ha : Acc bx 3 1 es v bx1) (h2 : Ext bx1 bx2) (hf : FinB bx2) (src : srcEls ⟨n, sl, bx2⟩ 1 x = some news) (hlen : es.length + news.length ≤ 1000000) (hd : d < n)
    (hK : ∀ v' bx3, Acc bx 3 1 (es ++ news) v' bx3 → K (St.put ⟨n, sl, bx3⟩ (some d) v')) : appendA Try.prog ⟨n, sl, bx2⟩ (some d) 26 v x K :=
  acc_append (.int .i64 0) ha h2 hf Try.knd26 Try.tsz3 src Try.tzero3 (by simp [go_sem]) (by omega) (by simp [Try.tby3]; omega) (by omega) (by simpa [go_sem] using hd) hK
def rtwo (l : List Bk) (a b : Nat) (skip : Int) : Int × Int :=
  if someE l skip ≠ 0 then (0, someE l skip)
  else
    let c := canR l skip
    let i := a % c.length
    let x := c.getD i 0
    let o := c.take i ++ c.drop (i + 1)
    if o.length = 0 then (x, 0)
    else
      let y := o.getD (b % o.length) 0
      (if ltB (bk l y) (bk l x) then y else x, 0)
theorem rtwo_c (l : List Bk) (a b : Nat) (skip : Int) (bx : Boxes) (hl : l.length ≤ 50) (ha : a < 4294967296) (hb' : b < 4294967296) : PureCall Try.prog 17 [.sl 5 (l.map bkV), .int .u32 a, .int .u32 b, .int .i64 skip] bx (.tup [.int .i64 (rtwo l a b skip).1, .int .i64 (rtwo l a b skip).2]) := by
  refine Try.ctr17 fun hb => ?_
  simp [go_sem, Try.C17, hb]
  refine callK_pure (some_c l skip bx hl) ?_
  have hlt := canR_lt (l := l) (skip := skip)
  have hle := canR_le (l := l) (skip := skip)
  by_cases h : someE l skip = 0
  · obtain ⟨hne, _⟩ := someE_ne h
    have htwo : rtwo l a b skip = _ := if_neg (by simp [h])
    dsimp only at htwo
    generalize canR l skip = c at *
    have hc0 : 0 < c.length := by cases c with
      | nil => exact absurd rfl hne
      | cons => simp
    have h0' : ¬ ((c.length : Int) = 0) := by omega
    have h0 : ¬ (c.length = 0) := by omega
    have ha1 : IntKind.i64.wrap (a : Int) = a := by rw [wr64 (by omega)]
    have hb1 : IntKind.i64.wrap (b : Int) = b := by rw [wr64 (by omega)]
    have ht1 : (a : Int).tmod (c.length : Int) = ((a % c.length : Nat) : Int) := by rw [← Int.ofNat_tmod]
    have hm1 : a % c.length < c.length := Nat.mod_lt _ (by omega)
    generalize a % c.length = i at *
    have e2 : c[i] < l.length := hlt _ (List.getElem_mem hm1)
    have hw : IntKind.i64.wrap ((i : Int) + 1) = ((i + 1 : Nat) : Int) := wr_succ (by omega)
    simp [-Int.natCast_emod, go_sem, h, h0, h0', ha1, hb1, ht1, hm1, hw, ixV, hb]
    intro b1 hb1
    refine ⟨by omega, appI (bx := bx) (acc_new hb1 hb 3 1 [] 0 rfl) (Ext.refl _) (by simp [finB_upd, hb]) (by simp [srcEls]; rfl) (by simp; omega) (by omega) fun v' bx3 ha => ?_⟩
    simp [go_sem, hw, ixV]
    refine ⟨⟨by omega, by omega⟩, ?_⟩
    refine appI ha (Ext.refl _) ha.fin (by simp [srcEls]; rfl) (by simp; omega) (by omega) fun v2 bx4 ha2 => ?_
    have ho : ([] ++ List.take i (List.map ixV c) ++ List.drop (i + 1) (List.take c.length (List.map ixV c))) = (c.take i ++ c.drop (i + 1)).map ixV := by
      simp [List.take_of_length_le, List.map_take, List.map_drop]
    rw [ho] at ha2
    have hol : (c.take i ++ c.drop (i + 1)).length = c.length - 1 := by simp; omega
    have hom : ∀ j, j ∈ c.take i ++ c.drop (i + 1) → j < l.length := by
      intro j hj
      rcases List.mem_append.1 hj with hj | hj
      · exact hlt _ (List.mem_of_mem_take hj)
      · exact hlt _ (List.mem_of_mem_drop hj)
    have hgi : c.getD i 0 = c[i] := by simp [hm1]
    rw [hgi] at htwo
    generalize c.take i ++ c.drop (i + 1) = o at *
    by_cases hoe : o = []
    · subst hoe
      rcases ha2.is with ⟨_, rfl⟩ | ⟨b4, _, rfl, _⟩
      · simp [go_sem]
        refine ret_drop (by simp [go_sem]) ha2.ext ?_
        simp [go_sem, htwo]
      · simp [go_sem]
        refine ret_drop (by simp [go_sem]) ha2.ext ?_
        simp [go_sem, htwo]
    · obtain ⟨b4, hb4, rfl, hb41⟩ := ha2.row (by simpa using hoe)
      have ho0 : 0 < o.length := List.length_pos_iff.2 hoe
      have ho0' : ¬ ((o.length : Int) = 0) := by omega
      have ho1' : ¬ (o.length = 0) := by omega
      have ht2 : (b : Int).tmod (o.length : Int) = ((b % o.length : Nat) : Int) := by rw [← Int.ofNat_tmod]
      have hm2 : b % o.length < o.length := Nat.mod_lt _ ho0
      have hgj : o.getD (b % o.length) 0 = o[b % o.length] := by simp [hm2]
      rw [if_neg ho1', hgj] at htwo
      generalize b % o.length = j at *
      have e1 : o[j] < l.length := hom _ (List.getElem_mem hm2)
      simp [-Int.natCast_emod, go_sem, ho0', ho1', hoe, hb1, ht2, hm2, hb41, ixV, e1, e2, bkV, ‹IntKind.i64.wrap (b : Int) = b›]
      refine callK_pure (Rlighter_c l[o[j]] l[c[i]] _) ?_
      simp [go_sem]
      refine ⟨fun hl => ret_drop (by simp [go_sem]) ha2.ext ?_, fun hl => ret_drop (by simp [go_sem]) ha2.ext ?_⟩
      · simp [go_sem, htwo, hl, bk_get e1, bk_get e2]
      · simp [go_sem, htwo, hl, bk_get e1, bk_get e2]
  · simp [go_sem, h]
    refine ret_pure (by simp [go_sem]) ?_
    simp [go_sem, rtwo, h]
end Go.Proofs

set_option linter.unusedSimpArgs false
set_option linter.unusedVariables false
namespace Go.Proofs
open Go Go.Pl
/-! Turns: plain laws. -/
theorem fold_l (c : List Nat) : ∀ (s : TS), c.Nodup → (∀ i, i ∈ c → i < s.l.length) → ∀ i, bk (c.foldl tstep s).l i = if i ∈ c then addC (bk s.l i) (bk s.l i).wt else bk s.l i := by
  induction c with
  | nil => intro s _ _ i; simp
  | cons k c ih =>
    intro s hn hl i
    rw [List.nodup_cons] at hn
    have hk := hl k (by simp)
    rw [List.foldl_cons, ih _ hn.2 (fun i hi => by simp [tstep]; exact hl i (by simp [hi]))]
    have e : ∀ i, bk (tstep s k).l i = if i = k then addC (bk s.l k) (bk s.l k).wt else bk s.l i := fun i => bk_set _ _ _ _ hk
    rw [e]
    by_cases h1 : i = k
    · subst h1; simp [hn.1]
    · simp [h1]
theorem fold_r (c : List Nat) : ∀ (s : TS), (c.foldl rstep (s.l, s.w)) = ((c.foldl tstep s).l, (c.foldl tstep s).w) := by
  induction c with
  | nil => intro s; rfl
  | cons k c ih =>
    intro s
    rw [List.foldl_cons, List.foldl_cons, ← ih]
    rfl
theorem fold_o (L : List Bk) (c : List Nat) : ∀ (s : TS) (j : Nat), c.Nodup → (∀ i, i ∈ c → i < s.l.length) → s.o = some j → j ∉ c → (bk L j).cu = (bk s.l j).cu → (∀ i, i ∈ c → (bk L i).cu = (addC (bk s.l i) (bk s.l i).wt).cu) →
    (c.foldl tstep s).o = some (c.foldl (fun b i => if (bk L b).cu < (bk L i).cu then i else b) j) := by
  induction c with
  | nil => intro s j _ _ h _ _ _; exact h
  | cons k c ih =>
    intro s j hn hl ho hj h1 h2
    rw [List.nodup_cons] at hn
    have hk := hl k (by simp)
    have e : ∀ i, bk (tstep s k).l i = if i = k then addC (bk s.l k) (bk s.l k).wt else bk s.l i := fun i => bk_set _ _ _ _ hk
    have hjk : j ≠ k := fun e => hj (by simp [e])
    have hjc : j ∉ c := fun e => hj (by simp [e])
    have e1 : (bk (tstep s k).l j).cu = (bk L j).cu := by rw [e, if_neg hjk, h1]
    have e2 : (bk (tstep s k).l k).cu = (bk L k).cu := by rw [e, if_pos rfl, h2 k (by simp)]
    have eo : (tstep s k).o = some (if (bk L j).cu < (bk L k).cu then k else j) := by
      have : (tstep s k).o = if (bk (tstep s k).l j).cu < (bk (tstep s k).l k).cu then some k else some j := by simp only [tstep, ho]
      rw [this, e1, e2]
      split <;> rfl
    rw [List.foldl_cons, List.foldl_cons]
    refine ih _ _ hn.2 (fun i hi => by simp [tstep]; exact hl i (by simp [hi])) eo ?_ ?_ ?_
    · split
      · exact hn.1
      · exact hjc
    · split
      · exact e2.symm
      · exact e1.symm
    · intro i hi
      have hik : i ≠ k := fun e => hn.1 (e ▸ hi)
      rw [h2 i (by simp [hi]), e, if_neg hik]
theorem turnS_bk (l : List Bk) (c : List Nat) (hn : c.Nodup) (hl : ∀ i, i ∈ c → i < l.length) (i : Nat) : bk (turnS l c).l i = if i ∈ c then addC (bk l i) (bk l i).wt else bk l i :=
  fold_l c _ hn hl i
theorem turnS_best (l : List Bk) (c : List Nat) (hn : c.Nodup) (hl : ∀ i, i ∈ c → i < l.length) (hne : c ≠ []) : (turnS l c).o = some (rbest (turnS l c).l c) := by
  cases c with
  | nil => exact absurd rfl hne
  | cons k c =>
    have hn' := hn
    rw [List.nodup_cons] at hn
    have hk := hl k (by simp)
    have hb := turnS_bk l (k :: c) hn' hl
    have e : ∀ i, bk (tstep ⟨l, none, 0⟩ k).l i = if i = k then addC (bk l k) (bk l k).wt else bk l i := fun i => bk_set _ _ _ _ hk
    have h := fold_o (turnS l (k :: c)).l c (tstep ⟨l, none, 0⟩ k) k hn.2 (fun i hi => by simp [tstep]; exact hl i (by simp [hi])) rfl hn.1 ?_ ?_
    · simpa [turnS, rbest] using h
    · rw [hb, e]; simp
    · intro i hi
      have hik : i ≠ k := fun e => hn.1 (e ▸ hi)
      rw [hb, e, if_neg hik]; simp [hi]
theorem rturn_eq (l : List Bk) (c : List Nat) (hn : c.Nodup) (hl : ∀ i, i ∈ c → i < l.length) (hne : c ≠ []) : (turnS l c).o = some (rturn l c).1 ∧ turnL (turnS l c) = (rturn l c).2 := by
  have h1 := turnS_best l c hn hl hne
  have h2 : radd l c = ((turnS l c).l, (turnS l c).w) := fold_r c ⟨l, none, 0⟩
  simp only [rturn, h2, turnL, h1]
  exact ⟨trivial, trivial⟩
theorem canL_nodup (l : List Bk) (skip : Int) (k : Nat) : (canL l skip k).Nodup := by
  unfold canL
  exact List.Pairwise.filter _ List.nodup_range
theorem smooth_eq (l : List Bk) (skip : Int) : smooth l skip = rsmooth l skip := by
  unfold smooth rsmooth someE
  by_cases h : askB l skip = 0
  · simp only [h, if_true]
    by_cases hc : canL l skip l.length = []
    · simp [hc, turnS]
    · obtain ⟨h1, h2⟩ := rturn_eq l (canL l skip l.length) (canL_nodup _ _ _) (fun i hi => (canL_lt _ _ _ _ hi).2) hc
      simp [hc, h1, h2, canR, h]
  · simp [h]
theorem rbest_max (L : List Bk) (c : List Nat) : ∀ i, i ∈ c → (bk L i).cu ≤ (bk L (rbest L c)).cu := by
  have : ∀ (d : List Nat) (b : Nat), (bk L b).cu ≤ (bk L (d.foldl (fun b i => if (bk L b).cu < (bk L i).cu then i else b) b)).cu ∧ ∀ i, i ∈ d → (bk L i).cu ≤ (bk L (d.foldl (fun b i => if (bk L b).cu < (bk L i).cu then i else b) b)).cu := by
    intro d
    induction d with
    | nil => intro b; exact ⟨Int.le_refl _, fun i hi => by cases hi⟩
    | cons k d ih =>
      intro b
      rw [List.foldl_cons]
      obtain ⟨h1, h2⟩ := ih (if (bk L b).cu < (bk L k).cu then k else b)
      have hk : (bk L k).cu ≤ (bk L (if (bk L b).cu < (bk L k).cu then k else b)).cu := by split <;> omega
      have hb : (bk L b).cu ≤ (bk L (if (bk L b).cu < (bk L k).cu then k else b)).cu := by split <;> omega
      refine ⟨Int.le_trans hb h1, fun i hi => ?_⟩
      rcases List.mem_cons.1 hi with rfl | hi
      · exact Int.le_trans hk h1
      · exact h2 i hi
  exact (this c _).2
/-! Sums over indices. -/
def sumC (c : List Nat) (f : Nat → Int) : Int := (c.map f).sum
theorem sumC_nil (f : Nat → Int) : sumC [] f = 0 := rfl
theorem sumC_cons (k : Nat) (c : List Nat) (f : Nat → Int) : sumC (k :: c) f = f k + sumC c f := by simp [sumC]
theorem sumC_congr {c : List Nat} {f g : Nat → Int} (h : ∀ i, i ∈ c → f i = g i) : sumC c f = sumC c g := by
  unfold sumC; rw [List.map_congr_left h]
theorem sumC_add (c : List Nat) (f g : Nat → Int) : sumC c (fun i => f i + g i) = sumC c f + sumC c g := by
  induction c with
  | nil => rfl
  | cons k c ih => simp only [sumC_cons, ih]; omega
theorem sumC_sub (c : List Nat) (f g : Nat → Int) : sumC c (fun i => f i - g i) = sumC c f - sumC c g := by
  induction c with
  | nil => rfl
  | cons k c ih => simp only [sumC_cons, ih]; omega
theorem sumC_zero (c : List Nat) : sumC c (fun _ => 0) = 0 := by
  induction c with
  | nil => rfl
  | cons k c ih => simp only [sumC_cons, ih]; omega
theorem sumC_one (c : List Nat) (j : Nat) (W : Int) (hn : c.Nodup) (hj : j ∈ c) : sumC c (fun i => if i = j then W else 0) = W := by
  induction c with
  | nil => cases hj
  | cons k c ih =>
    rw [List.nodup_cons] at hn
    rw [sumC_cons]
    by_cases e : k = j
    · subst e
      rw [if_pos rfl, sumC_congr (g := fun _ => 0) (fun i hi => if_neg fun (e : i = k) => hn.1 (e ▸ hi)), sumC_zero]; omega
    · rw [if_neg e, ih hn.2 (by rcases List.mem_cons.1 hj with h | h; exact absurd h.symm e; exact h)]; omega
theorem sumC_le {c : List Nat} {f g : Nat → Int} (h : ∀ i, i ∈ c → f i ≤ g i) : sumC c f ≤ sumC c g := by
  induction c with
  | nil => exact Int.le_refl _
  | cons k c ih =>
    have h1 := h k (by simp)
    have h2 := ih fun i hi => h i (by simp [hi])
    simp only [sumC_cons]; omega
theorem sumC_const (c : List Nat) (a : Int) : sumC c (fun _ => a) = c.length * a := by
  induction c with
  | nil => simp [sumC_nil]
  | cons k c ih => simp only [sumC_cons, ih, List.length_cons]; rw [Int.natCast_add, Int.add_mul]; omega
theorem sumC_upper {c : List Nat} {f : Nat → Int} {W : Int} (hW : 0 ≤ W) (h : ∀ i, i ∈ c → -W ≤ f i) {j : Nat} (hj : j ∈ c) (hn : c.Nodup) : f j ≤ sumC c f + c.length * W := by
  induction c with
  | nil => cases hj
  | cons k c ih =>
    rw [List.nodup_cons] at hn
    simp only [sumC_cons, List.length_cons]
    rw [Int.natCast_add, Int.add_mul]
    rcases List.mem_cons.1 hj with rfl | hj
    · have h1 : sumC c (fun _ => -W) ≤ sumC c f := sumC_le fun i hi => h i (by simp [hi])
      rw [sumC_const] at h1
      have : (c.length : Int) * -W = -(c.length * W) := Int.mul_neg _ _
      omega
    · have h1 := ih (fun i hi => h i (by simp [hi])) hj hn.2
      have h2 := h k (by simp)
      omega
theorem sumC_nonneg_zero {c : List Nat} {f : Nat → Int} (h : ∀ i, i ∈ c → 0 ≤ f i) (hs : sumC c f = 0) : ∀ i, i ∈ c → f i = 0 := by
  induction c with
  | nil => intro i hi; cases hi
  | cons k c ih =>
    rw [sumC_cons] at hs
    have h1 := h k (by simp)
    have h2 : sumC c (fun _ => 0) ≤ sumC c f := sumC_le fun i hi => h i (by simp [hi])
    rw [sumC_zero] at h2
    intro i hi
    rcases List.mem_cons.1 hi with rfl | hi
    · omega
    · exact ih (fun i hi => h i (by simp [hi])) (by omega) i hi

/-- What holds of a view from which turns are taken. -/
structure Std (l : List Bk) (c : List Nat) (W : Int) : Prop where
  nd : c.Nodup
  lt : ∀ i, i ∈ c → i < l.length
  wt : ∀ i, i ∈ c → 0 < (bk l i).wt ∧ (bk l i).wt ≤ 100
  sw : W = sumC c fun i => (bk l i).wt
  s0 : (sumC c fun i => (bk l i).cu) = 0
  lo : ∀ i, i ∈ c → -W < (bk l i).cu
  len : c.length ≤ 50
  ne : c ≠ []
theorem Std.wpos {l : List Bk} {c : List Nat} {W : Int} (h : Std l c W) : 0 < W ∧ W ≤ 100 * c.length := by
  have h1 : sumC c (fun _ => 1) ≤ sumC c fun i => (bk l i).wt := sumC_le fun i hi => by have := h.wt i hi; omega
  have h2 : sumC c (fun i => (bk l i).wt) ≤ sumC c fun _ => 100 := sumC_le fun i hi => by have := h.wt i hi; omega
  rw [sumC_const] at h1 h2
  rw [← h.sw] at h1 h2
  have : 0 < c.length := List.length_pos_iff.2 h.ne
  omega
theorem Std.hi {l : List Bk} {c : List Nat} {W : Int} (h : Std l c W) : ∀ i, i ∈ c → (bk l i).cu ≤ 250000 := by
  intro i hi
  have h1 := h.wpos
  have h2 := sumC_upper (W := W) (by omega) (fun i hi => by have := h.lo i hi; omega) hi h.nd (f := fun i => (bk l i).cu)
  rw [h.s0] at h2
  have h3 : (c.length : Int) * W ≤ 50 * 5000 := Int.mul_le_mul (by have := h.len; omega) (by have := h.len; omega) (by omega) (by omega)
  omega
def best (l : List Bk) (c : List Nat) : Nat := rbest (turnS l c).l c
def next (l : List Bk) (c : List Nat) : List Bk := turnL (turnS l c)
theorem fold_w (c : List Nat) : ∀ (s : TS), c.Nodup → (∀ i, i ∈ c → i < s.l.length) → (∀ i, i ∈ c → 0 < (bk s.l i).wt ∧ (bk s.l i).wt ≤ 100) → 0 ≤ s.w → s.w + 100 * c.length ≤ 1000000 → (c.foldl tstep s).w = s.w + sumC c fun i => (bk s.l i).wt := by
  induction c with
  | nil => intro s _ _ _ _ _; simp [sumC_nil]
  | cons k c ih =>
    intro s hn hl hw h0 hb
    rw [List.nodup_cons] at hn
    simp only [List.length_cons] at hb
    have hk := hl k (by simp)
    have hwk := hw k (by simp)
    have e : ∀ i, bk (tstep s k).l i = if i = k then addC (bk s.l k) (bk s.l k).wt else bk s.l i := fun i => bk_set _ _ _ _ hk
    have ew : (tstep s k).w = s.w + (bk s.l k).wt := by
      show IntKind.i64.wrap (s.w + (bk s.l k).wt) = _
      rw [wr64 (by omega)]
    have hne : ∀ i, i ∈ c → i ≠ k := fun i hi e => hn.1 (e ▸ hi)
    rw [List.foldl_cons, ih _ hn.2 (fun i hi => by simp [tstep]; exact hl i (by simp [hi])) (fun i hi => by rw [e, if_neg (hne i hi)]; exact hw i (by simp [hi])) (by omega) (by omega), ew, sumC_cons, sumC_congr (fun i hi => by rw [e, if_neg (hne i hi)])]
    omega
theorem next_bk {l : List Bk} {c : List Nat} {W : Int} (h : Std l c W) : best l c ∈ c ∧ (turnS l c).o = some (best l c) ∧ (next l c).length = l.length ∧ ∀ i, bk (next l c) i = if i ∈ c then { bk l i with cu := (bk l i).cu + (bk l i).wt - (if i = best l c then W else 0) } else bk l i := by
  have hb := turnS_best l c h.nd h.lt h.ne
  have hm : best l c ∈ c := rbest_mem _ _ h.ne
  have hp := h.wpos
  have hlen := h.len
  have hw : (turnS l c).w = W := by
    rw [h.sw]
    have := fold_w c ⟨l, none, 0⟩ h.nd h.lt h.wt (by simp) (by simp; omega)
    simpa [turnS] using this
  have hll := turnS_len l c
  refine ⟨hm, hb, ?_, fun i => ?_⟩
  · unfold next turnL; rw [hb]; simp [hll]
  · unfold next turnL
    rw [hb]
    simp only []
    rw [bk_set _ _ _ _ (by rw [hll]; exact h.lt _ hm), hw, turnS_bk _ _ h.nd h.lt, turnS_bk _ _ h.nd h.lt]
    show (if i = best l c then subC (if best l c ∈ c then addC (bk l (best l c)) (bk l (best l c)).wt else bk l (best l c)) W else _) = _
    rw [if_pos hm]
    by_cases hi : i ∈ c
    · have h1 := h.lo i hi
      have h2 := h.hi i hi
      have h3 := h.wt i hi
      rw [if_pos hi, if_pos hi]
      by_cases e : i = best l c
      · rw [if_pos e, if_pos e, ← e]
        simp only [subC, addC]
        rw [wr64 (show -9223372036854775808 ≤ (bk l i).cu + (bk l i).wt ∧ (bk l i).cu + (bk l i).wt ≤ 9223372036854775807 by omega), wr64 (by omega)]
      · rw [if_neg e, if_neg e]
        simp only [addC]
        rw [wr64 (by omega)]
        simp
    · rw [if_neg hi, if_neg hi, if_neg (fun (e : i = best l c) => hi (e ▸ hm))]
theorem Std.next {l : List Bk} {c : List Nat} {W : Int} (h : Std l c W) : Std (Go.Proofs.next l c) c W := by
  obtain ⟨hm, ho, hlen, hb⟩ := next_bk h
  have hp := h.wpos
  have hwt : ∀ i, i ∈ c → (bk (Go.Proofs.next l c) i).wt = (bk l i).wt := fun i hi => by rw [hb, if_pos hi]
  have hcu : ∀ i, i ∈ c → (bk (Go.Proofs.next l c) i).cu = (bk l i).cu + (bk l i).wt - (if i = best l c then W else 0) := fun i hi => by rw [hb, if_pos hi]
  refine ⟨h.nd, fun i hi => by rw [hlen]; exact h.lt i hi, fun i hi => by rw [hwt i hi]; exact h.wt i hi, ?_, ?_, fun i hi => ?_, h.len, h.ne⟩
  · rw [h.sw]; exact sumC_congr fun i hi => (hwt i hi).symm
  · rw [sumC_congr hcu, sumC_sub, sumC_add, h.s0, sumC_one c _ W h.nd hm, ← h.sw]; omega
  · rw [hcu i hi]
    have h1 := h.lo i hi
    have h2 := h.wt i hi
    split
    · rename_i e
      -- the greatest one is above 0
      have hmax := rbest_max (turnS l c).l c
      have hsum : sumC c (fun i => (bk l i).cu + (bk l i).wt) = W := by rw [sumC_add, h.s0, ← h.sw]; omega
      have hle : ∀ k, k ∈ c → (bk l k).cu + (bk l k).wt ≤ (bk l i).cu + (bk l i).wt := by
        intro k hk
        have := hmax k hk
        rw [turnS_bk _ _ h.nd h.lt, turnS_bk _ _ h.nd h.lt, if_pos hk, if_pos (show rbest (turnS l c).l c ∈ c from hm)] at this
        have e' : rbest (turnS l c).l c = i := e.symm
        rw [e'] at this
        have a1 := h.lo k hk
        have a2 := h.hi k hk
        have a3 := h.wt k hk
        have a4 := h.hi i hi
        have a5 := h.len
        simp only [addC] at this
        rw [wr64 (by omega), wr64 (by omega)] at this
        exact this
      have := sumC_le hle
      rw [hsum, sumC_const] at this
      by_cases hpos : 0 < (bk l i).cu + (bk l i).wt
      · omega
      · have : (c.length : Int) * ((bk l i).cu + (bk l i).wt) ≤ 0 := Int.mul_nonpos_of_nonneg_of_nonpos (by omega) (by omega)
        omega
    · omega
end Go.Proofs

set_option linter.unusedSimpArgs false
set_option linter.unusedVariables false
namespace Go.Proofs
open Go Go.Pl
def seqL (l : List Bk) (c : List Nat) : Nat → List Bk
  | 0 => l
  | k + 1 => next (seqL l c k) c
def cnt (l : List Bk) (c : List Nat) (i : Nat) : Nat → Nat
  | 0 => 0
  | k + 1 => cnt l c i k + if i = best (seqL l c k) c then 1 else 0
theorem seq_std {l : List Bk} {c : List Nat} {W : Int} (h : Std l c W) : ∀ k, Std (seqL l c k) c W
  | 0 => h
  | k + 1 => (seq_std h k).next
theorem seq_bk {l : List Bk} {c : List Nat} {W : Int} (h : Std l c W) : ∀ k, (seqL l c k).length = l.length ∧ ∀ i, bk (seqL l c k) i = if i ∈ c then { bk l i with cu := (bk l i).cu + k * (bk l i).wt - W * cnt l c i k } else bk l i
  | 0 => ⟨rfl, fun i => by
      show bk l i = _
      by_cases hi : i ∈ c
      · rw [if_pos hi]
        simp [cnt]
      · rw [if_neg hi]⟩
  | k + 1 => by
    obtain ⟨h1, h2⟩ := seq_bk h k
    obtain ⟨hm, ho, hlen, hb⟩ := next_bk (seq_std h k)
    refine ⟨hlen.trans h1, fun i => ?_⟩
    show bk (next (seqL l c k) c) i = _
    rw [hb]
    by_cases hi : i ∈ c
    · rw [if_pos hi, if_pos hi, h2 i, if_pos hi]
      have : (bk l i).cu + (k : Int) * (bk l i).wt - W * (cnt l c i k : Int) + (bk l i).wt - (if i = best (seqL l c k) c then W else 0) = (bk l i).cu + ((k + 1 : Nat) : Int) * (bk l i).wt - W * (cnt l c i (k + 1) : Int) := by
        simp only [cnt]
        rw [Int.natCast_add, Int.natCast_add, Int.add_mul, Int.mul_add]
        split <;> simp <;> omega
      simp only [this]
    · rw [if_neg hi, if_neg hi, h2 i, if_neg hi]
theorem seq_cu {l : List Bk} {c : List Nat} {W : Int} (h : Std l c W) (k i : Nat) (hi : i ∈ c) : (bk (seqL l c k) i).cu = (bk l i).cu + k * (bk l i).wt - W * cnt l c i k := by
  rw [(seq_bk h k).2 i, if_pos hi]

def gcdC (l : List Bk) (c : List Nat) : Nat := c.foldl (fun g i => Nat.gcd g (bk l i).wt.toNat) 0
theorem gcdC_dvd (l : List Bk) (c : List Nat) : ∀ i, i ∈ c → gcdC l c ∣ (bk l i).wt.toNat := by
  have : ∀ (c : List Nat) (g : Nat), c.foldl (fun g i => Nat.gcd g (bk l i).wt.toNat) g ∣ g ∧ ∀ i, i ∈ c → c.foldl (fun g i => Nat.gcd g (bk l i).wt.toNat) g ∣ (bk l i).wt.toNat := by
    intro c
    induction c with
    | nil => intro g; exact ⟨Nat.dvd_refl _, fun i hi => by cases hi⟩
    | cons k c ih =>
      intro g
      rw [List.foldl_cons]
      obtain ⟨h1, h2⟩ := ih (Nat.gcd g (bk l k).wt.toNat)
      refine ⟨Nat.dvd_trans h1 (Nat.gcd_dvd_left _ _), fun i hi => ?_⟩
      rcases List.mem_cons.1 hi with rfl | hi
      · exact Nat.dvd_trans h1 (Nat.gcd_dvd_right _ _)
      · exact h2 i hi
  exact (this c 0).2
theorem gcdC_mul (l : List Bk) (c : List Nat) (W k : Nat) (h : ∀ i, i ∈ c → W ∣ k * (bk l i).wt.toNat) : W ∣ k * gcdC l c := by
  have : ∀ (c : List Nat) (g : Nat), W ∣ k * g → (∀ i, i ∈ c → W ∣ k * (bk l i).wt.toNat) → W ∣ k * c.foldl (fun g i => Nat.gcd g (bk l i).wt.toNat) g := by
    intro c
    induction c with
    | nil => intro g h _; exact h
    | cons j c ih =>
      intro g hg h
      rw [List.foldl_cons]
      refine ih _ ?_ fun i hi => h i (by simp [hi])
      rw [← Nat.gcd_mul_left]
      exact Nat.dvd_gcd hg (h j (by simp))
  exact this c 0 (by simp) h
theorem gcdC_sum (l : List Bk) (c : List Nat) (hw : ∀ i, i ∈ c → 0 ≤ (bk l i).wt) : (gcdC l c : Int) ∣ sumC c fun i => (bk l i).wt := by
  have h := gcdC_dvd l c
  generalize gcdC l c = g at *
  induction c with
  | nil => simp [sumC_nil]
  | cons k c ih =>
    rw [sumC_cons]
    refine Int.dvd_add ?_ (ih (fun i hi => hw i (by simp [hi])) fun i hi => h i (by simp [hi]))
    have := Int.natCast_dvd_natCast.2 (h k (by simp))
    rwa [Int.toNat_of_nonneg (hw k (by simp))] at this
/-- The length of a cycle. -/
def cycN (l : List Bk) (c : List Nat) : Nat := (sumC c fun i => (bk l i).wt).toNat / gcdC l c
theorem gcdC_pos {l : List Bk} {c : List Nat} {W : Int} (h : Std l c W) : 0 < gcdC l c := by
  rcases Nat.eq_zero_or_pos (gcdC l c) with h0 | h0
  · obtain ⟨i, hi⟩ := List.exists_mem_of_ne_nil _ h.ne
    have h1 := gcdC_dvd l c i hi
    rw [h0, Nat.zero_dvd] at h1
    have := h.wt i hi
    omega
  · exact h0
theorem cycN_mul {l : List Bk} {c : List Nat} {W : Int} (h : Std l c W) : cycN l c * gcdC l c = W.toNat ∧ 0 < cycN l c := by
  have hp := h.wpos
  have hd : gcdC l c ∣ W.toNat := by
    have := gcdC_sum l c fun i hi => by have := h.wt i hi; omega
    rw [← h.sw] at this
    have h2 : (W.toNat : Int) = W := Int.toNat_of_nonneg (by omega)
    rw [← h2] at this
    exact Int.natCast_dvd_natCast.1 this
  have e : cycN l c = W.toNat / gcdC l c := by unfold cycN; rw [← h.sw]
  rw [e]
  refine ⟨Nat.div_mul_cancel hd, Nat.div_pos (Nat.le_of_dvd (by omega) hd) (gcdC_pos h)⟩
/-- When all are 0 again. -/
theorem seq_zero {l : List Bk} {c : List Nat} {W : Int} (h : Std l c W) (h0 : ∀ i, i ∈ c → (bk l i).cu = 0) (k : Nat) : (∀ i, i ∈ c → (bk (seqL l c k) i).cu = 0) ↔ cycN l c ∣ k := by
  obtain ⟨hT, hTp⟩ := cycN_mul h
  have hp := h.wpos
  have hg := gcdC_pos h
  have hWn : (W.toNat : Int) = W := Int.toNat_of_nonneg (by omega)
  have hwn : ∀ i, i ∈ c → ((bk l i).wt.toNat : Int) = (bk l i).wt := fun i hi => Int.toNat_of_nonneg (by have := h.wt i hi; omega)
  constructor
  · intro hz
    have h1 : W.toNat ∣ k * gcdC l c := by
      refine gcdC_mul l c _ _ fun i hi => ?_
      have h2 := hz i hi
      rw [seq_cu h k i hi, h0 i hi, ← hwn i hi, ← hWn] at h2
      refine ⟨cnt l c i k, ?_⟩
      have h3 : (k : Int) * ((bk l i).wt.toNat : Int) = (W.toNat : Int) * (cnt l c i k : Int) := by omega
      exact_mod_cast h3
    rw [← hT] at h1
    exact Nat.dvd_of_mul_dvd_mul_right hg h1
  · rintro ⟨m, rfl⟩
    have hs := (seq_std h (cycN l c * m))
    have hnn : ∀ i, i ∈ c → 0 ≤ (bk (seqL l c (cycN l c * m)) i).cu := by
      intro i hi
      have hlo := hs.lo i hi
      obtain ⟨q, hq⟩ := gcdC_dvd l c i hi
      have e : (bk (seqL l c (cycN l c * m)) i).cu = W * ((m * q : Nat) - cnt l c i (cycN l c * m) : Int) := by
        rw [seq_cu h _ i hi, h0 i hi, ← hwn i hi, hq, ← hWn, Int.mul_sub]
        have : (cycN l c * m) * (gcdC l c * q) = W.toNat * (m * q) := by
          rw [← hT]; simp only [Nat.mul_assoc, Nat.mul_left_comm, Nat.mul_comm]
        have h4 : ((cycN l c * m : Nat) : Int) * ((gcdC l c * q : Nat) : Int) = (W.toNat : Int) * ((m * q : Nat) : Int) := by exact_mod_cast this
        rw [h4]; omega
      rw [e] at hlo ⊢
      generalize ((m * q : Nat) : Int) - (cnt l c i (cycN l c * m) : Int) = z at *
      have hz : -1 < z := by
        have : W * (-1) < W * z := by omega
        exact Int.lt_of_mul_lt_mul_left this (by omega)
      exact Int.mul_nonneg (by omega) (by omega)
    exact sumC_nonneg_zero hnn hs.s0
theorem seq_count {l : List Bk} {c : List Nat} {W : Int} (h : Std l c W) (h0 : ∀ i, i ∈ c → (bk l i).cu = 0) (i : Nat) (hi : i ∈ c) : cnt l c i (cycN l c) = (bk l i).wt.toNat / gcdC l c := by
  obtain ⟨hT, hTp⟩ := cycN_mul h
  have hp := h.wpos
  have hg := gcdC_pos h
  have hWn : (W.toNat : Int) = W := Int.toNat_of_nonneg (by omega)
  have hwn : ((bk l i).wt.toNat : Int) = (bk l i).wt := Int.toNat_of_nonneg (by have := h.wt i hi; omega)
  have hz := (seq_zero h h0 (cycN l c)).2 (Nat.dvd_refl _) i hi
  rw [seq_cu h _ i hi, h0 i hi, ← hwn, ← hWn] at hz
  obtain ⟨q, hq⟩ := gcdC_dvd l c i hi
  rw [hq] at hz ⊢
  rw [Nat.mul_div_cancel_left _ hg]
  have h3 : ((cycN l c : Nat) : Int) * ((gcdC l c * q : Nat) : Int) = (W.toNat : Int) * (cnt l c i (cycN l c) : Int) := by omega
  have h4 : cycN l c * (gcdC l c * q) = W.toNat * cnt l c i (cycN l c) := by exact_mod_cast h3
  rw [← Nat.mul_assoc, hT] at h4
  exact (Nat.eq_of_mul_eq_mul_left (by omega) h4).symm
def cycL (l : List Bk) (c : List Nat) (T : Nat) : List Nat := (List.range T).map fun k => best (seqL l c k) c
theorem cycL_count (l : List Bk) (c : List Nat) (i : Nat) : ∀ T, (cycL l c T).count i = cnt l c i T
  | 0 => rfl
  | T + 1 => by
    have : cycL l c (T + 1) = cycL l c T ++ [best (seqL l c T) c] := by simp [cycL, List.range_succ]
    rw [this, List.count_append, cycL_count l c i T]
    simp only [cnt, List.count_cons, List.count_nil]
    congr 1
    by_cases e : i = best (seqL l c T) c
    · simp [e]
    · simp [e, Ne.symm e]
end Go.Proofs

set_option linter.unusedSimpArgs false
set_option linter.unusedVariables false
namespace Go.Proofs
open Go Go.Pl
def l0 (ws : List Int) : List Bk := ws.map fun w => ⟨w, 0, 0, true, false⟩
def c0 (ws : List Int) : List Nat := canL (l0 ws) 0 ws.length
theorem bk_l0 (ws : List Int) (i : Nat) (h : i < ws.length) : bk (l0 ws) i = ⟨ws[i], 0, 0, true, false⟩ := by
  rw [bk_get (by simpa [l0] using h)]; simp [l0]
theorem canP_l0 (w : Int) (i : Nat) : canP ⟨w, 0, 0, true, false⟩ 0 i = decide (0 < w) := by simp [canP]
theorem c0_mem (ws : List Int) (i : Nat) : i ∈ c0 ws ↔ ∃ h : i < ws.length, 0 < ws[i] := by
  simp only [c0, canL, List.mem_filter, List.mem_range]
  constructor
  · rintro ⟨h, h1⟩
    refine ⟨h, ?_⟩
    simpa [l0, List.getElem?_eq_getElem h, canP_l0] using h1
  · rintro ⟨h, h1⟩
    refine ⟨h, ?_⟩
    simpa [l0, List.getElem?_eq_getElem h, canP_l0] using h1
theorem canL_congr {l l' : List Bk} {skip : Int} (hl : l'.length = l.length) (h : ∀ i, canP (bk l' i) skip i = canP (bk l i) skip i) (n : Nat) : canL l' skip n = canL l skip n := by
  unfold canL
  refine List.filter_congr fun i _ => ?_
  have := h i
  by_cases hi : i < l.length
  · rw [List.getElem?_eq_getElem hi, List.getElem?_eq_getElem (by omega)]
    rw [bk_get hi, bk_get (by omega)] at this
    exact this
  · rw [List.getElem?_eq_none (by omega), List.getElem?_eq_none (by omega)]
def posN (ws : List Int) : Nat := (ws.filter fun w => decide (0 < w)).length
def cycle (ws : List Int) : List Nat × Int :=
  if ws.length < 1 ∨ 16 < ws.length then ([], 3) else if checkB (l0 ws) ≠ 0 then ([], 7) else if c0 ws = [] then ([], 4) else (cycL (l0 ws) (c0 ws) (cycN (l0 ws) (c0 ws)), 0)
theorem contO (g : FuncId) (p : Bk → Bool) (l : List Bk) (b : Nat) (bx : Boxes) (hb : bx b = some (.row 45 5 (l.map bkV))) (hl : l.length ≤ 1000) (hp : ∀ x, x ∈ l → ∀ bx, PureCall Try.prog g (bkV x :: []) bx (.bool (p x))) :
    PureCall Try.prog 36 [.own b 5 0 l.length, .fn (.func g) []] bx (.bool (l.any p)) :=
  PureCall.frame 1 (contains_c g [] p l _ hl hp) (by rw [List.map_cons, frz_own1 hb rfl (by decide) (by simp)]; rfl) rfl
theorem checkO (l : List Bk) (b : Nat) (bx : Boxes) (hb : bx b = some (.row 45 5 (l.map bkV))) (hl : l.length ≤ 1000) : PureCall Try.prog 13 [.own b 5 0 l.length] bx (.int .i64 (checkB l)) :=
  PureCall.frame 1 (check_c l _ hl) (by rw [List.map_cons, frz_own1 hb rfl (by decide) (by simp)]; rfl) rfl
theorem appB {bx bx1 bx2 : Boxes} {es news : List V} {v x : V} {d n : Nat} {sl : Nat → V} {K : St → Prop} (ha : Acc bx 45 5 es v bx1) (h2 : Ext bx1 bx2) (hf : FinB bx2) (src : srcEls ⟨n, sl, bx2⟩ 5 x = some news) (hlen : es.length + news.length ≤ 1000000) (hd : d < n)
    (hK : ∀ v' bx3, Acc bx 45 5 (es ++ news) v' bx3 → K (St.put ⟨n, sl, bx3⟩ (some d) v')) : appendA Try.prog ⟨n, sl, bx2⟩ (some d) 22 v x K :=
  acc_append (.agg #[.int .i64 0, .int .i64 0, .int .i64 0, .bool false, .bool false]) ha h2 hf Try.knd22 Try.tsz45 src Try.tzero45 (by simp [go_sem]) (by omega) (by simp [Try.tby45]; omega) (by omega) (by simpa [go_sem] using hd) hK
theorem posN_c0 (ws : List Int) : posN ws = 0 ↔ c0 ws = [] := by
  have h1 : posN ws = 0 ↔ ∀ w, w ∈ ws → ¬ 0 < w := by
    unfold posN
    rw [List.length_eq_zero_iff, List.filter_eq_nil_iff]
    simp
  rw [h1]
  constructor
  · intro h
    refine List.eq_nil_iff_forall_not_mem.2 fun i hi => ?_
    obtain ⟨hi, hp⟩ := (c0_mem ws i).1 hi
    exact h _ (List.getElem_mem hi) hp
  · intro h w hw hp
    obtain ⟨i, hi, rfl⟩ := List.getElem_of_mem hw
    have : i ∈ c0 ws := (c0_mem ws i).2 ⟨hi, hp⟩
    rw [h] at this
    cases this
theorem std_l0 (ws : List Int) (hn : ws.length ≤ 50) (hc : checkB (l0 ws) = 0) (hne : c0 ws ≠ []) : Std (l0 ws) (c0 ws) (sumC (c0 ws) fun i => (bk (l0 ws) i).wt) := by
  have hlt : ∀ i, i ∈ c0 ws → ∃ h : i < ws.length, 0 < ws[i] := fun i hi => (c0_mem ws i).1 hi
  have hbad : ∀ i (h : i < ws.length), ws[i] ≤ 100 := by
    intro i h
    unfold checkB at hc
    split at hc
    · cases hc
    · split at hc
      · cases hc
      · rename_i hb
        have hb' := (List.any_eq_false (p := badB)).1 (by simpa using hb) ⟨ws[i], 0, 0, true, false⟩ (by simp [l0])
        simp [badB] at hb'
        omega
  have hwt : ∀ i, i ∈ c0 ws → 0 < (bk (l0 ws) i).wt ∧ (bk (l0 ws) i).wt ≤ 100 := by
    intro i hi
    obtain ⟨h1, h2⟩ := hlt i hi
    rw [bk_l0 ws i h1]
    exact ⟨h2, hbad i h1⟩
  have hcu : ∀ i, i ∈ c0 ws → (bk (l0 ws) i).cu = 0 := by
    intro i hi
    obtain ⟨h1, h2⟩ := hlt i hi
    rw [bk_l0 ws i h1]
  have hpos : 0 < sumC (c0 ws) fun i => (bk (l0 ws) i).wt := by
    have h1 : sumC (c0 ws) (fun _ => 1) ≤ sumC (c0 ws) fun i => (bk (l0 ws) i).wt := sumC_le fun i hi => by have := hwt i hi; omega
    rw [sumC_const] at h1
    have := List.length_pos_iff.2 hne
    omega
  refine ⟨canL_nodup _ _ _, fun i hi => by have := (hlt i hi).1; simpa [l0] using this, hwt, rfl, ?_, fun i hi => by rw [hcu i hi]; omega, ?_, hne⟩
  · rw [sumC_congr hcu, sumC_zero]
  · exact Nat.le_trans (canL_le _ _ _) hn
theorem seq_can {l : List Bk} {c : List Nat} {W : Int} (h : Std l c W) (k : Nat) (skip : Int) (n : Nat) : canL (seqL l c k) skip n = canL l skip n := by
  obtain ⟨h1, h2⟩ := seq_bk h k
  refine canL_congr h1 (fun i => ?_) n
  rw [h2 i]
  split <;> rfl
theorem seq_any (ws : List Int) (hn : ws.length ≤ 50) (hc : checkB (l0 ws) = 0) (hne : c0 ws ≠ []) (k : Nat) : ((seqL (l0 ws) (c0 ws) k).any fun x => decide (x.cu ≠ 0)) = !decide (cycN (l0 ws) (c0 ws) ∣ k) := by
  have hs := std_l0 ws hn hc hne
  have h0 : ∀ i, i < ws.length → (bk (l0 ws) i).cu = 0 := fun i hi => by rw [bk_l0 ws i hi]
  have hz := seq_zero hs (fun i hi => h0 i ((c0_mem ws i).1 hi).1) k
  obtain ⟨hl, hb⟩ := seq_bk hs k
  have hll : (l0 ws).length = ws.length := by simp [l0]
  by_cases hd : cycN (l0 ws) (c0 ws) ∣ k
  · simp only [hd, decide_true, Bool.not_true]
    rw [List.any_eq_false]
    intro x hx
    obtain ⟨i, hi, rfl⟩ := List.getElem_of_mem hx
    rw [← bk_get hi]
    by_cases hic : i ∈ c0 ws
    · simp [hz.2 hd i hic]
    · rw [hb i, if_neg hic, h0 i (by omega)]; simp
  · simp only [hd, decide_false, Bool.not_false]
    rw [List.any_eq_true]
    have : ¬ ∀ i, i ∈ c0 ws → (bk (seqL (l0 ws) (c0 ws) k) i).cu = 0 := fun h => hd (hz.1 h)
    simp only [Classical.not_forall] at this
    obtain ⟨i, hi, hne⟩ := this
    have hi' : i < (seqL (l0 ws) (c0 ws) k).length := by have := ((c0_mem ws i).1 hi).1; omega
    refine ⟨(seqL (l0 ws) (c0 ws) k)[i], List.getElem_mem hi', ?_⟩
    rw [← bk_get hi']
    simpa using hne
theorem turn_seq (ws : List Int) (hn : ws.length ≤ 50) (hc : checkB (l0 ws) = 0) (hne : c0 ws ≠ []) (k bo : Nat) (bx : Boxes) (hbo : bx bo = some (.row 45 5 ((seqL (l0 ws) (c0 ws) k).map bkV))) :
    AbsCall Try.prog 38 [.own bo 5 0 ws.length, .int .i64 0] bx fun r bx' => r = .int .i64 (best (seqL (l0 ws) (c0 ws) k) (c0 ws)) ∧ bx' = upd bx bo (some (.row 45 5 ((seqL (l0 ws) (c0 ws) (k + 1)).map bkV))) := by
  have hs := std_l0 ws hn hc hne
  obtain ⟨hl, hb⟩ := seq_bk hs k
  have hll : (l0 ws).length = ws.length := by simp [l0]
  have h := turn_c (seqL (l0 ws) (c0 ws) k) bo 0 bx (by omega) hbo
  rw [seq_can hs k 0, hl, hll] at h
  obtain ⟨h1, h2, _, _⟩ := next_bk (seq_std hs k)
  have hcc : canL (l0 ws) 0 ws.length = c0 ws := rfl
  rw [hcc, h2] at h
  exact h
set_option maxHeartbeats 1000000 in
theorem cycle_c (ws : List Int) (bx : Boxes) (hl : ws.length ≤ 50) : PureCall Try.prog 20 [.sl 1 (ws.map iV)] bx (.tup [.sl 1 ((cycle ws).1.map ixV), .int .i64 (cycle ws).2]) := by
  refine PureCall.wk (Try.ctr20 fun hb => ?_)
  have hm : (if (16 : Int) < (ws.length : Int) then (16 : Int) else ws.length) = ((min ws.length 16 : Nat) : Int) := by split <;> omega
  have hm2 : min ws.length 16 ≤ ws.length := Nat.min_le_left _ _
  simp [go_sem, Try.C20, hb, hm]
  generalize hmd : min ws.length 16 = m at *
  refine ⟨by omega, ?_⟩
  refine pw_for (ι := V × Boxes) m (fun k p => Acc bx 45 5 ((l0 (ws.take k)).map bkV) p.1 p.2) (fun k p => ⟨52, slk [(0, .sl 1 (ws.map iV)), (4, p.1), (5, .int .i64 (posN (ws.take k))), (13, .sl 1 ((ws.take m).map iV)), (14, .int .i64 m), (15, .int .i64 k)], p.2⟩) (.nils, bx) (by simpa [l0] using acc_nil hb _ _) (cov_look (by simp [go_sem, posN])) (fun k p hk hJ N hN => ?_) (fun p hJ N => ?_)
  · obtain ⟨v, bx1⟩ := p
    dsimp only at *
    have hkw : k < ws.length := by omega
    simp [go_sem, Try.L20_0, hk, hkw, iV, hJ.fin]
    refine ⟨by omega, fun b hb1 => ?_⟩
    have hpk : posN (ws.take (k + 1)) = posN (ws.take k) + if 0 < ws[k] then 1 else 0 := by
      rw [take_snoc hkw]; unfold posN; rw [List.filter_append, List.length_append]
      simp only [List.filter_cons, List.filter_nil, decide_eq_true_eq]
      split <;> rfl
    have hpl : posN (ws.take k) ≤ k := by
      unfold posN
      refine Nat.le_trans (List.length_filter_le _ _) ?_
      simp; omega
    refine appB hJ ((Ext.refl _).new hb1 _) (by simp [finB_upd, hJ.fin]) (by simp [srcEls, upd_eq]; rfl) (by simp [l0]; omega) (by omega) fun v' bx3 ha' => ?_
    have hmx : IntKind.i64.wrap (((posN (ws.take k) : Nat) : Int) + if (1 : Int) < (if ws[k] < 0 then 0 else ws[k]) then 1 else (if ws[k] < 0 then 0 else ws[k])) = ((posN (ws.take (k + 1)) : Nat) : Int) := by
      rw [hpk, wr64 (by split <;> split <;> omega)]
      split <;> split <;> split <;> omega
    simp [go_sem, hmx, wr_succ (show k < 1000000000 by omega)]
    refine hN _ (v', bx3) ?_ (cov_look (by simp [go_sem]))
    have e : (l0 (ws.take (k + 1))).map bkV = (l0 (ws.take k)).map bkV ++ [V.agg [.int .i64 ws[k], .int .i64 0, .int .i64 0, .bool true, .bool false]] := by
      rw [take_snoc hkw]; simp only [l0, List.map_append, List.map_cons, List.map_nil, bkV]
    rw [e]
    exact ha'
  · obtain ⟨v, bx1⟩ := p
    dsimp only at *
    simp [go_sem, Try.L20_0, iV]
    refine callK_pure (outside_c ..) ?_
    by_cases hbad : ws.length < 1 ∨ 16 < ws.length
    · have hcy : cycle ws = ([], 3) := if_pos hbad
      have hd : (decide ((ws.length : Int) < 1) || decide ((16 : Int) < (ws.length : Int))) = true := by simp; omega
      simp [go_sem, hd]
      refine ret_wk (by simp [go_sem]) hJ.ext ?_
      simp [go_sem, hcy]; exact wk_tup2 (wk_nils _) (Wk.refl _)
    · have hd : (decide ((ws.length : Int) < 1) || decide ((16 : Int) < (ws.length : Int))) = false := by simp; omega
      have hmw : m = ws.length := by omega
      subst hmw
      rw [List.take_length] at hJ
      have hne : (l0 ws).map bkV ≠ [] := fun e => by simp [l0] at e; subst e; simp at hbad
      obtain ⟨bo, hbo, rfl, hbo1⟩ := hJ.row hne
      have hll : (l0 ws).length = ws.length := by simp [l0]
      have hll2 : ((l0 ws).map bkV).length = (l0 ws).length := by simp
      rw [hll2] at hJ ⊢
      simp [go_sem, hd]
      refine callK_pure (checkO (l0 ws) bo bx1 hbo1 (by omega)) ?_
      by_cases hck : checkB (l0 ws) = 0
      · simp [go_sem, hck]
        refine ⟨fun hp => ?_, fun hp => ?_⟩
        · have hcy : cycle ws = ([], 4) := by unfold cycle; rw [if_neg hbad, if_neg (by simp [hck]), if_pos ((posN_c0 ws).1 hp)]
          refine ret_wk (by simp [go_sem]) hJ.ext ?_
          simp [go_sem, hcy]; exact wk_tup2 (wk_nils _) (Wk.refl _)
        · have hne : c0 ws ≠ [] := fun e => hp ((posN_c0 ws).2 e)
          have hcy : cycle ws = (cycL (l0 ws) (c0 ws) (cycN (l0 ws) (c0 ws)), 0) := by unfold cycle; rw [if_neg hbad, if_neg (by simp [hck]), if_neg hne]
          have hs := std_l0 ws hl hck hne
          have hTp := (cycN_mul hs).2
          have hany := seq_any ws hl hck hne
          have hturn := turn_seq ws hl hck hne
          have hseq := fun k => (seq_bk hs k).1
          have hcyc : ∀ k, cycL (l0 ws) (c0 ws) (k + 1) = cycL (l0 ws) (c0 ws) k ++ [best (seqL (l0 ws) (c0 ws) k) (c0 ws)] := fun k => by simp [cycL, List.range_succ]
          have hcl : ∀ k, (cycL (l0 ws) (c0 ws) k).length = k := fun k => by simp [cycL]
          have hTle : cycN (l0 ws) (c0 ws) ≤ 5000 := by
            have h1 := hs.wpos
            have h2 := hs.len
            unfold cycN
            refine Nat.le_trans (Nat.div_le_self _ _) ?_
            omega
          generalize hT : cycN (l0 ws) (c0 ws) = T at *
          rw [hll] at hJ ⊢
          refine callK_abs (hturn 0 bo bx1 hbo1) ?_
          rintro r bx2 ⟨rfl, rfl⟩
          simp [go_sem, hJ.fin]
          intro b8 hb8
          refine pw_for (ι := V × Boxes) (T - 1) (fun j p => Acc (upd bx1 bo (some (.row 45 5 ((seqL (l0 ws) (c0 ws) (j + 1)).map bkV)))) 3 1 ((cycL (l0 ws) (c0 ws) (j + 1)).map ixV) p.1 p.2) (fun j p => ⟨52, slk [(4, .own bo 5 0 ws.length), (8, p.1)], p.2⟩) (.own b8 1 0 1, _) ?_ (cov_look (by simp [go_sem])) (fun j p hj hA N hN => ?_) (fun p hA N => ?_)
          · dsimp only
            have : cycL (l0 ws) (c0 ws) (0 + 1) = [best (seqL (l0 ws) (c0 ws) 0) (c0 ws)] := by rw [hcyc]; simp [cycL]
            rw [this]
            exact acc_new hb8 (by simp [finB_upd, hJ.fin]) 3 1 _ 1 rfl
          · obtain ⟨v, bx3⟩ := p
            dsimp only at *
            simp [go_sem, Try.L20_1]
            have hc1 := contO 40 (fun x => decide (x.cu ≠ 0)) (seqL (l0 ws) (c0 ws) (j + 1)) bo bx3 hA.at (by rw [hseq, hll]; omega) (fun x _ bx => still2_c x bx)
            rw [hseq, hll] at hc1
            refine callK_pure hc1 ?_
            have hnd : ¬ T ∣ j + 1 := fun hd => by have := Nat.le_of_dvd (by omega) hd; omega
            rw [hany]
            simp [go_sem, hnd]
            refine callK_abs (hturn (j + 1) bo bx3 hA.at) ?_
            rintro r bx4 ⟨rfl, rfl⟩
            have hA' := hA.put (.row 45 5 ((seqL (l0 ws) (c0 ws) (j + 1 + 1)).map bkV))
            simp [go_sem, hA'.fin]
            intro b hb1
            refine appI hA' ((Ext.refl _).new hb1 _) (by simp [finB_upd, hA'.fin]) (by simp [srcEls, upd_eq]; rfl) (by simp [hcl]; omega) (by omega) fun v2 bx5 hA2 => ?_
            simp [go_sem]
            refine hN _ (v2, bx5) ?_ (cov_look (by simp [go_sem]))
            dsimp only
            rw [hcyc (j + 1), List.map_append]
            exact hA2
          · obtain ⟨v, bx3⟩ := p
            dsimp only at *
            simp [go_sem, Try.L20_1]
            have e1 : T - 1 + 1 = T := by omega
            rw [e1] at hA
            have hc1 := contO 40 (fun x => decide (x.cu ≠ 0)) (seqL (l0 ws) (c0 ws) T) bo bx3 hA.at (by rw [hseq, hll]; omega) (fun x _ bx => still2_c x bx)
            rw [hseq, hll] at hc1
            refine callK_pure hc1 ?_
            rw [hany]
            simp [go_sem]
            have hA0 := hA.base (hJ.ext.upd_own hbo _)
            obtain ⟨b9, hb9, rfl, hb91⟩ := hA0.row (by simp [cycL]; omega)
            refine ret_frz 2 (by simp [go_sem]) hA0.ext ⟨?_, rfl⟩
            simp [go_sem, hcy]
            rw [frz_own1 hb91 hb9 (by decide) (by simp)]
            exact Wk.refl _
      · have hcy : cycle ws = ([], 7) := by unfold cycle; rw [if_neg hbad, if_pos hck]
        simp [go_sem, hck]
        refine ret_wk (by simp [go_sem]) hJ.ext ?_
        simp [go_sem, hcy]; exact wk_tup2 (wk_nils _) (Wk.refl _)
end Go.Proofs

set_option linter.unusedSimpArgs false
set_option linter.unusedVariables false
namespace Go.Proofs
open Go Go.Pl
set_option maxHeartbeats 1000000 in
theorem rcycle_c (ws : List Int) (bx : Boxes) (hl : ws.length ≤ 50) : PureCall Try.prog 21 [.sl 1 (ws.map iV)] bx (.tup [.sl 1 ((cycle ws).1.map ixV), .int .i64 (cycle ws).2]) := by
  refine PureCall.wk (Try.ctr21 fun hb => ?_)
  simp [go_sem, Try.C21, hb]
  refine ⟨fun hbad => ret_wk0 (by simp [go_sem]) ?_, fun hb1 hb2 => ?_⟩
  · have hcy : cycle ws = ([], 3) := if_pos (by omega)
    simp [go_sem, hcy]; exact wk_tup2 (wk_nils _) (Wk.refl _)
  have hbad : ¬ (ws.length < 1 ∨ 16 < ws.length) := by omega
  refine pw_for (ι := V × Boxes) ws.length (fun k p => Acc bx 45 5 ((l0 (ws.take k)).map bkV) p.1 p.2 ∧ ∀ w, w ∈ ws.take k → 0 ≤ w ∧ w ≤ 100) (fun k p => ⟨63, slk [(0, .sl 1 (ws.map iV)), (4, p.1), (5, .int .i64 k)], p.2⟩) (.nils, bx) ⟨by simpa [l0] using acc_nil hb _ _, by simp⟩ (cov_look (by simp [go_sem])) (fun k p hk hJ N hN => ?_) (fun p hJ N => ?_)
  · obtain ⟨v, bx1⟩ := p
    obtain ⟨hJ, hok⟩ := hJ
    dsimp only at *
    simp [go_sem, Try.L21_0, hk, iV, hJ.fin]
    refine ⟨fun hw => ret_wk (by simp [go_sem]) hJ.ext ?_, fun hw1 hw2 b hb1 => ?_⟩
    · have hck : checkB (l0 ws) ≠ 0 := by
        have : (l0 ws).any badB = true := List.any_eq_true.2 ⟨⟨ws[k], 0, 0, true, false⟩, by simp [l0], by simp [badB]; omega⟩
        unfold checkB
        rw [if_neg (by simpa [l0] using hbad), if_pos this]
        decide
      have hcy : cycle ws = ([], 7) := by unfold cycle; rw [if_neg hbad, if_pos hck]
      simp [go_sem, hcy]; exact wk_tup2 (wk_nils _) (Wk.refl _)
    · refine appB hJ ((Ext.refl _).new hb1 _) (by simp [finB_upd, hJ.fin]) (by simp [srcEls, upd_eq]; rfl) (by simp [l0]; omega) (by omega) fun v' bx3 ha' => ?_
      simp [go_sem, wr_succ (show k < 1000000000 by omega)]
      have e : (l0 (ws.take (k + 1))).map bkV = (l0 (ws.take k)).map bkV ++ [V.agg [.int .i64 ws[k], .int .i64 0, .int .i64 0, .bool true, .bool false]] := by
        rw [take_snoc hk]; simp only [l0, List.map_append, List.map_cons, List.map_nil, bkV]
      refine hN _ (v', bx3) ⟨by rw [e]; exact ha', fun w hw => ?_⟩ (cov_look (by simp [go_sem, iV]))
      rw [take_snoc hk] at hw
      rcases List.mem_append.1 hw with hw | hw
      · exact hok w hw
      · simp at hw; subst hw; omega
  · obtain ⟨v, bx1⟩ := p
    obtain ⟨hJ, hok⟩ := hJ
    dsimp only at *
    rw [List.take_length] at hJ hok
    have hne : (l0 ws).map bkV ≠ [] := fun e => by simp [l0] at e; subst e; simp at hbad
    obtain ⟨bo, hbo, rfl, hbo1⟩ := hJ.row hne
    have hck : checkB (l0 ws) = 0 := by
      have : ¬ (l0 ws).any badB = true := by
        simp only [Bool.not_eq_true, List.any_eq_false]
        intro x hx
        simp only [l0, List.mem_map] at hx
        obtain ⟨w, hw, rfl⟩ := hx
        have := hok w hw
        simp [badB]; omega
      unfold checkB
      rw [if_neg (by simpa [l0] using hbad), if_neg this]
    simp [go_sem, Try.L21_0, iV]
    refine pw_wk (st' := ⟨63, slk [(4, .sl 5 ((l0 ws).map bkV))], bx⟩) (cov_frz hJ.ext ?_) ?_
    · intro p hp
      simp at hp
      subst hp
      refine .inr ⟨1, ?_⟩
      simp [go_sem]
      rw [frz_own1 hbo1 hbo (by decide) (by simp)]
    have hll : (l0 ws).length = ws.length := by simp [l0]
    simp [go_sem]
    refine callK_pure (refcan_c (l0 ws) 0 bx (by omega)) ?_
    have hcc : canL (l0 ws) 0 (l0 ws).length = c0 ws := by rw [hll]; rfl
    rw [hcc]
    simp [go_sem]
    refine ⟨fun hne => ret_wk0 (by simp [go_sem]) ?_, fun hne => ?_⟩
    · have hcy : cycle ws = ([], 4) := by unfold cycle; rw [if_neg hbad, if_neg (by simp [hck]), if_pos hne]
      simp [go_sem, hcy]; exact wk_tup2 (wk_nils _) (Wk.refl _)
    · have hcy : cycle ws = (cycL (l0 ws) (c0 ws) (cycN (l0 ws) (c0 ws)), 0) := by unfold cycle; rw [if_neg hbad, if_neg (by simp [hck]), if_neg hne]
      have hs := std_l0 ws hl hck hne
      have hTp := (cycN_mul hs).2
      have hany := seq_any ws hl hck hne
      have hseq := fun k => (seq_bk hs k).1
      have hcyc : ∀ k, cycL (l0 ws) (c0 ws) (k + 1) = cycL (l0 ws) (c0 ws) k ++ [best (seqL (l0 ws) (c0 ws) k) (c0 ws)] := fun k => by simp [cycL, List.range_succ]
      have hcl : ∀ k, (cycL (l0 ws) (c0 ws) k).length = k := fun k => by simp [cycL]
      have hTle : cycN (l0 ws) (c0 ws) ≤ 5000 := by
        have h1 := hs.wpos
        have h2 := hs.len
        unfold cycN
        refine Nat.le_trans (Nat.div_le_self _ _) ?_
        omega
      have hrt : ∀ k, ((rturn (seqL (l0 ws) (c0 ws) k) (c0 ws)).1 = best (seqL (l0 ws) (c0 ws) k) (c0 ws)) ∧ (rturn (seqL (l0 ws) (c0 ws) k) (c0 ws)).2 = seqL (l0 ws) (c0 ws) (k + 1) := by
        intro k
        have hsk := seq_std hs k
        obtain ⟨h1, h2⟩ := rturn_eq _ _ hsk.nd hsk.lt hsk.ne
        obtain ⟨_, h3, _, _⟩ := next_bk hsk
        rw [h3] at h1
        injection h1 with h1
        exact ⟨h1.symm, h2.symm⟩
      generalize hT : cycN (l0 ws) (c0 ws) = T at *
      refine pw_for (ι := V × Boxes) T (fun j p => j < T ∧ Acc bx 3 1 ((cycL (l0 ws) (c0 ws) j).map ixV) p.1 p.2) (fun j p => ⟨63, slk [(4, .sl 5 ((seqL (l0 ws) (c0 ws) j).map bkV)), (6, .sl 1 ((c0 ws).map ixV)), (7, p.1)], p.2⟩) (.nils, bx) ⟨hTp, by simpa [cycL] using acc_nil hb _ _⟩ (cov_look (by simp [go_sem, seqL])) (fun j p hj hA N hN => ?_) (fun p hA N => absurd hA.1 (Nat.lt_irrefl _))
      obtain ⟨v, bx3⟩ := p
      obtain ⟨_, hA⟩ := hA
      dsimp only at *
      have hsj := seq_std hs j
      simp [go_sem, Try.L21_1]
      refine callK_pure (rturn_c (seqL (l0 ws) (c0 ws) j) (c0 ws) bx3 (by rw [hseq]; omega) (by have := hs.len; omega) hs.ne hsj.lt) ?_
      simp [go_sem, hA.fin, hrt j]
      intro b hb1
      refine appI hA ((Ext.refl _).new hb1 _) (by simp [finB_upd, hA.fin]) (by simp [srcEls, upd_eq]; rfl) (by simp [hcl]; omega) (by omega) fun v2 bx5 hA2 => ?_
      simp [go_sem]
      refine callK_pure (still_c (seqL (l0 ws) (c0 ws) (j + 1)) bx5 (by rw [hseq]; omega)) ?_
      have hall : ((seqL (l0 ws) (c0 ws) (j + 1)).all fun x => decide (x.cu = 0)) = decide (T ∣ j + 1) := by
        have h1 := hany (j + 1)
        rw [← Bool.not_inj_iff, List.not_all_eq_any_not, ← h1]
        congr 1
        funext x
        simp
      rw [hall]
      have hA3 : Acc bx 3 1 ((cycL (l0 ws) (c0 ws) (j + 1)).map ixV) v2 bx5 := by
        rw [hcyc j, List.map_append]; exact hA2
      by_cases hd : T ∣ j + 1
      · simp [go_sem, hd]
        have hjT : j + 1 = T := by have := Nat.le_of_dvd (by omega) hd; omega
        rw [hjT] at hA3
        obtain ⟨b9, hb9, rfl, hb91⟩ := hA3.row (by simp [cycL]; omega)
        refine ret_frz 2 (by simp [go_sem]) hA3.ext ⟨?_, rfl⟩
        simp [go_sem, hcy]
        rw [frz_own1 hb91 hb9 (by decide) (by simp)]
        exact Wk.refl _
      · simp [go_sem, hd]
        have : j + 1 ≠ T := fun e => hd (e ▸ Nat.dvd_refl _)
        exact hN _ (v2, bx5) ⟨by omega, hA3⟩ (cov_look (by simp [go_sem]))
end Go.Proofs

set_option linter.unusedSimpArgs false
set_option linter.unusedVariables false
namespace Go.Proofs
open Go Go.Pl
theorem awake_c (bx : Boxes) : PureCall Try.prog 8 [] bx (.bool true) := by
  refine Try.ctr8 fun hb => ?_
  have e1 : least exL 0 = (2, 0) := by decide +kernel
  have e2 : least exL 4 = (0, 0) := by decide +kernel
  have e3 : cycle [5, 1, 1] = ([0, 0, 1, 0, 2, 0, 0], 0) := by decide +kernel
  have e4 : smooth exL 0 = (0, [⟨5, 4, -2, true, false⟩, ⟨1, 1, 1, true, false⟩, ⟨1, 0, 1, true, false⟩], 0) := by decide +kernel
  have e5 : two exL 1 1 0 = (2, 0) := by decide +kernel
  have hx : exL.length ≤ 50 := by decide
  have c1 := least_c exL 0 bx hx
  have c2 := least_c exL 4 bx hx
  have c3 := cycle_c [5, 1, 1] bx (by decide)
  have c4 := smooth_c exL 0 bx hx
  have c5 := two_c exL 1 1 0 bx hx (by decide) (by decide)
  rw [e1] at c1
  rw [e2] at c2
  rw [e3] at c3
  rw [e4] at c4
  rw [e5] at c5
  simp [go_sem, Try.C8, hb]
  refine callK_pure (example_c bx) ?_
  simp [go_sem]
  refine callK_pure c1 ?_
  simp [go_sem]
  refine callK_pure (example_c bx) ?_
  simp [go_sem]
  refine callK_pure c2 ?_
  simp [go_sem, hb]
  refine callK_pure c3 ?_
  simp [go_sem]
  refine callK_pure (example_c bx) ?_
  simp [go_sem]
  refine callK_pure c4 ?_
  simp [go_sem]
  refine callK_pure (example_c bx) ?_
  simp [go_sem]
  refine callK_pure c5 ?_
  simp [go_sem, hb, ixV]
  refine gK_pure (ints_c [0, 0, 1, 0, 2, 0, 0] [0, 0, 1, 0, 2, 0, 0] bx (by decide)) (by simp) (by simp [go_sem]) ?_
  simp [go_sem, bkV]
  refine ret_pure (by simp [go_sem]) ?_
  simp [go_sem]
end Go.Proofs

set_option linter.unusedSimpArgs false
set_option linter.unusedVariables false
namespace Go.Proofs
open Go Go.Pl
theorem bestO_eq (l : List Bk) (c : List Nat) (hne : c ≠ []) : bestO l c = some (rleastN l c) := by
  have : ∀ (c : List Nat) (j : Nat), (c.foldl (fun o i => match o with | none => some i | some j => if ltB (bk l i) (bk l j) then some i else some j) (some j)) = some (c.foldl (fun b i => if ltB (bk l i) (bk l b) then i else b) j) := by
    intro c
    induction c with
    | nil => intro j; rfl
    | cons i c ih =>
      intro j
      rw [List.foldl_cons, List.foldl_cons, ← ih]
      congr 1
      dsimp only
      split <;> rfl
  cases c with
  | nil => exact absurd rfl hne
  | cons i c =>
    unfold bestO rleastN
    rw [List.foldl_cons]
    refine (this c i).trans ?_
    simp [ltB]
theorem least_eq (l : List Bk) (skip : Int) : least l skip = rleast l skip := by
  unfold least rleast someE
  by_cases h : askB l skip = 0
  · simp only [h, if_true]
    by_cases hc : canL l skip l.length = []
    · simp [hc, bestO]
    · rw [bestO_eq _ _ hc]
      simp [hc, canR, h]
  · simp [h]
theorem two_eq (l : List Bk) (a b : Nat) (skip : Int) : two l a b skip = rtwo l a b skip := by
  unfold two rtwo someE
  by_cases h : askB l skip = 0
  · have hc : canR l skip = canL l skip l.length := by simp [canR, h]
    simp only [h, if_true, ne_eq, not_true_eq_false, if_false, hc]
    generalize canL l skip l.length = c
    by_cases h0 : c = []
    · subst h0; rfl
    · have hn0 : ¬ c.length = 0 := fun e => h0 (List.eq_nil_of_length_eq_zero e)
      simp only [hn0, h0, if_false]
      have hm : a % c.length < c.length := Nat.mod_lt _ (by omega)
      have hol : (c.take (a % c.length) ++ c.drop (a % c.length + 1)).length = c.length - 1 := by simp; omega
      rw [hol]
      by_cases h1 : c.length = 1
      · have : a % c.length = 0 := by omega
        rw [this]; simp [h1]
      · have h2 : ¬ (c.length - 1 = 0) := by omega
        have hk : b % (c.length - 1) < c.length - 1 := Nat.mod_lt _ (by omega)
        have hg : (c.take (a % c.length) ++ c.drop (a % c.length + 1)).getD (b % (c.length - 1)) 0 = c.getD (if a % c.length ≤ b % (c.length - 1) then b % (c.length - 1) + 1 else b % (c.length - 1)) 0 := by
          simp only [List.getD_eq_getElem?_getD]
          congr 1
          split
          · rename_i hle
            rw [List.getElem?_append_right (by simp; omega), List.getElem?_drop]
            congr 1
            simp; omega
          · rw [List.getElem?_append_left (by simp; omega), List.getElem?_take, if_pos (by omega)]
        simp only [h1, h2, if_false, hg]
        rfl
  · simp [h]
theorem ixs (l : List Nat) : l.map ixV = (l.map Int.ofNat).map iV := by simp [ixV, iV, Function.comp_def]
theorem checks_c (l : List Bk) (x0 x1 : Nat) (skip : Int) (bx : Boxes) (h0 : x0 < 4294967296) (h1 : x1 < 4294967296) :
    AbsCall Try.prog 3 [.sl 5 (l.map bkV), .agg [.int .u32 x0, .int .u32 x1], .int .i64 skip] bx fun r _ => r = .bool true := by
  refine Try.ctr3 fun hb => ?_
  simp [go_sem, Try.C3, hb]
  refine ⟨fun hl => callK_pure (awake_c bx) ?_, fun hl => ?_⟩
  · simp [go_sem]
    refine ret_pure (by simp [go_sem]) ?_
    simp [go_sem]
  · have hl' : l.length ≤ 50 := by omega
    have hints : PureCall Try.prog 15 [.sl 1 ((canR l skip).map ixV), .sl 1 ((canR l skip).map ixV)] bx (.bool true) := by
      have := ints_c ((canR l skip).map Int.ofNat) ((canR l skip).map Int.ofNat) bx (by have := canR_le (l := l) (skip := skip); simp; omega)
      rw [← ixs] at this
      simpa using this
    refine callK_pure (can_c l skip bx hl') ?_
    simp [go_sem]
    refine callK_pure (refCan_c l skip bx hl') ?_
    simp [go_sem]
    refine callK_pure (least_c l skip bx hl') ?_
    simp [go_sem]
    refine callK_pure (rleast_c l skip bx hl') ?_
    simp [go_sem]
    refine callK_pure (check_c l bx (by omega)) ?_
    simp [go_sem]
    refine callK_pure (rcheck_c l bx (by omega)) ?_
    simp [go_sem]
    refine gK_pure hints (by simp) (by simp [go_sem]) ?_
    simp [go_sem, least_eq]
    refine callK_pure (two_c l x0 x1 skip bx hl' h0 h1) ?_
    simp [go_sem]
    refine callK_pure (rtwo_c l x0 x1 skip bx hl' h0 h1) ?_
    simp [go_sem, two_eq]
    refine gK_pure (awake_c bx) (by simp) (by simp [go_sem]) ?_
    simp [go_sem]
    refine ret_pure (by simp [go_sem]) ?_
    simp [go_sem]
end Go.Proofs

set_option linter.unusedSimpArgs false
set_option linter.unusedVariables false
namespace Go.Proofs
open Go Go.Pl
theorem turns_c (l : List Bk) (skip : Int) (ws : List Int) (bx : Boxes) : AbsCall Try.prog 4 [.sl 5 (l.map bkV), .int .i64 skip, .sl 1 (ws.map iV)] bx fun r _ => r = .bool true := by
  refine Try.ctr4 fun hb => ?_
  by_cases h : l.length ≤ 20 ∧ ws.length ≤ 20
  · have h1 : ¬ (20 : Int) < (l.length : Int) := by omega
    have h2 : ¬ (20 : Int) < (ws.length : Int) := by omega
    simp [go_sem, Try.C4, hb, h1, h2, Int.not_lt.1 h1, Int.not_lt.1 h2]
    have hints : PureCall Try.prog 15 [.sl 1 ((cycle ws).1.map ixV), .sl 1 ((cycle ws).1.map ixV)] bx (.bool true) := by
      have := ints_c ((cycle ws).1.map Int.ofNat) ((cycle ws).1.map Int.ofNat) bx (by
        simp only [List.length_map]
        unfold cycle
        split
        · simp
        · split
          · simp
          · split
            · simp
            · rename_i hbad hck hne
              have hs := std_l0 ws (by omega) (by simpa using hck) hne
              have h1 := hs.wpos
              have h2 := hs.len
              simp only [cycL, List.length_map, List.length_range]
              unfold cycN
              refine Nat.le_trans (Nat.div_le_self _ _) ?_
              omega)
      rw [← ixs] at this
      simpa using this
    have hsame : PureCall Try.prog 22 [.sl 5 ((rsmooth l skip).2.1.map bkV), .sl 5 ((rsmooth l skip).2.1.map bkV)] bx (.bool true) := by
      have := same_c (rsmooth l skip).2.1 (rsmooth l skip).2.1 bx (by
        rw [← smooth_eq]
        unfold smooth
        split
        · split
          · simp
          · simp only []
            unfold turnL
            split
            · rw [turnS_len]; omega
            · rw [List.length_set, turnS_len]; omega
        · simp)
      simpa using this
    refine callK_pure (smooth_c l skip bx (by omega)) ?_
    simp [go_sem, smooth_eq]
    refine callK_pure (rsmooth_c l skip bx (by omega)) ?_
    simp [go_sem]
    refine callK_pure (cycle_c ws bx (by omega)) ?_
    simp [go_sem]
    refine callK_pure (rcycle_c ws bx (by omega)) ?_
    simp [go_sem]
    refine gK_pure hsame (by simp) (by simp [go_sem]) ?_
    simp [go_sem]
    refine gK_pure hints (by simp) (by simp [go_sem]) ?_
    simp [go_sem]
    refine gK_pure (awake_c bx) (by simp) (by simp [go_sem]) ?_
    simp [go_sem]
    refine ret_pure (by simp [go_sem]) ?_
    simp [go_sem]
  · have h1 : (decide ((20 : Int) < (l.length : Int)) || decide ((20 : Int) < (ws.length : Int))) = true := by simp; omega
    have h2 : (20 : Int) < (l.length : Int) ∨ (20 : Int) < (ws.length : Int) := by omega
    by_cases h3 : (20 : Int) < (l.length : Int)
    · simp [go_sem, Try.C4, hb, h3]
      refine callK_pure (awake_c bx) ?_
      simp [go_sem]
      refine ret_pure (by simp [go_sem]) ?_
      simp [go_sem]
    · have h4 : (20 : Int) < (ws.length : Int) := by omega
      simp [go_sem, Try.C4, hb, h3, h4]
      refine callK_pure (awake_c bx) ?_
      simp [go_sem]
      refine ret_pure (by simp [go_sem]) ?_
      simp [go_sem]
theorem sw_nonneg (ws : List Int) (hc : checkB (l0 ws) = 0) : ∀ i (h : i < ws.length), 0 ≤ ws[i] ∧ ws[i] ≤ 100 := by
  intro i h
  unfold checkB at hc
  split at hc
  · cases hc
  · split at hc
    · cases hc
    · rename_i hb
      have hb' := (List.any_eq_false (p := badB)).1 (by simpa using hb) ⟨ws[i], 0, 0, true, false⟩ (by simp [l0])
      simp [badB] at hb'
      omega
theorem gcd_all (ws : List Int) (hw : ∀ i (h : i < ws.length), 0 ≤ ws[i]) : ∀ k, k ≤ ws.length → (List.range k).foldl (fun g i => Nat.gcd g (bk (l0 ws) i).wt.toNat) 0 = ((List.range k).filter fun i => decide (i ∈ c0 ws)).foldl (fun g i => Nat.gcd g (bk (l0 ws) i).wt.toNat) 0
  | 0, _ => rfl
  | k + 1, hk => by
    rw [List.range_succ, List.foldl_append, gcd_all ws hw k (by omega), List.filter_append, List.foldl_append]
    by_cases h : k ∈ c0 ws
    · simp [h]
    · have : (bk (l0 ws) k).wt = 0 := by
        rw [bk_l0 ws k (by omega)]
        have h1 := hw k (by omega)
        have : ¬ 0 < ws[k] := fun hp => h ((c0_mem ws k).2 ⟨by omega, hp⟩)
        show ws[k] = 0
        omega
      simp [h, this]
theorem c0_filter (ws : List Int) : (List.range ws.length).filter (fun i => decide (i ∈ c0 ws)) = c0 ws := by
  have : ∀ i, i ∈ List.range ws.length → (decide (i ∈ c0 ws)) = (match (l0 ws)[i]? with | some x => canP x 0 i | none => false) := by
    intro i hi
    have hi' : i < ws.length := by simpa using hi
    have h1 : (l0 ws)[i]? = some ⟨ws[i], 0, 0, true, false⟩ := by simp [l0, List.getElem?_eq_getElem hi']
    rw [h1]
    simp only [canP_l0, decide_eq_decide]
    rw [c0_mem]
    exact ⟨fun ⟨_, h⟩ => h, fun h => ⟨hi', h⟩⟩
  rw [List.filter_congr this]
  rfl
end Go.Proofs

set_option linter.unusedSimpArgs false
set_option linter.unusedVariables false
namespace Go.Proofs
open Go Go.Pl
def cntL (m : Nat) (L : List Nat) (k : Nat) : List Int := (List.range m).map fun j => (((L.take k).count j : Nat) : Int)
theorem cntL_len (m : Nat) (L : List Nat) (k : Nat) : (cntL m L k).length = m := by simp [cntL]
theorem cntL_get (m : Nat) (L : List Nat) (k j : Nat) (h : j < m) : (cntL m L k)[j]'(by simpa [cntL] using h) = (((L.take k).count j : Nat) : Int) := by simp [cntL]
theorem cntL_set (m : Nat) (L : List Nat) (k : Nat) (hk : k < L.length) (hm : L[k] < m) : ((cntL m L k).map iV).set L[k] (iV ((((L.take k).count L[k] : Nat) : Int) + 1)) = (cntL m L (k + 1)).map iV := by
  apply List.ext_getElem
  · simp [cntL]
  · intro j h1 h2
    have hj : j < m := by simpa [cntL] using h2
    rw [List.getElem_set, List.getElem_map, List.getElem_map, cntL_get m L (k + 1) j hj, take_snoc hk, List.count_append]
    by_cases e : L[k] = j
    · subst e; simp
    · simp [e, cntL_get m L k j hj]
theorem cycles_c (ws : List Int) (bx : Boxes) : AbsCall Try.prog 5 [.sl 1 (ws.map iV)] bx fun r _ => r = .bool true := by
  refine Try.ctr5 fun hb => ?_
  by_cases hl : ws.length ≤ 20
  · have hl' : ¬ (20 : Int) < (ws.length : Int) := by omega
    simp [go_sem, Try.C5, hb, hl', Int.not_lt.1 hl']
    refine callK_pure (cycle_c ws bx (by omega)) ?_
    by_cases hok : (cycle ws).2 = 0
    · -- the cycle is there
      have hcase : ¬ (ws.length < 1 ∨ 16 < ws.length) ∧ checkB (l0 ws) = 0 ∧ c0 ws ≠ [] := by
        unfold cycle at hok
        split at hok
        · cases hok
        · split at hok
          · cases hok
          · split at hok
            · cases hok
            · rename_i h1 h2 h3; exact ⟨h1, by simpa using h2, h3⟩
      obtain ⟨hbad, hck, hne⟩ := hcase
      have hcy : cycle ws = (cycL (l0 ws) (c0 ws) (cycN (l0 ws) (c0 ws)), 0) := by unfold cycle; rw [if_neg hbad, if_neg (by simp [hck]), if_neg hne]
      have hs := std_l0 ws (by omega) hck hne
      have hw := sw_nonneg ws hck
      have hg := gcdC_pos hs
      have hcount := fun i hi => seq_count hs (fun i hi => by obtain ⟨h, _⟩ := (c0_mem ws i).1 hi; rw [bk_l0 ws i h]) i hi
      have hmem : ∀ i, i ∈ cycL (l0 ws) (c0 ws) (cycN (l0 ws) (c0 ws)) → i ∈ c0 ws := by
        intro i hi
        simp only [cycL, List.mem_map] at hi
        obtain ⟨k, _, rfl⟩ := hi
        exact (next_bk (seq_std hs k)).1
      have hT : (cycL (l0 ws) (c0 ws) (cycN (l0 ws) (c0 ws))).length ≤ 5000 := by
        have h1 := hs.wpos
        have h2 := hs.len
        simp only [cycL, List.length_map, List.length_range]
        unfold cycN
        refine Nat.le_trans (Nat.div_le_self _ _) ?_
        omega
      have hcnt : ∀ i, i < ws.length → ∀ hi : i < ws.length, (((cycL (l0 ws) (c0 ws) (cycN (l0 ws) (c0 ws))).count i : Nat) : Int) = ws[i].tdiv (gcdC (l0 ws) (c0 ws)) := by
        intro i _ hi
        rw [cycL_count]
        have h1 := hw i hi
        by_cases hic : i ∈ c0 ws
        · rw [hcount i hic, bk_l0 ws i hi]
          show ((ws[i].toNat / gcdC (l0 ws) (c0 ws) : Nat) : Int) = _
          rw [Int.tdiv_eq_ediv_of_nonneg h1.1]
          have : ws[i] = (ws[i].toNat : Int) := by omega
          rw [this]; simp
        · have h0 : ws[i] = 0 := by
            have : ¬ 0 < ws[i] := fun hp => hic ((c0_mem ws i).2 ⟨hi, hp⟩)
            omega
          rw [h0, ← cycL_count, List.count_eq_zero_of_not_mem fun hm => hic (hmem i hm)]
          simp
      rw [hcy]
      generalize cycL (l0 ws) (c0 ws) (cycN (l0 ws) (c0 ws)) = L at *
      have hLlt : ∀ k (h : k < L.length), L[k] < ws.length := fun k h => by obtain ⟨h1, _⟩ := (c0_mem ws _).1 (hmem _ (List.getElem_mem h)); exact h1
      simp [go_sem, hb]
      intro b5 hb5
      refine pw_upto L.length (fun k => ⟨93, slk [(0, .sl 1 (ws.map iV)), (3, .sl 1 (L.map ixV)), (5, .ptr b5 20 0 0), (6, .int .i64 k)], upd bx b5 (some (.row 41 20 [.agg ((cntL 20 L k).map iV)]))⟩) ?_ (fun k hk N hN => ?_) (fun N => ?_)
      · simp [cntL, List.range_succ, iV]
        exact cov_look (by simp [go_sem])
      · have h1 := hLlt k hk
        have h2 : L[k] < 20 := by omega
        have hcs := cntL_set 20 L k hk h2
        have hcl := cntL_len 20 L k
        have hcg := cntL_get 20 L k L[k] h2
        have hle : (L.take k).count L[k] ≤ k := Nat.le_trans List.count_le_length (by simp; omega)
        have hwc := wr_succ (k := (L.take k).count L[k]) (by omega)
        simp only [iV] at hcs
        have h3 : ¬ (ws.length : Int) ≤ (L[k] : Int) := by omega
        have h4 : ¬ ws.length ≤ L[k] := by omega
        simp [-List.map_set, go_sem, Try.L5_0, hk, ixV, h1, h2, h3, h4, hcl, hcg, hwc, hcs, wr_succ (show k < 1000000000 by omega), iV]
        exact ⟨by omega, by omega, hN _ (cov_look (by simp [go_sem, ixV]))⟩
      · simp [go_sem, Try.L5_0, ixV]
        have hgall := gcd_all ws (fun i h => (hw i h).1)
        have hgk0 : ∀ k, k ≤ ws.length → 0 ≤ (((List.range k).foldl (fun g i => Nat.gcd g (bk (l0 ws) i).wt.toNat) 0 : Nat) : Int) := fun k _ => by omega
        refine pw_upto ws.length (fun k => ⟨93, slk [(0, .sl 1 (ws.map iV)), (5, .ptr b5 20 0 0), (7, .int .i64 (((List.range k).foldl (fun g i => Nat.gcd g (bk (l0 ws) i).wt.toNat) 0 : Nat) : Int)), (8, .int .i64 k)], upd bx b5 (some (.row 41 20 [.agg ((cntL 20 L L.length).map iV)]))⟩) (cov_look (by simp [go_sem])) (fun k hk N hN => ?_) (fun N => ?_)
        · have h0 := hw k hk
          have h1 : ¬ ws[k] < 0 := by omega
          have hg1 : (List.range (k + 1)).foldl (fun g i => Nat.gcd g (bk (l0 ws) i).wt.toNat) 0 = Nat.gcd ((List.range k).foldl (fun g i => Nat.gcd g (bk (l0 ws) i).wt.toNat) 0) ws[k].toNat := by
            rw [List.range_succ, List.foldl_append]
            simp [bk_l0 ws k hk]
          rw [hg1] at hN
          generalize (List.range k).foldl (fun g i => Nat.gcd g (bk (l0 ws) i).wt.toNat) 0 = g at *
          simp [go_sem, Try.L5_1, hk, iV, h1, h0.1]
          refine callK_pure (div_c g ws[k] _ (by omega) h0.1) ?_
          have hgc : Int.gcd (g : Int) ws[k] = Nat.gcd g ws[k].toNat := by
            obtain ⟨m, hm⟩ := Int.eq_ofNat_of_zero_le h0.1
            rw [hm, Int.gcd_natCast_natCast, Int.toNat_natCast]
          rw [hgc]
          simp [go_sem, wr_succ (show k < 1000000000 by omega)]
          exact hN _ (cov_look (by simp [go_sem, iV]))
        · rw [hgall ws.length (Nat.le_refl _), c0_filter]
          have hgd : (c0 ws).foldl (fun g i => Nat.gcd g (bk (l0 ws) i).wt.toNat) 0 = gcdC (l0 ws) (c0 ws) := rfl
          rw [hgd]
          simp [go_sem, Try.L5_1, iV]
          generalize gcdC (l0 ws) (c0 ws) = g at *
          refine pw_upto ws.length (fun k => ⟨93, slk [(0, .sl 1 (ws.map iV)), (5, .ptr b5 20 0 0), (7, .int .i64 g), (9, .int .i64 k)], upd bx b5 (some (.row 41 20 [.agg ((cntL 20 L L.length).map iV)]))⟩) (cov_look (by simp [go_sem, iV])) (fun k hk N hN => ?_) (fun N => ?_)
          · have hc := hcnt k hk hk
            have hcl := cntL_len 20 L L.length
            have hcg := cntL_get 20 L L.length k (by omega)
            rw [List.take_length, hc] at hcg
            have hg0 : ¬ ((g : Int) = 0) := by omega
            have hg0' : ¬ (g = 0) := by omega
            have hk20 : k < 20 := by omega
            have hwd : IntKind.i64.wrap (ws[k].tdiv (g : Int)) = ws[k].tdiv (g : Int) := by
              have h0 := hw k hk
              rw [Int.tdiv_eq_ediv_of_nonneg h0.1]
              have h1 : ws[k] / (g : Int) ≤ ws[k] := Int.ediv_le_self _ h0.1
              have h2 : 0 ≤ ws[k] / (g : Int) := Int.ediv_nonneg h0.1 (by omega)
              rw [wr64 (by omega)]
            simp [-List.map_set, go_sem, Try.L5_2, hk, iV, hg0, hg0', hcl, hcg, hwd, hk20, wr_succ (show k < 1000000000 by omega)]
            exact ⟨by omega, hN _ (cov_look (by simp [go_sem, iV]))⟩
          · simp [go_sem, Try.L5_2, iV]
            refine callK_pure (awake_c _) ?_
            simp [go_sem]
            refine ret_pure (by simp [go_sem]) ?_
            simp [go_sem]
    · have hnil : (cycle ws).1 = [] := by
        unfold cycle at hok ⊢
        split
        · rfl
        · split
          · rfl
          · split
            · rfl
            · rename_i h1 h2 h3; rw [if_neg h1, if_neg h2, if_neg h3] at hok; exact absurd rfl hok
      simp [go_sem, hok, hnil]
      refine gK_pure (awake_c bx) (by simp) (by simp [go_sem]) ?_
      simp [go_sem]
      refine ret_pure (by simp [go_sem]) ?_
      simp [go_sem]
  · have h3 : (20 : Int) < (ws.length : Int) := by omega
    simp [go_sem, Try.C5, hb, h3]
    refine callK_pure (awake_c bx) ?_
    simp [go_sem]
    refine ret_pure (by simp [go_sem]) ?_
    simp [go_sem]
end Go.Proofs

set_option linter.unusedSimpArgs false
set_option linter.unusedVariables false
namespace Go.Proofs
open Go Go.Pl
def okB (x : Bk) : Prop := 0 < x.wt ∧ x.wt ≤ 100 ∧ 0 ≤ x.ac ∧ x.ac ≤ 10000
theorem mul_rng {a b : Int} (h1 : 0 ≤ a) (h2 : a ≤ 10000) (h3 : 0 < b) (h4 : b ≤ 100) : 0 ≤ a * b ∧ a * b ≤ 1000000 :=
  ⟨Int.mul_nonneg h1 (by omega), by have := Int.mul_le_mul h2 h4 (by omega) (by omega : (0 : Int) ≤ 10000); omega⟩
theorem ltB_iff {x y : Bk} (hx : okB x) (hy : okB y) : ltB x y = true ↔ x.ac * y.wt < y.ac * x.wt := by
  obtain ⟨a1, a2, a3, a4⟩ := hx
  obtain ⟨b1, b2, b3, b4⟩ := hy
  have h1 := mul_rng a3 a4 b1 b2
  have h2 := mul_rng b3 b4 a1 a2
  unfold ltB
  rw [wr64 (by omega), wr64 (by omega), decide_eq_true_iff]
theorem ltB_irr {x : Bk} (hx : okB x) : ltB x x = false := by
  cases h : ltB x x with
  | false => rfl
  | true => rw [ltB_iff hx hx] at h; omega
theorem ltB_asym {x y : Bk} (hx : okB x) (hy : okB y) (h : ltB x y = true) : ltB y x = false := by
  cases h' : ltB y x with
  | false => rfl
  | true => rw [ltB_iff hx hy] at h; rw [ltB_iff hy hx] at h'; omega
theorem ltB_trans {i b j : Bk} (hi : okB i) (hb : okB b) (hj : okB j) (h1 : ltB i b = true) (h2 : ltB j b = false) : ltB i j = true := by
  rw [ltB_iff hi hb] at h1
  have h2' : ¬ (j.ac * b.wt < b.ac * j.wt) := fun h => by rw [(ltB_iff hj hb).2 h] at h2; cases h2
  rw [ltB_iff hi hj]
  obtain ⟨a1, _⟩ := hi
  obtain ⟨b1, _⟩ := hb
  obtain ⟨c1, _⟩ := hj
  have e1 : (i.ac * j.wt) * b.wt = (i.ac * b.wt) * j.wt := by rw [Int.mul_assoc, Int.mul_comm j.wt, ← Int.mul_assoc]
  have e2 : (b.ac * i.wt) * j.wt = (b.ac * j.wt) * i.wt := by rw [Int.mul_assoc, Int.mul_comm i.wt, ← Int.mul_assoc]
  have e3 : (j.ac * b.wt) * i.wt = (j.ac * i.wt) * b.wt := by rw [Int.mul_assoc, Int.mul_comm b.wt, ← Int.mul_assoc]
  have s1 : (i.ac * b.wt) * j.wt < (b.ac * i.wt) * j.wt := Int.mul_lt_mul_of_pos_right h1 c1
  have s2 : (b.ac * j.wt) * i.wt ≤ (j.ac * b.wt) * i.wt := Int.mul_le_mul_of_nonneg_right (by omega) (by omega)
  exact Int.lt_of_mul_lt_mul_right (by rw [e1, ← e3]; omega : (i.ac * j.wt) * b.wt < (j.ac * i.wt) * b.wt) (by omega)
theorem canR_ok {l : List Bk} {skip : Int} (h : askB l skip = 0) : ∀ i, i ∈ canR l skip → okB (bk l i) := by
  intro i hi
  obtain ⟨_, _, hc⟩ := ask_len h
  have hil := canR_lt i hi
  have hcan : canP l[i] skip i = true := by
    have : canR l skip = canL l skip l.length := by simp [canR, h]
    rw [this] at hi
    simp [canL] at hi
    simpa [List.getElem?_eq_getElem hil] using hi.2
  have hbad : badB l[i] = false := by
    unfold checkB at hc
    split at hc
    · cases hc
    · split at hc
      · cases hc
      · rename_i hb
        have := (List.any_eq_false (p := badB)).1 (by simpa using hb) l[i] (List.getElem_mem hil)
        simpa using this
  rw [bk_get hil]
  simp [canP] at hcan
  simp [badB] at hbad
  unfold okB
  omega
/-- canL ascends. -/
theorem canR_asc (l : List Bk) (skip : Int) : (canR l skip).Pairwise (· < ·) := by
  unfold canR
  split
  · unfold canL
    exact List.Pairwise.filter _ List.pairwise_lt_range
  · exact List.Pairwise.nil
theorem rleastN_best (l : List Bk) (c : List Nat) (hok : ∀ i, i ∈ c → okB (bk l i)) (hasc : c.Pairwise (· < ·)) (hne : c ≠ []) :
    rleastN l c ∈ c ∧ ∀ j, j ∈ c → ltB (bk l j) (bk l (rleastN l c)) = false ∧ (j < rleastN l c → ltB (bk l (rleastN l c)) (bk l j) = true) := by
  have key : ∀ (d pre : List Nat) (b : Nat), (∀ i, i ∈ d → okB (bk l i)) → (∀ i, i ∈ pre → okB (bk l i)) → d.Pairwise (· < ·) → (∀ i, i ∈ pre → ∀ j, j ∈ d → i < j) → b ∈ pre → (∀ j, j ∈ pre → ltB (bk l j) (bk l b) = false ∧ (j < b → ltB (bk l b) (bk l j) = true)) →
      let r := d.foldl (fun b i => if ltB (bk l i) (bk l b) then i else b) b
      r ∈ pre ++ d ∧ ∀ j, j ∈ pre ++ d → ltB (bk l j) (bk l r) = false ∧ (j < r → ltB (bk l r) (bk l j) = true) := by
    intro d
    induction d with
    | nil => intro pre b _ _ _ _ hb hp; simpa using ⟨hb, hp⟩
    | cons i d ih =>
      intro pre b hd hpre hasc hlt hb hp
      rw [List.pairwise_cons] at hasc
      have hi := hd i (by simp)
      have hbo := hpre b hb
      have := ih (pre ++ [i]) (if ltB (bk l i) (bk l b) then i else b) (fun j hj => hd j (by simp [hj])) (fun j hj => by
        rcases List.mem_append.1 hj with hj | hj
        · exact hpre j hj
        · simp at hj; subst hj; exact hi) hasc.2 (fun j hj k hk => by
        rcases List.mem_append.1 hj with hj | hj
        · exact hlt j hj k (by simp [hk])
        · simp at hj; subst hj; exact hasc.1 k hk) (by split <;> simp [hb]) (fun j hj => by
        rcases List.mem_append.1 hj with hj | hj
        · by_cases h : ltB (bk l i) (bk l b) = true
          · rw [if_pos h]
            have h2 := ltB_trans hi hbo (hpre j hj) h (hp j hj).1
            exact ⟨ltB_asym hi (hpre j hj) h2, fun _ => h2⟩
          · rw [if_neg h]; exact hp j hj
        · simp at hj
          subst hj
          by_cases h : ltB (bk l j) (bk l b) = true
          · rw [if_pos h]; exact ⟨ltB_irr hi, fun h => absurd h (Nat.lt_irrefl _)⟩
          · rw [if_neg h]; exact ⟨by simpa using h, fun h2 => by have := hlt b hb j (by simp); omega⟩)
      simpa [List.append_assoc] using this
  cases c with
  | nil => exact absurd rfl hne
  | cons i c =>
    rw [List.pairwise_cons] at hasc
    have hi := hok i (by simp)
    have := key c [i] i (fun j hj => hok j (by simp [hj])) (fun j hj => by simp at hj; subst hj; exact hi) hasc.2 (fun j hj k hk => by simp at hj; subst hj; exact hasc.1 k hk) (by simp) (fun j hj => by simp at hj; subst hj; exact ⟨ltB_irr hi, fun h => absurd h (Nat.lt_irrefl _)⟩)
    have e : rleastN l (i :: c) = c.foldl (fun b i => if ltB (bk l i) (bk l b) then i else b) i := by simp [rleastN]
    rw [e]
    exact this
theorem two_best {l : List Bk} {skip : Int} (a b : Nat) (h : askB l skip = 0) (hne : canR l skip ≠ []) :
    ∃ r : Nat, two l a b skip = ((r : Int), 0) ∧ r ∈ canR l skip ∧ ((canR l skip).length = 1 ∨ ∃ j, j ∈ canR l skip ∧ j ≠ r ∧ ltB (bk l j) (bk l r) = false) := by
  have hok := canR_ok h
  have hasc := canR_asc l skip
  unfold two
  rw [if_neg (by simp [h])]
  generalize canR l skip = c at *
  have hn0 : ¬ c.length = 0 := fun e => hne (List.eq_nil_of_length_eq_zero e)
  rw [if_neg hn0]
  by_cases h1 : c.length = 1
  · obtain ⟨x, rfl⟩ := List.length_eq_one_iff.1 h1
    exact ⟨x, by simp, by simp, .inl rfl⟩
  · rw [if_neg h1]
    dsimp only
    have hm : a % c.length < c.length := Nat.mod_lt _ (by omega)
    have hk0 : b % (c.length - 1) < c.length - 1 := Nat.mod_lt _ (by omega)
    obtain ⟨k, hk, hki, hkc⟩ : ∃ k, k = (if a % c.length ≤ b % (c.length - 1) then b % (c.length - 1) + 1 else b % (c.length - 1)) ∧ k ≠ a % c.length ∧ k < c.length := ⟨_, rfl, by split <;> omega, by split <;> omega⟩
    rw [← hk]
    generalize a % c.length = i at *
    have hne' : c[k] ≠ c[i] := by
      intro e
      rcases Nat.lt_or_gt_of_ne hki with hlt | hlt
      · have := (List.pairwise_iff_getElem.1 hasc) k i hkc hm hlt; omega
      · have := (List.pairwise_iff_getElem.1 hasc) i k hm hkc hlt; omega
    have e1 : c.getD k 0 = c[k] := by simp [hkc]
    have e2 : c.getD i 0 = c[i] := by simp [hm]
    rw [e1, e2]
    have ok1 := hok _ (List.getElem_mem hkc)
    have ok2 := hok _ (List.getElem_mem hm)
    by_cases hl : ltB (bk l c[k]) (bk l c[i]) = true
    · rw [if_pos hl]
      exact ⟨c[k], rfl, List.getElem_mem hkc, .inr ⟨c[i], List.getElem_mem hm, Ne.symm hne', ltB_asym ok1 ok2 hl⟩⟩
    · rw [if_neg hl]
      exact ⟨c[i], rfl, List.getElem_mem hm, .inr ⟨c[k], List.getElem_mem hkc, hne', by simpa using hl⟩⟩
end Go.Proofs

set_option linter.unusedSimpArgs false
set_option linter.unusedVariables false
namespace Go.Proofs
open Go Go.Pl
theorem inR_c (c : List Nat) (n : Nat) (bx : Boxes) (hc : c.length ≤ 1000) (h : n ∈ c) : PureCall Try.prog 24 [.sl 1 (c.map ixV), .int .i64 n] bx (.bool true) := by
  have := in_c (c.map Int.ofNat) n bx (by simpa using (by omega : c.length ≤ 1000000))
  rw [← ixs] at this
  have h2 : ((n : Int) ∈ c.map Int.ofNat) := List.mem_map.2 ⟨n, h, rfl⟩
  simpa [h2] using this
theorem best_c (l : List Bk) (x0 x1 : Nat) (skip : Int) (bx : Boxes) (g0 : x0 < 4294967296) (g1 : x1 < 4294967296) :
    AbsCall Try.prog 7 [.sl 5 (l.map bkV), .agg [.int .u32 x0, .int .u32 x1], .int .i64 skip] bx fun r _ => r = .bool true := by
  refine Try.ctr7 fun hb => ?_
  by_cases hl : l.length ≤ 16
  · have hl' : ¬ (16 : Int) < (l.length : Int) := by omega
    simp [go_sem, Try.C7, hb, hl', Int.not_lt.1 hl']
    refine callK_pure (can_c l skip bx (by omega)) ?_
    simp [go_sem]
    refine callK_pure (least_c l skip bx (by omega)) ?_
    simp [go_sem]
    refine callK_pure (two_c l x0 x1 skip bx (by omega) g0 g1) ?_
    by_cases h : askB l skip = 0
    · by_cases hne : canR l skip = []
      · have hcl : canL l skip l.length = [] := by simpa [canR, h] using hne
        have e1 : least l skip = (0, 4) := by simp [least, h, hcl, bestO]
        have e2 : two l x0 x1 skip = (0, 4) := by simp [two, h, hne]
        simp [go_sem, h, hne, e1, e2]
        refine gK_pure (awake_c bx) (by simp) (by simp [go_sem]) ?_
        simp [go_sem]
        refine ret_pure (by simp [go_sem]) ?_
        simp [go_sem]
      · have hcl : canR l skip = canL l skip l.length := by simp [canR, h]
        have hok := canR_ok h
        have hasc := canR_asc l skip
        have hlt := canR_lt (l := l) (skip := skip)
        have hle := canR_le (l := l) (skip := skip)
        have e1 : least l skip = (((rleastN l (canR l skip) : Nat) : Int), 0) := by
          rw [least_eq]; unfold rleast
          have : someE l skip = 0 := by simp [someE, h, ← hcl, hne]
          rw [if_pos this]
        obtain ⟨r, e2, hr, hor⟩ := two_best x0 x1 h hne
        obtain ⟨ha, hbest⟩ := rleastN_best l _ hok hasc hne
        rw [e1, e2]
        generalize rleastN l (canR l skip) = a at *
        generalize canR l skip = c at *
        have hc0 : ¬ (c = []) := hne
        simp [go_sem, h, hne]
        refine gK_pure (inR_c c a bx (by omega) ha) (by simp) (by simp [go_sem]) ?_
        simp [go_sem]
        refine gK_pure (inR_c c r bx (by omega) hr) (by simp) (by simp [go_sem]) ?_
        simp [go_sem]
        have hal := hlt a ha
        have hrl := hlt r hr
        refine pw_upto c.length (fun k => ⟨182, slk [(0, .sl 5 (l.map bkV)), (7, .sl 1 (c.map ixV)), (9, .int .i64 a), (11, .int .i64 r), (13, .int .i64 0), (14, .int .i64 k)], bx⟩) (cov_look (by simp [go_sem])) (fun k hk N hN => ?_) (fun N => ?_)
        · have hckl := hlt _ (List.getElem_mem hk)
          obtain ⟨b1, b2⟩ := hbest _ (List.getElem_mem hk)
          rw [bk_get hckl, bk_get hal] at b1 b2
          have h3 : ¬ (l.length : Int) ≤ (c[k] : Int) := by omega
          have h3' : ¬ l.length ≤ c[k] := by omega
          by_cases hca : c[k] < a
          · have hca' : (c[k] : Int) < (a : Int) := by omega
            have b3 := b2 hca
            simp [go_sem, Try.L7_0, hk, ixV, hckl, h3, h3', hal, bkV, hca, hca', wr_succ (show k < 1000000000 by omega)]
            refine gK_pure (Rlighter_c l[c[k]] l[a] bx) (by simp) (by simp [go_sem]) ?_
            simp [go_sem, b1, hk, ixV, hckl, h3, h3', hal, bkV, hca, hca', wr_succ (show k < 1000000000 by omega)]
            refine gK_pure (Rlighter_c l[a] l[c[k]] bx) (by simp) (by simp [go_sem]) ?_
            simp [go_sem, b3, wr_succ (show k < 1000000000 by omega)]
            exact hN _ (cov_look (by simp [go_sem, ixV]))
          · have hca' : ¬ (c[k] : Int) < (a : Int) := by omega
            simp [go_sem, Try.L7_0, hk, ixV, hckl, h3, h3', hal, bkV, hca, hca', wr_succ (show k < 1000000000 by omega)]
            refine gK_pure (Rlighter_c l[c[k]] l[a] bx) (by simp) (by simp [go_sem]) ?_
            simp [go_sem, b1, hk, ixV, hckl, h3, h3', hal, bkV, hca, hca', wr_succ (show k < 1000000000 by omega)]
            refine gK_off (.bool false) (by simp [go_sem]) ?_
            simp [go_sem, wr_succ (show k < 1000000000 by omega)]
            exact hN _ (cov_look (by simp [go_sem, ixV]))
        · simp [go_sem, Try.L7_0, ixV]
          obtain ⟨hv, hhv⟩ : ∃ hv : Nat → Nat, ∀ k, hv k = ((c.take k).filter fun j => decide (j ≠ r) && !ltB (bk l j) (bk l r)).length := ⟨_, fun _ => rfl⟩
          have hv0 : hv 0 = 0 := by rw [hhv]; rfl
          refine pw_upto c.length (fun k => ⟨182, slk [(0, .sl 5 (l.map bkV)), (7, .sl 1 (c.map ixV)), (11, .int .i64 r), (13, .int .i64 (hv k : Nat)), (15, .int .i64 k)], bx⟩) (cov_look (by simp [go_sem, hv0])) (fun k hk N hN => ?_) (fun N => ?_)
          · have hckl := hlt _ (List.getElem_mem hk)
            have hcnt : hv (k + 1) = hv k + if c[k] ≠ r ∧ ltB (bk l c[k]) (bk l r) = false then 1 else 0 := by
              rw [hhv, hhv, take_snoc hk, List.filter_append, List.length_append]
              congr 1
              by_cases e1 : c[k] = r <;> by_cases e2 : ltB (bk l c[k]) (bk l r) = true <;> simp [e1, e2]
            have hcle : hv k ≤ k := by
              rw [hhv]
              exact Nat.le_trans (List.length_filter_le _ _) (by simp; omega)
            rw [hcnt, bk_get hckl, bk_get hrl] at hN
            generalize hv k = q at *
            by_cases hcr : c[k] = r
            · simp [go_sem, Try.L7_1, hk, ixV, hckl, hrl, bkV, hcr, wr_succ (show k < 1000000000 by omega)]
              refine gK_off (.bool false) (by simp [go_sem]) ?_
              simp [go_sem, wr_succ (show k < 1000000000 by omega)]
              exact hN _ (cov_look (by simp [go_sem, ixV, hcr]))
            · have hcr' : ¬ (c[k] : Int) = (r : Int) := by omega
              simp [go_sem, Try.L7_1, hk, ixV, hckl, hrl, bkV, hcr, hcr', wr_succ (show k < 1000000000 by omega)]
              refine gK_pure (Rlighter_c l[c[k]] l[r] bx) (by simp) (by simp [go_sem]) ?_
              simp [go_sem, wr_succ (show k < 1000000000 by omega), wr_succ (show q < 1000000000 by omega)]
              refine ⟨fun hlt1 => hN _ (cov_look (by simp [go_sem, ixV, hcr, hlt1])), fun hlt1 => hN _ (cov_look (by simp [go_sem, ixV, hcr, hlt1]))⟩
          · have hfin : c.length = 1 ∨ 0 < hv c.length := by
              rw [hhv, List.take_length]
              rcases hor with h1 | ⟨j, h1, h2, h3⟩
              · exact .inl h1
              · refine .inr (List.length_pos_of_mem (a := j) (List.mem_filter.2 ⟨h1, by simp [h2, h3]⟩))
            generalize hv c.length = q at *
            rcases hfin with h1 | h1
            · simp [go_sem, Try.L7_1, ixV, h1]
              refine gK_pure (awake_c bx) (by simp) (by simp [go_sem]) ?_
              simp [go_sem]
              refine ret_pure (by simp [go_sem]) ?_
              simp [go_sem]
            · simp [go_sem, Try.L7_1, ixV, h1]
              refine gK_pure (awake_c bx) (by simp [h1]) (by simp [go_sem]) ?_
              simp [go_sem, h1]
              refine ret_pure (by simp [go_sem]) ?_
              simp [go_sem, h1]
    · have hcl : canR l skip = [] := by simp [canR, h]
      have e1 : least l skip = (0, askB l skip) := by simp [least, h]
      have e2 : two l x0 x1 skip = (0, askB l skip) := by simp [two, h]
      simp [go_sem, h, hcl, e1, e2]
      refine gK_pure (awake_c bx) (by simp) (by simp [go_sem]) ?_
      simp [go_sem]
      refine ret_pure (by simp [go_sem]) ?_
      simp [go_sem]
  · have h3 : (16 : Int) < (l.length : Int) := by omega
    simp [go_sem, Try.C7, hb, h3]
    refine callK_pure (awake_c bx) ?_
    simp [go_sem]
    refine ret_pure (by simp [go_sem]) ?_
    simp [go_sem]
end Go.Proofs

set_option linter.unusedSimpArgs false
set_option linter.unusedVariables false
namespace Go.Proofs
open Go Go.Pl
def zer (x : Bk) : Bk := { x with cu := 0 }
theorem canP_zer (x : Bk) (skip : Int) (i : Nat) : canP (zer x) skip i = canP x skip i := rfl
theorem std_z (z : List Bk) (skip : Int) (hz : ∀ i, i < z.length → (bk z i).cu = 0) (ha : askB z skip = 0) (hne : canR z skip ≠ []) : Std z (canR z skip) (sumC (canR z skip) fun i => (bk z i).wt) := by
  have hok := canR_ok ha
  have hlt := canR_lt (l := z) (skip := skip)
  have hcu : ∀ i, i ∈ canR z skip → (bk z i).cu = 0 := fun i hi => hz i (hlt i hi)
  have hpos : 0 < sumC (canR z skip) fun i => (bk z i).wt := by
    have h1 : sumC (canR z skip) (fun _ => 1) ≤ sumC (canR z skip) fun i => (bk z i).wt := sumC_le fun i hi => by have := (hok i hi).1; omega
    rw [sumC_const] at h1
    have := List.length_pos_iff.2 hne
    omega
  refine ⟨?_, hlt, fun i hi => ⟨(hok i hi).1, (hok i hi).2.1⟩, rfl, ?_, fun i hi => by rw [hcu i hi]; omega, ?_, hne⟩
  · have : canR z skip = canL z skip z.length := by simp [canR, ha]
    rw [this]; exact canL_nodup _ _ _
  · rw [sumC_congr hcu, sumC_zero]
  · have := canR_le (l := z) (skip := skip)
    have := (ask_len ha).2.1
    omega
theorem seq_ask {z : List Bk} {skip : Int} {c : List Nat} {W : Int} (hs : Std z c W) (hz : ∀ i, i < z.length → (bk z i).cu = 0) (ha : askB z skip = 0) (k : Nat) : askB (seqL z c k) skip = 0 := by
  obtain ⟨h1, h2, h3⟩ := ask_len ha
  obtain ⟨hl, hb⟩ := seq_bk hs k
  have hsk := seq_std hs k
  have hck : checkB (seqL z c k) = 0 := by
    unfold checkB at h3 ⊢
    rw [hl]
    rw [if_neg (by omega)] at h3 ⊢
    split at h3
    · cases h3
    · rename_i hb0
      rw [if_neg]
      simp only [Bool.not_eq_true] at hb0 ⊢
      rw [List.any_eq_false] at hb0 ⊢
      intro x hx
      obtain ⟨i, hi, rfl⟩ := List.getElem_of_mem hx
      have hi' : i < z.length := by omega
      have h4 := hb0 z[i] (List.getElem_mem hi')
      have h5 := hb i
      rw [bk_get hi, bk_get hi'] at h5
      have h0 := hz i hi'
      rw [bk_get hi'] at h0
      by_cases hic : i ∈ c
      · have hlo := hsk.lo i hic
        have hhi := hsk.hi i hic
        have hp := hs.wpos
        have hln := hs.len
        rw [bk_get hi] at hlo hhi
        rw [if_pos hic] at h5
        have e1 : (seqL z c k)[i].wt = z[i].wt := by rw [h5]
        have e2 : (seqL z c k)[i].ac = z[i].ac := by rw [h5]
        simp [badB, h0] at h4 ⊢
        rw [e1, e2]
        omega
      · rw [if_neg hic] at h5
        rw [h5]; exact h4
  unfold askB at ha ⊢
  rw [if_pos h3] at ha
  rw [if_pos hck]
  exact ha
theorem seq_smooth {z : List Bk} {skip : Int} {W : Int} (hs : Std z (canR z skip) W) (hz : ∀ i, i < z.length → (bk z i).cu = 0) (ha : askB z skip = 0) (k : Nat) :
    smooth (seqL z (canR z skip) k) skip = (((best (seqL z (canR z skip) k) (canR z skip) : Nat) : Int), seqL z (canR z skip) (k + 1), 0) := by
  have h1 := seq_ask hs hz ha k
  obtain ⟨hl, hb⟩ := seq_bk hs k
  have hcc : canL z skip z.length = canR z skip := by simp [canR, ha]
  obtain ⟨h2, h3, _, _⟩ := next_bk (seq_std hs k)
  unfold smooth
  rw [if_pos h1, hl, seq_can hs k skip, hcc, h3]
  rfl
/-- Sums over all places. -/
theorem sumC_filter (n : List Nat) (p : Nat → Bool) (f : Nat → Int) (h : ∀ i, i ∈ n → p i = false → f i = 0) : sumC n f = sumC (n.filter p) f := by
  induction n with
  | nil => rfl
  | cons k n ih =>
    rw [sumC_cons, ih fun i hi => h i (by simp [hi])]
    by_cases hp : p k = true
    · simp [hp, sumC_cons]
    · rw [h k (by simp) (by simpa using hp)]
      simp [hp]
theorem sumC_snoc (c : List Nat) (k : Nat) (f : Nat → Int) : sumC (c ++ [k]) f = sumC c f + f k := by
  induction c with
  | nil => simp [sumC_cons, sumC_nil]
  | cons i c ih => simp only [List.cons_append, sumC_cons, ih]; omega
theorem canR_filter {z : List Bk} {skip : Int} (ha : askB z skip = 0) : ∃ p : Nat → Bool, canR z skip = (List.range z.length).filter p ∧ ∀ i, i < z.length → p i = decide (i ∈ canR z skip) := by
  have hcc : canR z skip = canL z skip z.length := by simp [canR, ha]
  refine ⟨_, hcc, fun i hi => ?_⟩
  rw [hcc]
  simp [canL, hi]
theorem in2_c (c : List Nat) (n : Nat) (bx : Boxes) (hc : c.length ≤ 1000) : PureCall Try.prog 24 [.sl 1 (c.map ixV), .int .i64 n] bx (.bool (decide (n ∈ c))) := by
  have := in_c (c.map Int.ofNat) n bx (by simpa using (by omega : c.length ≤ 1000000))
  rw [← ixs] at this
  have h2 : ((n : Int) ∈ c.map Int.ofNat) ↔ n ∈ c := by
    simp only [List.mem_map]
    constructor
    · rintro ⟨a, h, e⟩
      have : a = n := Int.ofNat.inj e
      exact this ▸ h
    · intro h; exact ⟨n, h, rfl⟩
  simpa [h2] using this
theorem frz_own_take {bx bx' : Boxes} {b sz : Nat} {ty : TypeId} {es : List V} (h : bx b = some (.row ty sz es)) (h' : bx' b = none) (hs : 0 < sz) : V.sl sz es = frz bx bx' 1 (.own b sz 0 es.length) := (frz_own1 h h' hs rfl).symm
def zk (L : List Bk) (k : Nat) : List Bk := (L.take k).map zer ++ L.drop k
theorem zk_len (L : List Bk) (k : Nat) : (zk L k).length = L.length := by simp [zk]; omega
theorem zk_get (L : List Bk) (k i : Nat) (hi : i < L.length) : (zk L k)[i]'(by rw [zk_len]; exact hi) = if i < k then zer L[i] else L[i] := by
  unfold zk
  by_cases h : i < k
  · rw [if_pos h, List.getElem_append_left (by simp; omega)]
    simp
  · rw [if_neg h, List.getElem_append_right (by simp; omega)]
    simp only [List.getElem_drop, List.length_map, List.length_take]
    congr 1
    omega
theorem zk_set (L : List Bk) (k : Nat) (hk : k < L.length) : (zk L k).set k (zer L[k]) = zk L (k + 1) := by
  apply List.ext_getElem
  · simp [zk_len]
  · intro i h1 h2
    have hi : i < L.length := by rw [zk_len] at h2; exact h2
    rw [List.getElem_set, zk_get L (k + 1) i hi]
    by_cases e : k = i
    · subst e; simp
    · rw [if_neg e, zk_get L k i hi]
      by_cases e2 : i < k
      · rw [if_pos e2, if_pos (by omega)]
      · rw [if_neg e2, if_neg (by omega)]
def cnA (l : List Bk) (c : List Nat) (j : Nat) : List Int := (List.range 16).map fun i => ((cnt l c i j : Nat) : Int)
theorem cnA_len (l : List Bk) (c : List Nat) (j : Nat) : (cnA l c j).length = 16 := by simp [cnA]
theorem cnA_get (l : List Bk) (c : List Nat) (j i : Nat) (h : i < 16) : (cnA l c j)[i]'(by rw [cnA_len]; exact h) = ((cnt l c i j : Nat) : Int) := by simp [cnA]
theorem cnA_set (l : List Bk) (c : List Nat) (j : Nat) (hb : best (seqL l c j) c < 16) : ((cnA l c j).map iV).set (best (seqL l c j) c) (iV (((cnt l c (best (seqL l c j) c) j : Nat) : Int) + 1)) = (cnA l c (j + 1)).map iV := by
  apply List.ext_getElem
  · simp [cnA]
  · intro i h1 h2
    have hi : i < 16 := by simpa [cnA] using h2
    rw [List.getElem_set, List.getElem_map, List.getElem_map, cnA_get l c (j + 1) i hi, cnA_get l c j i hi]
    simp only [cnt]
    by_cases e : best (seqL l c j) c = i
    · rw [if_pos e, if_pos e.symm, e]; simp
    · rw [if_neg e, if_neg (Ne.symm e)]; simp
theorem cnt_le (l : List Bk) (c : List Nat) (i : Nat) : ∀ j, cnt l c i j ≤ j
  | 0 => Nat.le_refl _
  | j + 1 => by simp only [cnt]; have := cnt_le l c i j; split <;> omega
set_option maxHeartbeats 4000000 in
theorem steady_c (l : List Bk) (skip : Int) (t : Nat) (bx : Boxes) (ht : t < 256) : AbsCall Try.prog 6 [.sl 5 (l.map bkV), .int .i64 skip, .int .u8 t] bx fun r _ => r = .bool true := by
  refine Try.ctr6 fun hb => ?_
  have hm : (if (17 : Int) < (l.length : Int) then (17 : Int) else l.length) = ((min l.length 17 : Nat) : Int) := by split <;> omega
  have hm2 : min l.length 17 ≤ l.length := Nat.min_le_left _ _
  simp [go_sem, Try.C6, hb, hm]
  generalize hmd : min l.length 17 = m at *
  intro b hb1
  refine ⟨by omega, ?_⟩
  refine appB (acc_new hb1 hb 45 5 [] 0 rfl) (Ext.refl _) (by simp [finB_upd, hb]) (by simp [srcEls]; rfl) (by simp; omega) (by omega) fun v bx1 ha => ?_
  have hes : [] ++ List.take m (List.map bkV l) = (l.take m).map bkV := by rw [List.nil_append, List.map_take]
  rw [hes] at ha
  by_cases hl0 : l = []
  · subst hl0
    have hm0 : m = 0 := by simp at hmd; omega
    subst hm0
    have hask : askB [] skip = 3 := by simp [askB, checkB]
    have hcan : PureCall Try.prog 9 [.sl 5 [], .int .i64 skip] bx (.tup [.sl 1 [], .int .i64 3]) := by
      have := can_c [] skip bx (by simp)
      simpa [canR, hask] using this
    have fin : ∀ x : V, x = .nils ∨ x = .sl 5 [] → PureCall Try.prog 9 [x, .int .i64 skip] bx (.tup [.sl 1 [], .int .i64 3]) := by
      rintro x (rfl | rfl)
      · refine AbsCall.args hcan rfl fun i c c' h1 h2 => ?_
        match i with
        | 0 => simp at h1 h2; subst h1 h2; exact wk_nils 5
        | 1 => simp at h1 h2; subst h1 h2; exact Wk.refl _
        | i + 2 => simp at h1
      · exact hcan
    have go : ∀ x y : V, (x = y ∨ ∃ d, y = frz bx1 bx d x) → (y = .nils ∨ y = .sl 5 []) → (x = .nils ∨ ∃ b0, x = .own b0 5 0 0) → True := fun _ _ _ _ _ => trivial
    rcases ha.is with ⟨_, rfl⟩ | ⟨bo, hbo, rfl, hbo1⟩
    · simp [go_sem]
      refine pw_upto 0 (fun k => ⟨211, slk [(0, .sl 5 []), (1, .int .i64 skip), (2, .int .u8 t), (7, .nils), (8, .int .i64 0)], bx1⟩) (cov_look (by simp [go_sem])) (fun k hk => absurd hk (Nat.not_lt_zero _)) (fun N => ?_)
      simp [go_sem, Try.L6_0]
      refine pw_wk (st' := ⟨211, slk [(0, .sl 5 []), (1, .int .i64 skip), (2, .int .u8 t), (7, .nils)], bx⟩) (cov_drop ha.ext (by simp [go_sem])) ?_
      simp [go_sem]
      refine callK_pure (fin _ (.inl rfl)) ?_
      simp [go_sem]
      refine callK_pure (awake_c _) ?_
      simp [go_sem]
      refine ret_pure (by simp [go_sem]) ?_
      simp [go_sem]
    · simp [go_sem]
      refine pw_upto 0 (fun k => ⟨211, slk [(0, .sl 5 []), (1, .int .i64 skip), (2, .int .u8 t), (7, .own bo 5 0 0), (8, .int .i64 0)], bx1⟩) (cov_look (by simp [go_sem])) (fun k hk => absurd hk (Nat.not_lt_zero _)) (fun N => ?_)
      simp [go_sem, Try.L6_0]
      refine pw_wk (st' := ⟨211, slk [(0, .sl 5 []), (1, .int .i64 skip), (2, .int .u8 t), (7, .sl 5 [])], bx⟩) (cov_frz ha.ext ?_) ?_
      · intro p hp
        simp at hp
        rcases hp with rfl | rfl | rfl | rfl
        · exact .inl (by simp [go_sem])
        · exact .inl (by simp [go_sem])
        · exact .inl (by simp [go_sem])
        · refine .inr ⟨1, ?_⟩
          simp [go_sem]
          rw [frz_own1 hbo1 hbo (by decide) (by simp)]
          simp
      simp [go_sem]
      refine callK_pure (fin _ (.inr rfl)) ?_
      simp [go_sem]
      refine callK_pure (awake_c _) ?_
      simp [go_sem]
      refine ret_pure (by simp [go_sem]) ?_
      simp [go_sem]
  · have hm1 : 1 ≤ m := by
      have := List.length_pos_iff.2 hl0
      omega
    have hzl : (l.take m).length = m := by simp; omega
    obtain ⟨bo, hbo, rfl, hbo1⟩ := ha.row (by rw [← List.length_pos_iff]; simp; omega)
    generalize hL : l.take m = L at *
    simp only [List.length_map, hzl] at ha ⊢
    simp [-List.map_take, go_sem]
    refine pw_upto m (fun k => ⟨211, slk [(0, .sl 5 (l.map bkV)), (1, .int .i64 skip), (2, .int .u8 t), (7, .own bo 5 0 m), (8, .int .i64 k)], upd bx1 bo (some (.row 45 5 ((zk L k).map bkV)))⟩) ?_ (fun k hk N hN => ?_) (fun N => ?_)
    · have e : upd bx1 bo (some (.row 45 5 ((zk L 0).map bkV))) = bx1 := by
        funext z
        by_cases e : z = bo
        · subst e; rw [upd_eq, hbo1]; simp [zk]
        · rw [upd_ne _ _ e]
      rw [e]
      exact cov_look (by simp [go_sem])
    · have hkL : k < L.length := by omega
      have hkz : k < (zk L k).length := by rw [zk_len]; exact hkL
      have hg := zk_get L k k hkL
      rw [if_neg (Nat.lt_irrefl _)] at hg
      have hset : ((zk L k).map bkV).set k (.agg [.int .i64 L[k].wt, .int .i64 L[k].ac, .int .i64 0, .bool L[k].up, .bool L[k].op]) = (zk L (k + 1)).map bkV := by
        rw [← zk_set L k hkL, List.map_set]; rfl
      simp [-List.map_set, go_sem, Try.L6_0, hk, hkz, hg, bkV, hset, wr_succ (show k < 1000000000 by omega)]
      exact hN _ (cov_look (by simp [go_sem]))
    · obtain ⟨z, hzd⟩ : ∃ z, z = zk L m := ⟨_, rfl⟩
      have hzm : z.length = m := by rw [hzd, zk_len]; exact hzl
      have hz0 : ∀ i, i < z.length → (bk z i).cu = 0 := by
        intro i hi
        rw [bk_get hi]
        have hiL : i < L.length := by omega
        have := zk_get L m i hiL
        simp only [hzd, this]
        rw [if_pos (by omega)]
        rfl
      rw [← hzd]
      simp [go_sem, Try.L6_0]
      refine pw_wk (st' := ⟨211, slk [(0, .sl 5 (l.map bkV)), (1, .int .i64 skip), (2, .int .u8 t), (7, .sl 5 (z.map bkV))], bx⟩) (cov_frz (ha.ext.upd_own hbo _) ?_) ?_
      · intro p hp
        simp at hp
        rcases hp with rfl | rfl | rfl | rfl
        · exact .inl (by simp [go_sem])
        · exact .inl (by simp [go_sem])
        · exact .inl (by simp [go_sem])
        · refine .inr ⟨1, ?_⟩
          simp [go_sem]
          rw [frz_own1 (upd_eq _ _ _) hbo (by decide) (by simp [hzm])]
      simp [go_sem]
      refine callK_pure (can_c z skip bx (by omega)) ?_
      by_cases hgo : askB z skip = 0 ∧ canR z skip ≠ [] ∧ l.length ≤ 16
      · obtain ⟨hask, hne, hl16⟩ := hgo
        have hl16' : ¬ (16 : Int) < (l.length : Int) := by omega
        simp [go_sem, hask, hne, hl16', Int.not_lt.1 hl16']
        have hs := std_z z skip hz0 hask hne
        have hlt := canR_lt (l := z) (skip := skip)
        have hle := canR_le (l := z) (skip := skip)
        obtain ⟨p, hp1, hp2⟩ := canR_filter hask
        have hsm := fun k => seq_smooth hs hz0 hask k
        generalize hc : canR z skip = c at *
        generalize hW : (sumC c fun i => (bk z i).wt) = W at *
        have hp := hs.wpos
        have hcl := hs.len
        have hps : ∀ k, k ≤ c.length → 0 ≤ sumC (c.take k) (fun i => (bk z i).wt) ∧ sumC (c.take k) (fun i => (bk z i).wt) ≤ 100 * k := by
          intro k
          induction k with
          | zero => intro _; simp [sumC_nil]
          | succ k ih =>
            intro hk
            have h1 := ih (by omega)
            have h2 := hs.wt _ (List.getElem_mem (show k < c.length by omega))
            rw [take_snoc (by omega), sumC_snoc]
            omega
        refine pw_upto c.length (fun k => ⟨211, slk [(1, .int .i64 skip), (2, .int .u8 t), (7, .sl 5 (z.map bkV)), (9, .sl 1 (c.map ixV)), (11, .int .i64 (sumC (c.take k) fun i => (bk z i).wt)), (12, .int .i64 k)], bx⟩) (cov_look (by simp [go_sem, sumC_nil])) (fun k hk N hN => ?_) (fun N => ?_)
        · have hck := hlt _ (List.getElem_mem hk)
          have h1 : ¬ (z.length : Int) ≤ (c[k] : Int) := by omega
          have h1' : ¬ z.length ≤ c[k] := by omega
          have h2 := hps k (by omega)
          have h3 := hs.wt _ (List.getElem_mem hk)
          have hw : IntKind.i64.wrap (sumC (c.take k) (fun i => (bk z i).wt) + z[c[k]].wt) = sumC (c.take (k + 1)) fun i => (bk z i).wt := by
            rw [take_snoc hk, sumC_snoc, bk_get hck]
            rw [bk_get hck] at h3
            rw [wr64 (by omega)]
          simp [go_sem, Try.L6_1, hk, ixV, hck, h1, h1', bkV, hw, wr_succ (show k < 1000000000 by omega)]
          exact hN _ (cov_look (by simp [go_sem, ixV, bkV]))
        · rw [List.take_length]
          simp [go_sem, Try.L6_1, ixV, hW, hb]
          intro b13 hb13
          have htm : (t : Int).tmod 100 = ((t % 100 : Nat) : Int) := by
            have : (100 : Int) = ((100 : Nat) : Int) := rfl
            rw [this, ← Int.ofNat_tmod]
          have htw : IntKind.i64.wrap ((t % 100 : Nat) : Int) = ((t % 100 : Nat) : Int) := by rw [wr64 (by omega)]
          have hTl : t % 100 < 100 := Nat.mod_lt _ (by decide)
          generalize t % 100 = T at *
          have hseq := fun k => (seq_bk hs k).1
          have hmz : m = l.length := by omega
          refine pw_upto T (fun j => ⟨211, slk [(1, .int .i64 skip), (2, .int .u8 t), (7, .sl 5 ((seqL z c j).map bkV)), (9, .sl 1 (c.map ixV)), (11, .int .i64 W), (13, .ptr b13 16 0 0), (14, .int .i64 ((j : Int) + 1))], upd bx b13 (some (.row 46 16 [.agg ((cnA z c j).map iV)]))⟩) ?_ (fun j hj N hN => ?_) (fun N => ?_)
          · simp [cnA, List.range_succ, iV, cnt]
            exact cov_look (by simp [go_sem, seqL])
          · have hlj := hseq j
            have hlj1 := hseq (j + 1)
            obtain ⟨hbm, _, _, _⟩ := next_bk (seq_std hs j)
            have hbl := hlt _ hbm
            have hset := cnA_set z c j (by omega)
            have hcg := cnA_get z c j (best (seqL z c j) c) (by omega)
            have hcle := cnt_le z c (best (seqL z c j) c) j
            have hwc := wr_succ (k := cnt z c (best (seqL z c j) c) j) (by omega)
            simp only [iV] at hset
            have hjT : ((j : Int) + 1) ≤ (T : Int) := by omega
            have hjT' : ¬ (T : Int) < (j : Int) + 1 := by omega
            simp [-Int.natCast_emod, go_sem, Try.L6_3, htm, htw, hjT]
            refine callK_pure (smooth_c (seqL z c j) skip _ (by omega)) ?_
            rw [hsm j]
            have h4 : ¬ ((z.length : Int) ≤ (best (seqL z c j) c : Int)) := by omega
            have h4' : ¬ z.length ≤ best (seqL z c j) c := by omega
            have h5 : best (seqL z c j) c < 16 := by omega
            simp [-List.map_set, go_sem, hlj, hlj1, h4, h4', h5, cnA_len, hcg, hwc, hset, iV]
            refine ⟨by omega, by omega, ?_⟩
            have hsj1 := seq_std hs (j + 1)
            have hbkj := (seq_bk hs j).2
            have hbkj1 := (seq_bk hs (j + 1)).2
            have hcuj1 := fun i hi => seq_cu hs (j + 1) i hi
            have hYZ : ∀ i, i < z.length → (bk (seqL z c (j + 1)) i).wt = (bk (seqL z c j) i).wt ∧ (bk (seqL z c (j + 1)) i).ac = (bk (seqL z c j) i).ac ∧ (bk (seqL z c (j + 1)) i).up = (bk (seqL z c j) i).up ∧ (bk (seqL z c (j + 1)) i).op = (bk (seqL z c j) i).op := by
              intro i hi
              rw [hbkj, hbkj1]
              by_cases hic : i ∈ c
              · rw [if_pos hic, if_pos hic]; exact ⟨rfl, rfl, rfl, rfl⟩
              · rw [if_neg hic, if_neg hic]; exact ⟨rfl, rfl, rfl, rfl⟩
            have hcu0 : ∀ i, i < z.length → i ∉ c → (bk (seqL z c (j + 1)) i).cu = 0 := by
              intro i hi hic
              rw [hbkj1, if_neg hic]; exact hz0 i hi
            have hbnd : ∀ i, i < z.length → -250000 ≤ (bk (seqL z c (j + 1)) i).cu ∧ (bk (seqL z c (j + 1)) i).cu ≤ 250000 := by
              intro i hi
              by_cases hic : i ∈ c
              · have h1 := hsj1.lo i hic
                have h2 := hsj1.hi i hic
                omega
              · rw [hcu0 i hi hic]; omega
            have hsum : sumC (List.range z.length) (fun q => (bk (seqL z c (j + 1)) q).cu) = 0 := by
              rw [sumC_filter _ p _ (fun i hi hpi => hcu0 i (by simpa using hi) (by rw [hp2 i (by simpa using hi)] at hpi; simpa using hpi)), ← hp1]
              exact hsj1.s0
            have hpsum : ∀ i, i ≤ z.length → -(250000 * (i : Int)) ≤ sumC (List.range i) (fun q => (bk (seqL z c (j + 1)) q).cu) ∧ sumC (List.range i) (fun q => (bk (seqL z c (j + 1)) q).cu) ≤ 250000 * (i : Int) := by
              intro i
              induction i with
              | zero => intro _; simp [sumC_nil]
              | succ i ih =>
                intro hi
                have h1 := ih (by omega)
                have h2 := hbnd i (by omega)
                rw [List.range_succ, sumC_snoc]
                omega
            have hwneg : IntKind.i64.wrap (-W) = -W := by rw [wr64 (by omega)]
            clear hset hcg
            generalize hY : seqL z c j = Y at *
            generalize hZ : seqL z c (j + 1) = Z at *
            generalize hX : upd bx b13 (some (.row 46 16 [.agg ((cnA z c (j + 1)).map iV)])) = bx6 at *
            have hX13 : bx6 b13 = some (.row 46 16 [.agg ((cnA z c (j + 1)).map iV)]) := by rw [← hX, upd_eq]
            have hX6 : FinB bx6 := by rw [← hX, finB_upd]; exact hb
            refine pw_upto z.length (fun i => ⟨211, slk [(1, .int .i64 skip), (2, .int .u8 t), (7, .sl 5 (Y.map bkV)), (9, .sl 1 (c.map ixV)), (11, .int .i64 W), (13, .ptr b13 16 0 0), (14, .int .i64 ((j : Int) + 1)), (15, .int .i64 (best Y c)), (16, .sl 5 (Z.map bkV)), (18, .int .i64 (sumC (List.range i) fun q => (bk Z q).cu)), (19, .int .i64 i)], bx6⟩) ?_ (fun i hi N2 hN2 => ?_) (fun N2 => ?_)
            · exact cov_look (by simp [go_sem, sumC_nil])
            · have hiZ : i < Z.length := by omega
              have hiY : i < Y.length := by omega
              have hi16 : i < 16 := by omega
              have hwi := wr_succ (show i < 1000000000 by omega)
              obtain ⟨y1, y2, y3, y4⟩ := hYZ i hi
              rw [bk_get hiZ, bk_get hiY] at y1 y2 y3 y4
              have hbz := hbnd i hi
              have hps2 := hpsum i (by omega)
              have hsl : List.drop i (List.take (i + 1) (List.map bkV Y)) = [bkV Y[i]] := by
                rw [← List.map_take, ← List.map_drop, take_snoc hiY, List.drop_append_of_le_length (by simp; omega), List.drop_of_length_le (by simp; omega)]
                rfl
              have hagg : V.agg [.int .i64 Z[i].wt, .int .i64 Z[i].ac, .int .i64 Y[i].cu, .bool Z[i].up, .bool Z[i].op] = bkV Y[i] := by
                rw [y1, y2, y3, y4]; rfl
              simp [-List.map_set, go_sem, Try.L6_2, hi, hiZ, hiY, hlj, hlj1, hwi, hX6, bkV]
              intro b20 hb20
              rw [upd_self hb20]
              intro b50 hb50
              rw [hagg, hsl]
              have hfr : PureCall Try.prog 22 [.own b50 5 0 1, .sl 5 [bkV Y[i]]] (upd bx6 b50 (some (.row 45 5 [bkV Y[i]]))) (.bool true) := by
                have h1 := same_c [Y[i]] [Y[i]] (fun _ => none) (by simp)
                simp only [decide_true] at h1
                exact PureCall.frame 1 h1 (by simp only [List.map_cons, List.map_nil]; rw [frz_own1 (n := 1) (es := [bkV Y[i]]) (upd_eq _ _ _) rfl (by decide) rfl]; rfl) rfl
              have hX50 : (upd bx6 b50 (some (.row 45 5 [bkV Y[i]]))) b13 = some (.row 46 16 [.agg ((cnA z c (j + 1)).map iV)]) := by
                rw [upd_ne _ _ (fun e => by rw [e, hb50] at hX13; cases hX13)]; exact hX13
              have hE50 : Ext bx6 (upd bx6 b50 (some (.row 45 5 [bkV Y[i]]))) := (Ext.refl _).new hb50 _
              generalize upd bx6 b50 (some (.row 45 5 [bkV Y[i]])) = bx7 at *
              refine ⟨⟨by omega, by omega⟩, callK_pure hfr ?_⟩
              have hsw : IntKind.i64.wrap (sumC (List.range i) (fun q => (bk Z q).cu) + Z[i].cu) = sumC (List.range (i + 1)) fun q => (bk Z q).cu := by
                rw [List.range_succ, sumC_snoc, bk_get hiZ]
                rw [bk_get hiZ] at hbz
                rw [wr64 (by omega)]
              rw [bk_get hiZ] at hbz
              by_cases hic : i ∈ c
              · have hlo := hsj1.lo i hic
                have hcu := hcuj1 i hic
                have hwt := hs.wt i hic
                rw [hz0 i hi] at hcu
                rw [bk_get hiZ] at hlo hcu
                have hwz : Z[i].wt = (bk z i).wt := by
                  have := hbkj1 i
                  rw [if_pos hic, bk_get hiZ] at this
                  rw [this]
                have hcnt := cnt_le z c i (j + 1)
                have hWc : 0 ≤ W * (cnt z c i (j + 1) : Int) ∧ W * (cnt z c i (j + 1) : Int) ≤ 5000 * 100 := ⟨Int.mul_nonneg (by omega) (by omega), Int.mul_le_mul (by omega) (by omega) (by omega) (by omega)⟩
                have hkw : 0 ≤ ((j : Int) + 1) * Z[i].wt ∧ ((j : Int) + 1) * Z[i].wt ≤ 100 * 100 := ⟨Int.mul_nonneg (by omega) (by rw [hwz]; omega), Int.mul_le_mul (by omega) (by rw [hwz]; omega) (by rw [hwz]; omega) (by omega)⟩
                have hcu2 : Z[i].cu = ((j : Int) + 1) * Z[i].wt - W * (cnt z c i (j + 1) : Int) := by
                  rw [hcu, hwz]; simp
                have hm1 : IntKind.i64.wrap ((cnt z c i (j + 1) : Int) * W) = W * (cnt z c i (j + 1) : Int) := by rw [Int.mul_comm, wr64 (by omega)]
                have hm2 : IntKind.i64.wrap (((j : Int) + 1) * Z[i].wt) = ((j : Int) + 1) * Z[i].wt := by rw [wr64 (by omega)]
                have hm3 : IntKind.i64.wrap (((j : Int) + 1) * Z[i].wt - Z[i].cu) = W * (cnt z c i (j + 1) : Int) := by rw [hcu2, wr64 (by omega)]; omega
                have hnle : ¬ Z[i].cu ≤ -W := by omega
                have hin := in2_c c i bx7 (by omega)
                rw [decide_eq_true hic] at hin
                have hcg := cnA_get z c (j + 1) i hi16
                have hnlt : -W < Z[i].cu := by omega
                simp [-List.map_set, go_sem, hwneg, hnle, hnlt]
                refine gK_pure hin (by simp) (by simp [go_sem]) ?_
                simp [-List.map_set, go_sem]
                refine gK_pure hin (by simp) (by simp [go_sem]) ?_
                simp [-List.map_set, go_sem, hX50, hi16, cnA_len, hcg, iV, hm1, hm2, hm3, hsw, hwi]
                exact ⟨by omega, hN2 _ (cov_drop hE50 (by simp [go_sem]))⟩
              · have hcu := hcu0 i hi hic
                rw [bk_get hiZ] at hcu
                have hnle : ¬ (0 : Int) ≤ -W := by omega
                have hnlt : -W < 0 := by omega
                have hnlt2 : 0 < W := by omega
                have hnle2 : ¬ W ≤ 0 := by omega
                have hin := in2_c c i bx7 (by omega)
                rw [decide_eq_false hic] at hin
                simp [-List.map_set, go_sem, hwneg, hcu, hnle, hnlt, hnlt2, hnle2]
                refine gK_pure hin (by simp) (by simp [go_sem]) ?_
                simp [-List.map_set, go_sem, hcu]
                refine gK_pure hin (by simp) (by simp [go_sem]) ?_
                rw [hcu] at hsw
                simp only [Int.add_zero] at hsw
                simp [-List.map_set, go_sem, hcu, hsw, hwi]
                exact hN2 _ (cov_drop hE50 (by simp [go_sem]))
            · simp [-List.map_set, go_sem, Try.L6_2, hlj1, hsum]
              have hin := in2_c c (best Y c) bx6 (by omega)
              rw [decide_eq_true hbm] at hin
              refine gK_pure hin (by simp) (by simp [go_sem]) ?_
              have hw2 : IntKind.i64.wrap ((j : Int) + 1 + 1) = (j : Int) + 1 + 1 := by rw [wr64 (by omega)]
              simp [-List.map_set, go_sem, hw2]
              exact hN _ (cov_look (by simp [go_sem]))
          · have hTT : ¬ ((T : Int) + 1 ≤ (T : Int)) := by omega
            simp [-Int.natCast_emod, go_sem, Try.L6_3, htm, htw, hTT]
            refine callK_pure (awake_c _) ?_
            simp [go_sem]
            refine ret_pure (by simp [go_sem]) ?_
            simp [go_sem]
      · have haw : ∀ K : St → Prop, True := fun _ => trivial
        by_cases h1 : askB z skip = 0
        · by_cases h2 : canR z skip = []
          · simp [go_sem, h1, h2]
            refine callK_pure (awake_c bx) ?_
            simp [go_sem]
            refine ret_pure (by simp [go_sem]) ?_
            simp [go_sem]
          · have h3 : (16 : Int) < (l.length : Int) := by have : ¬ l.length ≤ 16 := fun h => hgo ⟨h1, h2, h⟩; omega
            simp [go_sem, h1, h2, h3]
            refine callK_pure (awake_c bx) ?_
            simp [go_sem]
            refine ret_pure (by simp [go_sem]) ?_
            simp [go_sem]
        · simp [go_sem, h1]
          refine callK_pure (awake_c bx) ?_
          simp [go_sem]
          refine ret_pure (by simp [go_sem]) ?_
          simp [go_sem]
end Go.Proofs

set_option linter.unusedVariables false
set_option linter.unusedSimpArgs false
namespace Go.Proofs.Ytginkngmflmaoaa
open Go Go.Pl Go.Proofs
open Go.ChangeShapes Go.WideShapes Go.ChangeAt Go.RowKit
theorem hasBk {xs : List V} (h : HasL Try.prog 6 22 xs) : ∃ l : List Bk, xs = [.sl 5 (l.map bkV)] := by
  obtain ⟨l, h, _⟩ := HasL.slice (r := bkV) Try.knd22 h fun ys hy => by
    have hl := hy.len
    rw [Try.tsz45] at hl
    match ys, hl with
    | [a, b, c, d, e], _ =>
      obtain ⟨i0, h0, _⟩ := (hy.fld Try.knd45 Try.fld45_0).int Try.knd3
      obtain ⟨i1, h1, _⟩ := (hy.fld Try.knd45 Try.fld45_1).int Try.knd3
      obtain ⟨i2, h2, _⟩ := (hy.fld Try.knd45 Try.fld45_2).int Try.knd3
      obtain ⟨b3, h3⟩ := (hy.fld Try.knd45 Try.fld45_3).bool Try.knd4
      obtain ⟨b4, h4⟩ := (hy.fld Try.knd45 Try.fld45_4).bool Try.knd4
      simp [Try.tsz3, Try.tsz4] at h0 h1 h2 h3 h4
      subst h0 h1 h2 h3 h4
      exact ⟨⟨i0, i1, i2, b3, b4⟩, by simp [elV, Try.tagg45, bkV]⟩
  rw [Try.tsz45] at h
  exact ⟨l, h⟩
theorem hasInt {xs : List V} (h : HasL Try.prog 6 3 xs) : ∃ i : Int, xs = [.int .i64 i] := by
  obtain ⟨i, rfl, _⟩ := h.int Try.knd3
  exact ⟨i, rfl⟩
theorem hasU2 {xs : List V} (h : HasL Try.prog 6 24 xs) : ∃ a b : Nat, a < 4294967296 ∧ b < 4294967296 ∧ xs = [.int .u32 a, .int .u32 b] := by
  obtain ⟨hl, h⟩ := h
  simp only [Try.knd24] at h
  rw [Try.tsz24] at hl
  match xs, hl with
  | [a, b], _ =>
    have h0 := h 0 (by omega)
    have h1 := h 1 (by omega)
    simp [HasL, Try.knd23, Try.tsz23, Lit.wf, IntKind.min, IntKind.max, IntKind.signed, IntKind.bits] at h0 h1
    obtain ⟨i0, rfl, g0, g1⟩ := h0
    obtain ⟨i1, rfl, g2, g3⟩ := h1
    exact ⟨i0.toNat, i1.toNat, by omega, by omega, by simp; omega⟩

theorem own : ownKnob Try.prog.godebug = none := by kernel_rfl
theorem hasInts {xs : List V} (h : HasL Try.prog 6 26 xs) : ∃ l : List Int, xs = [.sl 1 (l.map iV)] := by
  obtain ⟨l, h, _⟩ := HasL.slice (r := iV) Try.knd26 h fun ys hy => by
    obtain ⟨i, rfl, _⟩ := hy.int Try.knd3
    exact ⟨i, by simp [elV, Try.tagg3, iV]⟩
  rw [Try.tsz3] at h
  exact ⟨l, h⟩
theorem hasU8 {xs : List V} (h : HasL Try.prog 6 5 xs) : ∃ a : Nat, a < 256 ∧ xs = [.int .u8 a] := by
  obtain ⟨i, rfl, hw⟩ := h.int Try.knd5
  simp [Lit.wf, IntKind.min, IntKind.max, IntKind.signed, IntKind.bits] at hw
  exact ⟨i.toNat, by omega, by simp; omega⟩
end Go.Proofs.Ytginkngmflmaoaa
