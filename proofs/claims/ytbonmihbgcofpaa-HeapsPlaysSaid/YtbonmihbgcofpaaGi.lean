/- Texts of the proof, put together: Hw, Hx, Hxa, Hxb, HYb. -/
import Derived.Test.YtbonmihbgcofpaaGh

/- Contracts: the document's answer, the calls. -/
set_option linter.unusedSimpArgs false
set_option linter.unusedVariables false
set_option maxRecDepth 100000
namespace Go.Proofs
open Go Go.Pl Go.Hp

/-- The place of a handle. -/
def idx (k : Int) (its : List (Int × Int)) : Option Nat := its.findIdx? fun p => decide (p.1 = k)
theorem idx_some {k : Int} {its : List (Int × Int)} {i : Nat} (h : idx k its = some i) : ∃ hi : i < its.length, its[i].1 = k ∧ ∀ j (hj : j < i), its[j].1 ≠ k := by
  unfold idx at h
  rw [List.findIdx?_eq_some_iff_getElem] at h
  obtain ⟨h1, h2, h3⟩ := h
  exact ⟨h1, by simpa using h2, fun j hj => by simpa using h3 j hj⟩
theorem idx_none {k : Int} {its : List (Int × Int)} (h : idx k its = none) : ∀ p, p ∈ its → p.1 ≠ k := by
  unfold idx at h
  rw [List.findIdx?_eq_none_iff] at h
  intro p hp
  simpa using h p hp
theorem look_idx {k : Int} : ∀ {its : List (Int × Int)}, look k its = (idx k its).map fun i => (its.getD i (0, 0)).2
  | [] => rfl
  | p :: l => by
    unfold look idx
    rw [List.find?_cons, List.findIdx?_cons]
    by_cases e : p.1 = k
    · simp [e]
    · have := look_idx (k := k) (its := l)
      unfold look idx at this
      simp [e]
      simp at this
      rw [this]
      cases hf : List.findIdx? (fun p => decide (p.1 = k)) l <;> simp
theorem del_idx {k : Int} {its : List (Int × Int)} (hn : (its.map (·.1)).Nodup) {i : Nat} (h : idx k its = some i) : del k its = its.take i ++ its.drop (i + 1) := by
  obtain ⟨hi, h1, h2⟩ := idx_some h
  have e : its = its.take i ++ its[i] :: its.drop (i + 1) := by
    rw [List.getElem_cons_drop, List.take_append_drop]
  have hd : ∀ p, p ∈ its.take i ++ its.drop (i + 1) → p.1 ≠ k := by
    intro p hp
    rw [e, List.map_append, List.map_cons, List.nodup_append] at hn
    obtain ⟨g1, g2, g3⟩ := hn
    rw [List.nodup_cons] at g2
    rcases List.mem_append.1 hp with hp | hp
    · exact fun e2 => g3 p.1 (List.mem_map.2 ⟨p, hp, rfl⟩) its[i].1 (by simp) (by rw [e2, h1])
    · exact fun e2 => g2.1 (List.mem_map.2 ⟨p, hp, by rw [e2, h1]⟩)
  have h3 := del_self hd
  conv => lhs; rw [e]
  unfold del at h3 ⊢
  rw [List.filter_append, List.filter_cons]
  simp only [h1, ne_eq, not_true_eq_false, decide_false, Bool.false_eq_true, if_false]
  rw [← List.filter_append]
  exact h3
def fndR (k : Int) (its : List (Int × Int)) : Int := match idx k its with
  | some i => i
  | none => -1
theorem Try.rfind_c (n : Int) (its : List (Int × Int)) (k : Int) (hl : its.length ≤ 100000) (bx : Boxes) : PureCall Try.prog 63 [stV n its, .int .i64 k] bx (.int .i64 (fndR k its)) := by
  refine Try.ctr63 fun hf => ?_
  simp [go_sem, Try.C63, hf, stV]
  refine pw_find its.length (fun i => decide ((its.getD i (0, 0)).1 = k)) (fun i => ⟨22, slk [(1, .int .i64 k), (2, .ep (stV n its) 0), (5, .int .i64 i)], bx⟩) (cov_look (by simp [go_sem, stV])) (fun i hi hJ N hN => ?_) (fun hJ N => ?_)
  · have hw := wr_succ (k := i) (by omega)
    have hg : its.getD i (0, 0) = its[i] := by simp [hi]
    rw [hg] at hN
    simp [go_sem, Try.L63_0, stV, hi, itV, hf]
    refine ⟨fun h => ret_pure (by simp [go_sem]) ?_, fun h => hN _ (by simpa using h) (cov_look (by simp [go_sem, hw, stV]))⟩
    have : idx k its = some i := by
      unfold idx
      rw [List.findIdx?_eq_some_iff_getElem]
      refine ⟨hi, by simpa using h, fun j hj => ?_⟩
      have := hJ j hj
      have hj' : j < its.length := by omega
      simpa [hj'] using this
    simp [go_sem, fndR, this]
  · have : idx k its = none := by
      unfold idx
      rw [List.findIdx?_eq_none_iff]
      intro p hp
      obtain ⟨j, hj, rfl⟩ := List.getElem_of_mem hp
      have := hJ j hj
      simpa [hj] using this
    simp [go_sem, Try.L63_0, stV, hf]
    exact ret_pure (by simp [go_sem]) (by simp [go_sem, fndR, this])
theorem Try.rPeek_c (n : Int) (its : List (Int × Int)) (bx : Boxes) : PureCall Try.prog 53 [stV n its] bx (peekR its) := by
  refine Try.ctr53 fun hf => ?_
  cases its with
  | nil =>
    simp [go_sem, Try.C53, hf, stV]
    exact ret_pure (by simp [go_sem]) (by simp [go_sem, peekR])
  | cons p l =>
    have h0 : ¬ ((l.length : Int) + 1 = 0) := by omega
    simp [go_sem, Try.C53, hf, stV, h0, itV]
    exact ret_pure (by simp [go_sem]) (by simp [go_sem, peekR])
def stTup (s : V) : V → V
  | .tup cs => .tup (s :: cs)
  | v => .tup [s, v]
theorem Try.rPop_c (n : Int) (its : List (Int × Int)) (hl : its.length ≤ 100000) (bx : Boxes) : PureCall Try.prog 49 [stV n its] bx (stTup (stV n its.tail) (peekR its)) := by
  refine Try.ctr49 fun hf => ?_
  have cP := fun bx => Try.rPeek_c n its bx
  cases its with
  | nil =>
    simp only [stV] at cP ⊢
    simp [go_sem, Try.C49, hf]
    intro b hb
    refine callK_pure (cP _) ?_
    simp [go_sem, peekR, hf, upd_eq, upd_upd]
    exact ret_drop (by simp [go_sem, upd_eq]) ((Ext.refl _).new hb _) ⟨by simp [go_sem, upd_eq, stTup, stV], rfl⟩
  | cons p l =>
    have cC := fun bx => Try.rcut_c n (p :: l) 0 (by simp) hl bx
    simp only [stV] at cP cC ⊢
    simp [go_sem, Try.C49, hf]
    intro b hb
    refine callK_pure (cP _) ?_
    simp [go_sem, peekR, hf, upd_eq, upd_upd]
    refine callK_pure (cC _) ?_
    simp [go_sem, peekR, hf, upd_eq, upd_upd]
    exact ret_drop (by simp [go_sem, upd_eq]) ((Ext.refl _).new hb _) ⟨by simp [go_sem, upd_eq, stTup, stV], rfl⟩
theorem Try.rGet_c (n : Int) (its : List (Int × Int)) (k : Int) (hl : its.length ≤ 100000) (bx : Boxes) : PureCall Try.prog 52 [stV n its, .int .i64 k] bx (getR k its) := by
  refine Try.ctr52 fun hf => ?_
  have cF := fun bx => Try.rfind_c n its k hl bx
  unfold getR
  rw [look_idx]
  unfold fndR at cF
  cases hi : idx k its with
  | none =>
    rw [hi] at cF
    simp only [stV] at cF ⊢
    simp [go_sem, Try.C52, hf]
    refine callK_pure (cF _) ?_
    simp [go_sem, hf]
    exact ret_pure (by simp [go_sem]) (by simp [go_sem])
  | some i =>
    rw [hi] at cF
    obtain ⟨h1, h2, h3⟩ := idx_some hi
    simp only [stV] at cF ⊢
    simp [go_sem, Try.C52, hf]
    refine callK_pure (cF _) ?_
    simp [go_sem, hf, h1, itV]
    exact ret_pure (by simp [go_sem]) (by simp [go_sem, h1])
theorem Try.rSet_c (by_ : Int) (hb : 0 ≤ by_ ∧ by_ < 256) (n : Int) (its : List (Int × Int)) (hn : (its.map (·.1)).Nodup) (k v : Int) (hl : its.length ≤ 100000) (bx : Boxes) : PureCall Try.prog 50 [.int .u8 by_, stV n its, .int .i64 k, .int .i64 v] bx (.tup [stV n (setI (ordL by_) k v its), setR k its]) := by
  refine Try.ctr50 fun hf => ?_
  have cF := fun bx => Try.rfind_c n its k hl bx
  unfold setR setI
  rw [look_idx]
  unfold fndR at cF
  cases hi : idx k its with
  | none =>
    rw [hi] at cF
    simp only [stV] at cF ⊢
    simp [go_sem, Try.C50, hf]
    intro b hb
    refine callK_pure (cF _) ?_
    simp [go_sem, hf, upd_eq, upd_upd]
    exact ret_drop (by simp [go_sem, upd_eq]) ((Ext.refl _).new hb _) ⟨by simp [go_sem, upd_eq], rfl⟩
  | some i =>
    rw [hi] at cF
    obtain ⟨h1, h2, h3⟩ := idx_some hi
    have cC := fun bx => Try.rcut_c n its i h1 hl bx
    rw [← del_idx hn hi] at cC
    have hl2 : (del k its).length ≤ 100000 := Nat.le_trans (List.length_filter_le _ _) hl
    have cP := fun bx => Try.rput_c by_ hb n (del k its) (k, v) hl2 bx
    simp only [stV, itV] at cF cC cP ⊢
    simp [go_sem, Try.C50, hf]
    intro b hb
    refine callK_pure (cF _) ?_
    simp [go_sem, hf, upd_eq, upd_upd]
    refine callK_pure (cC _) ?_
    simp [go_sem, hf, upd_eq, upd_upd]
    refine callK_pure (cP _) ?_
    simp [go_sem, hf, upd_eq, upd_upd]
    exact ret_drop (by simp [go_sem, upd_eq]) ((Ext.refl _).new hb _) ⟨by simp [go_sem, upd_eq], rfl⟩
theorem Try.rRemove_c (n : Int) (its : List (Int × Int)) (hn : (its.map (·.1)).Nodup) (k : Int) (hl : its.length ≤ 100000) (bx : Boxes) : PureCall Try.prog 51 [stV n its, .int .i64 k] bx (stTup (stV n (del k its)) (getR k its)) := by
  refine Try.ctr51 fun hf => ?_
  have cF := fun bx => Try.rfind_c n its k hl bx
  have hd : look k its = none → del k its = its := del_none
  unfold getR
  rw [look_idx] at hd ⊢
  unfold fndR at cF
  cases hi : idx k its with
  | none =>
    rw [hi] at cF hd
    rw [hd rfl]
    simp only [stV] at cF ⊢
    simp [go_sem, Try.C51, hf]
    intro b hb
    refine callK_pure (cF _) ?_
    simp [go_sem, hf, upd_eq, upd_upd]
    exact ret_drop (by simp [go_sem, upd_eq]) ((Ext.refl _).new hb _) ⟨by simp [go_sem, upd_eq, stTup], rfl⟩
  | some i =>
    rw [hi] at cF
    obtain ⟨h1, h2, h3⟩ := idx_some hi
    have cC := fun bx => Try.rcut_c n its i h1 hl bx
    rw [← del_idx hn hi] at cC
    simp only [stV] at cF cC ⊢
    simp [go_sem, Try.C51, hf]
    intro b hb
    refine callK_pure (cF _) ?_
    simp [go_sem, hf, upd_eq, upd_upd]
    refine ⟨by simp [fzAt, fzb], ?_⟩
    refine callK_pure (cC _) ?_
    simp [go_sem, hf, upd_eq, upd_upd, h1, itV]
    exact ret_drop (by simp [go_sem, upd_eq]) ((Ext.refl _).new hb _) ⟨by simp [go_sem, upd_eq, stTup, h1], rfl⟩
theorem Try.rPush_c (by_ : Int) (hb : 0 ≤ by_ ∧ by_ < 256) (n : Int) (h1 : 1 ≤ n ∧ n ≤ 1000000000000000) (its : List (Int × Int)) (v : Int) (hl : its.length ≤ 100000) (bx : Boxes) : PureCall Try.prog 54 [.int .u8 by_, stV n its, .int .i64 v] bx (stTup (stV (pushN n its) (pushI (ordL by_) n its v)) (pushR n its)) := by
  refine Try.ctr54 fun hf => ?_
  have hw : IntKind.i64.wrap (n + 1) = n + 1 := wr64 (by omega)
  have cP := fun bx => Try.rput_c by_ hb (n + 1) its (n, v) hl bx
  unfold pushN pushI pushR
  by_cases hfu : 5000 ≤ its.length ∨ 1000000000000000 ≤ n
  · rw [if_pos hfu, if_pos hfu, if_pos hfu]
    simp only [stV]
    by_cases h5 : (5000 : Int) ≤ its.length
    · simp [go_sem, Try.C54, hf]
      intro b hb b6 hb6
      obtain ⟨n6, hb6'⟩ := new_ne hb6
      simp [go_sem, hf, upd_eq, upd_ne, n6, Ne.symm n6, h5, upd_upd]
      exact ret_drop (by simp [go_sem, upd_eq]) (((Ext.refl _).new hb _).new hb6 _) ⟨by simp [go_sem, upd_eq, stTup], rfl⟩
    · have h6 : (1000000000000000 : Int) ≤ n := by omega
      simp [go_sem, Try.C54, hf]
      intro b hb b6 hb6
      obtain ⟨n6, hb6'⟩ := new_ne hb6
      simp [go_sem, hf, upd_eq, upd_ne, n6, Ne.symm n6, h5, h6, upd_upd]
      exact ret_drop (by simp [go_sem, upd_eq]) (((Ext.refl _).new hb _).new hb6 _) ⟨by simp [go_sem, upd_eq, stTup], rfl⟩
  · rw [if_neg hfu, if_neg hfu, if_neg hfu]
    have h5 : ¬ (5000 : Int) ≤ its.length := by omega
    have h6 : ¬ (1000000000000000 : Int) ≤ n := by omega
    simp only [stV, itV] at cP ⊢
    simp [go_sem, Try.C54, hf]
    intro b hb b6 hb6
    obtain ⟨n6, hb6'⟩ := new_ne hb6
    simp [go_sem, hf, upd_eq, upd_ne, n6, Ne.symm n6, h5, h6, hw]
    refine callK_pure (cP _) ?_
    simp [go_sem, hf, upd_eq, upd_ne, n6, Ne.symm n6, upd_upd]
    exact ret_drop (by simp [go_sem, upd_eq]) ((((Ext.refl _).new hb _).new hb6 _).upd_own (by assumption) _ |>.upd_own (by assumption) _) ⟨by simp [go_sem, upd_eq, stTup], rfl⟩
end Go.Proofs

/- Contracts: Load. -/
set_option linter.unusedSimpArgs false
set_option linter.unusedVariables false
set_option maxRecDepth 100000
namespace Go.Proofs
open Go Go.Pl Go.Hp

/-- The error of a state. -/
structure Chk (lt : Int → Int → Bool) (n : Int) (its : List (Int × Int)) (e : Int) : Prop where
  fl : 5000 < its.length → e = 3
  fn : its.length ≤ 5000 → ¬ (1 ≤ n ∧ n ≤ 1000000000000000) → e = 7
  fr : its.length ≤ 5000 → (1 ≤ n ∧ n ≤ 1000000000000000) → ∀ p, p ∈ its → ¬ (1 ≤ p.1 ∧ p.1 < n) → e = 7
  ft : its.length ≤ 5000 → (1 ≤ n ∧ n ≤ 1000000000000000) → (∀ p, p ∈ its → 1 ≤ p.1 ∧ p.1 < n) → ¬ (its.map (·.1)).Nodup → e = 8
  fs : its.length ≤ 5000 → (1 ≤ n ∧ n ≤ 1000000000000000) → (∀ p, p ∈ its → 1 ≤ p.1 ∧ p.1 < n) → (its.map (·.1)).Nodup → ¬ Srt lt its → e = 6
  fo : its.length ≤ 5000 → (1 ≤ n ∧ n ≤ 1000000000000000) → (∀ p, p ∈ its → 1 ≤ p.1 ∧ p.1 < n) → (its.map (·.1)).Nodup → Srt lt its → e = 0
theorem chk_ex (lt : Int → Int → Bool) (n : Int) (its : List (Int × Int)) : ∃ e, Chk lt n its e := by
  by_cases h1 : its.length ≤ 5000
  · by_cases h2 : 1 ≤ n ∧ n ≤ 1000000000000000
    · by_cases h3 : ∀ p, p ∈ its → 1 ≤ p.1 ∧ p.1 < n
      · by_cases h4 : (its.map (·.1)).Nodup
        · by_cases h5 : Srt lt its
          · exact ⟨0, ⟨fun h => by omega, fun _ h => absurd h2 h, fun _ _ p hp h => absurd (h3 p hp) h, fun _ _ _ h => absurd h4 h, fun _ _ _ _ h => absurd h5 h, fun _ _ _ _ _ => rfl⟩⟩
          · exact ⟨6, ⟨fun h => by omega, fun _ h => absurd h2 h, fun _ _ p hp h => absurd (h3 p hp) h, fun _ _ _ h => absurd h4 h, fun _ _ _ _ h => rfl, fun _ _ _ _ h => absurd h h5⟩⟩
        · exact ⟨8, ⟨fun h => by omega, fun _ h => absurd h2 h, fun _ _ p hp h => absurd (h3 p hp) h, fun _ _ _ h => rfl, fun _ _ _ h => absurd h h4, fun _ _ _ h => absurd h h4⟩⟩
      · exact ⟨7, ⟨fun h => by omega, fun _ h => absurd h2 h, fun _ _ p hp h => rfl, fun _ _ h => absurd h h3, fun _ _ h => absurd h h3, fun _ _ h => absurd h h3⟩⟩
    · exact ⟨7, ⟨fun h => by omega, fun _ h => rfl, fun _ h => absurd h h2, fun _ h => absurd h h2, fun _ h => absurd h h2, fun _ h => absurd h h2⟩⟩
  · exact ⟨3, ⟨fun h => rfl, fun h => absurd h h1, fun h => absurd h h1, fun h => absurd h h1, fun h => absurd h h1, fun h => absurd h h1⟩⟩
theorem Chk.ok {lt : Int → Int → Bool} {n : Int} {its : List (Int × Int)} (h : Chk lt n its 0) : its.length ≤ 5000 ∧ (1 ≤ n ∧ n ≤ 1000000000000000) ∧ (∀ p, p ∈ its → 1 ≤ p.1 ∧ p.1 < n) ∧ (its.map (·.1)).Nodup ∧ Srt lt its := by
  by_cases h1 : its.length ≤ 5000
  · by_cases h2 : 1 ≤ n ∧ n ≤ 1000000000000000
    · by_cases h3 : ∀ p, p ∈ its → 1 ≤ p.1 ∧ p.1 < n
      · by_cases h4 : (its.map (·.1)).Nodup
        · by_cases h5 : Srt lt its
          · exact ⟨h1, h2, h3, h4, h5⟩
          · exact absurd (h.fs h1 h2 h3 h4 h5) (by decide)
        · exact absurd (h.ft h1 h2 h3 h4) (by decide)
      · exfalso
        apply h3
        intro p hp
        by_cases h6 : 1 ≤ p.1 ∧ p.1 < n
        · exact h6
        · exact absurd (h.fr h1 h2 p hp h6) (by decide)
    · exact absurd (h.fn h1 h2) (by decide)
  · exact absurd (h.fl (by omega)) (by decide)
/-- Sorted: by neighbours. -/
theorem srt_iff {lt : Int → Int → Bool} {key : Int → Int} (hk : ByKey lt key) : ∀ {its : List (Int × Int)}, (∀ i (h : i + 1 < its.length), bf lt its[i] its[i + 1] = true) → Srt lt its
  | [], _ => List.Pairwise.nil
  | [p], _ => List.pairwise_singleton _ _
  | p :: q :: l, h => by
    have ih := srt_iff hk (its := q :: l) fun i hi => by
      have := h (i + 1) (by simp at hi ⊢; omega)
      simpa using this
    have h0 := h 0 (by simp)
    simp at h0
    refine List.pairwise_cons.2 ⟨fun r hr => ?_, ih⟩
    rcases List.mem_cons.1 hr with rfl | hr
    · exact h0
    · have := (List.pairwise_cons.1 ih).1 r hr
      rw [bf_key hk] at h0 this ⊢
      omega
theorem Try.rCheck_c (by_ : Int) (hb : 0 ≤ by_ ∧ by_ < 256) (n : Int) (its : List (Int × Int)) (e : Int) (he : Chk (ordL by_) n its e) (bx : Boxes) : PureCall Try.prog 33 [.int .u8 by_, stV n its] bx (.int .i64 e) := by
  refine Try.ctr33 fun hf => ?_
  have h1 := he.fl
  have h2 := he.fn
  have h3 := he.fr
  have h4 := he.ft
  have h5 := he.fs
  have h6 := he.fo
  simp only [stV]
  by_cases hl : 5000 < its.length
  · have hl' : (5000 : Int) < its.length := by omega
    simp [go_sem, Try.C33, hf, hl']
    exact ret_pure (by simp [go_sem]) (by simp [go_sem, h1 hl])
  have hl5 : its.length ≤ 5000 := by omega
  have hl' : ¬ (5000 : Int) < its.length := by omega
  simp [go_sem, Try.C33, hf, hl']
  refine ⟨fun hn => ret_pure (by simp [go_sem]) (by simp [go_sem, h2 hl5 (by omega)]), fun hn1 hn2 => ?_⟩
  have hn : 1 ≤ n ∧ n ≤ 1000000000000000 := ⟨hn1, hn2⟩
  refine pw_find its.length (fun i => decide (¬ (1 ≤ (its.getD i (0, 0)).1 ∧ (its.getD i (0, 0)).1 < n))) (fun i => ⟨92, slk [(0, .int .u8 by_), (3, .ep (stV n its) 0), (5, .int .i64 i)], bx⟩) (cov_look (by simp [go_sem, stV])) (fun i hi hJ N hN => ?_) (fun hJ N => ?_)
  · have hw := wr_succ (k := i) (by omega)
    have hg : its.getD i (0, 0) = its[i] := by simp [hi]
    rw [hg] at hN
    simp [go_sem, Try.L33_0, stV, hi, itV, hf]
    refine ⟨fun h => ret_pure (by simp [go_sem]) ?_, fun g1 g2 => hN _ (by simp; omega) (cov_look (by simp [go_sem, hw, stV]))⟩
    simp [go_sem]
    rw [h3 hl5 hn its[i] (List.getElem_mem hi) (by omega)]
  have hr : ∀ p, p ∈ its → 1 ≤ p.1 ∧ p.1 < n := by
    intro p hp
    obtain ⟨j, hj, rfl⟩ := List.getElem_of_mem hp
    have := hJ j hj
    simp [hj] at this
    omega
  simp [go_sem, Try.L33_0, stV, hf]
  refine pw_find its.length (fun i => (its.take i).any fun p => decide (p.1 = (its.getD i (0, 0)).1)) (fun i => ⟨92, slk [(0, .int .u8 by_), (3, .ep (stV n its) 0), (6, .int .i64 i)], bx⟩) (cov_look (by simp [go_sem, stV])) (fun i hi hJ N hN => ?_) (fun hJ N => ?_)
  · have hw := wr_succ (k := i) (by omega)
    have hg : its.getD i (0, 0) = its[i] := by simp [hi]
    rw [hg] at hN
    simp [go_sem, Try.L33_2, stV, hi, hf]
    refine pw_find i (fun k => decide ((its.getD k (0, 0)).1 = its[i].1)) (fun k => ⟨92, slk [(0, .int .u8 by_), (3, .ep (stV n its) 0), (6, .int .i64 i), (7, .int .i64 k)], bx⟩) (cov_look (by simp [go_sem, stV])) (fun k hk hJ2 N2 hN2 => ?_) (fun hJ2 N2 => ?_)
    · have hw2 := wr_succ (k := k) (by omega)
      have hk2 : k < its.length := by omega
      have hg : its.getD k (0, 0) = its[k] := by simp [hk2]
      rw [hg] at hN2
      simp [go_sem, Try.L33_1, stV, hi, hk2, itV, hf, hk]
      refine ⟨fun h => ret_pure (by simp [go_sem]) ?_, fun h => hN2 _ (by simpa using fun e => h e.symm) (cov_look (by simp [go_sem, hw2, stV]))⟩
      simp [go_sem]
      refine (h4 hl5 hn hr fun hnd => ?_).symm
      rw [List.Nodup, List.pairwise_iff_getElem] at hnd
      exact hnd k i (by simpa using hk2) (by simpa using hi) hk (by simpa using h.symm)
    · simp [go_sem, Try.L33_1, stV, hf, hw]
      refine hN _ ?_ (cov_look (by simp [go_sem, stV]))
      rw [List.any_eq_false]
      intro p hp
      obtain ⟨j, hj, rfl⟩ := List.getElem_of_mem hp
      rw [List.length_take] at hj
      have hj2 : j < its.length := by omega
      have := hJ2 j (by omega)
      rw [List.getElem_take]
      simpa [hj2] using this
  have hnd : (its.map (·.1)).Nodup := by
    rw [List.Nodup, List.pairwise_iff_getElem]
    intro a b ha hb2 hab
    simp at ha hb2
    have := hJ b hb2
    rw [List.any_eq_false] at this
    have := this its[a] (by rw [List.mem_take_iff_getElem]; exact ⟨a, by omega, rfl⟩)
    simpa [hb2] using this
  simp [go_sem, Try.L33_2, stV, hf]
  refine pw_find (its.length - 1) (fun k => !bf (ordL by_) (its.getD k (0, 0)) (its.getD (k + 1) (0, 0))) (fun k => ⟨92, slk [(0, .int .u8 by_), (3, .ep (stV n its) 0), (8, .int .i64 ((k : Int) + 1))], bx⟩) (cov_look (by simp [go_sem, stV])) (fun k hk hJ N hN => ?_) (fun hJ N => ?_)
  · have hk1 : k < its.length := by omega
    have hk2 : k + 1 < its.length := by omega
    have hk3 : (k : Int) + 1 < its.length := by omega
    have hw : IntKind.i64.wrap ((k : Int) + 1 + 1) = (k : Int) + 1 + 1 := wr64 (by omega)
    have hw2 : IntKind.i64.wrap (k : Int) = (k : Int) := wr64 (by omega)
    have hg : its.getD k (0, 0) = its[k] := by simp [hk1]
    have hg2 : its.getD (k + 1) (0, 0) = its[k + 1] := by simp [hk2]
    rw [hg, hg2] at hN
    have hto : ((k : Int) + 1).toNat = k + 1 := by omega
    have cB := Try.rbefore_c by_ hb its[k] its[k + 1] bx
    simp only [itV] at cB
    have hn0 : ¬ (k : Int) + 1 < 0 := by omega
    simp [go_sem, Try.L33_3, stV, hk1, hk2, hk3, itV, hf, hw, hw2, hto, hn0]
    refine ⟨by omega, callK_pure cB ?_⟩
    simp [go_sem, hw]
    refine ⟨fun h => ret_pure (by simp [go_sem]) ?_, fun h => hN _ (by simpa using h) (cov_look (by simp [go_sem, stV]))⟩
    simp [go_sem]
    refine (h5 hl5 hn hr hnd fun hs => ?_).symm
    rw [Srt, List.pairwise_iff_getElem] at hs
    have := hs k (k + 1) hk1 hk2 (by omega)
    rw [h] at this
    cases this
  · have hk3 : ¬ ((its.length - 1 : Nat) : Int) + 1 < its.length := by omega
    simp [go_sem, Try.L33_3, stV, hk3, hf]
    refine ret_pure (by simp [go_sem]) ?_
    simp [go_sem]
    refine (h6 hl5 hn hr hnd (srt_iff (ordL_key by_) fun i hi => ?_)).symm
    have := hJ i (by omega)
    simpa [hi, show i < its.length by omega] using this
end Go.Proofs

/- Contracts: Load of a queue. -/
set_option linter.unusedSimpArgs false
set_option linter.unusedVariables false
set_option maxRecDepth 100000
namespace Go.Proofs
open Go Go.Pl Go.Hp

theorem _root_.Go.Pl.Acc.new {bx bx' : Boxes} {e sz : Nat} {es : List V} {v : V} (h : Acc bx e sz es v bx') {b : Nat} (hb : bx' b = none) (x : Box) : Acc (upd bx b (some x)) e sz es v (upd bx' b (some x)) := by
  have hb0 := h.ext.none hb
  refine ⟨fun c hc => ?_, (finB_upd _ _ _).2 h.fin, ?_⟩
  · by_cases e : c = b
    · subst e; rw [upd_eq, upd_eq]
    · rw [upd_ne _ _ e, upd_ne _ _ e]
      rw [upd_ne _ _ e] at hc
      exact h.ext c hc
  · rcases h.is with h1 | ⟨b', h1, h2, h3⟩
    · exact .inl h1
    · have hn : b' ≠ b := fun e => by rw [e, hb] at h3; cases h3
      exact .inr ⟨b', by rw [upd_ne _ _ hn]; exact h1, h2, by rw [upd_ne _ _ hn]; exact h3⟩
/-- What a box of the base becomes. -/
theorem _root_.Go.Pl.Acc.base_put {bx bx' : Boxes} {e sz : Nat} {es : List V} {v : V} {b : Nat} {x : Box} (h : Acc bx e sz es v bx') (hb : bx b = some x) (y : Box) : Acc (upd bx b (some y)) e sz es v (upd bx' b (some y)) := by
  have e : bx = upd bx b (some x) := by
    funext c
    by_cases e : c = b
    · subst e; rw [upd_eq, hb]
    · rw [upd_ne _ _ e]
  rw [e] at h
  have h2 := h.put y
  have e2 : upd (upd bx b (some x)) b (some y) = upd bx b (some y) := upd_upd _ _ _ _
  have e3 : upd bx b (some y) = upd (upd bx b (some x)) b (some y) := e2.symm
  exact h2
/-- What Load has made of the first values. -/
structure LdI (bx : Boxes) (bq bm : Nat) (g : FuncId) (n : Int) (its : List (Int × Int)) (k : Nat) (tw : Bool) (bx' : Boxes) (bs : Boxes) (es : List (Ent Int)) (v : V) (ms : List (Int × Nat)) : Prop where
  a : Acc bs 85 1 (es.map fun e => .ptr e.b 3 0 0) v bx'
  q : bs bq = some (.row 79 4 [qV v g (.mp bm) n])
  e : ∀ i, i < es.length → bs (at_ es i).b = some (.row 90 3 [entC (at_ es i).h (at_ es i).v i])
  m : bs bm = some (.map (mpV ms))
  mn : (ms.map (·.1)).Nodup
  mi : ∀ h, h ∈ ms.map (·.1) ↔ h ∈ (its.take k).map (·.1)
  hv : es.map hv = its.take k
  tf : tw = false → ms.Perm (es.map pr) ∧ ((its.take k).map (·.1)).Nodup
  tt : tw = true → ¬ ((its.take k).map (·.1)).Nodup
  ra : ∀ p, p ∈ its.take k → 1 ≤ p.1 ∧ p.1 < n
  f : Ext bx bs
  fq : bx bq = none ∧ bx bm = none ∧ ∀ x, x ∈ es → bx x.b = none
  nd : (bq :: bm :: es.map (·.b)).Nodup
theorem mpV_snoc (ms : List (Int × Nat)) (h : Int) (b : Nat) : mpV ms ++ [(.int .i64 h, .ptr b 3 0 0)] = mpV (ms ++ [(h, b)]) := by simp [mpV]
theorem mpV_set (ms : List (Int × Nat)) (i : Nat) (h : Int) (b : Nat) : (mpV ms).set i (.int .i64 h, .ptr b 3 0 0) = mpV (ms.set i (h, b)) := by simp [mpV, List.map_set]
/-- One more value: its entry and the map. -/
theorem LdI.mid {bx : Boxes} {bq bm : Nat} {g : FuncId} {n : Int} {its : List (Int × Int)} {k : Nat} {tw : Bool} {bx2 bs : Boxes} {es : List (Ent Int)} {v : V} {ms : List (Int × Nat)} (hI : LdI bx bq bm g n its k tw bx2 bs es v ms) {eb : Nat} (heb : bx2 eb = none) (x : Box) (ms' : List (Int × Nat)) :
    Acc (upd (upd bs eb (some x)) bm (some (.map (mpV ms')))) 85 1 (es.map fun e => .ptr e.b 3 0 0) v (upd (upd bx2 eb (some x)) bm (some (.map (mpV ms')))) := by
  refine (hI.a.new heb x).base_put (x := .map (mpV ms)) ?_ _
  rw [upd_ne _ _ fun e => ?_]
  · exact hI.m
  · have := hI.a.ext.none heb
    rw [← e, hI.m] at this; cases this
theorem LdI.step {bx : Boxes} {bq bm : Nat} {g : FuncId} {n : Int} {its : List (Int × Int)} {k : Nat} {tw : Bool} {bx2 bs : Boxes} {es : List (Ent Int)} {v : V} {ms : List (Int × Nat)} (hI : LdI bx bq bm g n its k tw bx2 bs es v ms) (hkk : k < its.length) {eb : Nat} (heb : bx2 eb = none) {ms' : List (Int × Nat)} {tw' : Bool}
    (hn : (ms'.map (·.1)).Nodup) (hmi : ∀ h, h ∈ ms'.map (·.1) ↔ h ∈ (its.take (k + 1)).map (·.1)) (hra : 1 ≤ its[k].1 ∧ its[k].1 < n)
    (htf : tw' = false → ms'.Perm ((es ++ [(⟨its[k].1, its[k].2, eb⟩ : Ent Int)]).map pr) ∧ ((its.take (k + 1)).map (·.1)).Nodup) (htt : tw' = true → ¬ ((its.take (k + 1)).map (·.1)).Nodup)
    {v' : V} {bx5 : Boxes} (ha : Acc (upd (upd bs eb (some (.row 90 3 [entC its[k].1 its[k].2 k]))) bm (some (.map (mpV ms')))) 85 1 ((es.map fun e => .ptr e.b 3 0 0) ++ [.ptr eb 3 0 0]) v' bx5) :
    LdI bx bq bm g n its (k + 1) tw' (upd bx5 bq (some (.row 79 4 [qV v' g (.mp bm) n]))) (upd (upd (upd bs eb (some (.row 90 3 [entC its[k].1 its[k].2 k]))) bm (some (.map (mpV ms')))) bq (some (.row 79 4 [qV v' g (.mp bm) n]))) (es ++ [⟨its[k].1, its[k].2, eb⟩]) v' ms' := by
  have hebs := hI.a.ext.none heb
  have nq : bq ≠ eb := fun e => by have := hI.q; rw [e, hebs] at this; cases this
  have nm : bm ≠ eb := fun e => by have := hI.m; rw [e, hebs] at this; cases this
  have hnd := hI.nd
  have hes : es.length = k := by have := congrArg List.length hI.hv; simp at this; omega
  have hbe : bx eb = none := hI.f.none hebs
  have hat : ∀ i, i < es.length → at_ (es ++ [(⟨its[k].1, its[k].2, eb⟩ : Ent Int)]) i = at_ es i := fun i hi => by
    unfold at_; rw [List.getD_eq_getElem?_getD, List.getD_eq_getElem?_getD, List.getElem?_append_left hi]
  have hat2 : at_ (es ++ [(⟨its[k].1, its[k].2, eb⟩ : Ent Int)]) k = ⟨its[k].1, its[k].2, eb⟩ := by
    unfold at_; rw [List.getD_eq_getElem?_getD, List.getElem?_append_right (by omega)]; simp [hes]
  simp only [List.nodup_cons, List.mem_cons, List.mem_map, not_or, not_exists, not_and] at hnd
  obtain ⟨⟨n1, n2⟩, n3, n4⟩ := hnd
  have hme : ∀ i, i < es.length → at_ es i ∈ es := fun i hi => by rw [at_get hi]; exact List.getElem_mem hi
  have hebE : ∀ x, x ∈ es → x.b ≠ eb := fun x hx e => by
    obtain ⟨i, hi, rfl⟩ := List.getElem_of_mem hx
    have := hI.e i hi
    rw [at_get hi, e, hebs] at this; cases this
  have qB : upd (upd bs eb (some (.row 90 3 [entC its[k].1 its[k].2 k]))) bm (some (.map (mpV ms'))) bq = some (.row 79 4 [qV v g (.mp bm) n]) := by
    rw [upd_ne _ _ n1, upd_ne _ _ nq]; exact hI.q
  refine LdI.mk ?_ (upd_eq _ _ _) (fun i hi => ?_) ?_ hn hmi ?_ htf htt ?_ ?_ ⟨hI.fq.1, hI.fq.2.1, ?_⟩ ?_
  · have := ha.base_put qB (.row 79 4 [qV v' g (.mp bm) n])
    simpa using this
  · rw [List.length_append, List.length_singleton] at hi
    by_cases h : i < es.length
    · have m := hme i h
      rw [hat i h, upd_ne _ _ (n2 _ m), upd_ne _ _ (n3 _ m), upd_ne _ _ (hebE _ m)]
      exact hI.e i h
    · obtain rfl : i = k := by omega
      rw [hat2, upd_ne _ _ (Ne.symm nq), upd_ne _ _ (Ne.symm nm), upd_eq]
  · rw [upd_ne _ _ (Ne.symm n1), upd_eq]
  · rw [List.map_append, hI.hv, List.take_succ_eq_append_getElem hkk]; rfl
  · intro p hp
    rw [List.take_succ_eq_append_getElem hkk] at hp
    rcases List.mem_append.1 hp with hp | hp
    · exact hI.ra p hp
    · simp at hp; subst hp; exact hra
  · exact ((hI.f.upd_own hbe _).upd_own hI.fq.2.1 _).upd_own hI.fq.1 _
  · intro x hx
    rcases List.mem_append.1 hx with hx | hx
    · exact hI.fq.2.2 x hx
    · simp at hx; subst hx; exact hbe
  · simp only [List.nodup_cons, List.map_append, List.mem_cons, List.mem_append, List.mem_map, not_or, not_exists, not_and, List.map_cons, List.map_nil, List.not_mem_nil, or_false]
    refine ⟨⟨n1, n2, nq⟩, ⟨n3, nm⟩, ?_⟩
    rw [List.nodup_append]
    refine ⟨n4, by simp, ?_⟩
    intro a ha b hb
    obtain ⟨x, hx, rfl⟩ := List.mem_map.1 ha
    simp at hb
    subst hb
    exact hebE x hx
theorem LdI.qs {bx : Boxes} {bq bm : Nat} {g : FuncId} {n : Int} {its : List (Int × Int)} {k : Nat} {tw : Bool} {bx2 bs : Boxes} {es : List (Ent Int)} {v : V} {ms : List (Int × Nat)} (hI : LdI bx bq bm g n its k tw bx2 bs es v ms) (hl : es.length ≤ 100000) :
    ∃ ol, QS bx2 bq ol g (.mp bm) n es ∧ (∀ b, ol = some b → bx b = none) ∧ ol ≠ some bm := by
  have hnd := hI.nd
  simp only [List.nodup_cons, List.mem_cons, List.mem_map, not_or, not_exists, not_and] at hnd
  obtain ⟨⟨n1, n2⟩, n3, n4⟩ := hnd
  have hx : ∀ b x, bs b = some x → bx2 b = some x := fun b x h => (hI.a.ext b (by rw [h]; simp)).trans h
  rcases hI.a.is with ⟨h1, h2⟩ | ⟨b, h1, h2, h3⟩
  · refine ⟨none, .inl ⟨by simpa using h1, rfl, ?_, hI.a.fin⟩, fun b hb => (by cases hb), by simp⟩
    rw [← h2]; exact hx _ _ hI.q
  · have nb : ∀ c x, bs c = some x → b ≠ c := fun c x hc e => by rw [e, hc] at h1; cases h1
    refine ⟨some b, .inr ⟨b, _, rfl, ?_, h3, fun i hi => ?_, fun i hi => hx _ _ (hI.e i hi), ?_, hI.a.fin, hl⟩, fun c hc => ?_, fun e => ?_⟩
    · rw [hx _ _ hI.q, h2]; simp
    · rw [List.getElem?_map, at_get hi, List.getElem?_eq_getElem hi]; rfl
    · simp only [List.nodup_cons, List.mem_cons, List.mem_map, not_or, not_exists, not_and]
      refine ⟨⟨fun e => nb _ _ hI.q e.symm, n2⟩, fun x hx' e => ?_, n4⟩
      obtain ⟨i, hi, rfl⟩ := List.getElem_of_mem hx'
      have := hI.e i hi
      rw [at_get hi] at this
      exact nb _ _ this e.symm
    · injection hc with hc
      subst hc
      exact hI.f.none h1
    · injection e with e
      exact nb _ _ hI.m e
theorem heap_srt {lt : Int → Int → Bool} {key : Int → Int} (hk : ByKey lt key) {es : List (Ent Int)} (hs : Srt lt (es.map hv)) : HeapOK lt es es.length := by
  intro i hi hil
  rw [Srt, List.pairwise_iff_getElem] at hs
  have := hs ((i - 1) / 2) i (by simp; omega) (by simpa using hil) (by omega)
  rw [List.getElem_map, List.getElem_map] at this
  unfold le
  rw [at_get hil, at_get (by omega), bef_bf]
  by_cases h : bf lt (hv es[i]) (hv es[(i - 1) / 2]) = true
  · rw [bf_key hk] at this h
    omega
  · simpa using h
theorem Try.Load_c {g : FuncId} {lt : Int → Int → Bool} {key : Int → Int} (hk : ByKey lt key) (hlt : Lt Try.prog g lt) (n : Int) (its : List (Int × Int)) (e : Int) (he : Chk lt n its e) (bx : Boxes) :
    AbsCall Try.prog 27 [.fn (.func g) [], stV n its] bx fun r bx' => (e ≠ 0 ∧ r = .tup [.nilp, .int .i64 e] ∧ FinB bx' ∧ Ext bx bx') ∨ (e = 0 ∧ ∃ bq D, r = .tup [.ptr bq 4 0 0, .int .i64 0] ∧ QF bx bx' bq g lt n its D) := by
  refine Try.ctr27 fun hf => ?_
  have h1 := he.fl
  have h2 := he.fn
  have h3 := he.fr
  have h4 := he.ft
  have h5 := he.fs
  have h6 := he.fo
  simp only [stV]
  simp [go_sem, Try.C27, hf]
  refine callK_abs (Try.New_c g bx) ?_
  rintro r bx1 ⟨bq, bm, gq, gm, rfl, hm, hE⟩
  obtain ⟨sv, hq, hsv⟩ := hm.s.q
  obtain rfl : sv = .nils := by
    rcases hsv with ⟨_, h⟩ | ⟨bl, h, _⟩
    · exact h
    · cases h
  obtain ⟨ms0, hms0, hbm⟩ := hm.m
  obtain rfl : ms0 = [] := by simpa using hms0
  have hf1 := hm.fin
  have hne := hm.d.1
  by_cases hl : 5000 < its.length
  · have hl' : (5000 : Int) < its.length := by omega
    simp [go_sem, hf1, hl']
    exact ret_pure (by simp [go_sem]) (.inl ⟨by rw [h1 hl]; decide, by simp [go_sem, h1 hl], hf1, hE⟩)
  have hl5 : its.length ≤ 5000 := by omega
  have hl' : ¬ (5000 : Int) < its.length := by omega
  simp [go_sem, hf1, hl']
  refine ⟨fun hn => ret_pure (by simp [go_sem]) (.inl ⟨by rw [h2 hl5 (by omega)]; decide, by simp [go_sem, h2 hl5 (by omega)], hf1, hE⟩), fun hn1 hn2 => ?_⟩
  have hn : 1 ≤ n ∧ n ≤ 1000000000000000 := ⟨hn1, hn2⟩
  simp only [qV] at hq
  simp [go_sem, hq, hf1]
  have hI0 : ∃ bs es v ms, LdI bx bq bm g n its 0 false (upd bx1 bq (some (.row 79 4 [.agg [.nils, .fn (.func g) [], .mp bm, .int .i64 n]]))) bs es v ms := by
    refine ⟨_, [], .nils, [], acc_nil ((finB_upd _ _ _).2 hf1) _ _, upd_eq _ _ _, fun i hi => by simp at hi, ?_, by simp, by simp, by simp, by simp, by simp, by simp, ?_, ⟨gq, gm, by simp⟩, by simpa using Ne.symm hne⟩
    · rw [upd_ne _ _ hne]; exact hbm
    · exact hE.upd_own gq _
  refine pw_for (ι := Bool × Boxes) its.length (fun k i => ∃ bs es v ms, LdI bx bq bm g n its k i.1 i.2 bs es v ms) (fun k i => ⟨114, slk [(3, .ep (stV n its) 0), (6, .ptr bq 4 0 0), (7, .bool i.1), (39, .sl 2 (its.map itV)), (40, .int .i64 its.length), (41, .int .i64 k)], i.2⟩) (false, _) hI0 (cov_look (by simp [go_sem, stV])) (fun k i hkk hJ N hN => ?_) (fun i hJ N => ?_)
  · obtain ⟨tw, bx2⟩ := i
    obtain ⟨bs, es, v, ms, hI⟩ := hJ
    dsimp only at hI hN ⊢
    have hw := wr_succ (k := k) (by omega)
    have hes : es.length = k := by have := congrArg List.length hI.hv; simp at this; omega
    have q2 : bx2 bq = _ := (hI.a.ext bq (by rw [hI.q]; simp)).trans hI.q
    have m2 : bx2 bm = _ := (hI.a.ext bm (by rw [hI.m]; simp)).trans hI.m
    have f2 := hI.a.fin
    simp only [qV] at q2
    simp [go_sem, Try.L27_0, stV, hkk, itV, f2]
    intro b hb
    rw [upd_self hb]
    refine ⟨fun hr => ret_pure (by simp [go_sem]) (.inl ⟨?_, ?_, f2, hI.f.trans hI.a.ext⟩), fun hr1 hr2 => ?_⟩
    · rw [h3 hl5 hn its[k] (List.getElem_mem hkk) (by omega)]; decide
    · simp [go_sem]
      rw [h3 hl5 hn its[k] (List.getElem_mem hkk) (by omega)]
    have hlk : (its[k].1 ∉ ms.map (·.1) ∧ findV (.int .i64 its[k].1) (mpV ms) 0 = some none) ∨ ∃ i b0, its[k].1 ∈ ms.map (·.1) ∧ ms[i]? = some (its[k].1, b0) ∧ findV (.int .i64 its[k].1) (mpV ms) 0 = some (some (i, .ptr b0 3 0 0)) := by
      have hfa := findV_at its[k].1 ms 0 hI.mn
      by_cases hx : its[k].1 ∈ ms.map (·.1)
      · obtain ⟨p, hp, hpe⟩ := List.mem_map.1 hx
        obtain ⟨i, g1, g2⟩ := hfa.1 p.2 (by rw [← hpe]; exact hp)
        exact .inr ⟨i, p.2, hx, g1, by simpa using g2⟩
      · exact .inl ⟨hx, hfa.2 fun b0 hb0 => hx (List.mem_map.2 ⟨_, hb0, rfl⟩)⟩
    rcases hlk with ⟨hx, hfi⟩ | ⟨i, b0, hx, hi, hfi⟩
    all_goals
      simp [go_sem, q2, m2, hfi, f2]
      intro eb heb
      have nq : bq ≠ eb := fun e => by rw [e, heb] at q2; cases q2
      have nm : bm ≠ eb := fun e => by rw [e, heb] at m2; cases m2
      simp [go_sem, q2, m2, hfi, f2, upd_ne, nq, nm, hne, Ne.symm hne]
      intro b hb
    · rw [mpV_snoc] at hb ⊢
      have hM := hI.mid heb (.row 90 3 [entC its[k].1 its[k].2 k]) (ms ++ [(its[k].1, eb)])
      simp only [entC] at hM
      have hnb : bq ≠ b := fun e => by rw [← e, upd_ne _ _ (Ne.symm hne), upd_ne _ _ nq, q2] at hb; cases hb
      refine acc_append (news := [.ptr eb 3 0 0]) (.pointer none) hM ((Ext.refl _).new hb _) ((finB_upd _ _ _).2 hM.fin) Try.knd74 Try.tsz85 (by simp [srcEls, upd_eq]) Try.tzero85 (by simp [go_sem]) (by decide) (by simp [Try.tby85]; omega) (by simp; omega) (by simp [go_sem]) fun v' bx5 h5 => ?_
      have q5 : bx5 bq = _ := (h5.ext bq (by rw [upd_ne _ _ (Ne.symm hne), upd_ne _ _ nq, hI.q]; simp)).trans (by rw [upd_ne _ _ (Ne.symm hne), upd_ne _ _ nq, hI.q])
      simp only [qV] at q5
      simp [go_sem, q5, h5.fin, h5.cells, h5.setC, h5.okV, h5.strip, h5.live, hw]
      have hst := hI.step hkk heb (ms' := ms ++ [(its[k].1, eb)]) (tw' := tw) ?_ ?_ ⟨hr1, hr2⟩ ?_ ?_ (by simpa only [entC] using h5)
      · exact hN _ (tw, _) ⟨_, _, _, _, hst⟩ (cov_look (by simp [go_sem, stV]))
      · rw [List.map_append, List.nodup_append]
        refine ⟨hI.mn, by simp, fun a ha b hb2 => ?_⟩
        simp at hb2
        subst hb2
        exact fun e => hx (e ▸ ha)
      · intro h
        rw [List.take_succ_eq_append_getElem hkk, List.map_append, List.map_append, List.mem_append, List.mem_append, hI.mi h]
        simp
      · intro htw
        obtain ⟨t1, t2⟩ := hI.tf htw
        refine ⟨?_, ?_⟩
        · rw [List.map_append]
          exact t1.append (List.Perm.refl _)
        · rw [List.take_succ_eq_append_getElem hkk, List.map_append, List.nodup_append]
          refine ⟨t2, by simp, fun a ha b hb2 => ?_⟩
          simp at hb2
          subst hb2
          exact fun e => hx ((hI.mi _).2 (e ▸ ha))
      · intro htw hnd
        rw [List.take_succ_eq_append_getElem hkk, List.map_append, List.nodup_append] at hnd
        exact hI.tt htw hnd.1
    · rw [mpV_set] at hb ⊢
      have hM := hI.mid heb (.row 90 3 [entC its[k].1 its[k].2 k]) (ms.set i (its[k].1, eb))
      simp only [entC] at hM
      have hnb : bq ≠ b := fun e => by rw [← e, upd_ne _ _ (Ne.symm hne), upd_ne _ _ nq, q2] at hb; cases hb
      refine acc_append (news := [.ptr eb 3 0 0]) (.pointer none) hM ((Ext.refl _).new hb _) ((finB_upd _ _ _).2 hM.fin) Try.knd74 Try.tsz85 (by simp [srcEls, upd_eq]) Try.tzero85 (by simp [go_sem]) (by decide) (by simp [Try.tby85]; omega) (by simp; omega) (by simp [go_sem]) fun v' bx5 h5 => ?_
      have q5 : bx5 bq = _ := (h5.ext bq (by rw [upd_ne _ _ (Ne.symm hne), upd_ne _ _ nq, hI.q]; simp)).trans (by rw [upd_ne _ _ (Ne.symm hne), upd_ne _ _ nq, hI.q])
      simp only [qV] at q5
      simp [go_sem, q5, h5.fin, h5.cells, h5.setC, h5.okV, h5.strip, h5.live, hw]
      obtain ⟨hil, hie⟩ := List.getElem?_eq_some_iff.1 hi
      have hk0 : (ms.set i (its[k].1, eb)).map (·.1) = ms.map (·.1) := by
        rw [List.map_set]
        apply List.ext_getElem
        · simp
        · intro j j1 j2
          rw [List.getElem_set]
          split
          · rename_i e
            subst e
            simp [hie]
          · rfl
      have hin : its[k].1 ∈ (its.take k).map (·.1) := (hI.mi _).1 hx
      have hst := hI.step hkk heb (ms' := ms.set i (its[k].1, eb)) (tw' := true) (by rw [hk0]; exact hI.mn) ?_ ⟨hr1, hr2⟩ (by simp) ?_ (by simpa only [entC] using h5)
      · exact hN _ (true, _) ⟨_, _, _, _, hst⟩ (cov_look (by simp [go_sem, stV]))
      · intro h
        rw [hk0, hI.mi h, List.take_succ_eq_append_getElem hkk, List.map_append, List.mem_append]
        constructor
        · exact fun e => .inl e
        · rintro (e | e)
          · exact e
          · simp at e; rw [e]; exact hin
      · intro _ hnd
        rw [List.take_succ_eq_append_getElem hkk, List.map_append, List.nodup_append] at hnd
        exact hnd.2.2 _ hin _ (by simp) rfl
  · obtain ⟨tw, bx2⟩ := i
    obtain ⟨bs, es, v, ms, hI⟩ := hJ
    dsimp only at hI ⊢
    have hes : es.length = its.length := by have := congrArg List.length hI.hv; simp at this; omega
    have q2 : bx2 bq = _ := (hI.a.ext bq (by rw [hI.q]; simp)).trans hI.q
    have m2 : bx2 bm = _ := (hI.a.ext bm (by rw [hI.m]; simp)).trans hI.m
    have f2 := hI.a.fin
    have hr : ∀ p, p ∈ its → 1 ≤ p.1 ∧ p.1 < n := fun p hp => hI.ra p (by rw [List.take_length]; exact hp)
    simp only [qV] at q2
    cases tw with
    | true =>
      have hnd := hI.tt rfl
      rw [List.take_length] at hnd
      simp [go_sem, Try.L27_0, stV, f2]
      refine ret_pure (by simp [go_sem]) (.inl ⟨?_, ?_, f2, hI.f.trans hI.a.ext⟩)
      · rw [h4 hl5 hn hr hnd]; decide
      · simp [go_sem]
        rw [h4 hl5 hn hr hnd]
    | false =>
      obtain ⟨hpm, hnd⟩ := hI.tf rfl
      rw [List.take_length] at hnd
      simp [go_sem, Try.L27_0, stV, f2]
      obtain ⟨ol, hQS, hol, holm⟩ := hI.qs (by omega)
      have hhv : es.map hv = its := by rw [hI.hv, List.take_length]
      refine pw_find (its.length - 1) (fun k => !bf lt (its.getD k (0, 0)) (its.getD (k + 1) (0, 0))) (fun k => ⟨114, slk [(6, .ptr bq 4 0 0), (13, .int .i64 ((k : Int) + 1))], bx2⟩) (cov_look (by simp [go_sem])) (fun k hk hJ N hN => ?_) (fun hJ N => ?_)
      · have hk1 : k < its.length := by omega
        have hk2 : k + 1 < its.length := by omega
        have hw : IntKind.i64.wrap ((k : Int) + 1 + 1) = (k : Int) + 1 + 1 := wr64 (by omega)
        have hw2 : IntKind.i64.wrap (k : Int) = (k : Int) := wr64 (by omega)
        have hk3 : (k : Int) + 1 < es.length := by omega
        have hg : its.getD k (0, 0) = its[k] := by simp [hk1]
        have hg2 : its.getD (k + 1) (0, 0) = its[k + 1] := by simp [hk2]
        rw [hg, hg2] at hN
        have e1 : its[k] = hv (at_ es k) := by subst hhv; rw [List.getElem_map, at_get (by omega)]
        have e2 : its[k + 1] = hv (at_ es (k + 1)) := by subst hhv; rw [List.getElem_map, at_get (by omega)]
        obtain ⟨bl, R, rfl, hs⟩ : ∃ bl R, ol = some bl ∧ HeapS bx2 bq bl g (.mp bm) n es R := by
          rcases hQS with ⟨h, _⟩ | h
          · rw [h] at hes; simp at hes; omega
          · exact h
        have cL := Try.less_c hlt hs (i := k) (k := k + 1) (by omega) (by omega)
        rw [bef_bf, ← e1, ← e2] at cL
        have q3 := hs.q
        simp only [qV] at q3
        simp only [Int.natCast_add, Int.cast_ofNat_Int] at cL
        simp [go_sem, Try.L27_1, f2, q3, hk3, hw2]
        refine callK_pure cL ?_
        simp [go_sem, hw]
        refine ⟨fun h => ret_pure (by simp [go_sem]) (.inl ?_), fun h => hN _ (by simpa using h) (cov_look (by simp [go_sem]))⟩
        have he6 : e = 6 := h5 hl5 hn hr hnd fun hs => by
          rw [Srt, List.pairwise_iff_getElem] at hs
          have := hs k (k + 1) hk1 hk2 (by omega)
          rw [h] at this
          cases this
        exact ⟨by rw [he6]; decide, by simp [go_sem, he6], f2, hI.f.trans hI.a.ext⟩
      · have hs : Srt lt its := srt_iff hk fun i hi => by
          have := hJ i (by omega)
          simpa [hi, show i < its.length by omega] using this
        have he0 := h6 hl5 hn hr hnd hs
        obtain ⟨sv, q3, hsv⟩ := hQS.q
        simp only [qV] at q3
        have fin : ∃ bq' D, (V.ptr bq 4 0 0) = .ptr bq' 4 0 0 ∧ QF bx bx2 bq' g lt n its D := by
          refine ⟨bq, fun b => b = bq ∨ b = bm ∨ ol = some b ∨ ∃ e, e ∈ es ∧ b = e.b, rfl, ⟨⟨ol, bm, es, ⟨hQS, ⟨ms, hpm, m2⟩, fun x hx => ?_, ?_, ?_, hn⟩, ?_, by rw [hhv], fun b => Iff.rfl⟩, hs⟩, fun b hb => (hI.f.trans hI.a.ext) b hb, fun b hb => ?_⟩
          · have := hr (hv x) (by rw [← hhv]; exact List.mem_map.2 ⟨x, hx, rfl⟩)
            exact this
          · have : es.map (·.h) = its.map (·.1) := by rw [← hhv, List.map_map]; rfl
            rw [this]; exact hnd
          · have hnd2 := hI.nd
            simp only [List.nodup_cons, List.mem_cons, List.mem_map, not_or, not_exists, not_and] at hnd2
            obtain ⟨⟨n1, n2⟩, n3, n4⟩ := hnd2
            exact ⟨Ne.symm n1, holm, fun x hx => n3 x hx⟩
          · exact heap_srt hk (by rw [hhv]; exact hs)
          · rcases hb with rfl | rfl | hb | ⟨x, hx, rfl⟩
            · exact hI.fq.1
            · exact hI.fq.2.1
            · exact hol b hb
            · exact hI.fq.2.2 x hx
        have hk3 : ¬ ((its.length - 1 : Nat) : Int) + 1 < es.length := by omega
        rcases hsv with ⟨rfl, rfl⟩ | ⟨bl, rfl, rfl⟩
        · have hk3 : ¬ ((its.length - 1 : Nat) : Int) + 1 < 0 := by omega
          simp [go_sem, Try.L27_1, f2, q3, hk3]
          exact ret_pure (by simp [go_sem]) (.inr ⟨he0, by simpa [go_sem] using fin⟩)
        · simp [go_sem, Try.L27_1, f2, q3, hk3]
          exact ret_pure (by simp [go_sem]) (.inr ⟨he0, by simpa [go_sem] using fin⟩)
end Go.Proofs

/- Contracts: HeapsPlays. -/
set_option linter.unusedSimpArgs false
set_option linter.unusedVariables false
set_option maxRecDepth 100000
namespace Go.Proofs
open Go Go.Pl Go.Hp

theorem Qu.other {bx : Boxes} {bq : Nat} {g : FuncId} {lt : Int → Int → Bool} {next : Int} {its : List (Int × Int)} {D : Nat → Prop} (h : Qu bx bq g lt next its D) {b : Nat} (hb : ¬ D b) (x : Option Box) : Qu (upd bx b x) bq g lt next its D :=
  h.same (fun c hc => upd_ne _ _ fun e => hb (e ▸ hc)) ((finB_upd _ _ _).2 h.fin)
/-- A queue, and the document's state of it in a box. -/
structure DS (bx : Boxes) (by_ : Int) (bq bs : Nat) (m : Nat) : Prop where
  ex : ∃ next its D, Qu bx bq (ordF by_) (ordL by_) next its D ∧ ¬ D bs ∧ bx bs = some (.row 52 2 [stV next its]) ∧ its.length ≤ m
theorem DS.mk1 {bx bx' : Boxes} {by_ : Int} {bq bs : Nat} {D D' : Nat → Prop} {m : Nat} (hD : ¬ D bs) (hs : bx bs ≠ none) {next' : Int} {its' : List (Int × Int)} (h : Qu bx' bq (ordF by_) (ordL by_) next' its' D') (f : Frm D D' bx bx') (hl : its'.length ≤ m) : ¬ D' bs ∧ DS (upd bx' bs (some (.row 52 2 [stV next' its']))) by_ bq bs m := by
  have hn : ¬ D' bs := fun e => by
    rcases f.2 bs e with e | e
    · exact hD e
    · exact hs e
  exact ⟨hn, ⟨next', its', D', h.other hn _, hn, upd_eq _ _ _, hl⟩⟩
theorem DS.mk2 {bx bx' : Boxes} {by_ : Int} {bq bs : Nat} {D D' : Nat → Prop} {m : Nat} (hD : ¬ D bs) {next' : Int} {its' : List (Int × Int)} (hs : bx bs = some (.row 52 2 [stV next' its'])) (h : Qu bx' bq (ordF by_) (ordL by_) next' its' D') (f : Frm D D' bx bx') (hl : its'.length ≤ m) : DS bx' by_ bq bs m := by
  have hs0 : bx bs ≠ none := by rw [hs]; simp
  have hn : ¬ D' bs := fun e => by
    rcases f.2 bs e with e | e
    · exact hD e
    · exact hs0 e
  exact ⟨next', its', D', h, hn, (f.1 bs hs0 hD).trans hs, hl⟩
def callV (w h v : Int) : V := .agg [.int .u8 w, .int .i64 h, .int .i64 v]
theorem setI_len (lt : Int → Int → Bool) (k v : Int) {its : List (Int × Int)} (hn : (its.map (·.1)).Nodup) : (setI lt k v its).length = its.length := by
  unfold setI
  cases hl : look k its with
  | none => rfl
  | some w =>
    dsimp only
    rw [(ins_perm _ _).length_eq]
    rw [look_idx] at hl
    cases hi : idx k its with
    | none => rw [hi] at hl; cases hl
    | some i =>
      obtain ⟨h1, _⟩ := idx_some hi
      rw [del_idx hn hi]
      simp
      omega
theorem pushI_len (lt : Int → Int → Bool) (n v : Int) (its : List (Int × Int)) : (pushI lt n its v).length ≤ its.length + 1 := by
  unfold pushI
  split
  · omega
  · rw [(ins_perm _ _).length_eq]; simp
theorem Try.do_c (by_ : Int) (hb : 0 ≤ by_ ∧ by_ < 256) {bx : Boxes} {bq bs m : Nat} (hm : m ≤ 4000) (h : DS bx by_ bq bs m) (w hd v : Int) (hw : 0 ≤ w ∧ w < 256) :
    AbsCall Try.prog 34 [.ptr bq 4 0 0, .int .u8 by_, .ptr bs 2 0 0, callV w hd v] bx fun r bx' => r = .bool true ∧ DS bx' by_ bq bs (m + 1) := by
  refine Try.ctr34 fun hf => ?_
  obtain ⟨next, its, D, hq, hD, hs, hl⟩ := h.ex
  have hk := ordL_key by_
  have hlt := Try.ord_lt by_
  have hkeys := hq.keys
  have hs0 : bx bs ≠ none := by rw [hs]; simp
  have hl5 : its.length ≤ 100000 := by omega
  have hw8 : IntKind.u8.wrap (w.tmod 8) = w.tmod 8 := by
    have h1 : w.tmod 8 = w % 8 := Int.tmod_eq_emod_of_nonneg hw.1
    rw [h1]
    have : 0 ≤ w % 8 ∧ w % 8 < 8 := by omega
    exact wru8 (by omega)
  have cPop := Try.Pop_q hk hlt hq
  have cPush := Try.Push_q hk hlt hq v
  have cSet := Try.Set_q hk hlt hq hd v
  have cRem := Try.Remove_q hk hlt hq hd
  have cGet := Try.Get_q hq hd
  have cPeek := Try.Peek_q hk hq
  have cLen := Try.Len_q hq
  have rPop := fun bx => Try.rPop_c next its hl5 bx
  have rPush := fun bx => Try.rPush_c by_ hb next hq.nx its v hl5 bx
  have rSet := fun bx => Try.rSet_c by_ hb next its hkeys hd v hl5 bx
  have rRem := fun bx => Try.rRemove_c next its hkeys hd hl5 bx
  have rGet := fun bx => Try.rGet_c next its hd hl5 bx
  have rPeek := fun bx => Try.rPeek_c next its bx
  have hpk : ∃ a b c, peekR its = .tup [.int .i64 a, .int .i64 b, .int .i64 c] := by
    cases its <;> exact ⟨_, _, _, rfl⟩
  have hgt : ∃ a b, getR hd its = .tup [.int .i64 a, .int .i64 b] := by
    unfold getR; split <;> exact ⟨_, _, rfl⟩
  have hst : ∃ a, setR hd its = .int .i64 a := by
    unfold setR; split <;> exact ⟨_, rfl⟩
  have hpu : ∃ a b, pushR next its = .tup [.int .i64 a, .int .i64 b] := by
    unfold pushR; split <;> exact ⟨_, _, rfl⟩
  by_cases e3 : w.tmod 8 = 3
  · simp [go_sem, Try.C34, hf, callV, hw8, e3]
    refine callK_abs cPop ?_
    rintro r bx1 ⟨rfl, D', h1, f1⟩
    have hs1 : bx1 bs = _ := (f1.1 bs hs0 hD).trans hs
    obtain ⟨hn1, hds⟩ := DS.mk1 (m := m + 1) hD hs0 h1 f1 (by simp; omega)
    obtain ⟨a, b, c, hpk⟩ := hpk
    rw [hpk] at rPop ⊢
    generalize its.tail = T at *
    simp only [stTup] at rPop
    simp only [stV] at hs1 rPop hds
    simp [go_sem, hs1, h1.fin]
    refine callK_pure (rPop _) ?_
    simp [go_sem, hs1, h1.fin]
    intro b12 hb12
    have n12 : bs ≠ b12 := fun e => by rw [e, hb12] at hs1; cases hs1
    simp [go_sem, hs1, h1.fin, upd_eq, upd_ne, n12, upd_upd, upd_self hb12]
    exact ret_pure (by simp [go_sem]) ⟨by simp [go_sem], hds⟩
  by_cases e4 : w.tmod 8 = 4
  · obtain ⟨a, hst⟩ := hst
    have cS2 := fun b12 (hb12 : bx b12 = none) x => Try.Set_q hk hlt ((hq.new hb12 x).other hD (some (.row 52 2 [stV next (setI (ordL by_) hd v its)]))) hd v
    have hlen := setI_len (ordL by_) hd v hkeys
    rw [hst] at rSet cS2
    generalize setI (ordL by_) hd v its = T at *
    simp only [stV] at hs rSet cS2
    simp [go_sem, Try.C34, hf, callV, hw8, e4, hs]
    refine callK_pure (rSet _) ?_
    simp [go_sem, hs, hf]
    intro b12 hb12
    have n12 : bs ≠ b12 := fun e => by rw [e, hb12] at hs; cases hs
    simp [go_sem, hs, upd_eq, upd_ne, n12, Ne.symm n12, upd_upd]
    refine callK_abs (cS2 b12 hb12 _) ?_
    rintro r bx1 ⟨rfl, D', h1, f1⟩
    simp [go_sem, h1.fin]
    exact ret_pure (by simp [go_sem]) ⟨by simp [go_sem], DS.mk2 hD (by rw [upd_eq, stV]) h1 f1 (by omega)⟩
  by_cases e5 : w.tmod 8 = 5
  · simp [go_sem, Try.C34, hf, callV, hw8, e5]
    refine callK_abs cRem ?_
    rintro r bx1 ⟨rfl, D', h1, f1⟩
    have hs1 : bx1 bs = _ := (f1.1 bs hs0 hD).trans hs
    obtain ⟨hn1, hds⟩ := DS.mk1 (m := m + 1) hD hs0 h1 f1 (Nat.le_trans (List.length_filter_le _ _) (by omega))
    obtain ⟨a, b, hgt⟩ := hgt
    rw [hgt] at rRem ⊢
    generalize del hd its = T at *
    simp only [stTup] at rRem
    simp only [stV] at hs1 rRem hds
    simp [go_sem, hs1, h1.fin]
    refine callK_pure (rRem _) ?_
    simp [go_sem, hs1, h1.fin]
    intro b12 hb12
    have n12 : bs ≠ b12 := fun e => by rw [e, hb12] at hs1; cases hs1
    simp [go_sem, hs1, h1.fin, upd_eq, upd_ne, n12, upd_upd]
    rw [upd_comm (Ne.symm n12)]
    exact ret_drop (by simp [go_sem]) ((Ext.refl _).new (by rw [upd_ne _ _ (Ne.symm n12)]; exact hb12) _) ⟨by simp [go_sem], hds⟩
  by_cases e6 : w.tmod 8 = 6
  · obtain ⟨a, b, hgt⟩ := hgt
    rw [hgt] at rGet cGet
    simp only [stV] at hs rGet
    simp [go_sem, Try.C34, hf, callV, hw8, e6, hs]
    refine callK_pure cGet ?_
    simp [go_sem, hs, hf]
    refine callK_pure (rGet _) ?_
    simp [go_sem, hs, hf]
    refine gK_pure cLen (by simp) (by simp [go_sem]) ?_
    simp [go_sem, hs, hf]
    exact ret_pure (by simp [go_sem]) ⟨by simp [go_sem], next, its, D, hq, hD, by simpa only [stV] using hs, by omega⟩
  by_cases e7 : w.tmod 8 = 7
  · obtain ⟨a, b, c, hpk⟩ := hpk
    rw [hpk] at rPeek cPeek
    simp only [stV] at hs rPeek
    simp [go_sem, Try.C34, hf, callV, hw8, e7, hs]
    refine callK_pure cPeek ?_
    simp [go_sem, hs, hf]
    refine callK_pure (rPeek _) ?_
    simp [go_sem, hs, hf]
    exact ret_pure (by simp [go_sem]) ⟨by simp [go_sem], next, its, D, hq, hD, by simpa only [stV] using hs, by omega⟩
  simp [go_sem, Try.C34, hf, callV, hw8, e3, e4, e5, e6, e7]
  refine callK_abs cPush ?_
  rintro r bx1 ⟨rfl, D', h1, f1⟩
  have hs1 : bx1 bs = _ := (f1.1 bs hs0 hD).trans hs
  obtain ⟨hn1, hds⟩ := DS.mk1 (m := m + 1) hD hs0 h1 f1 (Nat.le_trans (pushI_len _ _ _ _) (by omega))
  obtain ⟨a, b, hpu⟩ := hpu
  rw [hpu] at rPush ⊢
  generalize pushI (ordL by_) next its v = T at *
  generalize pushN next its = nx at *
  simp only [stTup] at rPush
  simp only [stV] at hs1 rPush hds
  simp [go_sem, hs1, h1.fin]
  refine callK_pure (rPush _) ?_
  simp [go_sem, hs1, h1.fin]
  intro b12 hb12
  have n12 : bs ≠ b12 := fun e => by rw [e, hb12] at hs1; cases hs1
  simp [go_sem, hs1, h1.fin, upd_eq, upd_ne, n12, upd_upd]
  rw [upd_comm (Ne.symm n12)]
  exact ret_drop (by simp [go_sem]) ((Ext.refl _).new (by rw [upd_ne _ _ (Ne.symm n12)]; exact hb12) _) ⟨by simp [go_sem], hds⟩
theorem Try.awake_p (bx : Boxes) : PureCall Try.prog 10 [] bx (.bool true) := by
  refine Try.ctr10 fun hf => ?_
  simp [go_sem, Try.C10, hf]
  refine callK_abs (Try.three_c bx) ?_
  rintro r bx0 ⟨bq, rfl, D0, k0⟩
  simp [go_sem, k0.q.fin]
  refine callK_pure (Try.Peek_q ltL_key k0.q) ?_
  rw [show peekR [(2, 3), (3, 3), (1, 5)] = .tup [.int .i64 2, .int .i64 3, .int .i64 0] by rfl]
  simp [go_sem, k0.q.fin]
  refine callK_abs (Try.Set_q ltL_key Try.lt_c k0.q 1 3) ?_
  rintro r bx1 ⟨rfl, D1, h1, f1⟩
  rw [show setI ltL 1 3 [(2, 3), (3, 3), (1, 5)] = [(1, 3), (2, 3), (3, 3)] by decide +kernel] at h1
  rw [show setR 1 [(2, 3), (3, 3), (1, 5)] = .int .i64 0 by rfl]
  simp [go_sem, h1.fin]
  refine callK_abs (Try.Remove_q ltL_key Try.lt_c h1 2) ?_
  rintro r bx2 ⟨rfl, D2, h2, f2⟩
  rw [show del 2 [((1 : Int), (3 : Int)), (2, 3), (3, 3)] = [(1, 3), (3, 3)] by decide +kernel] at h2
  rw [show getR 2 [(1, 3), (2, 3), (3, 3)] = .tup [.int .i64 3, .int .i64 0] by rfl]
  simp [go_sem, h2.fin]
  refine callK_abs (Try.Pop_q ltL_key Try.lt_c h2) ?_
  rintro r bx3 ⟨rfl, D3, h3, f3⟩
  rw [List.tail_cons] at h3
  rw [show peekR [(1, 3), (3, 3)] = .tup [.int .i64 1, .int .i64 3, .int .i64 0] by rfl]
  simp [go_sem, h3.fin]
  refine gK_pure (Try.Len_q h3) (by simp) (by simp [go_sem]) ?_
  simp [go_sem, h3.fin]
  have k3 := (((k0.step h1 f1).step h2 f2).step h3 f3)
  exact ret_drop (by simp [go_sem]) k3.f ⟨by simp [go_sem], rfl⟩
theorem Try.heapsPlays_c (by_ : Int) (hb : 0 ≤ by_ ∧ by_ < 256) (n : Int) (its : List (Int × Int)) (l : List (Int × Int × Int)) (hw : ∀ x, x ∈ l → 0 ≤ x.1 ∧ x.1 < 256) (bx : Boxes) (hfin : FinB bx) :
    AbsCall Try.prog 8 [.int .u8 by_, stV n its, .sl 3 (l.map fun x => callV x.1 x.2.1 x.2.2)] bx fun r _ => r = .bool true := by
  refine Try.ctr8 fun hf => ?_
  obtain ⟨e, he⟩ := chk_ex (ordL by_) n its
  have cL := fun bx => Try.Load_c (ordL_key by_) (Try.ord_lt by_) n its e he bx
  have cC := fun bx => Try.rCheck_c by_ hb n its e he bx
  simp only [stV] at cL cC ⊢
  by_cases h1 : 100 < its.length
  · have h1' : (100 : Int) < its.length := by omega
    simp [go_sem, Try.C8, hf, h1']
    refine callK_abs (Try.awake_c bx) ?_
    rintro r bx' ⟨rfl, _⟩
    simp [go_sem]
    exact ret_pure (by simp [go_sem]) (by simp [go_sem])
  by_cases h2 : 100 < l.length
  · have h2' : (100 : Int) < l.length := by omega
    have h1' : ¬ (100 : Int) < its.length := by omega
    simp [go_sem, Try.C8, hf, h1', h2']
    refine callK_abs (Try.awake_c bx) ?_
    rintro r bx' ⟨rfl, _⟩
    simp [go_sem]
    exact ret_pure (by simp [go_sem]) (by simp [go_sem])
  have h1' : ¬ (100 : Int) < its.length := by omega
  have h2' : ¬ (100 : Int) < l.length := by omega
  simp [go_sem, Try.C8, hf, h1', h2']
  refine callK_pure (Try.order_c by_ hb bx) ?_
  simp [go_sem, hf]
  refine callK_abs (Try.New_q (ordF by_) (ordL by_) bx) ?_
  rintro r bx1 ⟨bq, D, rfl, hq, f1, hD⟩
  simp [go_sem, hq.fin]
  refine callK_pure (Try.rNew_c bx1) ?_
  simp only [stV]
  simp [go_sem, hq.fin]
  intro bs hbs
  have hq2 := hq.new hbs (.row 52 2 [stV 1 []])
  simp only [stV, List.map_nil] at hq2
  have nDs : ¬ D bs := fun e => hq.live bs e hbs
  refine ⟨fun hl => ?_, fun hl0 hl1 => ?_⟩
  · refine callK_pure (Try.order_c by_ hb _) ?_
    simp [go_sem, hq2.fin, hq.fin]
    refine callK_abs (cL _) ?_
    rintro r bx2 (⟨he0, rfl, hf2, hE2⟩ | ⟨rfl, bq', D', rfl, hQ⟩)
    · simp [go_sem, hf2]
      refine callK_pure (cC _) ?_
      simp [go_sem, hf2, he0]
      refine callK_abs (Try.awake_c _) ?_
      rintro r bx' ⟨rfl, _⟩
      simp [go_sem]
      exact ret_pure (by simp [go_sem]) (by simp [go_sem])
    · simp [go_sem, hQ.q.fin]
      refine callK_pure (cC _) ?_
      have hs2 : bx2 bs = _ := (hQ.f bs (by dsimp only; rw [upd_eq]; simp)).trans (upd_eq _ _ _)
      simp [go_sem, hQ.q.fin, hs2]
      have nD' : ¬ D' bs := fun e => by have := hQ.n bs e; dsimp only at this; rw [upd_eq] at this; cases this
      have hds : DS (upd bx2 bs (some (.row 52 2 [stV n its]))) by_ bq' bs (100 + 0) := ⟨n, its, D', hQ.q.other nD' _, nD', upd_eq _ _ _, by omega⟩
      simp only [stV] at hds
      clear hq hq2 nDs hD
      generalize upd bx2 bs (some (.row 52 2 [.agg [.int .i64 n, .sl 2 (its.map itV)]])) = bx3 at *
      generalize bq' = bqq at *
      refine pw_for (ι := Boxes) l.length (fun k bx' => DS bx' by_ bqq bs (100 + k)) (fun k bx' => ⟨100, slk [(0, .int .u8 by_), (2, .sl 3 (l.map fun x => callV x.1 x.2.1 x.2.2)), (7, .ptr bqq 4 0 0), (8, .ptr bs 2 0 0), (11, .int .i64 k)], bx'⟩) bx3 hds (cov_look (by simp [go_sem])) (fun k bx4 hk hJ N hN => ?_) (fun bx4 hJ N => ?_)
      · have hw0 := wr_succ (k := k) (by omega)
        have hf4 : FinB bx4 := by
          obtain ⟨_, _, _, h, _⟩ := hJ.ex
          exact h.fin
        have cD := Try.do_c by_ hb (by omega) hJ l[k].1 l[k].2.1 l[k].2.2 (hw _ (List.getElem_mem hk))
        simp only [callV] at cD
        simp [go_sem, Try.L8_0, hf4, hk, callV]
        refine callK_abs cD ?_
        rintro r bx5 ⟨rfl, h5⟩
        simp [go_sem, hw0]
        exact hN _ _ h5 (cov_look (by simp [go_sem, callV]))
      · obtain ⟨next, its2, D2, h4, nD4, hs4, hl4⟩ := hJ.ex
        have cS := Try.Save_q (ordL_key by_) (Try.ord_lt by_) h4
        have cW := fun bx' (h : Qu bx' bqq (ordF by_) (ordL by_) next its2 D2) => Try.walked_q (ordL_key by_) (Try.ord_lt by_) h (by omega)
        have cE := fun bx => Try.same_c its2 its2 bx (by omega) (by omega)
        simp only [stV] at hs4 cS
        simp [go_sem, Try.L8_0, h4.fin]
        refine callK_pure cS ?_
        simp [go_sem, h4.fin]
        intro b12 hb12
        have n12 : bs ≠ b12 := fun e => by rw [e, hb12] at hs4; cases hs4
        simp [go_sem, hs4, upd_eq, upd_ne, n12, upd_upd, upd_self hb12]
        refine gK_pure (cE _) (by simp) (by simp [go_sem]) ?_
        simp [go_sem, hs4]
        refine gK_pure (cW _ h4) (by simp) (by simp [go_sem]) ?_
        simp [go_sem, hs4]
        refine gK_pure (cE _) (by simp) (by simp [go_sem]) ?_
        simp [go_sem, hs4]
        refine gK_pure (Try.awake_p _) (by simp) (by simp [go_sem]) ?_
        simp [go_sem]
        exact ret_pure (by simp [go_sem]) (by simp [go_sem])
  · have hds : DS (upd bx1 bs (some (.row 52 2 [.agg [.int .i64 1, .sl 2 []]]))) by_ bq bs (100 + 0) := ⟨1, [], D, hq2, nDs, by rw [upd_eq]; rfl, by simp⟩
    generalize upd bx1 bs (some (.row 52 2 [.agg [.int .i64 1, .sl 2 []]])) = bx3 at *
    generalize bq = bqq at *
    refine pw_for (ι := Boxes) l.length (fun k bx' => DS bx' by_ bqq bs (100 + k)) (fun k bx' => ⟨100, slk [(0, .int .u8 by_), (2, .sl 3 (l.map fun x => callV x.1 x.2.1 x.2.2)), (7, .ptr bqq 4 0 0), (8, .ptr bs 2 0 0), (11, .int .i64 k)], bx'⟩) bx3 hds (cov_look (by simp [go_sem])) (fun k bx4 hk hJ N hN => ?_) (fun bx4 hJ N => ?_)
    · have hw0 := wr_succ (k := k) (by omega)
      have hf4 : FinB bx4 := by
        obtain ⟨_, _, _, h, _⟩ := hJ.ex
        exact h.fin
      have cD := Try.do_c by_ hb (by omega) hJ l[k].1 l[k].2.1 l[k].2.2 (hw _ (List.getElem_mem hk))
      simp only [callV] at cD
      simp [go_sem, Try.L8_0, hf4, hk, callV]
      refine callK_abs cD ?_
      rintro r bx5 ⟨rfl, h5⟩
      simp [go_sem, hw0]
      exact hN _ _ h5 (cov_look (by simp [go_sem, callV]))
    · obtain ⟨next, its2, D2, h4, nD4, hs4, hl4⟩ := hJ.ex
      have cS := Try.Save_q (ordL_key by_) (Try.ord_lt by_) h4
      have cW := fun bx' (h : Qu bx' bqq (ordF by_) (ordL by_) next its2 D2) => Try.walked_q (ordL_key by_) (Try.ord_lt by_) h (by omega)
      have cE := fun bx => Try.same_c its2 its2 bx (by omega) (by omega)
      simp only [stV] at hs4 cS
      simp [go_sem, Try.L8_0, h4.fin]
      refine callK_pure cS ?_
      simp [go_sem, h4.fin]
      intro b12 hb12
      have n12 : bs ≠ b12 := fun e => by rw [e, hb12] at hs4; cases hs4
      simp [go_sem, hs4, upd_eq, upd_ne, n12, upd_upd, upd_self hb12]
      refine gK_pure (cE _) (by simp) (by simp [go_sem]) ?_
      simp [go_sem, hs4]
      refine gK_pure (cW _ h4) (by simp) (by simp [go_sem]) ?_
      simp [go_sem, hs4]
      refine gK_pure (cE _) (by simp) (by simp [go_sem]) ?_
      simp [go_sem, hs4]
      refine gK_pure (Try.awake_p _) (by simp) (by simp [go_sem]) ?_
      simp [go_sem]
      exact ret_pure (by simp [go_sem]) (by simp [go_sem])
end Go.Proofs

/- What the arguments are: inversions, of states and calls. -/
set_option linter.unusedVariables false
set_option linter.unusedSimpArgs false
set_option maxRecDepth 100000
namespace Go.Proofs.Ytbonmihbgcofpaa
open Go Go.Pl Go.Proofs
theorem hasItems {n : Nat} {xs : List V} (h : HasL Try.prog (n + 2) 46 xs) : ∃ l : List (Int × Int), xs = [.sl 2 (l.map itV)] ∧ l.length ≤ maxLen := by
  obtain ⟨l, h, hl⟩ := HasL.slice (r := itV) Try.knd46 h fun ys hy => by
    obtain ⟨x, y, rfl⟩ := len2 (hy.len.trans Try.tsz49)
    have h0 := hy.fld Try.knd49 Try.fld49_0
    have h1 := hy.fld Try.knd49 Try.fld49_1
    rw [Try.tsz2] at h0
    rw [Try.tsz3] at h1
    obtain ⟨a, ha, _⟩ := hasInt64 h0
    obtain ⟨b, hb⟩ := hasInt h1
    simp at ha hb
    subst ha hb
    exact ⟨(a, b), by rw [elV_agg Try.tagg49]; rfl⟩
  rw [Try.tsz49] at h
  exact ⟨l, h, hl⟩
theorem hasState {n : Nat} {xs : List V} (h : HasL Try.prog (n + 3) 52 xs) : ∃ (m : Int) (l : List (Int × Int)), .agg xs = stV m l ∧ l.length ≤ maxLen := by
  obtain ⟨x, y, rfl⟩ := len2 (h.len.trans Try.tsz52)
  have h0 := h.fld Try.knd52 Try.fld52_0
  have h1 := h.fld Try.knd52 Try.fld52_1
  rw [Try.tsz2] at h0
  rw [Try.tsz46] at h1
  obtain ⟨a, ha, _⟩ := hasInt64 h0
  obtain ⟨l, hl, hm⟩ := hasItems h1
  simp at ha hl
  subst ha hl
  exact ⟨a, l, rfl, hm⟩
theorem hasCalls {n : Nat} {xs : List V} (h : HasL Try.prog (n + 2) 66 xs) : ∃ l : List (Int × Int × Int), xs = [.sl 3 (l.map fun x => callV x.1 x.2.1 x.2.2)] ∧ ∀ x, x ∈ l → 0 ≤ x.1 ∧ x.1 < 256 := by
  obtain ⟨l, h, hl⟩ := HasL.slice (α := {x : Int × Int × Int // 0 ≤ x.1 ∧ x.1 < 256}) (r := fun x => callV x.1.1 x.1.2.1 x.1.2.2) Try.knd66 h fun ys hy => by
    obtain ⟨x, y, z, rfl⟩ := len3 (hy.len.trans Try.tsz72)
    have h0 := hy.fld Try.knd72 Try.fld72_0
    have h1 := hy.fld Try.knd72 Try.fld72_1
    have h2 := hy.fld Try.knd72 Try.fld72_2
    rw [Try.tsz5] at h0
    rw [Try.tsz2] at h1
    rw [Try.tsz3] at h2
    obtain ⟨a, hab, ha⟩ := hasU8 h0
    obtain ⟨b, hb, _⟩ := hasInt64 h1
    obtain ⟨c, hc⟩ := hasInt h2
    simp at ha hb hc
    subst ha hb hc
    exact ⟨⟨(a, b, c), hab⟩, by rw [elV_agg Try.tagg72]; rfl⟩
  rw [Try.tsz72] at h
  refine ⟨l.map (·.1), by rw [h, List.map_map]; rfl, fun x hx => ?_⟩
  obtain ⟨y, hy, rfl⟩ := List.mem_map.1 hx
  exact y.2
end Go.Proofs.Ytbonmihbgcofpaa
