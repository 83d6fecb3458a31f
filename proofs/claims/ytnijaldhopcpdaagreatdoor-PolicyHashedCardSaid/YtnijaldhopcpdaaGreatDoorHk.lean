/- Texts of the proof, put together: Qx, Qy, Qz, Qza, Ya. -/
import Derived.Test.YtnijaldhopcpdaaGreatDoorHj
import Derived.Test.YtnijaldhopcpdaaGreatDoorHh

/- Contracts: Hashed and Bounded. -/
set_option linter.unusedSimpArgs false
set_option linter.unusedVariables false
set_option maxRecDepth 100000
namespace Go.Proofs.Pol
open Go Go.Pl Go.Hs Go.Proofs

theorem sum_le_sum (wt ac : Int → Int) (A B : Int) : ∀ (o : List Int), (∀ i, i ∈ o → A * wt i ≤ ac i * B) → A * (o.map wt).sum ≤ (o.map ac).sum * B
  | [], _ => by simp
  | x :: o, h => by
    have h1 := h x (by simp)
    have h2 := sum_le_sum wt ac A B o fun i hi => h i (by simp [hi])
    rw [List.map_cons, List.map_cons, List.sum_cons, List.sum_cons, Int.mul_add, Int.add_mul]
    omega
theorem sum_pos (wt : Int → Int) : ∀ (o : List Int), (∀ i, i ∈ o → 0 < wt i) → (o.length : Int) ≤ (o.map wt).sum
  | [], _ => by simp
  | x :: o, h => by
    have h1 := h x (by simp)
    have h2 := sum_pos wt o fun i hi => h i (by simp [hi])
    rw [List.map_cons, List.sum_cons, List.length_cons]
    omega
theorem sum_rng (wt : Int → Int) (M : Int) : ∀ (o : List Int), (∀ i, i ∈ o → 0 ≤ wt i ∧ wt i ≤ M) → 0 ≤ (o.map wt).sum ∧ (o.map wt).sum ≤ M * o.length
  | [], _ => by simp
  | x :: o, h => by
    have h1 := h x (by simp)
    have h2 := sum_rng wt M o fun i hi => h i (by simp [hi])
    rw [List.map_cons, List.sum_cons, List.length_cons, Int.natCast_add, Int.mul_add]
    omega
/-- One of some backends always lies below its bound. -/
theorem some_below (wt ac : Int → Int) (o : List Int) (p : Int) (hne : o ≠ []) (hp : 100 ≤ p) (hok : ∀ i, i ∈ o → 0 < wt i ∧ 0 ≤ ac i) :
    ∃ i, i ∈ o ∧ ac i * 100 * (o.map wt).sum < p * ((o.map ac).sum + 1) * wt i := by
  refine Classical.byContradiction fun hn => ?_
  have h1 : ∀ i, i ∈ o → p * ((o.map ac).sum + 1) * wt i ≤ ac i * (100 * (o.map wt).sum) := fun i hi => by
    rw [← Int.mul_assoc (ac i)]
    exact Int.not_lt.1 fun h => hn ⟨i, hi, h⟩
  have h2 := sum_le_sum wt ac _ _ o h1
  have h3 := sum_pos wt o fun i hi => (hok i hi).1
  have h4 : 0 < o.length := List.length_pos_iff.2 hne
  have h5 : 0 ≤ (o.map ac).sum := by
    clear h1 h2 h3 h4 hn hne
    induction o with
    | nil => simp
    | cons x o ih =>
      have h1 := hok x (by simp)
      have h2 := ih fun i hi => hok i (by simp [hi])
      rw [List.map_cons, List.sum_cons]
      omega
  generalize (o.map ac).sum = a at *
  generalize (o.map wt).sum = w at *
  have h6 : 100 * (a + 1) * w ≤ p * (a + 1) * w := Int.mul_le_mul_of_nonneg_right (Int.mul_le_mul_of_nonneg_right hp (by omega)) (by omega)
  have h7 : 100 * (a + 1) * w = 100 * (a * w) + 100 * w := by rw [Int.mul_add, Int.add_mul, Int.mul_assoc]; omega
  have h8 : a * (100 * w) = 100 * (a * w) := by rw [← Int.mul_assoc, Int.mul_comm a 100, Int.mul_assoc]
  omega
/-- The bound, rounded up, and the fraction. -/
theorem below_bound (x n d : Int) (hd : 0 < d) : x < (n + d - 1) / d ↔ x * d < n := by
  have h1 := Int.emod_add_mul_ediv (n + d - 1) d
  have h2 := Int.emod_nonneg (n + d - 1) (by omega : d ≠ 0)
  have h3 := Int.emod_lt_of_pos (n + d - 1) hd
  generalize (n + d - 1) / d = q at *
  generalize (n + d - 1) % d = m at *
  constructor
  · intro h
    have h4 : d * (x + 1) ≤ d * q := Int.mul_le_mul_of_nonneg_left (by omega) (by omega)
    rw [Int.mul_add, Int.mul_comm d x] at h4
    omega
  · intro h
    refine Classical.byContradiction fun hh => ?_
    have h4 : d * q ≤ d * x := Int.mul_le_mul_of_nonneg_left (by omega) (by omega)
    rw [Int.mul_comm d x] at h4
    omega

theorem ordered_ok {l : List Bk} {r : Rg} {key : Bs} {percent skip : Int} (h : (ordered l r key percent skip).2 = 0) :
    ordE l r percent skip = 0 ∧ (ordered l r key percent skip).1 = leftL l r key skip ∧ leftL l r key skip ≠ [] ∧ (order r key).2 = 0 := by
  unfold ordered at h ⊢
  by_cases h0 : ordE l r percent skip = 0
  · rw [if_neg (by simp [h0])] at h ⊢
    dsimp only at h ⊢
    refine ⟨h0, rfl, ?_⟩
    by_cases h1 : (order r key).2 = 0
    · refine ⟨fun h2 => ?_, h1⟩
      rw [if_pos ⟨h1, h2⟩] at h; cases h
    · rw [if_neg (fun hh => h1 hh.1)] at h; exact absurd h h1
  · rw [if_pos h0] at h; exact absurd h h0
theorem ordE0 {l : List Bk} {r : Rg} {percent skip : Int} (h : ordE l r percent skip = 0) : askB l skip = 0 ∧ check r = 0 ∧ r.names.length = l.length ∧ 100 ≤ percent ∧ percent ≤ 1000 := by
  unfold ordE at h
  split at h
  · rename_i hh; exact absurd h hh
  · split at h
    · rename_i hh; exact absurd h hh
    · split at h
      · cases h
      · rename_i h1 h2 h3
        exact ⟨Decidable.not_not.1 h1, Decidable.not_not.1 h2, by omega, by omega, by omega⟩
theorem leftL_ok {l : List Bk} {r : Rg} {key : Bs} {skip : Int} (ha : askB l skip = 0) : ∀ i, i ∈ leftL l r key skip → ∃ n : Nat, i = n ∧ n ∈ canR l skip ∧ n < l.length ∧ okB (bk l n) := by
  intro i hi
  unfold leftL at hi
  obtain ⟨_, h2⟩ := List.mem_filter.1 hi
  have h3 : i ∈ canI l skip := by simpa using h2
  unfold canI at h3
  obtain ⟨n, hn, rfl⟩ := List.mem_map.1 h3
  exact ⟨n, rfl, hn, canR_lt n hn, canR_ok ha n hn⟩
def hashed (l : List Bk) (r : Rg) (key : Bs) (skip : Int) : Int × Int :=
  if (ordered l r key 100 skip).2 ≠ 0 then (0, (ordered l r key 100 skip).2) else ((ordered l r key 100 skip).1.headD 0, 0)
def wtI (l : List Bk) (i : Int) : Int := (bk l i.toNat).wt
def acI (l : List Bk) (i : Int) : Int := (bk l i.toNat).ac
def sumW (l : List Bk) (o : List Int) : Int := (o.map (wtI l)).sum
def sumA (l : List Bk) (o : List Int) : Int := (o.map (acI l)).sum
/-- Whether a backend lies below its bound. -/
def below (l : List Bk) (percent w a : Int) (i : Int) : Bool := decide (acI l i * 100 * w < percent * (a + 1) * wtI l i)
def bounded (l : List Bk) (r : Rg) (key : Bs) (percent skip : Int) : Int × Int :=
  if (ordered l r key percent skip).2 ≠ 0 then (0, (ordered l r key percent skip).2)
  else (((ordered l r key percent skip).1.find? (below l percent (sumW l (ordered l r key percent skip).1) (sumA l (ordered l r key percent skip).1))).getD 0, 0)
theorem Tryz.Hashed_c (l : List Bk) (r : Rg) (key : Bs) (skip : Int) (bx : Boxes) (hm : Mk bx) (hl0 : l.length ≤ 50) (hl : r.wts.length ≤ 9223372036854775807) (hl2 : r.names.length ≤ 9223372036854775807) :
    PureCall Tryz.prog 28 [.sl 5 (l.map bkV), rgV r, .str key, .int .i64 skip] bx (.tup [.int .i64 (hashed l r key skip).1, .int .i64 (hashed l r key skip).2]) := by
  refine Tryz.ctr28 fun hb => ?_
  have c0 := Tryz.ordered_c l r key 100 skip bx hm hl0 hl hl2
  have hk := ordered_ok (l := l) (r := r) (key := key) (percent := 100) (skip := skip)
  unfold hashed
  simp only [rgV, strsV, intsV, ptsV] at c0 ⊢
  generalize ordered l r key 100 skip = R at *
  simp [go_sem, Tryz.C28, hb]
  refine callK_pure c0 ?_
  obtain ⟨o, e⟩ := R
  dsimp only at *
  simp [go_sem]
  refine ⟨fun h => ret_pure (by simp [go_sem]) (by simp [go_sem, h]), fun h => ?_⟩
  · obtain ⟨_, rfl, h2, _⟩ := hk h
    generalize leftL l r key skip = LL at *
    obtain ⟨x, LL, rfl⟩ := List.exists_cons_of_ne_nil h2
    simp [go_sem]
    exact ret_pure (by simp [go_sem]) (by simp [go_sem, h])
theorem Tryz.bound_c (x : Bk) (percent a w : Int) (bx : Boxes) (hx : okB x) (hp1 : 100 ≤ percent) (hp2 : percent ≤ 1000) (ha1 : 0 ≤ a) (ha2 : a ≤ 400000000) (hw1 : 0 < w) (hw2 : w ≤ 4000000) :
    PureCall Tryz.prog 67 [bkV x, .ep (.int .i64 percent) 0, .ep (.int .i64 a) 0, .ep (.int .i64 w) 0] bx (.int .i64 ((percent * (a + 1) * x.wt + 100 * w - 1) / (100 * w))) := by
  refine Tryz.ctr67 fun hb => ?_
  simp [go_sem, Tryz.C67, bkV, hb]
  obtain ⟨h1, h2, h3, h4⟩ := hx
  have hP1 : 0 ≤ percent * (a + 1) := Int.mul_nonneg (by omega) (by omega)
  have hP2 : percent * (a + 1) ≤ 1000 * 400000001 := Int.mul_le_mul hp2 (by omega) (by omega) (by omega)
  have hN1 : 0 ≤ percent * (a + 1) * x.wt := Int.mul_nonneg hP1 (by omega)
  have hN2 : percent * (a + 1) * x.wt ≤ 1000 * 400000001 * 100 := Int.mul_le_mul hP2 (by omega) (by omega) (by omega)
  rw [wr64 (n := a + 1) (by omega), wr64 (n := percent * (a + 1)) (by omega), wr64 (n := percent * (a + 1) * x.wt) (by omega), wr64 (n := 100 * w) (by omega)]
  generalize percent * (a + 1) * x.wt = N at *
  rw [wr64 (n := N + 100 * w) (by omega), wr64 (n := N + 100 * w - 1) (by omega), Int.tdiv_eq_ediv_of_nonneg (by omega)]
  have q1 : 0 ≤ (N + 100 * w - 1) / (100 * w) := Int.ediv_nonneg (by omega) (by omega)
  have q2 : (N + 100 * w - 1) / (100 * w) ≤ N + 100 * w - 1 := Int.ediv_le_self _ (by omega)
  rw [wr64 (n := (N + 100 * w - 1) / (100 * w)) (by omega)]
  exact ⟨by omega, ret_pure (by simp [go_sem]) (by simp [go_sem])⟩
theorem Tryz.below_c (l : List Bk) (i percent a w : Int) (bx : Boxes) (hi : ∃ n : Nat, i = n ∧ n < l.length ∧ okB (bk l n)) (hp1 : 100 ≤ percent) (hp2 : percent ≤ 1000) (ha1 : 0 ≤ a) (ha2 : a ≤ 400000000) (hw1 : 0 < w) (hw2 : w ≤ 4000000) :
    PureCall Tryz.prog 69 [.int .i64 i, .ep (.sl 5 (l.map bkV)) 0, .ep (.fn (.func 67) [.ep (.int .i64 percent) 0, .ep (.int .i64 a) 0, .ep (.int .i64 w) 0]) 0] bx (.bool (below l percent w a i)) := by
  refine Tryz.ctr69 fun hb => ?_
  obtain ⟨n, rfl, hn, hok⟩ := hi
  have hbk := bk_get hn
  have c0 := Tryz.bound_c (bk l n) percent a w bx hok hp1 hp2 ha1 ha2 hw1 hw2
  have hbb := below_bound (bk l n).ac (percent * (a + 1) * (bk l n).wt) (100 * w) (by omega)
  have hbe : below l percent w a n = decide ((bk l n).ac < (percent * (a + 1) * (bk l n).wt + 100 * w - 1) / (100 * w)) := by
    unfold below acI wtI
    rw [Int.toNat_natCast, Bool.eq_iff_iff, decide_eq_true_iff, decide_eq_true_iff, hbb, Int.mul_assoc (bk l n).ac]
  rw [hbe]
  generalize (percent * (a + 1) * (bk l n).wt + 100 * w - 1) / (100 * w) = B at *
  rw [hbk] at *
  generalize hx : l[n] = x at *
  obtain ⟨wt, ac, cu, up, op⟩ := x
  simp only [bkV] at c0
  simp [go_sem, Tryz.C69, hb, hn, hx, bkV]
  refine callK_pure c0 ?_
  simp [go_sem]
  exact ret_pure (by simp [go_sem]) (by simp [go_sem])
theorem sumW_rng {l : List Bk} {o : List Int} (h : ∀ i, i ∈ o → ∃ n : Nat, i = n ∧ n < l.length ∧ okB (bk l n)) (k : Nat) : 0 ≤ sumW l (o.take k) ∧ sumW l (o.take k) ≤ 100 * k ∧ 0 ≤ sumA l (o.take k) ∧ sumA l (o.take k) ≤ 10000 * k := by
  have hm : ∀ i, i ∈ o.take k → 0 < wtI l i ∧ wtI l i ≤ 100 ∧ 0 ≤ acI l i ∧ acI l i ≤ 10000 := fun i hi => by
    obtain ⟨n, rfl, _, hok⟩ := h i (List.mem_of_mem_take hi)
    exact hok
  have h1 := sum_rng (wtI l) 100 (o.take k) fun i hi => by have := hm i hi; omega
  have h2 := sum_rng (acI l) 10000 (o.take k) fun i hi => by have := hm i hi; omega
  have h3 : (o.take k).length ≤ k := by rw [List.length_take]; omega
  unfold sumW sumA
  omega
theorem sum_snoc (l : List Bk) {o : List Int} {k : Nat} (h : k < o.length) : sumW l (o.take (k + 1)) = sumW l (o.take k) + wtI l o[k] ∧ sumA l (o.take (k + 1)) = sumA l (o.take k) + acI l o[k] := by
  unfold sumW sumA
  rw [take_snoc h, List.map_append, List.sum_append, List.map_append, List.sum_append]
  simp
theorem find_fi {p : Int → Bool} {o : List Int} (h : ∃ i, i ∈ o ∧ p i = true) : ∃ k : Nat, ∃ hk : k < o.length, fiI p o = k ∧ o.find? p = some o[k] := by
  cases hf : o.findIdx? p with
  | none =>
    rw [List.findIdx?_eq_none_iff] at hf
    obtain ⟨i, hi, hp⟩ := h
    rw [hf i hi] at hp; cases hp
  | some k =>
    obtain ⟨h1, h2, h3⟩ := List.findIdx?_eq_some_iff_getElem.1 hf
    refine ⟨k, h1, by simp [fiI, hf], ?_⟩
    rw [List.find?_eq_some_iff_getElem]
    exact ⟨h2, k, h1, rfl, fun j hj => by simpa using h3 j hj⟩
theorem left_below {l : List Bk} {r : Rg} {key : Bs} {percent skip : Int} (h : (ordered l r key percent skip).2 = 0) : ∃ i, i ∈ leftL l r key skip ∧ below l percent (sumW l (leftL l r key skip)) (sumA l (leftL l r key skip)) i = true := by
  obtain ⟨h1, _, h2, _⟩ := ordered_ok h
  obtain ⟨ha, _, _, hp, _⟩ := ordE0 h1
  obtain ⟨i, hi, hlt⟩ := some_below (wtI l) (acI l) _ percent h2 hp fun i hi => by
    obtain ⟨n, rfl, _, _, hok⟩ := leftL_ok ha i hi
    exact ⟨hok.1, hok.2.2.1⟩
  exact ⟨i, hi, decide_eq_true hlt⟩
theorem Tryz.Bounded_c (l : List Bk) (r : Rg) (key : Bs) (percent skip : Int) (bx : Boxes) (hm : Mk bx) (hl0 : l.length ≤ 50) (hl : r.wts.length ≤ 9223372036854775807) (hl2 : r.names.length ≤ 9223372036854775807) :
    PureCall Tryz.prog 30 [.sl 5 (l.map bkV), rgV r, .str key, .int .i64 percent, .int .i64 skip] bx (.tup [.int .i64 (bounded l r key percent skip).1, .int .i64 (bounded l r key percent skip).2]) := by
  refine PureCall.wk (Tryz.ctr30 fun hb => ?_)
  have c0 := Tryz.ordered_c l r key percent skip bx hm hl0 hl hl2
  have hk := ordered_ok (l := l) (r := r) (key := key) (percent := percent) (skip := skip)
  have hlb := left_below (l := l) (r := r) (key := key) (percent := percent) (skip := skip)
  have hll := leftL_len (l := l) (r := r) (key := key) (skip := skip)
  have hlo := leftL_ok (l := l) (r := r) (key := key) (skip := skip)
  unfold bounded
  simp only [rgV, strsV, intsV, ptsV] at c0 ⊢
  generalize ordered l r key percent skip = R at *
  obtain ⟨o, e⟩ := R
  dsimp only at *
  by_cases he : e = 0
  case neg =>
    rw [if_pos he]
    simp [go_sem, Tryz.C30, hb]
    refine callK_pure c0 ?_
    simp [go_sem, he]
    refine ret_wk0 (by simp [go_sem]) ?_
    simp [go_sem]
    exact Wk.refl _
  obtain ⟨hE, rfl, h2, _⟩ := hk he
  have hlb := hlb he
  obtain ⟨ha, _, _, hp1, hp2⟩ := ordE0 hE
  have hlo := hlo ha
  subst he
  generalize leftL l r key skip = LL at *
  have hok : ∀ i, i ∈ LL → ∃ n : Nat, i = n ∧ n < l.length ∧ okB (bk l n) := fun i hi => by
    obtain ⟨n, h1, _, h3, h4⟩ := hlo i hi
    exact ⟨n, h1, h3, h4⟩
  rw [if_neg (by simp)]
  simp [go_sem, Tryz.C30, hb]
  refine callK_pure c0 ?_
  simp [go_sem]
  refine ⟨hb, fun b1 hb1 => ⟨by simp [finB_upd, hb], fun b2 hb2 => ?_⟩⟩
  have h21 := (new_ne hb2).1
  have hb2' := (new_ne hb2).2
  have hb3 : FinB (upd (upd bx b1 (some (.row 3 1 [V.int .i64 0]))) b2 (some (.row 3 1 [V.int .i64 0]))) := by simp [finB_upd, hb]
  have hcm : ∀ (f : Boxes) x y, upd (upd f b2 x) b1 y = upd (upd f b1 y) b2 x := upd_comm h21
  simp [go_sem, upd_ne, h21, Ne.symm h21, hb3, hcm]
  have hext : ∀ w a : Int, Ext bx (upd (upd bx b1 (some (.row 3 1 [V.int .i64 w]))) b2 (some (.row 3 1 [V.int .i64 a]))) := fun w a => ((Ext.refl _).new hb1 _).upd_own hb2' _
  refine pw_upto LL.length (fun k => ⟨62, slk [(5, .ep (.sl 5 (l.map bkV)) 0), (8, .ep (.int .i64 percent) 0), (12, .sl 1 (LL.map (.int .i64))), (14, .ptr b1 1 0 0), (15, .ptr b2 1 0 0), (32, .sl 1 (LL.map (.int .i64))), (33, .int .i64 LL.length), (34, .int .i64 k)],
    upd (upd bx b1 (some (.row 3 1 [.int .i64 (sumW l (LL.take k))]))) b2 (some (.row 3 1 [.int .i64 (sumA l (LL.take k))]))⟩) ?_ (fun k hk N hN => ?_) (fun N => ?_)
  · have e0 : sumW l (LL.take 0) = 0 := rfl
    have e1 : sumA l (LL.take 0) = 0 := rfl
    simp only [e0, e1]
    exact cov_look (by simp [go_sem])
  · have hw := wr_succ (k := k) (by omega)
    obtain ⟨s1, s2⟩ := sum_snoc l hk
    have r1 := sumW_rng hok k
    have r2 := sumW_rng hok (k + 1)
    obtain ⟨n, hn1, hn2, hn3⟩ := hok _ (List.getElem_mem hk)
    have hbk := bk_get hn2
    have hwt : wtI l LL[k] = l[n].wt := by rw [hn1]; simp [wtI, hbk]
    have hac : acI l LL[k] = l[n].ac := by rw [hn1]; simp [acI, hbk]
    rw [hwt] at s1
    rw [hac] at s2
    generalize hx : l[n] = x at *
    obtain ⟨wt, ac, cu, up, op⟩ := x
    dsimp only at s1 s2
    generalize sumW l (LL.take (k + 1)) = W' at *
    generalize sumA l (LL.take (k + 1)) = A' at *
    generalize sumW l (LL.take k) = W at *
    generalize sumA l (LL.take k) = A at *
    have hwW : IntKind.i64.wrap (W + wt) = W' := by rw [wr64 (by omega), s1]
    have hwA : IntKind.i64.wrap (A + ac) = A' := by rw [wr64 (by omega), s2]
    have hk' : (k : Int) < LL.length := by omega
    simp [go_sem, Tryz.L30_0, hk, hn1, hn2, hx, bkV, upd_ne, h21, Ne.symm h21, hwW, hwA, finB_upd, hb, hcm]
    exact hN _ (cov_look (by simp [go_sem, hw]))
  · have r1 := sumW_rng hok LL.length
    have hwp : 0 < sumW l LL := by
      have := sum_pos (wtI l) LL fun i hi => by
        obtain ⟨n, rfl, _, hk⟩ := hok i hi
        exact hk.1
      have h3 : 0 < LL.length := List.length_pos_iff.2 h2
      unfold sumW; omega
    rw [List.take_length] at r1 ⊢
    have c5 := Tryz.indexC_c 69 [.ep (.sl 5 (l.map bkV)) 0, .ep (.fn (.func 67) [.ep (.int .i64 percent) 0, .ep (.int .i64 (sumA l LL)) 0, .ep (.int .i64 (sumW l LL)) 0]) 0] (below l percent (sumW l LL) (sumA l LL)) LL bx (by omega)
      fun x hx bx => Tryz.below_c l x percent (sumA l LL) (sumW l LL) bx (hok x hx) hp1 hp2 (by omega) (by omega) hwp (by omega)
    obtain ⟨k, hk, hf1, hf2⟩ := find_fi (hlb rfl)
    rw [hf1] at c5
    rw [hf2]
    generalize below l percent (sumW l LL) (sumA l LL) = p at *
    generalize hsw : sumW l LL = W at *
    generalize hsa : sumA l LL = A at *
    simp [go_sem, Tryz.L30_0]
    refine pw_wk (st' := ⟨62, slk [(5, .ep (.sl 5 (l.map bkV)) 0), (8, .ep (.int .i64 percent) 0), (12, .sl 1 (LL.map (.int .i64))), (14, .ep (.int .i64 W) 0), (15, .ep (.int .i64 A) 0)], bx⟩) (cov_frz (hext W A) ?_) ?_
    · intro q hq
      simp at hq
      rcases hq with rfl | rfl | rfl | rfl | rfl
      · exact .inl (by simp [go_sem])
      · exact .inl (by simp [go_sem])
      · exact .inl (by simp [go_sem])
      · refine .inr ⟨1, ?_⟩
        simp [go_sem, frz, upd_ne, h21, Ne.symm h21, hb1]
      · refine .inr ⟨1, ?_⟩
        simp [go_sem, frz, upd_ne, h21, Ne.symm h21, hb2']
    · simp [go_sem, hb]
      intro b3 hb3
      try rw [upd_self hb3]
      refine callK_pure c5 ?_
      have hmx : max (k : Int) 0 = k := by omega
      simp [go_sem, hk, hmx]
      refine ret_wk0 (by simp [go_sem]) ?_
      simp [go_sem]
      exact Wk.refl _
end Go.Proofs.Pol

/- Contracts: the references of Hashed and Bounded. -/
set_option linter.unusedSimpArgs false
set_option linter.unusedVariables false
set_option maxRecDepth 100000
namespace Go.Proofs.Pol
open Go Go.Pl Go.Hs Go.Proofs

theorem Tryz.rin_c (l : List Int) (x : Int) (bx : Boxes) (hl : l.length ≤ 1000000) : PureCall Tryz.prog 107 [intsV l, .int .i64 x] bx (.bool (decide (x ∈ l))) := by
  refine Tryz.ctr107 fun hb => ?_
  unfold intsV
  simp [go_sem, Tryz.C107, hb]
  refine pw_find l.length (hitAt (fun y => decide (y = x)) l) (fun k => ⟨18, slk [(0, .sl 1 (l.map (.int .i64))), (1, .int .i64 x), (5, .int .i64 k)], bx⟩) (cov_look (by simp [go_sem])) ?_ ?_
  · intro k hk hpre N hN
    have hw := wr_succ (k := k) (by omega)
    simp [go_sem, Tryz.L107_0, hk, hb]
    refine ⟨fun h => ret_pure ?_ ?_, fun h => hN _ (by simp [hitAt_at hk, h]) (cov_look (by simp [go_sem, hw]))⟩
    · simp [go_sem]
    · have : x ∈ l := h ▸ List.getElem_mem hk
      simp [go_sem, this]
  · intro hpre N
    have : ¬ x ∈ l := by
      intro h
      obtain ⟨j, hj, he⟩ := List.getElem_of_mem h
      have := hpre j hj
      rw [hitAt_at hj] at this
      simp [he] at this
    simp [go_sem, Tryz.L107_0, hb]
    refine ret_pure ?_ ?_ <;> simp [go_sem, this]
theorem Tryz.lin_c (l : List Int) (x : Int) (bx : Boxes) (hl : l.length ≤ 1000000) : PureCall Tryz.prog 33 [intsV l, .int .i64 x] bx (.bool (decide (x ∈ l))) := by
  refine Tryz.ctr33 fun hb => ?_
  unfold intsV
  simp [go_sem, Tryz.C33, hb]
  refine pw_find l.length (hitAt (fun y => decide (y = x)) l) (fun k => ⟨18, slk [(0, .sl 1 (l.map (.int .i64))), (1, .int .i64 x), (5, .int .i64 k)], bx⟩) (cov_look (by simp [go_sem])) ?_ ?_
  · intro k hk hpre N hN
    have hw := wr_succ (k := k) (by omega)
    simp [go_sem, Tryz.L33_0, hk, hb]
    refine ⟨fun h => ret_pure ?_ ?_, fun h => hN _ (by simp [hitAt_at hk, h]) (cov_look (by simp [go_sem, hw]))⟩
    · simp [go_sem]
    · have : x ∈ l := h ▸ List.getElem_mem hk
      simp [go_sem, this]
  · intro hpre N
    have : ¬ x ∈ l := by
      intro h
      obtain ⟨j, hj, he⟩ := List.getElem_of_mem h
      have := hpre j hj
      rw [hitAt_at hj] at this
      simp [he] at this
    simp [go_sem, Tryz.L33_0, hb]
    refine ret_pure ?_ ?_ <;> simp [go_sem, this]

def big2 (r : Rg) : Bool := decide (20 < r.names.length) || (decide (20 < r.wts.length) || decide (600 < r.pts.length))
def farP (r : Rg) : Bool := big2 r || (r.names.any longN || (decide (600 < manyR r.wts r.nodes) && decide (manyR r.wts r.nodes ≤ 4096)))
theorem farP_not {r : Rg} (h : farP r = false) : r.names.length ≤ 20 ∧ r.wts.length ≤ 20 ∧ r.pts.length ≤ 600 ∧ ∀ s, s ∈ r.names → s.length ≤ 100 := by
  unfold farP at h
  rw [Bool.or_eq_false_iff, Bool.or_eq_false_iff] at h
  obtain ⟨h1, h2, _⟩ := h
  simp [big2] at h1
  rw [List.any_eq_false] at h2
  refine ⟨by omega, by omega, by omega, fun s hs => ?_⟩
  have := h2 s hs
  simpa [longN] using this
theorem Tryz.far16_c (r : Rg) (bx : Boxes) (hl : r.wts.length ≤ 9223372036854775807) (hl2 : r.names.length ≤ 9223372036854775807) :
    PureCall Tryz.prog 26 [rgV r] bx (.bool (farP r)) := by
  refine Tryz.ctr26 fun hb => ?_
  have hin : ∀ k : Nat, k ≤ r.wts.length → 0 ≤ manyR (r.wts.take k) r.nodes ∧ manyR (r.wts.take k) r.nodes ≤ 2000 * k := fun k hk => by
    have := manyR_rng r.nodes (r.wts.take k) 0 (by omega)
    rw [List.length_take] at this
    unfold manyR; omega
  simp only [rgV, strsV, intsV, ptsV]
  simp [go_sem, Tryz.C26, hb]
  refine ⟨fun h => ?_, fun h1 h2 h3 => ?_⟩
  · have hB : big2 r = true := by simp [big2]; omega
    refine ret_pure ?_ ?_ <;> simp [go_sem, farP, hB]
  have hB : big2 r = false := by simp [big2]; omega
  unfold farP
  rw [hB, Bool.false_or]
  refine pw_upto r.wts.length (fun k => ⟨83, slk [(1, .ep (.agg [.sl 1 (r.names.map .str), .sl 1 (r.wts.map (.int .i64)), .int .i64 r.nodes, .sl 2 (r.pts.map ptV)]) 0), (3, .int .i64 (manyR (r.wts.take k) r.nodes)), (4, .int .i64 k)], bx⟩) (cov_look (by simp [go_sem, manyR])) ?_ ?_
  · intro k hk N hN
    have hw := wr_succ (k := k) (by omega)
    have hk0 := hin k (by omega)
    have hsuc : manyR (r.wts.take (k + 1)) r.nodes = addW r.nodes (manyR (r.wts.take k) r.nodes) r.wts[k] := by
      unfold manyR; rw [take_foldl _ _ hk]
    rw [hsuc] at hN
    generalize manyR (r.wts.take k) r.nodes = S at *
    cases hok : okW r.nodes r.wts[k]
    · have hoff : ¬ (((0 ≤ r.wts[k] ∧ r.wts[k] ≤ 20) ∧ 0 ≤ r.nodes) ∧ r.nodes ≤ 100) := by simp [okW] at hok; omega
      have hA : addW r.nodes S r.wts[k] = S := by simp [addW, hok]
      rw [hA] at hN
      simp [go_sem, Tryz.L26_0, hk, hb, hoff]
      intro _
      exact hN _ (cov_look (by simp [go_sem, hw]))
    · have hA : addW r.nodes S r.wts[k] = S + r.wts[k] * r.nodes := by simp [addW, hok]
      have hrg := addW_rng hok
      simp [okW] at hok
      have w1 : IntKind.i64.wrap (r.wts[k] * r.nodes) = r.wts[k] * r.nodes := wr64 (by omega)
      have w2 : IntKind.i64.wrap (S + r.wts[k] * r.nodes) = S + r.wts[k] * r.nodes := wr64 (by omega)
      rw [hA] at hN
      simp [go_sem, Tryz.L26_0, hk, hb, hok, w1, w2]
      exact hN _ (cov_look (by simp [go_sem, hw]))
  · intro N
    have hS := hin r.wts.length (Nat.le_refl _)
    rw [List.take_length] at hS ⊢
    simp [go_sem, Tryz.L26_0, hb]
    generalize manyR r.wts r.nodes = S at *
    refine pw_find r.names.length (hitAt longN r.names) (fun k => ⟨83, slk [(1, .ep (.agg [.sl 1 (r.names.map .str), .sl 1 (r.wts.map (.int .i64)), .int .i64 r.nodes, .sl 2 (r.pts.map ptV)]) 0), (3, .int .i64 S), (5, .int .i64 k)], bx⟩) (cov_look (by simp [go_sem])) ?_ ?_
    · intro k hk hpre N2 hN2
      have hw := wr_succ (k := k) (by omega)
      simp [go_sem, Tryz.L26_1, hk, hb]
      refine ⟨fun h => ret_pure ?_ ?_, fun h => hN2 _ (by rw [hitAt_at hk]; simp [longN]; omega) (cov_look (by simp [go_sem, hw]))⟩
      · simp [go_sem]
      · have : r.names.any longN = true := List.any_eq_true.2 ⟨_, List.getElem_mem hk, by simp [longN]; omega⟩
        simp [go_sem, this]
    · intro hpre N2
      have : r.names.any longN = false := by
        rw [List.any_eq_false]
        intro x hx
        obtain ⟨j, hj, rfl⟩ := List.getElem_of_mem hx
        have := hpre j hj
        rw [hitAt_at hj] at this
        simp [this]
      rw [this, Bool.false_or]
      simp [go_sem, Tryz.L26_1, hb]
      refine ret_pure ?_ ?_ <;> simp [go_sem]

/-- What of an order is kept, up to a place. -/
def lf (l : List Bk) (skip : Int) (o : List Int) (k : Nat) : List Int := (o.take k).filter fun i => decide (i ∈ canI l skip)
theorem lf_succ (l : List Bk) (skip : Int) {o : List Int} {k : Nat} (h : k < o.length) : lf l skip o (k + 1) = if o[k] ∈ canI l skip then lf l skip o k ++ [o[k]] else lf l skip o k := by
  unfold lf
  rw [take_snoc h, List.filter_append]
  by_cases hp : o[k] ∈ canI l skip <;> simp [hp]
theorem lf_len (l : List Bk) (skip : Int) (o : List Int) (k : Nat) : (lf l skip o k).length ≤ k := by
  unfold lf
  refine Nat.le_trans (List.length_filter_le _ _) ?_
  rw [List.length_take]; omega
theorem Tryz.rordered_c (l : List Bk) (r : Rg) (key : Bs) (percent skip : Int) (bx : Boxes) (hl0 : l.length ≤ 50) (hnl : ∀ s, s ∈ r.names → s.length ≤ 1000000) :
    PureCall Tryz.prog 66 [.sl 5 (l.map bkV), rgV r, .str key, .int .i64 percent, .int .i64 skip] bx (.tup [intsV (ordered l r key percent skip).1, .int .i64 (ordered l r key percent skip).2]) := by
  refine PureCall.wk (Tryz.ctr66 fun hb => ?_)
  have c0 := refCan_c l skip bx hl0
  have c1 := Tryz.rcheck_c r bx hnl
  have c3 := Tryz.rOrder_c r key bx hnl
  rw [canI_ix] at c0
  have hcl : (canI l skip).length ≤ 1000000 := by
    unfold canI; rw [List.length_map]
    exact Nat.le_trans canR_le (by omega)
  simp only [rgV, strsV, intsV, ptsV] at c0 c1 c3 ⊢
  by_cases h0 : askB l skip = 0
  case neg =>
    have hr : ordered l r key percent skip = ([], askB l skip) := by simp [ordered, ordE, h0]
    rw [hr]
    simp [go_sem, Tryz.C66, hb]
    refine callK_pure c0 ?_
    simp [go_sem, h0]
    refine ret_wk0 (by simp [go_sem]) ?_
    simp [go_sem]
    exact wk_tup2 (wk_nils _) (Wk.refl _)
  by_cases h1 : check r = 0
  case neg =>
    have hr : ordered l r key percent skip = ([], check r) := by simp [ordered, ordE, h0, h1]
    rw [hr]
    simp [go_sem, Tryz.C66, hb]
    refine callK_pure c0 ?_
    simp [go_sem, h0]
    refine callK_pure c1 ?_
    simp [go_sem, h1]
    refine ret_wk0 (by simp [go_sem]) ?_
    simp [go_sem]
    exact wk_tup2 (wk_nils _) (Wk.refl _)
  have hEE : ordE l r percent skip = if (r.names.length ≠ l.length) ∨ percent < 100 ∨ 1000 < percent then 2 else 0 := by simp [ordE, h0, h1]
  simp [go_sem, Tryz.C66, hb]
  refine callK_pure c0 ?_
  simp [go_sem, h0]
  refine callK_pure c1 ?_
  simp [go_sem, h1]
  refine ⟨fun hp => ?_, fun hn hp1 hp2 => ?_⟩
  · have hr : ordered l r key percent skip = ([], 2) := by
      have : r.names.length ≠ l.length ∨ percent < 100 ∨ 1000 < percent := by omega
      rw [if_pos this] at hEE
      simp [ordered, hEE]
    rw [hr]
    refine ret_wk0 (by simp [go_sem]) ?_
    simp [go_sem]
    exact wk_tup2 (wk_nils _) (Wk.refl _)
  have hE : ordE l r percent skip = 0 := by rw [hEE, if_neg (by omega)]
  have hr : ordered l r key percent skip = (leftL l r key skip, if (order r key).2 = 0 ∧ leftL l r key skip = [] then 4 else (order r key).2) := by
    simp [ordered, hE]
  have hle := fun h => leftL_err (l := l) (r := r) (key := key) (skip := skip) h
  have hll : leftL l r key skip = lf l skip (order r key).1 (order r key).1.length := by unfold leftL lf; rw [List.take_length]
  have hol := Go.Proofs.Pol.order_len (r := r) (key := key)
  have hoe := fun h => order_err (r := r) (key := key) h
  rw [hr]
  generalize order r key = O at *
  obtain ⟨o, e⟩ := O
  dsimp only at *
  refine callK_pure c3 ?_
  simp [go_sem]
  refine ⟨fun e1 e2 => ?_, fun e1 => ?_⟩
  · rw [hle e1]
    refine ret_wk0 (by simp [go_sem]) ?_
    simp [go_sem, e1]
    exact wk_tup2 (wk_nils _) (Wk.refl _)
  refine pw_for (ι := V × Boxes) o.length (fun k p => Pl.Acc bx 3 1 ((lf l skip o k).map (.int .i64)) p.1 p.2)
    (fun k p => ⟨84, slk [(12, .sl 1 ((canI l skip).map (.int .i64))), (14, .sl 1 (o.map (.int .i64))), (15, p.1), (16, .int .i64 k)], p.2⟩) (.nils, bx) (by exact acc_nil hb _ _) (cov_look (by simp [go_sem])) ?_ ?_
  · rintro k ⟨v, bx1⟩ hk ha N hN
    dsimp only at ha ⊢
    have hw := wr_succ (k := k) (by omega)
    have hs := lf_succ l skip hk
    have hlu := lf_len l skip o k
    have cC := Tryz.rin_c (canI l skip) o[k] bx1 hcl
    simp only [intsV] at cC
    generalize lf l skip o (k + 1) = U1 at *
    generalize lf l skip o k = U at *
    simp [go_sem, Tryz.L66_0, hk, ha.fin]
    refine callK_pure cC ?_
    simp [go_sem]
    refine ⟨fun hin => ?_, fun hin => ?_⟩
    · rw [if_pos hin] at hs
      simp [go_sem, hk, ha.fin, ha.cells, ha.strip, ha.live]
      intro b4 hb4
      refine Tryz.appI (es := U.map (.int .i64)) (news := [.int .i64 o[k]]) ha ((Ext.refl _).new hb4 _) (by simp [finB_upd, ha.fin]) (by simp [go_sem, srcEls]) (by simp; omega) (by omega) ?_
      intro v' bx3 ha3
      simp [go_sem, ha3.cells]
      exact hN _ (v', bx3) (by dsimp only; rw [hs]; simpa using ha3) (cov_look (by simp [go_sem, hw]))
    · rw [if_neg hin] at hs
      exact hN _ (v, bx1) (by dsimp only; rw [hs]; exact ha) (cov_look (by simp [go_sem, hw]))
  · rintro ⟨v, bx1⟩ ha N
    dsimp only at ha ⊢
    rw [← hll] at ha
    generalize leftL l r key skip = LL at *
    have he4 : e = 0 ∨ e = 4 := by
      by_cases h : e = 0
      · exact .inl h
      · exact .inr (e1 h)
    have hem : LL = [] → (if e = 0 ∧ LL = [] then 4 else e) = 4 := fun h => by
      rcases he4 with h0 | h0
      · rw [if_pos ⟨h0, h⟩]
      · rw [if_neg (fun hh => by rw [hh.1] at h0; cases h0), h0]
    have hne : LL ≠ [] → e = 0 := fun h => Classical.byContradiction fun hh => h (hle hh)
    rcases ha.is with ⟨h5, hv⟩ | ⟨b, hb5, hv, hb6⟩
    · have h7 : LL = [] := by simpa using h5
      rw [hem h7, h7]
      subst hv
      simp [go_sem, Tryz.L66_0, ha.cells, ha.fin]
      refine ret_wk (by simp [go_sem]) ha.ext ?_
      simp [go_sem]
      exact wk_tup2 (wk_nils _) (Wk.refl _)
    · rw [List.length_map] at hv
      subst hv
      simp [go_sem, Tryz.L66_0, ha.fin]
      refine ⟨fun h => ?_, fun h => ?_⟩
      · rw [hem h, h]
        refine ret_wk (by simp [go_sem]) ha.ext ?_
        simp [go_sem]
        exact wk_tup2 (wk_nils _) (Wk.refl _)
      · rw [if_neg (fun hh => h hh.2), hne h]
        refine ret_frz 2 (by simp [go_sem]) ha.ext ⟨?_, rfl⟩
        simp [go_sem]
        exact wk_tup2 (acc_frz ha (by decide)) (Wk.refl _)
theorem Tryz.rHashed_c (l : List Bk) (r : Rg) (key : Bs) (skip : Int) (bx : Boxes) (hl0 : l.length ≤ 50) (hnl : ∀ s, s ∈ r.names → s.length ≤ 1000000) :
    PureCall Tryz.prog 29 [.sl 5 (l.map bkV), rgV r, .str key, .int .i64 skip] bx (.tup [.int .i64 (hashed l r key skip).1, .int .i64 (hashed l r key skip).2]) := by
  refine Tryz.ctr29 fun hb => ?_
  have c0 := Tryz.rordered_c l r key 100 skip bx hl0 hnl
  have hk := ordered_ok (l := l) (r := r) (key := key) (percent := 100) (skip := skip)
  unfold hashed
  simp only [rgV, strsV, intsV, ptsV] at c0 ⊢
  generalize ordered l r key 100 skip = R at *
  simp [go_sem, Tryz.C29, hb]
  refine callK_pure c0 ?_
  obtain ⟨o, e⟩ := R
  dsimp only at *
  simp [go_sem]
  refine ⟨fun h => ret_pure (by simp [go_sem]) (by simp [go_sem, h]), fun h => ?_⟩
  · obtain ⟨_, rfl, h2, _⟩ := hk h
    generalize leftL l r key skip = LL at *
    obtain ⟨x, LL, rfl⟩ := List.exists_cons_of_ne_nil h2
    simp [go_sem]
    exact ret_pure (by simp [go_sem]) (by simp [go_sem, h])
end Go.Proofs.Pol

/- Contracts: the reference of Bounded. -/
set_option linter.unusedSimpArgs false
set_option linter.unusedVariables false
set_option maxRecDepth 100000
namespace Go.Proofs.Pol
open Go Go.Pl Go.Hs Go.Proofs

theorem Tryz.rBounded_c (l : List Bk) (r : Rg) (key : Bs) (percent skip : Int) (bx : Boxes) (hl0 : l.length ≤ 50) (hnl : ∀ s, s ∈ r.names → s.length ≤ 1000000) :
    PureCall Tryz.prog 31 [.sl 5 (l.map bkV), rgV r, .str key, .int .i64 percent, .int .i64 skip] bx (.tup [.int .i64 (bounded l r key percent skip).1, .int .i64 (bounded l r key percent skip).2]) := by
  refine Tryz.ctr31 fun hb => ?_
  have c0 := Tryz.rordered_c l r key percent skip bx hl0 hnl
  have hk := ordered_ok (l := l) (r := r) (key := key) (percent := percent) (skip := skip)
  have hlb := left_below (l := l) (r := r) (key := key) (percent := percent) (skip := skip)
  have hll := leftL_len (l := l) (r := r) (key := key) (skip := skip)
  have hlo := leftL_ok (l := l) (r := r) (key := key) (skip := skip)
  unfold bounded
  simp only [rgV, strsV, intsV, ptsV] at c0 ⊢
  generalize ordered l r key percent skip = R at *
  obtain ⟨o, e⟩ := R
  dsimp only at *
  by_cases he : e = 0
  case neg =>
    rw [if_pos he]
    simp [go_sem, Tryz.C31, hb]
    refine callK_pure c0 ?_
    simp [go_sem, he]
    exact ret_pure (by simp [go_sem]) (by simp [go_sem])
  obtain ⟨hE, rfl, h2, _⟩ := hk he
  have hlb := hlb he
  obtain ⟨ha, _, _, hp1, hp2⟩ := ordE0 hE
  have hlo := hlo ha
  subst he
  generalize leftL l r key skip = LL at *
  have hok : ∀ i, i ∈ LL → ∃ n : Nat, i = n ∧ n < l.length ∧ okB (bk l n) := fun i hi => by
    obtain ⟨n, h1, _, h3, h4⟩ := hlo i hi
    exact ⟨n, h1, h3, h4⟩
  rw [if_neg (by simp)]
  simp [go_sem, Tryz.C31, hb]
  refine callK_pure c0 ?_
  simp [go_sem]
  refine pw_upto LL.length (fun k => ⟨87, slk [(0, .sl 5 (l.map bkV)), (3, .int .i64 percent), (12, .sl 1 (LL.map (.int .i64))), (14, .int .i64 (sumW l (LL.take k))), (15, .int .i64 (sumA l (LL.take k))), (16, .int .i64 k)], bx⟩) ?_ (fun k hk N hN => ?_) (fun N => ?_)
  · have e0 : sumW l (LL.take 0) = 0 := rfl
    have e1 : sumA l (LL.take 0) = 0 := rfl
    simp only [e0, e1]
    exact cov_look (by simp [go_sem])
  · have hw := wr_succ (k := k) (by omega)
    obtain ⟨s1, s2⟩ := sum_snoc l hk
    have r1 := sumW_rng hok k
    have r2 := sumW_rng hok (k + 1)
    obtain ⟨n, hn1, hn2, hn3⟩ := hok _ (List.getElem_mem hk)
    have hbk := bk_get hn2
    have hwt : wtI l LL[k] = l[n].wt := by rw [hn1]; simp [wtI, hbk]
    have hac : acI l LL[k] = l[n].ac := by rw [hn1]; simp [acI, hbk]
    rw [hwt] at s1
    rw [hac] at s2
    generalize hx : l[n] = x at *
    obtain ⟨wt, ac, cu, up, op⟩ := x
    dsimp only at s1 s2
    generalize sumW l (LL.take (k + 1)) = W' at *
    generalize sumA l (LL.take (k + 1)) = A' at *
    generalize sumW l (LL.take k) = W at *
    generalize sumA l (LL.take k) = A at *
    have hwW : IntKind.i64.wrap (W + wt) = W' := by rw [wr64 (by omega), s1]
    have hwA : IntKind.i64.wrap (A + ac) = A' := by rw [wr64 (by omega), s2]
    simp [go_sem, Tryz.L31_0, hk, hn1, hn2, hx, bkV, hwW, hwA, hb]
    exact hN _ (cov_look (by simp [go_sem, hw]))
  · have r1 := sumW_rng hok LL.length
    have hwp : 0 < sumW l LL := by
      have := sum_pos (wtI l) LL fun i hi => by
        obtain ⟨n, rfl, _, hk⟩ := hok i hi
        exact hk.1
      have h3 : 0 < LL.length := List.length_pos_iff.2 h2
      unfold sumW; omega
    rw [List.take_length] at r1 ⊢
    obtain ⟨kk, hkk, hf1, hf2⟩ := find_fi (hlb rfl)
    have hpr : ∀ i, i ∈ LL → ∀ W A, below l percent W A i = decide (acI l i * 100 * W < percent * (A + 1) * wtI l i) := fun _ _ _ _ => rfl
    have hpp := hpr
    have hme := fiI_miss (p := below l percent (sumW l LL) (sumA l LL)) (l := LL)
    rw [hf2]
    generalize hsw : sumW l LL = W at *
    generalize hsa : sumA l LL = A at *
    generalize hp : below l percent W A = p at *
    have hpq : ∀ i, i ∈ LL → p i = decide (acI l i * 100 * W < percent * (A + 1) * wtI l i) := fun i hi => by rw [← hp]; rfl
    simp [go_sem, Tryz.L31_0]
    refine pw_find LL.length (hitAt p LL) (fun k => ⟨87, slk [(0, .sl 5 (l.map bkV)), (3, .int .i64 percent), (12, .sl 1 (LL.map (.int .i64))), (14, .int .i64 W), (15, .int .i64 A), (17, .int .i64 k)], bx⟩) (cov_look (by simp [go_sem])) ?_ ?_
    · intro k hk hpre N2 hN2
      have hw := wr_succ (k := k) (by omega)
      obtain ⟨n, hn1, hn2, hn3⟩ := hok _ (List.getElem_mem hk)
      have hbk := bk_get hn2
      have hwt : wtI l LL[k] = l[n].wt := by rw [hn1]; simp [wtI, hbk]
      have hac : acI l LL[k] = l[n].ac := by rw [hn1]; simp [acI, hbk]
      have hq := hpq _ (List.getElem_mem hk)
      rw [hwt, hac] at hq
      obtain ⟨g1, g2, g3, g4⟩ := hn3
      rw [hbk] at g1 g2 g3 g4
      generalize hx : l[n] = x at *
      obtain ⟨wt, ac, cu, up, op⟩ := x
      dsimp only at hq g1 g2 g3 g4
      have hA1 : 0 ≤ percent * (A + 1) := Int.mul_nonneg (by omega) (by omega)
      have hA2 : percent * (A + 1) ≤ 1000 * 400000001 := Int.mul_le_mul hp2 (by omega) (by omega) (by omega)
      have hA3 : 0 ≤ percent * (A + 1) * wt := Int.mul_nonneg hA1 (by omega)
      have hA4 : percent * (A + 1) * wt ≤ 1000 * 400000001 * 100 := Int.mul_le_mul hA2 (by omega) (by omega) (by omega)
      have hB1 : 0 ≤ ac * 100 * W := Int.mul_nonneg (by omega) (by omega)
      have hB2 : ac * 100 * W ≤ 10000 * 100 * 4000000 := Int.mul_le_mul (by omega) (by omega) (by omega) (by omega)
      have w1 : IntKind.i64.wrap (ac * 100) = ac * 100 := wr64 (by omega)
      have w2 : IntKind.i64.wrap (ac * 100 * W) = ac * 100 * W := wr64 (by omega)
      have w3 : IntKind.i64.wrap (A + 1) = A + 1 := wr64 (by omega)
      have w4 : IntKind.i64.wrap (percent * (A + 1)) = percent * (A + 1) := wr64 (by omega)
      have w5 : IntKind.i64.wrap (percent * (A + 1) * wt) = percent * (A + 1) * wt := wr64 (by omega)
      have hfirst : p LL[k] = true → kk = k := fun h => by
        have h1 := fiI_hit hk h hpre
        omega
      simp [go_sem, Tryz.L31_1, hk, hn1, hn2, hx, bkV, hb]
      intro b4 hb4
      try rw [upd_self hb4]
      simp [go_sem, w1, w2, w3, w4, w5, hk]
      refine ⟨fun h => ?_, fun h => ?_⟩
      · have hpk : p LL[k] = true := by rw [hq]; exact decide_eq_true h
        obtain rfl := hfirst hpk
        exact ret_pure (by simp [go_sem]) (by simp [go_sem, hn1])
      · have hpk : p LL[k] = false := by rw [hq]; exact decide_eq_false (by omega)
        exact hN2 _ (by rw [hitAt_at hk, hpk]) (cov_look (by simp [go_sem, hw]))
    · intro hpre N2
      have := hme hpre
      omega
end Go.Proofs.Pol

/- Contracts: PolicyHashed. -/
set_option linter.unusedSimpArgs false
set_option linter.unusedVariables false
set_option maxRecDepth 100000
namespace Go.Proofs.Pol
open Go Go.Pl Go.Hs Go.Proofs

def askV (key : Bs) (percent skip : Int) : V := .agg [.str key, .int .i64 percent, .int .i64 skip]
theorem Tryz.policyHashed_c (l : List Bk) (r : Rg) (key : Bs) (percent skip : Int) (bx : Boxes) (hm : Mk bx) (hl : r.wts.length ≤ 9223372036854775807) (hl2 : r.names.length ≤ 9223372036854775807) :
    PureCall Tryz.prog 6 [.sl 5 (l.map bkV), rgV r, askV key percent skip] bx (.bool true) := by
  refine Tryz.ctr6 fun hb => ?_
  have d1 := Tryz.far16_c r bx hl hl2
  have d2 := awake_c bx
  simp only [askV]
  by_cases hL : 20 < l.length
  · simp only [rgV, strsV, intsV, ptsV] at d1 ⊢
    have hL' : (20 : Int) < l.length := by omega
    simp [go_sem, Tryz.C6, hb, hL']
    refine gK_off (.bool false) (by simp [go_sem]) ?_
    simp [go_sem, hb]
    refine callK_pure d2 ?_
    simp [go_sem]
    refine ret_pure ?_ ?_ <;> simp [go_sem]
  have hL' : ¬ (20 : Int) < l.length := by omega
  cases hf : farP r
  · rw [hf] at d1
    obtain ⟨f1, f2, f3, f4⟩ := farP_not hf
    have hnl : ∀ s, s ∈ r.names → s.length ≤ 1000000 := fun s hs => by have := f4 s hs; omega
    have c1 := Tryz.Hashed_c l r key skip bx hm (by omega) hl hl2
    have c2 := Tryz.rHashed_c l r key skip bx (by omega) hnl
    have c3 := Tryz.Bounded_c l r key percent skip bx hm (by omega) hl hl2
    have c4 := Tryz.rBounded_c l r key percent skip bx (by omega) hnl
    generalize hashed l r key skip = F at *
    generalize bounded l r key percent skip = O at *
    simp only [rgV, strsV, intsV, ptsV] at c1 c2 c3 c4 d1 ⊢
    simp [go_sem, Tryz.C6, hb, hL']
    refine gK_pure d1 (by simp) (by simp [go_sem]) ?_
    simp [go_sem, hb]
    refine ⟨fun h => ?_, fun h => ?_⟩
    · refine callK_pure d2 ?_
      simp [go_sem, hb]
      refine ret_pure ?_ ?_ <;> simp [go_sem]
    · refine callK_pure c1 ?_
      simp [go_sem, hb]
      refine callK_pure c2 ?_
      simp [go_sem, hb]
      refine callK_pure c3 ?_
      simp [go_sem, hb]
      refine callK_pure c4 ?_
      simp [go_sem, hb]
      refine gK_pure d2 (by simp) (by simp [go_sem]) ?_
      simp [go_sem, hb]
      refine ret_pure ?_ ?_ <;> simp [go_sem]
  · rw [hf] at d1
    simp only [rgV, strsV, intsV, ptsV] at d1 ⊢
    simp [go_sem, Tryz.C6, hb, hL']
    refine gK_pure d1 (by simp) (by simp [go_sem]) ?_
    simp [go_sem, hb]
    refine callK_pure d2 ?_
    simp [go_sem, hb]
    refine ret_pure ?_ ?_ <;> simp [go_sem]
end Go.Proofs.Pol

set_option linter.unusedVariables false
set_option linter.unusedSimpArgs false
namespace Go.Proofs.YtnijaldhopcpdaaGreatDoor
open Go Go.Pl Go.Hs Go.Proofs
theorem hasBks {n : Nat} {xs : List V} (h : HasL Tryz.prog (n + 2) 48 xs) : ∃ l : List Pol.Bk, xs = [.sl 5 (l.map Pol.bkV)] := by
  obtain ⟨l, h, _⟩ := HasL.slice (r := Pol.bkV) Tryz.knd48 h fun ys hy => by
    have hl := hy.len
    rw [Tryz.tsz57] at hl
    match ys, hl with
    | [a, b, c, d, e], _ =>
      obtain ⟨i0, h0, _⟩ := (hy.fld Tryz.knd57 Tryz.fld57_0).int Tryz.knd3
      obtain ⟨i1, h1, _⟩ := (hy.fld Tryz.knd57 Tryz.fld57_1).int Tryz.knd3
      obtain ⟨i2, h2, _⟩ := (hy.fld Tryz.knd57 Tryz.fld57_2).int Tryz.knd3
      obtain ⟨b3, h3⟩ := (hy.fld Tryz.knd57 Tryz.fld57_3).bool Tryz.knd4
      obtain ⟨b4, h4⟩ := (hy.fld Tryz.knd57 Tryz.fld57_4).bool Tryz.knd4
      simp [Tryz.tsz3, Tryz.tsz4] at h0 h1 h2 h3 h4
      subst h0 h1 h2 h3 h4
      exact ⟨⟨i0, i1, i2, b3, b4⟩, by simp [elV, Tryz.tagg57, Pol.bkV]⟩
  rw [Tryz.tsz57] at h
  exact ⟨l, h⟩
theorem hasAsk {n : Nat} {xs : List V} (h : HasL Tryz.prog (n + 1) 50 xs) : ∃ (key : Bs) (p s : Int), Pol.askV key p s = .agg xs ∧ key.length ≤ maxLen := by
  have hl := h.len
  rw [Tryz.tsz50] at hl
  match xs, hl with
  | [a, b, c], _ =>
    obtain ⟨k, h0, g0⟩ := hasStr (h.fld Tryz.knd50 Tryz.fld50_0)
    obtain ⟨i1, h1⟩ := hasInt (h.fld Tryz.knd50 Tryz.fld50_1)
    obtain ⟨i2, h2⟩ := hasInt (h.fld Tryz.knd50 Tryz.fld50_2)
    simp [Tryz.tsz3, Tryz.tsz9] at h0 h1 h2
    subst h0 h1 h2
    exact ⟨k, i1, i2, rfl, g0⟩
end Go.Proofs.YtnijaldhopcpdaaGreatDoor
