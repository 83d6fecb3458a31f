/- Texts of the proof, put together: CA, CY, CB, CC, CD, CE, CF, CI, CJ, CG, CH, Tz, Ta, Tb, Tc, Td, Te, Tf, Th. -/
import Derived.Test.YtejcmkefemhpkaaGg
import Derived.Test.YtejcmkefemhpkaaGd
import Derived.Test.YtejcmkefemhpkaaRows
import Derived.Test.YtejcmkefemhpkaaGe
import Derived.WalkKit
import Derived.ProofKit
import Derived.Test.YtejcmkefemhpkaaProg

set_option linter.unusedSimpArgs false
set_option linter.unusedVariables false
set_option maxRecDepth 100000
namespace Go.Ck
open Go Go.Pl
structure Tm where
 id : Int
 at_ : Int
 kind : Int
 owner : Int
 deriving DecidableEq, Inhabited
structure Sc where
 id : Int
 parent : Int
 dl : Int
 why : Int
 deriving DecidableEq, Inhabited
structure Ck where
 now : Int
 next : Int
 ts : List Tm
 scs : List Sc
 deriving DecidableEq, Inhabited
def tmV (t : Tm) : V := .agg [.int .i64 t.id, .int .i64 t.at_, .int .i64 t.kind, .int .i64 t.owner]
def scV (x : Sc) : V := .agg [.int .i64 x.id, .int .i64 x.parent, .int .i64 x.dl, .int .i64 x.why]
def ckV (s : Ck) : V := .agg [.int .i64 s.now, .int .i64 s.next, .sl 4 (s.ts.map tmV), .sl 4 (s.scs.map scV)]
def ord (a b : Tm) : Int := if a.at_ < b.at_ then -1 else if b.at_ < a.at_ then 1 else if a.id < b.id then -1 else if b.id < a.id then 1 else 0
def cmpI (a b : Int) : Int := if a < b then -1 else if b < a then 1 else 0
def rngT (n : Int) (t : Tm) : Prop := (1 ≤ t.id ∧ t.id ≤ n - 1) ∧ (0 ≤ t.at_ ∧ t.at_ ≤ 1000000000000) ∧ (0 ≤ t.kind ∧ t.kind ≤ 1000) ∧ (0 ≤ t.owner ∧ t.owner ≤ 1000000000000000)
instance (n : Int) (t : Tm) : Decidable (rngT n t) := by unfold rngT; infer_instance
def rngS (n : Int) (x : Sc) : Prop := (1 ≤ x.id ∧ x.id ≤ n - 1) ∧ (0 ≤ x.dl ∧ x.dl ≤ 1000000000001) ∧ (0 ≤ x.why ∧ x.why ≤ 2)
instance (n : Int) (x : Sc) : Decidable (rngS n x) := by unfold rngS; infer_instance
def Rng (s : Ck) : Prop := (0 ≤ s.now ∧ s.now ≤ 1000000000000) ∧ (1 ≤ s.next ∧ s.next ≤ 1000000000000000) ∧ (∀ t, t ∈ s.ts → rngT s.next t) ∧ ∀ x, x ∈ s.scs → rngS s.next x
end Go.Ck
namespace Go.Proofs
open Go Go.Pl Go.Ck
theorem Try.isNaN_c (a : Int) (bx : Boxes) : PureCall Try.prog 83 [.int .i64 a] bx (.bool false) := by
 refine Try.ctr83 fun hf => ?_
 simp [go_sem, Try.C83, hf]
 exact ret_pure (by simp [go_sem]) (by simp [go_sem])
theorem Try.cmp_c (a b : Int) (bx : Boxes) : PureCall Try.prog 69 [.int .i64 a, .int .i64 b] bx (.int .i64 (cmpI a b)) := by
 refine Try.ctr69 fun hf => ?_
 simp [go_sem, Try.C69, hf]
 refine callK_pure (Try.isNaN_c a bx) ?_
 simp [go_sem, hf]
 refine callK_pure (Try.isNaN_c b bx) ?_
 simp [go_sem, hf]
 unfold cmpI
 refine ⟨fun h => ret_pure (by simp [go_sem]) (by simp [go_sem, h]), fun h => ⟨fun h2 => ret_pure (by simp [go_sem]) ?_, fun h2 => ret_pure (by simp [go_sem]) ?_⟩⟩
 · simp [go_sem, h2, show ¬ a < b by omega]
 · simp [go_sem, show ¬ b < a by omega, show ¬ a < b by omega]
theorem Try.within_c (a b c : Int) (bx : Boxes) : PureCall Try.prog 32 [.int .i64 a, .int .i64 b, .int .i64 c] bx (.bool (decide (b ≤ a) && decide (a ≤ c))) := by
 refine Try.ctr32 fun hf => ?_
 simp [go_sem, Try.C32, hf]
 exact ret_pure (by simp [go_sem]) (by simp [go_sem])
theorem Try.withinI_c (a b c : Int) (bx : Boxes) : PureCall Try.prog 76 [.int .i64 a, .int .i64 b, .int .i64 c] bx (.bool (decide (b ≤ a) && decide (a ≤ c))) := by
 refine Try.ctr76 fun hf => ?_
 simp [go_sem, Try.C76, hf]
 exact ret_pure (by simp [go_sem]) (by simp [go_sem])
def or2 (a b : Int) : Int := if a = 0 then b else a
theorem Try.or_c (a b : Int) (bx : Boxes) : PureCall Try.prog 68 [.sl 1 [.int .i64 a, .int .i64 b]] bx (.int .i64 (or2 a b)) := by
 refine Try.ctr68 fun hf => ?_
 simp [go_sem, Try.C68, hf]
 refine pw_unroll 3 ?_
 simp [go_sem, Try.L68_0, hf, (by decide : IntKind.i64.wrap 1 = 1), (by decide : IntKind.i64.wrap 2 = 2)]
 refine ⟨fun h => ret_pure (by simp [go_sem]) (by simp [go_sem, or2, h]), fun h => ?_⟩
 refine left_step ?_
 simp [go_sem, Try.L68_0, hf, (by decide : IntKind.i64.wrap 1 = 1), (by decide : IntKind.i64.wrap 2 = 2)]
 refine ⟨fun h2 => ret_pure (by simp [go_sem]) (by simp [go_sem, or2, h]), fun h2 => ?_⟩
 refine left_step ?_
 simp [go_sem, Try.L68_0, hf]
 exact ret_pure (by simp [go_sem]) (by simp [go_sem, or2, h, h2])
theorem Try.orE_c (a b : Int) (bx : Boxes) : PureCall Try.prog 45 [.sl 1 [.int .i64 a, .int .i64 b]] bx (.int .i64 (or2 a b)) := by
 refine Try.ctr45 fun hf => ?_
 simp [go_sem, Try.C45, hf]
 refine pw_unroll 3 ?_
 simp [go_sem, Try.L45_0, hf, (by decide : IntKind.i64.wrap 1 = 1), (by decide : IntKind.i64.wrap 2 = 2)]
 refine ⟨fun h => ret_pure (by simp [go_sem]) (by simp [go_sem, or2, h]), fun h => ?_⟩
 refine left_step ?_
 simp [go_sem, Try.L45_0, hf, (by decide : IntKind.i64.wrap 1 = 1), (by decide : IntKind.i64.wrap 2 = 2)]
 refine ⟨fun h2 => ret_pure (by simp [go_sem]) (by simp [go_sem, or2, h]), fun h2 => ?_⟩
 refine left_step ?_
 simp [go_sem, Try.L45_0, hf]
 exact ret_pure (by simp [go_sem]) (by simp [go_sem, or2, h, h2])
theorem ord_or (a b : Tm) : or2 (cmpI a.at_ b.at_) (cmpI a.id b.id) = ord a b := by
 unfold or2 cmpI ord
 split <;> split <;> simp_all <;> omega
theorem Try.order_c (a b : Tm) (bx : Boxes) : PureCall Try.prog 36 [tmV a, tmV b] bx (.int .i64 (ord a b)) := by
 refine PureCall.wk (Try.ctr36 fun hf => ?_)
 rw [← ord_or]
 simp [go_sem, Try.C36, hf, tmV]
 refine callK_pure (Try.cmp_c _ _ _) ?_
 simp [go_sem, hf]
 refine callK_pure (Try.cmp_c _ _ _) ?_
 simp [go_sem, hf]
 intro b1 hb1
 refine callK_pure (PureCall.frame 1 (Try.or_c (cmpI a.at_ b.at_) (cmpI a.id b.id) (fun _ => none)) ?_ rfl) ?_
 · have := frz_own1 (bx := upd bx b1 (some (.row 3 1 [.int .i64 (cmpI a.at_ b.at_), .int .i64 (cmpI a.id b.id)]))) (bx' := fun _ => none) (b := b1) (sz := 1) (n := 2) (upd_eq _ _ _) rfl (by decide) rfl
   simp [this]
 simp [go_sem]
 exact ret_drop (by simp [go_sem]) ((Ext.refl _).new hb1 _) ⟨by simp [go_sem]; exact Wk.refl _, rfl⟩
theorem Try.timer_c (a k o : Int) (bx : Boxes) : PureCall Try.prog 46 [.int .i64 a, .int .i64 k, .int .i64 o] bx (.int .i64 (if (0 ≤ a ∧ a ≤ 1000000000000) ∧ (0 ≤ k ∧ k ≤ 1000) ∧ (0 ≤ o ∧ o ≤ 1000000000000000) then 0 else 7)) := by
 refine Try.ctr46 fun hf => ?_
 simp [go_sem, Try.C46, hf]
 refine callK_pure (Try.within_c _ _ _ _) ?_
 simp [go_sem, hf]
 refine gK_pure (Try.withinI_c _ _ _ _) (by simp) (by simp [go_sem]) ?_
 simp [go_sem, hf]
 refine gK_pure (Try.within_c _ _ _ _) (by simp) (by simp [go_sem]) ?_
 simp [go_sem, hf]
 refine ⟨fun h => ret_pure (by simp [go_sem]) ?_, fun h1 h2 h3 h4 h5 h6 => ret_pure (by simp [go_sem]) (by simp [go_sem, h1, h2, h3, h4, h5, h6])⟩
 rw [if_neg (by omega)]
 simp [go_sem]
theorem Try.ranges_c (s : Ck) (e : Int) (h0 : ¬ Rng s → e = 7) (h1 : Rng s → e = 0) (hs : s.ts.length ≤ 2000 ∧ s.scs.length ≤ 500) (b : Nat) (bx : Boxes) (hb : bx b = some (.row 25 4 [ckV s])) : PureCall Try.prog 41 [.ptr b 4 0 0] bx (.int .i64 e) := by
 refine Try.ctr41 fun hf => ?_
 simp only [ckV] at hb
 simp [go_sem, Try.C41, hf, hb]
 refine callK_pure (Try.within_c _ _ _ _) ?_
 simp [go_sem, hf, hb]
 refine gK_pure (Try.within_c _ _ _ _) (by simp) (by simp [go_sem]) ?_
 simp [go_sem, hf, hb]
 refine ⟨fun h => ret_pure (by simp [go_sem]) ?_, fun a1 a2 a3 a4 => ?_⟩
 · simp [go_sem]
   refine (h0 fun hr => ?_).symm
   obtain ⟨r1, r2, _⟩ := hr
   omega
 have hwn : IntKind.i64.wrap (s.next - 1) = s.next - 1 := wr64 (by omega)
 refine pw_find s.ts.length (fun i => decide (¬ rngT s.next (s.ts.getD i default))) (fun i => ⟨81, slk [(0, .ptr b 4 0 0), (24, .sl 4 (s.ts.map tmV)), (25, .int .i64 s.ts.length), (26, .int .i64 i)], bx⟩) (cov_look (by simp [go_sem])) (fun i hi hJ N hN => ?_) (fun hJ N => ?_)
 · have hw := wr_succ (k := i) (by omega)
   have hg : s.ts.getD i default = s.ts[i] := by simp [hi]
   rw [hg] at hN
   simp [go_sem, Try.L41_0, hf, hb, hi, tmV]
   intro b4 hb4
   rw [upd_self hb4]
   simp [go_sem, hb, hwn, hf]
   refine callK_pure (Try.within_c _ _ _ _) ?_
   simp [go_sem, hf]
   refine gK_pure (Try.timer_c _ _ _ _) (by simp) (by simp [go_sem]) ?_
   simp [go_sem, hf]
   refine ⟨fun h => ret_pure (by simp [go_sem]) ?_, fun q1 q2 q3 q4 q5 q6 q7 q8 => hN _ ?_ (cov_look (by simp [go_sem, hw]))⟩
   · simp [go_sem]
     refine (h0 fun hr => ?_).symm
     have := hr.2.2.1 _ (List.getElem_mem hi)
     unfold rngT at this
     omega
   · simp; exact ⟨⟨q1, q2⟩, ⟨q3, q4⟩, ⟨q5, q6⟩, q7, q8⟩
 have hT : ∀ t, t ∈ s.ts → rngT s.next t := fun t ht => by
   obtain ⟨j, hj, rfl⟩ := List.getElem_of_mem ht
   have := hJ j hj
   simpa [hj] using this
 simp [go_sem, Try.L41_0, hf, hb]
 refine pw_find s.scs.length (fun i => decide (¬ rngS s.next (s.scs.getD i default))) (fun i => ⟨81, slk [(0, .ptr b 4 0 0), (53, .sl 4 (s.scs.map scV)), (54, .int .i64 s.scs.length), (55, .int .i64 i)], bx⟩) (cov_look (by simp [go_sem])) (fun i hi hJ N hN => ?_) (fun hJ N => ?_)
 · have hw := wr_succ (k := i) (by omega)
   have hg : s.scs.getD i default = s.scs[i] := by simp [hi]
   rw [hg] at hN
   simp [go_sem, Try.L41_1, hf, hb, hi, scV]
   intro b4 hb4
   rw [upd_self hb4]
   simp [go_sem, hb, hwn, hf]
   refine callK_pure (Try.within_c _ _ _ _) ?_
   simp [go_sem, hf]
   refine gK_pure (Try.within_c _ _ _ _) (by simp) (by simp [go_sem]) ?_
   simp [go_sem, hf]
   refine gK_pure (Try.withinI_c _ _ _ _) (by simp) (by simp [go_sem]) ?_
   simp [go_sem, hf]
   refine ⟨fun h => ret_pure (by simp [go_sem]) ?_, fun q1 q2 q3 q4 q5 q6 => hN _ ?_ (cov_look (by simp [go_sem, hw]))⟩
   · simp [go_sem]
     refine (h0 fun hr => ?_).symm
     have := hr.2.2.2 _ (List.getElem_mem hi)
     unfold rngS at this
     omega
   · simp; exact ⟨⟨q1, q2⟩, ⟨q3, q4⟩, q5, q6⟩
 simp [go_sem, Try.L41_1, hf, hb]
 refine ret_pure (by simp [go_sem]) ?_
 simp [go_sem]
 refine (h1 ⟨⟨a1, a2⟩, ⟨a3, a4⟩, hT, fun x hx => ?_⟩).symm
 obtain ⟨j, hj, rfl⟩ := List.getElem_of_mem hx
 have := hJ j hj
 simpa [hj] using this
end Go.Proofs

set_option linter.unusedVariables false
set_option linter.unusedSimpArgs false
set_option maxRecDepth 100000
namespace Go.Proofs.Ytejcmkefemhpkaa
open Go Go.Pl Go.Proofs Go.Ck
open Go.ChangeShapes Go.WideShapes Go.ChangeAt Go.RowKit
theorem own : ownKnob Try.prog.godebug = none := by kernel_rfl
theorem hasInt64 {n : Nat} {xs : List V} (h : HasL Try.prog n 2 xs) : ∃ i : Int, xs = [.int .i64 i] ∧ -9223372036854775808 ≤ i ∧ i ≤ 9223372036854775807 := by
 obtain ⟨i, rfl, hw⟩ := h.int Try.knd2
 simp [Lit.wf, IntKind.min, IntKind.max, IntKind.signed, IntKind.bits] at hw
 exact ⟨i, rfl, by omega⟩
theorem hasIntB {n : Nat} {xs : List V} (h : HasL Try.prog n 3 xs) : ∃ i : Int, xs = [.int .i64 i] ∧ -9223372036854775808 ≤ i ∧ i ≤ 9223372036854775807 := by
 obtain ⟨i, rfl, hw⟩ := h.int Try.knd3
 simp [Lit.wf, IntKind.min, IntKind.max, IntKind.signed, IntKind.bits] at hw
 exact ⟨i, rfl, by omega⟩
end Go.Proofs.Ytejcmkefemhpkaa

set_option linter.unusedSimpArgs false
set_option linter.unusedVariables false
set_option maxRecDepth 100000
namespace Go.Ck
open Go Go.Pl
def okS (now : Int) (x : Sc) : Prop := ¬ (x.why = 0 ∧ x.dl ≤ now) ∧ ¬ (x.why = 2 ∧ now < x.dl)
def lastId (l : List Sc) (i : Nat) : Int := if i = 0 then 0 else (l.getD (i - 1) default).id
def FormAt (now : Int) (l : List Sc) (i : Nat) : Prop :=
 lastId l i < (l.getD i default).id ∧ okS now (l.getD i default) ∧ ((l.getD i default).parent = 0 ∨ ∃ p, p ∈ l.take i ∧ p.id = (l.getD i default).parent ∧ (l.getD i default).dl ≤ p.dl ∧ ((l.getD i default).why = 0 → p.why = 0))
def FormS (now : Int) (l : List Sc) : Prop := ∀ i, i < l.length → FormAt now l i
def knV (l : List Sc) : List (V × V) := l.map fun x => (.int .i64 x.id, .ep (scV x) 0)
theorem kn_find (h : Int) : ∀ (l : List Sc) (k : Nat), (l.map (·.id)).Nodup → (∀ x, x ∈ l → x.id = h → ∃ i, findV (.int .i64 h) (knV l) k = some (some (i, .ep (scV x) 0))) ∧ ((∀ x, x ∈ l → x.id ≠ h) → findV (.int .i64 h) (knV l) k = some none)
 | [], k, _ => ⟨fun b hb => (by cases hb), fun _ => rfl⟩
 | y :: l, k, hn => by
   rw [List.map_cons, List.nodup_cons] at hn
   obtain ⟨ih1, ih2⟩ := kn_find h l (k + 1) hn.2
   have hst : findV (.int .i64 h) (knV (y :: l)) k = if h = y.id then some (some (k, .ep (scV y) 0)) else findV (.int .i64 h) (knV l) (k + 1) := by
     show findV (.int .i64 h) ((.int .i64 y.id, .ep (scV y) 0) :: knV l) k = _
     rw [findV]
     by_cases e : h = y.id
     · simp [sameK, e]
     · have : (h == y.id) = false := by simp [e]
       simp [sameK, this, e]
   rw [hst]
   refine ⟨fun x hx hxe => ?_, fun hno => ?_⟩
   · rcases List.mem_cons.1 hx with rfl | e
     · exact ⟨k, by rw [if_pos hxe.symm]⟩
     · have : h ≠ y.id := fun e2 => hn.1 (by rw [← e2, ← hxe]; exact List.mem_map.2 ⟨_, e, rfl⟩)
       rw [if_neg this]
       exact ih1 x e hxe
   · have : h ≠ y.id := fun e => hno y (by simp) e.symm
     rw [if_neg this]
     exact ih2 fun b hb => hno b (List.mem_cons_of_mem _ hb)
theorem form_incr {now : Int} {l : List Sc} : ∀ k, k ≤ l.length → (∀ j, j < k → FormAt now l j) → ((l.take k).map (·.id)).Pairwise (· < ·) ∧ ∀ x, x ∈ l.take k → x.id ≤ lastId l k
 | 0, _, _ => by simp
 | k + 1, hk, h => by
   obtain ⟨ih1, ih2⟩ := form_incr k (by omega) fun j hj => h j (by omega)
   have hkl : k < l.length := by omega
   have h0 := (h k (by omega)).1
   have hg : l.getD k default = l[k] := by simp [hkl]
   rw [hg] at h0
   have hl : lastId l (k + 1) = l[k].id := by simp [lastId, hkl]
   refine ⟨?_, fun x hx => ?_⟩
   · rw [List.take_succ_eq_append_getElem hkl, List.map_append, List.pairwise_append]
     refine ⟨ih1, by simp, fun a ha b hb => ?_⟩
     obtain ⟨x, hx, rfl⟩ := List.mem_map.1 ha
     simp at hb
     subst hb
     have := ih2 x hx
     omega
   · rw [hl]
     rw [List.take_succ_eq_append_getElem hkl] at hx
     rcases List.mem_append.1 hx with hx | hx
     · have := ih2 x hx; omega
     · simp at hx; subst hx; exact Int.le_refl _
theorem form_pos {now : Int} {l : List Sc} {k : Nat} (hk : k ≤ l.length) (h : ∀ j, j < k → FormAt now l j) : ∀ x, x ∈ l.take k → 0 < x.id := by
 intro x hx
 obtain ⟨j, hj, rfl⟩ := List.getElem_of_mem hx
 rw [List.length_take] at hj
 have h0 := (h j (by omega)).1
 have hg : l.getD j default = l[j] := by simp [show j < l.length by omega]
 rw [hg] at h0
 rw [List.getElem_take]
 have : 0 ≤ lastId l j := by
   rcases j with _ | j
   · simp [lastId]
   · have h1 := (form_incr (j + 1) (by omega) fun q hq => h q (by omega)).2
     have h2 := form_pos (k := j + 1) (by omega) (fun q hq => h q (by omega)) (l[j]) (by rw [List.mem_take_iff_getElem]; exact ⟨j, by omega, rfl⟩)
     have h3 := h1 (l[j]) (by rw [List.mem_take_iff_getElem]; exact ⟨j, by omega, rfl⟩)
     omega
 omega
termination_by k
decreasing_by omega
theorem incr_nodup {l : List Int} (h : l.Pairwise (· < ·)) : l.Nodup := h.imp fun h => by omega
end Go.Ck
namespace Go.Proofs
open Go Go.Pl Go.Ck
theorem Try.scopes_c (s : Ck) (e : Int) (h0 : ¬ FormS s.now s.scs → e = 6) (h1 : FormS s.now s.scs → e = 0) (hs : s.scs.length ≤ 500) (b : Nat) (bx : Boxes) (hb : bx b = some (.row 25 4 [ckV s])) : PureCall Try.prog 43 [.ptr b 4 0 0] bx (.int .i64 e) := by
 classical
 refine Try.ctr43 fun hf => ?_
 simp only [ckV] at hb
 simp [go_sem, Try.C43, hf]
 intro bm hbm
 have nbm : b ≠ bm := fun e => by rw [e, hbm] at hb; cases hb
 simp [go_sem, hf, hb, upd_ne, nbm]
 refine pw_find s.scs.length (fun i => decide (¬ FormAt s.now s.scs i)) (fun i => ⟨111, slk [(0, .ptr b 4 0 0), (3, .mp bm), (4, .int .i64 (lastId s.scs i)), (13, .int .i64 s.scs.length), (14, .int .i64 i)], upd bx bm (some (.map (knV (s.scs.take i))))⟩) ?_ (fun i hi hJ N hN => ?_) (fun hJ N => ?_)
 · exact cov_look (by simp [go_sem, lastId])
 · have hw := wr_succ (k := i) (by omega)
   have hg : s.scs.getD i default = s.scs[i] := by simp [hi]
   have hF : ∀ j, j < i → FormAt s.now s.scs j := fun j hj => by simpa using hJ j hj
   obtain ⟨i1, i2⟩ := form_incr i (by omega) hF
   have hkf := kn_find s.scs[i].parent (s.scs.take i) 0 (incr_nodup i1)
   have hkn := (kn_find s.scs[i].id (s.scs.take i) 0 (incr_nodup i1)).2
   have hl1 : lastId s.scs (i + 1) = s.scs[i].id := by simp [lastId, hi]
   have hk1 : knV (s.scs.take (i + 1)) = knV (s.scs.take i) ++ [(.int .i64 s.scs[i].id, .ep (scV s.scs[i]) 0)] := by
     unfold knV
     rw [List.take_succ_eq_append_getElem hi, List.map_append]; rfl
   have hFa : FormAt s.now s.scs i ↔ lastId s.scs i < s.scs[i].id ∧ okS s.now s.scs[i] ∧ (s.scs[i].parent = 0 ∨ ∃ p, p ∈ s.scs.take i ∧ p.id = s.scs[i].parent ∧ s.scs[i].dl ≤ p.dl ∧ (s.scs[i].why = 0 → p.why = 0)) := by
     unfold FormAt; rw [hg]
   have bad : ¬ FormAt s.now s.scs i → e = 6 := fun hn => h0 fun h => hn (h i hi)
   rw [hl1, hk1] at hN
   by_cases c1 : s.scs[i].id ≤ lastId s.scs i
   · have h6 := bad fun h => by have := (hFa.1 h).1; omega
     simp [go_sem, Try.L43_0, hf, hb, hi, upd_ne, nbm, scV, c1]
     exact ret_drop (by simp [go_sem]) ((Ext.refl _).new hbm _) (by simp [go_sem, h6])
   by_cases c2 : s.scs[i].why = 0 ∧ s.scs[i].dl ≤ s.now
   · have h6 := bad fun h => (hFa.1 h).2.1.1 c2
     obtain ⟨c2, c3⟩ := c2
     simp [go_sem, Try.L43_0, hf, hb, hi, upd_ne, nbm, scV, c1, c2, c3]
     exact ret_drop (by simp [go_sem]) ((Ext.refl _).new hbm _) (by simp [go_sem, h6])
   have c2' : (decide (s.scs[i].why = 0) && decide (s.scs[i].dl ≤ s.now)) = false := by simpa using c2
   by_cases c3 : s.scs[i].why = 2 ∧ s.now < s.scs[i].dl
   · have h6 := bad fun h => (hFa.1 h).2.1.2 c3
     obtain ⟨c3, c4⟩ := c3
     simp [go_sem, Try.L43_0, hf, hb, hi, upd_ne, nbm, scV, c1, c3, c4]
     exact ret_drop (by simp [go_sem]) ((Ext.refl _).new hbm _) (by simp [go_sem, h6])
   have c3' : (decide (s.scs[i].why = 2) && decide (s.now < s.scs[i].dl)) = false := by simpa using c3
   have hok : okS s.now s.scs[i] := ⟨c2, c3⟩
   have hlt : lastId s.scs i < s.scs[i].id := by omega
   have hkn' : ∀ x, x ∈ s.scs.take i → x.id ≠ s.scs[i].id := fun x hx => by have := i2 x hx; omega
   have hkn2 := hkn hkn'
   have fin : FormAt s.now s.scs i → ∀ bx2, bx2 = upd bx bm (some (.map (knV (s.scs.take i) ++ [(.int .i64 s.scs[i].id, .ep (scV s.scs[i]) 0)]))) → N ⟨111, slk [(0, .ptr b 4 0 0), (3, .mp bm), (4, .int .i64 s.scs[i].id), (13, .int .i64 s.scs.length), (14, .int .i64 ((i : Int) + 1))], bx2⟩ := fun h bx2 hbx => by
     subst hbx
     exact hN _ (by simpa using h) (cov_look (by simp [go_sem]))
   by_cases c4 : s.scs[i].parent = 0
   · have hFi : FormAt s.now s.scs i := hFa.2 ⟨hlt, hok, .inl c4⟩
     have hz := hkf.2 (by rw [c4]; exact fun x hx e => by have := form_pos (Nat.le_of_lt hi) hF x hx; omega)
     rw [c4] at hz
     generalize knV (s.scs.take i) = M at *
     simp [go_sem, Try.L43_0, hf, hb, hi, upd_ne, nbm, scV, c1, c2, c3, c4]
     intro _ _
     simp [go_sem, hz, hkn2, c4, upd_upd]
     have := fin hFi _ rfl
     simpa [scV, hw, c4] using this
   by_cases c5 : ∃ p, p ∈ s.scs.take i ∧ p.id = s.scs[i].parent
   · obtain ⟨p, hp, hpe⟩ := c5
     obtain ⟨pi, hz⟩ := hkf.1 p hp hpe
     have hFp : FormAt s.now s.scs i ↔ s.scs[i].dl ≤ p.dl ∧ (s.scs[i].why = 0 → p.why = 0) := by
       rw [hFa]
       constructor
       · rintro ⟨_, _, h | ⟨q, hq, hqe, h⟩⟩
         · exact absurd h c4
         · have : q = p := by
             obtain ⟨a, ha, rfl⟩ := List.getElem_of_mem hq
             obtain ⟨b, hb, rfl⟩ := List.getElem_of_mem hp
             have hn := incr_nodup i1
             have : a = b := (List.getElem_inj (h₀ := by simpa using ha) (h₁ := by simpa using hb) hn).1 (by simpa using hqe.trans hpe.symm)
             subst this; rfl
           rw [this] at h; exact h
       · exact fun h => ⟨hlt, hok, .inr ⟨p, hp, hpe, h⟩⟩
     generalize knV (s.scs.take i) = M at *
     simp [go_sem, Try.L43_0, hf, hb, hi, upd_ne, nbm, scV, c1, c2, c3, c4]
     intro _ _
     simp [go_sem, hz, hkn2, c4, upd_upd, scV]
     refine ⟨fun q => ⟨q, fun q2 => ⟨q, q2⟩⟩, fun q => ?_, fun q1 q2 => ?_⟩
     · have h6 := bad fun h => by have := hFp.1 h; omega
       exact ret_drop (by simp [go_sem]) ((Ext.refl _).new hbm _) (by simp [go_sem, h6])
     · have := fin (hFp.2 ⟨q1, q2⟩) _ rfl
       simpa [scV, hw] using this
   · have hz := hkf.2 fun x hx e => c5 ⟨x, hx, e⟩
     have h6 := bad fun h => by
       rcases (hFa.1 h).2.2 with h | ⟨p, hp, hpe, _⟩
       · exact c4 h
       · exact c5 ⟨p, hp, hpe⟩
     generalize knV (s.scs.take i) = M at *
     simp [go_sem, Try.L43_0, hf, hb, hi, upd_ne, nbm, scV, c1, c2, c3, c4]
     intro _ _
     simp [go_sem, hz, hkn2, c4, upd_upd, scV]
     exact ret_drop (by simp [go_sem]) ((Ext.refl _).new hbm _) (by simp [go_sem, h6])
 · simp [go_sem, Try.L43_0, hf, hb]
   refine ret_drop (by simp [go_sem]) ((Ext.refl _).new hbm _) ⟨?_, rfl⟩
   simp [go_sem]
   exact (h1 fun i hi => by simpa using hJ i hi).symm
end Go.Proofs

set_option linter.unusedSimpArgs false
set_option linter.unusedVariables false
set_option maxRecDepth 100000
namespace Go.Ck
open Go Go.Pl
def ids (s : Ck) : List Int := s.ts.map (·.id) ++ s.scs.map (·.id)
def ddAdd (ms : List Int) (h : Int) : List Int := if h ∈ ms then ms else ms ++ [h]
theorem dd_len : ∀ (l ms : List Int), (l.foldl ddAdd ms).length ≤ ms.length + l.length ∧ ((l.foldl ddAdd ms).length = ms.length + l.length ↔ l.Nodup ∧ ∀ h, h ∈ l → h ∉ ms)
 | [], ms => by simp
 | h :: l, ms => by
   obtain ⟨i1, i2⟩ := dd_len l (ddAdd ms h)
   rw [List.foldl_cons]
   by_cases e : h ∈ ms
   · have : ddAdd ms h = ms := if_pos e
     rw [this] at i1 i2 ⊢
     refine ⟨by simp; omega, ⟨fun hh => ?_, fun hh => absurd e (hh.2 h (by simp))⟩⟩
     simp at hh; omega
   · have hd : ddAdd ms h = ms ++ [h] := if_neg e
     rw [hd] at i1 i2 ⊢
     refine ⟨by simp at i1 ⊢; omega, ?_⟩
     have : (ms ++ [h]).length + l.length = ms.length + (h :: l).length := by simp; omega
     rw [← this, i2]
     constructor
     · rintro ⟨g1, g2⟩
       refine ⟨List.nodup_cons.2 ⟨fun hm => g2 h hm (by simp), g1⟩, fun x hx => ?_⟩
       rcases List.mem_cons.1 hx with rfl | hx
       · exact e
       · exact fun hm => g2 x hx (by simp [hm])
     · rintro ⟨g1, g2⟩
       rw [List.nodup_cons] at g1
       refine ⟨g1.2, fun x hx hm => ?_⟩
       rcases List.mem_append.1 hm with hm | hm
       · exact g2 x (by simp [hx]) hm
       · simp at hm; subst hm; exact g1.1 hx
def idV (ms : List Int) : List (V × V) := ms.map fun h => (.int .i64 h, .bool true)
theorem id_find (h : Int) : ∀ (ms : List Int) (k : Nat), (h ∈ ms → ∃ i, ms[i]? = some h ∧ findV (.int .i64 h) (idV ms) k = some (some (k + i, .bool true))) ∧ (h ∉ ms → findV (.int .i64 h) (idV ms) k = some none)
 | [], k => ⟨fun hb => (by cases hb), fun _ => rfl⟩
 | y :: ms, k => by
   obtain ⟨ih1, ih2⟩ := id_find h ms (k + 1)
   have hst : findV (.int .i64 h) (idV (y :: ms)) k = if h = y then some (some (k, .bool true)) else findV (.int .i64 h) (idV ms) (k + 1) := by
     show findV (.int .i64 h) ((.int .i64 y, .bool true) :: idV ms) k = _
     rw [findV]
     by_cases e : h = y
     · simp [sameK, e]
     · have : (h == y) = false := by simp [e]
       simp [sameK, this, e]
   rw [hst]
   refine ⟨fun hm => ?_, fun hno => ?_⟩
   · by_cases e : h = y
     · exact ⟨0, by simp [e], by rw [if_pos e]; rfl⟩
     · rw [if_neg e]
       obtain ⟨i, h1, h2⟩ := ih1 (by rcases List.mem_cons.1 hm with h | h; exact absurd h e; exact h)
       exact ⟨i + 1, h1, by rw [h2]; congr 3; omega⟩
   · rw [if_neg (fun e => hno (by simp [e]))]
     exact ih2 fun hm => hno (by simp [hm])
theorem id_cases (h : Int) (ms : List Int) : (ddAdd ms h = ms ++ [h] ∧ findV (.int .i64 h) (idV ms) 0 = some none) ∨ ∃ i, ddAdd ms h = ms ∧ findV (.int .i64 h) (idV ms) 0 = some (some (i, .bool true)) ∧ (idV ms).set i (.int .i64 h, .bool true) = idV ms := by
 by_cases e : h ∈ ms
 · obtain ⟨i, h1, h2⟩ := (id_find h ms 0).1 e
   rw [Nat.zero_add] at h2
   refine .inr ⟨i, if_pos e, h2, ?_⟩
   apply List.ext_getElem?
   intro k
   rw [List.getElem?_set]
   split
   · rename_i ek
     subst ek
     have hi := (List.getElem?_eq_some_iff.1 h1).1
     simp [idV, hi, h1]
     exact (List.getElem?_eq_some_iff.1 h1).2.symm
   · rfl
 · exact .inl ⟨if_neg e, (id_find h ms 0).2 e⟩
theorem idV_snoc (ms : List Int) (h : Int) : idV ms ++ [(.int .i64 h, .bool true)] = idV (ms ++ [h]) := by simp [idV]
def idm (s : Ck) (k : Nat) : List Int := ((ids s).take k).foldl ddAdd []
theorem idm_succ {s : Ck} {k : Nat} {h : Int} (e : (ids s)[k]? = some h) : idm s (k + 1) = ddAdd (idm s k) h := by
 unfold idm
 rw [List.take_add_one, e, List.foldl_append]; rfl
def SrtT (l : List Tm) : Prop := ∀ i, i + 1 < l.length → ¬ ord (l.getD (i + 1) default) (l.getD i default) < 0
structure Chk (s : Ck) (e : Int) : Prop where
 fl : ¬ (s.ts.length ≤ 2000 ∧ s.scs.length ≤ 500) → e = 3
 fr : s.ts.length ≤ 2000 ∧ s.scs.length ≤ 500 → ¬ Rng s → e = 7
 ft : s.ts.length ≤ 2000 ∧ s.scs.length ≤ 500 → Rng s → ¬ (ids s).Nodup → e = 8
 fs : s.ts.length ≤ 2000 ∧ s.scs.length ≤ 500 → Rng s → (ids s).Nodup → ¬ SrtT s.ts → e = 6
 fm : s.ts.length ≤ 2000 ∧ s.scs.length ≤ 500 → Rng s → (ids s).Nodup → SrtT s.ts → ¬ FormS s.now s.scs → e = 6
 fo : s.ts.length ≤ 2000 ∧ s.scs.length ≤ 500 → Rng s → (ids s).Nodup → SrtT s.ts → FormS s.now s.scs → e = 0
structure Ok (s : Ck) : Prop where
 len : s.ts.length ≤ 2000 ∧ s.scs.length ≤ 500
 rng : Rng s
 nd : (ids s).Nodup
 srt : SrtT s.ts
 form : FormS s.now s.scs
theorem Chk.ok {s : Ck} (h : Chk s 0) : Ok s := by
 by_cases h1 : s.ts.length ≤ 2000 ∧ s.scs.length ≤ 500
 · by_cases h2 : Rng s
   · by_cases h3 : (ids s).Nodup
     · by_cases h4 : SrtT s.ts
       · by_cases h5 : FormS s.now s.scs
         · exact ⟨h1, h2, h3, h4, h5⟩
         · exact absurd (h.fm h1 h2 h3 h4 h5) (by decide)
       · exact absurd (h.fs h1 h2 h3 h4) (by decide)
     · exact absurd (h.ft h1 h2 h3) (by decide)
   · exact absurd (h.fr h1 h2) (by decide)
 · exact absurd (h.fl h1) (by decide)
theorem Ok.chk {s : Ck} (h : Ok s) : Chk s 0 :=
 ⟨fun h1 => absurd h.len h1, fun _ h1 => absurd h.rng h1, fun _ _ h1 => absurd h.nd h1, fun _ _ _ h1 => absurd h.srt h1, fun _ _ _ _ h1 => absurd h.form h1, fun _ _ _ _ _ => rfl⟩
end Go.Ck
namespace Go.Proofs
open Go Go.Pl Go.Ck
theorem Try.sorted_c (l : List Tm) (c : Bool) (h1 : SrtT l → c = true) (h0 : ¬ SrtT l → c = false) (hl : l.length ≤ 2000) (bx : Boxes) : PureCall Try.prog 42 [.sl 4 (l.map tmV), .fn (.func 36) []] bx (.bool c) := by
 classical
 refine Try.ctr42 fun hf => ?_
 have hw0 : IntKind.i64.wrap ((l.length : Int) - 1) = (l.length : Int) - 1 := wr64 (by omega)
 simp [go_sem, Try.C42, hf, hw0]
 refine pw_find (l.length - 1) (fun k => decide (ord (l.getD (l.length - 1 - k) default) (l.getD (l.length - 2 - k) default) < 0)) (fun k => ⟨25, slk [(0, .sl 4 (l.map tmV)), (1, .fn (.func 36) []), (5, .int .i64 ((l.length : Int) - 1 - k))], bx⟩) (cov_look (by simp [go_sem])) (fun k hk hJ N hN => ?_) (fun hJ N => ?_)
 · obtain ⟨m, hm⟩ : ∃ m, l.length - 2 - k = m := ⟨_, rfl⟩
   have hm1 : l.length - 1 - k = m + 1 := by omega
   have hm2 : (l.length : Int) - 1 - k = (m : Int) + 1 := by omega
   have hm3 : (l.length : Int) - 1 - ((k + 1 : Nat) : Int) = (m : Int) := by omega
   have hml : m + 1 < l.length := by omega
   have hmi : (m : Int) + 1 < l.length := by omega
   have hw : IntKind.i64.wrap (m : Int) = (m : Int) := wr64 (by omega)
   have hto : ((m : Int) + 1).toNat = m + 1 := by omega
   have hn0 : ¬ (m : Int) + 1 < 0 := by omega
   have hp0 : (0 : Int) < (m : Int) + 1 := by omega
   have hp1 : (0 : Int) ≤ (m : Int) + 1 := by omega
   have hml2 : m < l.length := by omega
   have g1 : l.getD (m + 1) default = l[m + 1] := by simp [hml]
   have g2 : l.getD m default = l[m] := by simp [hml2]
   rw [hm, hm1, g1, g2, hm3] at hN
   rw [hm2]
   have cO := Try.order_c l[m + 1] l[m] bx
   have hSr : ord l[m + 1] l[m] < 0 → c = false := fun h => h0 fun hs => hs m hml (by rw [g1, g2]; exact h)
   simp only [tmV] at cO
   simp [go_sem, Try.L42_0, hf, hp0, hp1, hmi, hto, hw, hml, hml2, tmV]
   refine callK_pure cO ?_
   simp [go_sem, hw]
   refine ⟨fun h => ret_pure (by simp [go_sem]) (by simp [go_sem, hSr h]), fun h => hN _ (by simpa using h) (cov_look (by simp [go_sem, tmV]))⟩
 · have hS : SrtT l := fun i hi => by
     have := hJ (l.length - 2 - i) (by omega)
     rw [show l.length - 1 - (l.length - 2 - i) = i + 1 by omega, show l.length - 2 - (l.length - 2 - i) = i by omega] at this
     simpa using this
   obtain ⟨z, hz, hn⟩ : ∃ z : Int, (l.length : Int) - 1 - ((l.length - 1 : Nat) : Int) = z ∧ ¬ 0 < z := ⟨_, rfl, by omega⟩
   rw [hz]
   simp [go_sem, Try.L42_0, hf, hn]
   exact ret_pure (by simp [go_sem]) (by simp [go_sem, h1 hS])
theorem Try.Check_c (s : Ck) (e : Int) (he : Chk s e) (bx : Boxes) : PureCall Try.prog 18 [ckV s] bx (.int .i64 e) := by
 refine PureCall.wk (Try.ctr18 fun hf => ?_)
 have cR := fun (b : Nat) (bx : Boxes) (hb : bx b = some (.row 25 4 [ckV s])) (hl : s.ts.length ≤ 2000 ∧ s.scs.length ≤ 500) (e : Int) h0 h1 => Try.ranges_c s e h0 h1 hl b bx hb
 have cS := fun (b : Nat) (bx : Boxes) (hb : bx b = some (.row 25 4 [ckV s])) (hl : s.scs.length ≤ 500) (e : Int) h0 h1 => Try.scopes_c s e h0 h1 hl b bx hb
 simp only [ckV] at cR cS ⊢
 simp [go_sem, Try.C18, hf]
 intro b1 hb1
 by_cases hl : s.ts.length ≤ 2000 ∧ s.scs.length ≤ 500
 · refine ⟨fun h => absurd h (by omega), fun _ _ => ?_⟩
   have hx : upd bx b1 (some (.row 25 4 [.agg [.int .i64 s.now, .int .i64 s.next, .sl 4 (s.ts.map tmV), .sl 4 (s.scs.map scV)]])) b1 = _ := upd_eq _ _ _
   have hxe : Ext bx (upd bx b1 (some (.row 25 4 [.agg [.int .i64 s.now, .int .i64 s.next, .sl 4 (s.ts.map tmV), .sl 4 (s.scs.map scV)]]))) := (Ext.refl _).new hb1 _
   have hxf : FinB (upd bx b1 (some (.row 25 4 [.agg [.int .i64 s.now, .int .i64 s.next, .sl 4 (s.ts.map tmV), .sl 4 (s.scs.map scV)]]))) := (finB_upd _ _ _).2 hf
   generalize upd bx b1 (some (.row 25 4 [.agg [.int .i64 s.now, .int .i64 s.next, .sl 4 (s.ts.map tmV), .sl 4 (s.scs.map scV)]])) = bxx at *
   by_cases hr : Rng s
   · refine callK_pure (cR b1 _ hx hl 0 (fun h => absurd hr h) (fun _ => rfl)) ?_
     simp [go_sem, hxf]
     intro bm hbm
     have nbm : b1 ≠ bm := fun e => by rw [e, hbm] at hx; cases hx
     simp [go_sem, hxf, hx, upd_ne, nbm]
     refine pw_upto s.ts.length (fun k => ⟨61, slk [(1, .ptr b1 4 0 0), (4, .mp bm), (25, .sl 4 (s.ts.map tmV)), (26, .int .i64 s.ts.length), (27, .int .i64 k)], upd bxx bm (some (.map (idV (idm s k))))⟩) (cov_look (by simp [go_sem])) (fun k hk N hN => ?_) fun N => ?_
     · have hw := wr_succ (k := k) (by omega)
       have e1 := idm_succ (s := s) (k := k) (h := s.ts[k].id) (by unfold ids; rw [List.getElem?_append_left (by simpa using hk)]; simp [hk])
       rw [e1] at hN
       have hp := id_cases s.ts[k].id (idm s k)
       generalize idm s k = ms at *
       rcases hp with ⟨p1, p2⟩ | ⟨i, p1, p2, p3⟩
       · rw [p1, ← idV_snoc] at hN
         simp [go_sem, Try.L18_0, hxf, hk, tmV]
         intro b6 hb6
         have n6 : bm ≠ b6 := fun e => by rw [← e, upd_eq] at hb6; cases hb6
         simp [go_sem, upd_self hb6, upd_eq, p2, hw, upd_upd]
         exact hN _ (cov_look (by simp [go_sem, tmV]))
       · rw [p1] at hN
         simp [go_sem, Try.L18_0, hxf, hk, tmV]
         intro b6 hb6
         simp [go_sem, upd_self hb6, upd_eq, p2, p3, hw, upd_upd]
         exact hN _ (cov_look (by simp [go_sem, tmV]))
     simp [go_sem, Try.L18_0, hxf, hx, upd_ne, nbm]
     refine pw_upto s.scs.length (fun k => ⟨61, slk [(1, .ptr b1 4 0 0), (4, .mp bm), (36, .sl 4 (s.scs.map scV)), (37, .int .i64 s.scs.length), (38, .int .i64 k)], upd bxx bm (some (.map (idV (idm s (s.ts.length + k)))))⟩) (cov_look (by simp [go_sem])) (fun k hk N hN => ?_) fun N => ?_
     · have hw := wr_succ (k := k) (by omega)
       have e1 := idm_succ (s := s) (k := s.ts.length + k) (h := s.scs[k].id) (by unfold ids; rw [List.getElem?_append_right (by simp)]; simp [hk])
       rw [show s.ts.length + (k + 1) = s.ts.length + k + 1 by omega, e1] at hN
       have hp := id_cases s.scs[k].id (idm s (s.ts.length + k))
       generalize idm s (s.ts.length + k) = ms at *
       rcases hp with ⟨p1, p2⟩ | ⟨i, p1, p2, p3⟩
       · rw [p1, ← idV_snoc] at hN
         simp [go_sem, Try.L18_1, hxf, hk, scV]
         intro b6 hb6
         simp [go_sem, upd_self hb6, upd_eq, p2, hw, upd_upd]
         exact hN _ (cov_look (by simp [go_sem, scV]))
       · rw [p1] at hN
         simp [go_sem, Try.L18_1, hxf, hk, scV]
         intro b6 hb6
         simp [go_sem, upd_self hb6, upd_eq, p2, p3, hw, upd_upd]
         exact hN _ (cov_look (by simp [go_sem, scV]))
     have hall : idm s (s.ts.length + s.scs.length) = (ids s).foldl ddAdd [] := by
       unfold idm
       rw [List.take_of_length_le (by unfold ids; simp)]
     have hlen : (ids s).length = s.ts.length + s.scs.length := by unfold ids; simp
     obtain ⟨d1, d2⟩ := dd_len (ids s) []
     rw [← hall, hlen] at d1 d2
     have hml : (idV (idm s (s.ts.length + s.scs.length))).length = (idm s (s.ts.length + s.scs.length)).length := by simp [idV]
     generalize hM : idm s (s.ts.length + s.scs.length) = ms at *
     have hwl : IntKind.i64.wrap ((s.ts.length : Int) + s.scs.length) = (s.ts.length : Int) + s.scs.length := wr64 (by omega)
     by_cases hnd : (ids s).Nodup
     · have hd : ms.length = s.ts.length + s.scs.length := by
         have := d2.2 ⟨hnd, fun _ _ h => by cases h⟩
         simpa using this
       have hc : ¬ ((ms.length : Int) < (s.ts.length : Int) + s.scs.length) := by omega
       simp [go_sem, Try.L18_1, hxf, hx, upd_ne, nbm, hml, hwl, hc]
       by_cases hS : SrtT s.ts
       · refine callK_pure (Try.sorted_c s.ts true (fun _ => rfl) (fun h => absurd hS h) hl.1 _) ?_
         simp [go_sem]
         have hx2 : upd bxx bm (some (.map (idV ms))) b1 = _ := (upd_ne _ _ nbm).trans hx
         by_cases hF : FormS s.now s.scs
         · have h9 := he.fo hl hr hnd hS hF
           refine callK_pure (cS b1 _ hx2 hl.2 0 (fun h => absurd hF h) (fun _ => rfl)) ?_
           simp [go_sem]
           exact ret_drop (by simp [go_sem]) (hxe.new hbm _) ⟨by simp [go_sem, h9]; exact Wk.refl _, rfl⟩
         · have h9 := he.fm hl hr hnd hS hF
           refine callK_pure (cS b1 _ hx2 hl.2 6 (fun _ => rfl) (fun h => absurd h hF)) ?_
           simp [go_sem]
           exact ret_drop (by simp [go_sem]) (hxe.new hbm _) ⟨by simp [go_sem, h9]; exact Wk.refl _, rfl⟩
       · have h9 := he.fs hl hr hnd hS
         refine callK_pure (Try.sorted_c s.ts false (fun h => absurd h hS) (fun _ => rfl) hl.1 _) ?_
         simp [go_sem]
         exact ret_drop (by simp [go_sem]) (hxe.new hbm _) ⟨by simp [go_sem, h9]; exact Wk.refl _, rfl⟩
     · have hd : ms.length ≠ s.ts.length + s.scs.length := fun h => hnd (d2.1 (by simpa using h)).1
       have hc : ((ms.length : Int) < (s.ts.length : Int) + s.scs.length) := by simp at d1; omega
       have h8 := he.ft hl hr hnd
       simp [go_sem, Try.L18_1, hxf, hx, upd_ne, nbm, hml, hwl, hc]
       exact ret_drop (by simp [go_sem]) (hxe.new hbm _) ⟨by simp [go_sem, h8]; exact Wk.refl _, rfl⟩
   · have h7 := he.fr hl hr
     refine callK_pure (cR b1 _ hx hl 7 (fun _ => rfl) (fun h => absurd h hr)) ?_
     simp [go_sem, hxf]
     exact ret_drop (by simp [go_sem]) hxe ⟨by simp [go_sem, h7]; exact Wk.refl _, rfl⟩
 · refine ⟨fun h => ?_, fun h1 h2 => absurd ⟨by omega, by omega⟩ hl⟩
   have h3 := he.fl hl
   exact ret_drop (by simp [go_sem]) ((Ext.refl _).new hb1 _) ⟨by simp [go_sem, h3]; exact Wk.refl _, rfl⟩
end Go.Proofs

set_option linter.unusedSimpArgs false
set_option linter.unusedVariables false
set_option maxRecDepth 100000
namespace Go.Ck
open Go Go.Pl
theorem tw_lt {α : Type} {p : α → Bool} : ∀ {l : List α} {q : Nat} (hq : q < l.length), q < (l.takeWhile p).length → p l[q] = true
 | [], q, hq, _ => by simp at hq
 | x :: l, q, hq, h => by
   by_cases hp : p x = true
   · rw [List.takeWhile_cons, if_pos hp] at h
     rcases q with _ | q
     · exact hp
     · simp at h hq
       exact tw_lt (l := l) hq (by omega)
   · rw [List.takeWhile_cons, if_neg hp] at h; simp at h
theorem tw_at {α : Type} {p : α → Bool} : ∀ {l : List α} (h : (l.takeWhile p).length < l.length), p l[(l.takeWhile p).length] = false
 | [], h => by simp at h
 | x :: l, h => by
   by_cases hp : p x = true
   · have e : ((x :: l).takeWhile p).length = (l.takeWhile p).length + 1 := by rw [List.takeWhile_cons, if_pos hp]; rfl
     have := tw_at (p := p) (l := l) (by rw [e] at h; simp at h; omega)
     simp only [e, List.getElem_cons_succ]
     exact this
   · have e : ((x :: l).takeWhile p).length = 0 := by rw [List.takeWhile_cons, if_neg hp]; rfl
     simp only [e, List.getElem_cons_zero]
     simpa using hp
theorem tw_le {α : Type} (p : α → Bool) (l : List α) : (l.takeWhile p).length ≤ l.length := (List.takeWhile_sublist _).length_le
def fidx (l : List Sc) (h : Int) : Option Nat := l.findIdx? fun x => decide (x.id = h)
theorem fidx_some {l : List Sc} {h : Int} {k : Nat} (e : fidx l h = some k) : ∃ hk : k < l.length, l[k].id = h := by
 unfold fidx at e
 rw [List.findIdx?_eq_some_iff_getElem] at e
 obtain ⟨h1, h2, _⟩ := e
 exact ⟨h1, by simpa using h2⟩
theorem fidx_of {l : List Sc} {h : Int} {k : Nat} (hk : k < l.length) (e : l[k].id = h) (hn : (l.map (·.id)).Pairwise (· < ·)) : fidx l h = some k := by
 unfold fidx
 rw [List.findIdx?_eq_some_iff_getElem]
 refine ⟨hk, by simpa using e, fun j hj => ?_⟩
 have := List.pairwise_iff_getElem.1 hn j k (by simp; omega) (by simpa using hk) hj
 simp at this ⊢
 omega
theorem Ok.incr {s : Ck} (h : Ok s) : (s.scs.map (·.id)).Pairwise (· < ·) := by
 have := (form_incr s.scs.length (Nat.le_refl _) h.form).1
 rwa [List.take_length] at this
def fndR (s : Ck) (e h : Int) : V := if e ≠ 0 then .tup [.int .i64 0, .int .i64 e] else match fidx s.scs h with
 | some k => .tup [.int .i64 k, .int .i64 0]
 | none => .tup [.int .i64 0, .int .i64 4]
end Go.Ck
namespace Go.Proofs
open Go Go.Pl Go.Ck
theorem Try.cmpS_c (x : Sc) (h : Int) (bx : Boxes) : PureCall Try.prog 75 [scV x, .int .i64 h] bx (.int .i64 (cmpI x.id h)) := by
 refine Try.ctr75 fun hf => ?_
 simp [go_sem, Try.C75, hf, scV]
 refine callK_pure (Try.cmp_c _ _ _) ?_
 simp [go_sem]
 exact ret_pure (by simp [go_sem]) (by simp [go_sem])
theorem cmpI_lt (a b : Int) : (cmpI a b < 0) = (a < b) := by
 unfold cmpI; split
 · simp_all
 · split <;> simp_all
theorem cmpI_eq (a b : Int) : (cmpI a b = 0) = (a = b) := by
 unfold cmpI; split
 · simp; omega
 · split
   · simp; omega
   · simp; omega
theorem Try.bsS_c (l : List Sc) (h : Int) (i : Nat) (hi : i ≤ l.length) (h1 : ∀ q (hq : q < l.length), q < i → l[q].id < h) (h2 : ∀ q (hq : q < l.length), i ≤ q → h ≤ l[q].id) (hl : l.length ≤ 1000000) (bx : Boxes) :
   PureCall Try.prog 74 [.sl 4 (l.map scV), .int .i64 h, .fn (.func 75) []] bx (.tup [.int .i64 i, .bool (match l[i]? with | some x => decide (x.id = h) | none => false)]) := by
 refine Try.ctr74 fun hb => ?_
 simp [go_sem, Try.C74, hb]
 refine pw_loop (ι := Nat × Nat) (fun p => p.1 ≤ i ∧ i ≤ p.2 ∧ p.2 ≤ l.length)
   (fun p => ⟨49, slk [(0, .sl 4 (l.map scV)), (1, .int .i64 h), (2, .fn (.func 75) []), (8, .int .i64 l.length), (9, .int .i64 p.1), (10, .int .i64 p.2)], bx⟩) (fun p => p.2 - p.1) (0, l.length) ⟨by simp, hi, by simp⟩ (cov_look (by simp [go_sem])) ?_
 rintro ⟨a, j⟩ ⟨g1, g2, g3⟩
 dsimp only at g1 g2 g3 ⊢
 by_cases hlt : a < j
 · obtain ⟨m, hmd⟩ : ∃ m, m = (a + j) / 2 := ⟨_, rfl⟩
   have hm : m < l.length := by omega
   have hmid : IntKind.i64.wrap ((IntKind.u64.wrap ((a : Int) + j)).fdiv 2) = (m : Int) := by
     rw [wru64 (by omega), Int.fdiv_eq_ediv_of_nonneg _ (by omega), wr64 (by omega)]; omega
   have hw1 : IntKind.i64.wrap ((a : Int) + j) = (a : Int) + j := wr64 (by omega)
   have hwm := wr_succ (k := m) (by omega)
   have cC := Try.cmpS_c l[m] h bx
   simp only [scV] at cC
   simp [go_sem, Try.L74_0, hlt, hb, hw1, hmid, hm, scV]
   refine callK_pure cC ?_
   simp [go_sem, cmpI_lt]
   refine ⟨fun h5 => ⟨(m + 1, j), ⟨?_, g2, g3⟩, cov_look (by simp [go_sem, hwm, scV]), by dsimp only; omega⟩, fun h5 => ⟨(a, m), ⟨g1, ?_, by dsimp only; omega⟩, cov_look (by simp [go_sem, scV]), by dsimp only; omega⟩⟩
   · dsimp only
     rcases Nat.lt_or_ge m i with h6 | h6
     · omega
     · have := h2 m hm h6; omega
   · dsimp only
     rcases Nat.lt_or_ge m i with h6 | h6
     · have := h1 m hm h6; omega
     · omega
 · obtain rfl : a = i := by omega
   simp [go_sem, Try.L74_0, hlt]
   by_cases h5 : a < l.length
   · have cC := Try.cmpS_c l[a] h bx
     simp only [scV] at cC
     simp [go_sem, h5, hb, scV]
     refine gK_pure cC (by simp) (by simp [go_sem]) ?_
     simp [go_sem, cmpI_eq]
     exact ret_pure (by simp [go_sem]) (by simp [go_sem, h5])
   · simp [go_sem, h5, hb]
     refine gK_off (.int .i64 0) (by simp [go_sem]) ?_
     simp [go_sem]
     exact ret_pure (by simp [go_sem]) (by simp [go_sem, h5])
theorem ord_lt (a b : Tm) : (ord a b < 0) ↔ a.at_ < b.at_ ∨ (a.at_ = b.at_ ∧ a.id < b.id) := by
 unfold ord
 split
 · simp; omega
 · split
   · simp; omega
   · split
     · simp; omega
     · split
       · simp; omega
       · simp; omega
theorem Try.bsT_c (l : List Tm) (t : Tm) (i : Nat) (hi : i ≤ l.length) (h1 : ∀ q (hq : q < l.length), q < i → ord l[q] t < 0) (h2 : ∀ q (hq : q < l.length), i ≤ q → ¬ ord l[q] t < 0) (hl : l.length ≤ 1000000) (bx : Boxes) :
   PureCall Try.prog 47 [.sl 4 (l.map tmV), tmV t, .fn (.func 36) []] bx (.tup [.int .i64 i, .bool (match l[i]? with | some x => decide (ord x t = 0) | none => false)]) := by
 refine Try.ctr47 fun hb => ?_
 have cO := fun q (hq : q < l.length) => Try.order_c l[q] t bx
 simp only [tmV] at cO ⊢
 simp [go_sem, Try.C47, hb]
 refine pw_loop (ι := Nat × Nat) (fun p => p.1 ≤ i ∧ i ≤ p.2 ∧ p.2 ≤ l.length)
   (fun p => ⟨49, slk [(0, .sl 4 (l.map tmV)), (2, .fn (.func 36) []), (4, .ep (tmV t) 0), (8, .int .i64 l.length), (9, .int .i64 p.1), (10, .int .i64 p.2)], bx⟩) (fun p => p.2 - p.1) (0, l.length) ⟨by simp, hi, by simp⟩ (cov_look (by simp [go_sem, tmV])) ?_
 rintro ⟨a, j⟩ ⟨g1, g2, g3⟩
 dsimp only at g1 g2 g3 ⊢
 by_cases hlt : a < j
 · obtain ⟨m, hmd⟩ : ∃ m, m = (a + j) / 2 := ⟨_, rfl⟩
   have hm : m < l.length := by omega
   have hmid : IntKind.i64.wrap ((IntKind.u64.wrap ((a : Int) + j)).fdiv 2) = (m : Int) := by
     rw [wru64 (by omega), Int.fdiv_eq_ediv_of_nonneg _ (by omega), wr64 (by omega)]; omega
   have hw1 : IntKind.i64.wrap ((a : Int) + j) = (a : Int) + j := wr64 (by omega)
   have hwm := wr_succ (k := m) (by omega)
   simp [go_sem, Try.L47_0, hlt, hb, hw1, hmid, hm, tmV]
   refine callK_pure (cO m hm) ?_
   simp [go_sem]
   refine ⟨fun h5 => ⟨(m + 1, j), ⟨?_, g2, g3⟩, cov_look (by simp [go_sem, hwm, tmV]), by dsimp only; omega⟩, fun h5 => ⟨(a, m), ⟨g1, ?_, by dsimp only; omega⟩, cov_look (by simp [go_sem, tmV]), by dsimp only; omega⟩⟩
   · dsimp only
     rcases Nat.lt_or_ge m i with h6 | h6
     · omega
     · exact absurd h5 (h2 m hm h6)
   · dsimp only
     rcases Nat.lt_or_ge m i with h6 | h6
     · have := h1 m hm h6; omega
     · omega
 · obtain rfl : a = i := by omega
   simp [go_sem, Try.L47_0, hlt]
   by_cases h5 : a < l.length
   · simp [go_sem, h5, hb, tmV]
     refine gK_pure (cO a h5) (by simp) (by simp [go_sem]) ?_
     simp [go_sem]
     exact ret_pure (by simp [go_sem]) (by simp [go_sem, h5])
   · simp [go_sem, h5, hb]
     refine gK_off (.int .i64 0) (by simp [go_sem]) ?_
     simp [go_sem]
     exact ret_pure (by simp [go_sem]) (by simp [go_sem, h5])
theorem Try.find_c (s : Ck) (e : Int) (he : Chk s e) (h : Int) (b : Nat) (bx : Boxes) (hb : bx b = some (.row 25 4 [ckV s])) : PureCall Try.prog 39 [.ptr b 4 0 0, .int .i64 h] bx (fndR s e h) := by
 refine Try.ctr39 fun hf => ?_
 have cC := Try.Check_c s e he bx
 simp only [ckV] at hb cC
 simp [go_sem, Try.C39, hf, hb]
 refine callK_pure cC ?_
 unfold fndR
 by_cases h0 : e = 0
 · subst h0
   have ho := he.ok
   have hin := ho.incr
   obtain ⟨i, hi⟩ : ∃ i, i = (s.scs.takeWhile fun x => decide (x.id < h)).length := ⟨_, rfl⟩
   have hle : i ≤ s.scs.length := by rw [hi]; exact tw_le _ _
   have h1 : ∀ q (hq : q < s.scs.length), q < i → s.scs[q].id < h := fun q hq hqi => by
     have := tw_lt (p := fun x : Sc => decide (x.id < h)) hq (by rw [← hi]; exact hqi)
     simpa using this
   have h2 : ∀ q (hq : q < s.scs.length), i ≤ q → h ≤ s.scs[q].id := fun q hq hqi => by
     have h3 := tw_at (p := fun x : Sc => decide (x.id < h)) (l := s.scs) (by omega)
     simp only [← hi, decide_eq_false_iff_not] at h3
     rcases Nat.lt_or_ge i q with h4 | h4
     · have := List.pairwise_iff_getElem.1 hin i q (by simp; omega) (by simpa using hq) h4
       simp at this
       omega
     · have : i = q := by omega
       subst this; omega
   simp [go_sem, hf, hb]
   refine callK_pure (Try.bsS_c s.scs h i hle h1 h2 (by have := ho.len; omega) _) ?_
   simp [go_sem]
   by_cases h5 : i < s.scs.length
   · by_cases h6 : s.scs[i].id = h
     · rw [fidx_of h5 h6 hin]
       simp [go_sem, h5, h6]
       exact ret_pure (by simp [go_sem]) (by simp [go_sem])
     · have : fidx s.scs h = none := by
         cases hx : fidx s.scs h with
         | none => rfl
         | some k =>
           obtain ⟨hk, hke⟩ := fidx_some hx
           exfalso
           rcases Nat.lt_trichotomy k i with h7 | h7 | h7
           · have := h1 k hk h7; omega
           · subst h7; exact h6 hke
           · have := List.pairwise_iff_getElem.1 hin i k (by simpa using h5) (by simpa using hk) h7
             have h8 := h2 i h5 (Nat.le_refl _)
             simp at this
             omega
       rw [this]
       simp [go_sem, h5, h6]
       exact ret_pure (by simp [go_sem]) (by simp [go_sem])
   · have : fidx s.scs h = none := by
       cases hx : fidx s.scs h with
       | none => rfl
       | some k =>
         obtain ⟨hk, hke⟩ := fidx_some hx
         have := h1 k hk (by omega)
         omega
     rw [this]
     simp [go_sem, h5]
     exact ret_pure (by simp [go_sem]) (by simp [go_sem])
 · simp [go_sem, hf, h0]
   exact ret_pure (by simp [go_sem]) (by simp [go_sem])
end Go.Proofs

set_option linter.unusedSimpArgs false
set_option linter.unusedVariables false
set_option maxRecDepth 100000
namespace Go.Ck
open Go Go.Pl
def due0 (s : Ck) : Int := match s.ts with | [] => 1000000000001 | t :: _ => t.at_
def dueK (s : Ck) (k : Nat) : Int := (s.scs.take k).foldl (fun d x => if x.why = 0 then min d x.dl else d) (due0 s)
def dueN (s : Ck) : Int := s.scs.foldl (fun d x => if x.why = 0 then min d x.dl else d) (due0 s)
def dueR (s : Ck) (e : Int) : V := if e ≠ 0 then .tup [.int .i64 0, .int .i64 e] else if dueN s = 1000000000001 then .tup [.int .i64 0, .int .i64 4] else .tup [.int .i64 (dueN s), .int .i64 0]
theorem imin (a b : Int) : (if b < a then b else a) = min a b := by rw [Int.min_def]; split <;> split <;> omega
theorem dueK_succ {s : Ck} {k : Nat} (h : k < s.scs.length) : dueK s (k + 1) = if s.scs[k].why = 0 then min (dueK s k) s.scs[k].dl else dueK s k := by
 unfold dueK
 rw [List.take_add_one, List.getElem?_eq_getElem h, List.foldl_append]; rfl
def whyR (s : Ck) (e h : Int) : V := if e ≠ 0 then .tup [.int .i64 0, .int .i64 e] else match fidx s.scs h with
 | some k => .tup [.int .i64 (s.scs.getD k default).why, .int .i64 0]
 | none => .tup [.int .i64 0, .int .i64 4]
def leftN (now : Int) (x : Sc) : Int := if x.why ≠ 0 then 0 else if x.dl = 1000000000001 then -1 else x.dl - now
def leftR (s : Ck) (e h : Int) : V := if e ≠ 0 then .tup [.int .i64 0, .int .i64 e] else match fidx s.scs h with
 | some k => .tup [.int .i64 (leftN s.now (s.scs.getD k default)), .int .i64 0]
 | none => .tup [.int .i64 0, .int .i64 4]
end Go.Ck
namespace Go.Proofs
open Go Go.Pl Go.Ck
theorem Try.Due_c (s : Ck) (e : Int) (he : Chk s e) (bx : Boxes) : PureCall Try.prog 15 [ckV s] bx (dueR s e) := by
 refine PureCall.wk (Try.ctr15 fun hf => ?_)
 have cC := Try.Check_c s e he bx
 simp only [ckV] at cC ⊢
 simp [go_sem, Try.C15, hf]
 refine callK_pure cC ?_
 unfold dueR
 by_cases h0 : e = 0
 · subst h0
   have ho := he.ok
   have hlen := ho.len
   have hkn : dueK s s.scs.length = dueN s := by unfold dueK dueN; rw [List.take_length]
   rcases hts : s.ts with _ | ⟨t, ts⟩
   all_goals
     have hk0 : due0 s = due0 s := rfl
     conv at hk0 => lhs; unfold due0; rw [hts]
     simp [go_sem, hf, tmV]
     refine pw_upto s.scs.length (fun k => ⟨40, slk [(5, .int .i64 (dueK s k)), (23, .sl 4 (s.scs.map scV)), (24, .int .i64 s.scs.length), (25, .int .i64 k)], bx⟩) (cov_look (by simp [go_sem, dueK, ← hk0])) (fun k hk N hN => ?_) fun N => ?_
     · have hw := wr_succ (k := k) (by omega)
       rw [dueK_succ hk] at hN
       simp [go_sem, Try.L15_0, hf, hk, scV]
       intro b7 hb7
       rw [upd_self hb7]
       refine ⟨fun h7 => ?_, fun h7 => ?_⟩
       · rw [if_pos h7] at hN
         exact hN _ (cov_look (by simp [go_sem, hw, scV, imin]))
       · rw [if_neg h7] at hN
         exact hN _ (cov_look (by simp [go_sem, hw, scV]))
     · simp [go_sem, Try.L15_0, hf, hkn]
       refine ⟨fun h7 => ?_, fun h7 => ?_⟩
       · exact ret_pure (by simp [go_sem]) ⟨by simp [go_sem, h7]; exact Wk.refl _, rfl⟩
       · exact ret_pure (by simp [go_sem]) ⟨by simp [go_sem, h7]; exact Wk.refl _, rfl⟩
 · simp [go_sem, hf, h0]
   exact ret_pure (by simp [go_sem]) ⟨by simp [go_sem]; exact Wk.refl _, rfl⟩
theorem Try.Why_c (s : Ck) (e h : Int) (he : Chk s e) (bx : Boxes) : PureCall Try.prog 19 [ckV s, .int .i64 h] bx (whyR s e h) := by
 refine PureCall.wk (Try.ctr19 fun hf => ?_)
 have cF := fun (b : Nat) (bx : Boxes) (hb : bx b = some (.row 25 4 [ckV s])) => Try.find_c s e he h b bx hb
 simp only [ckV] at cF ⊢
 simp [go_sem, Try.C19, hf]
 intro b1 hb1
 refine callK_pure (cF b1 _ (upd_eq _ _ _)) ?_
 unfold fndR whyR
 by_cases h0 : e = 0
 · subst h0
   cases hx : fidx s.scs h with
   | none =>
     simp [go_sem, hf]
     exact ret_drop (by simp [go_sem]) ((Ext.refl _).new hb1 _) ⟨by simp [go_sem]; exact Wk.refl _, rfl⟩
   | some k =>
     obtain ⟨hk, hke⟩ := fidx_some hx
     simp [go_sem, hf, upd_eq, hk, scV]
     exact ret_drop (by simp [go_sem]) ((Ext.refl _).new hb1 _) ⟨by simp [go_sem]; exact Wk.refl _, rfl⟩
 · simp [go_sem, hf, h0]
   exact ret_drop (by simp [go_sem]) ((Ext.refl _).new hb1 _) ⟨by simp [go_sem]; exact Wk.refl _, rfl⟩
theorem Try.Left_c (s : Ck) (e h : Int) (he : Chk s e) (bx : Boxes) : PureCall Try.prog 22 [ckV s, .int .i64 h] bx (leftR s e h) := by
 refine PureCall.wk (Try.ctr22 fun hf => ?_)
 have cF := fun (b : Nat) (bx : Boxes) (hb : bx b = some (.row 25 4 [ckV s])) => Try.find_c s e he h b bx hb
 simp only [ckV] at cF ⊢
 simp [go_sem, Try.C22, hf]
 intro b1 hb1
 refine callK_pure (cF b1 _ (upd_eq _ _ _)) ?_
 unfold fndR leftR
 by_cases h0 : e = 0
 · subst h0
   cases hx : fidx s.scs h with
   | none =>
     simp [go_sem, hf]
     exact ret_drop (by simp [go_sem]) ((Ext.refl _).new hb1 _) ⟨by simp [go_sem]; exact Wk.refl _, rfl⟩
   | some k =>
     obtain ⟨hk, hke⟩ := fidx_some hx
     have hr := (he.ok.rng.2.2.2 _ (List.getElem_mem hk)).2.1
     have hn := he.ok.rng.1
     have hw : IntKind.i64.wrap (s.scs[k].dl - s.now) = s.scs[k].dl - s.now := wr64 (by omega)
     by_cases h2 : s.scs[k].why = 0
     · by_cases h3 : s.scs[k].dl = 1000000000001
       · simp [go_sem, hf, upd_eq, hk, scV, h2, h3]
         exact ret_drop (by simp [go_sem]) ((Ext.refl _).new hb1 _) ⟨by simp [go_sem, leftN, h2, h3]; exact Wk.refl _, rfl⟩
       · simp [go_sem, hf, upd_eq, hk, scV, h2, h3, hw]
         exact ret_drop (by simp [go_sem]) ((Ext.refl _).new hb1 _) ⟨by simp [go_sem, leftN, h2, h3]; exact Wk.refl _, rfl⟩
     · simp [go_sem, hf, upd_eq, hk, scV, h2]
       exact ret_drop (by simp [go_sem]) ((Ext.refl _).new hb1 _) ⟨by simp [go_sem, leftN, h2]; exact Wk.refl _, rfl⟩
 · simp [go_sem, hf, h0]
   exact ret_drop (by simp [go_sem]) ((Ext.refl _).new hb1 _) ⟨by simp [go_sem]; exact Wk.refl _, rfl⟩
theorem Try.New_c (now : Int) (bx : Boxes) : PureCall Try.prog 27 [.int .i64 now] bx (if 0 ≤ now ∧ now ≤ 1000000000000 then .tup [ckV ⟨now, 1, [], []⟩, .int .i64 0] else .tup [ckV ⟨0, 0, [], []⟩, .int .i64 7]) := by
 refine PureCall.wk (Try.ctr27 fun hf => ?_)
 simp [go_sem, Try.C27, hf]
 intro b1 hb1
 refine callK_pure (Try.within_c _ _ _ _) ?_
 simp [go_sem, hf]
 have wN : ∀ a b : Int, ∀ k : Int, Wk (.tup [.agg [.int .i64 a, .int .i64 b, .nils, .nils], .int .i64 k]) (.tup [ckV ⟨a, b, [], []⟩, .int .i64 k]) := fun a b k =>
   wk_tup2 (wk_aggL rfl fun i c d hc hd => by
     rcases i with _ | _ | _ | _ | i
     · simp at hc hd; subst hc hd; exact Wk.refl _
     · simp at hc hd; subst hc hd; exact Wk.refl _
     · simp at hc hd; subst hc hd; exact wk_nils 4
     · simp at hc hd; subst hc hd; exact wk_nils 4
     · simp at hc) (Wk.refl _)
 refine ⟨fun h => ?_, fun h1 h2 => ?_⟩
 · refine ret_drop (by simp [go_sem]) ((Ext.refl _).new hb1 _) ⟨?_, rfl⟩
   rw [if_neg (by omega)]
   simp [go_sem]
   exact wN 0 0 7
 · refine ret_drop (by simp [go_sem]) ((Ext.refl _).new hb1 _) ⟨?_, rfl⟩
   rw [if_pos ⟨h1, h2⟩]
   simp [go_sem]
   exact wN now 1 0
theorem Try.CloneS_c {bx : Boxes} (l : List V) (hf : FinB bx) (h3 : l.length ≤ 100000) (h4 : ∀ x, x ∈ l → x.cells.length = 4) :
   AbsCall Try.prog 33 [.sl 4 l] bx fun r bx' => Acc bx 51 4 l r bx' := by
 refine Try.ctr33 fun hf => ?_
 simp [go_sem, Try.C33, hf]
 refine ⟨fun b hb => ?_, fun h0 => ?_⟩
 · refine acc_append (.agg #[.int .i64 0, .int .i64 0, .int .i64 0, .int .i64 0]) (acc_new hb hf _ 4 [] 0 rfl) (Ext.refl _) ((finB_upd _ _ _).2 hf) Try.knd23 Try.tsz51 (news := l) ?_ Try.tzero51 (by simp [go_sem]) (by decide) ?_ ?_ (by simp [go_sem]) fun v' bx3 ha => ?_
   · simp [srcEls]
   · simp [Try.tby51]; omega
   · simp; omega
   · simp only [List.nil_append] at ha
     simp [go_sem]
     refine ret_keep (by simp [go_sem, ha.live]) ?_
     simpa [go_sem, ha.strip] using ha
 · subst h0
   refine ret_keep (by simp [go_sem]) ?_
   simpa [go_sem] using acc_nil hf _ 4
theorem Try.CloneT_c {bx : Boxes} (l : List V) (hf : FinB bx) (h3 : l.length ≤ 100000) (h4 : ∀ x, x ∈ l → x.cells.length = 4) :
   AbsCall Try.prog 49 [.sl 4 l] bx fun r bx' => Acc bx 35 4 l r bx' := by
 refine Try.ctr49 fun hf => ?_
 simp [go_sem, Try.C49, hf]
 refine ⟨fun b hb => ?_, fun h0 => ?_⟩
 · refine acc_append (.agg #[.int .i64 0, .int .i64 0, .int .i64 0, .int .i64 0]) (acc_new hb hf _ 4 [] 0 rfl) (Ext.refl _) ((finB_upd _ _ _).2 hf) Try.knd22 Try.tsz35 (news := l) ?_ Try.tzero35 (by simp [go_sem]) (by decide) ?_ ?_ (by simp [go_sem]) fun v' bx3 ha => ?_
   · simp [srcEls]
   · simp [Try.tby35]; omega
   · simp; omega
   · simp only [List.nil_append] at ha
     simp [go_sem]
     refine ret_keep (by simp [go_sem, ha.live]) ?_
     simpa [go_sem, ha.strip] using ha
 · subst h0
   refine ret_keep (by simp [go_sem]) ?_
   simpa [go_sem] using acc_nil hf _ 4
end Go.Proofs

set_option linter.unusedSimpArgs false
set_option linter.unusedVariables false
set_option maxRecDepth 100000
namespace Go.Ck
open Go Go.Pl
def scpE (s : Ck) (e p d : Int) : Int := if e ≠ 0 then e else if d < 0 ∨ 1000000000001 < d then 7 else if p ≠ 0 ∧ fidx s.scs p = none then 4 else if s.scs.length = 500 ∨ s.next = 1000000000000000 then 5 else 0
def scp0 (s : Ck) (p d : Int) : Sc := if p = 0 then ⟨s.next, p, d, 0⟩ else match fidx s.scs p with
 | some k => ⟨s.next, p, min d (s.scs.getD k default).dl, (s.scs.getD k default).why⟩
 | none => ⟨s.next, p, d, 0⟩
def scpX (s : Ck) (p d : Int) : Sc := if (scp0 s p d).why = 0 ∧ (scp0 s p d).dl ≤ s.now then { scp0 s p d with why := 2 } else scp0 s p d
def scpS (s : Ck) (p d : Int) : Ck := { s with next := s.next + 1, scs := s.scs ++ [scpX s p d] }
def scpR (s : Ck) (e p d : Int) : V := if scpE s e p d = 0 then .tup [ckV (scpS s p d), .int .i64 s.next, .int .i64 0] else .tup [ckV s, .int .i64 0, .int .i64 (scpE s e p d)]
end Go.Ck
namespace Go.Pl
open Go
theorem callKx_bx {P : Program} {f : FuncId} {vs : List V} {o : Option Tmp} {K : St → Prop} {n : Nat} {sl : Nat → V} {bx : Boxes} (h : ∀ bxx, bxx = bx → callKx P f vs o K ⟨n, sl, bxx⟩) : callKx P f vs o K ⟨n, sl, bx⟩ := h bx rfl
theorem callK_bx {P : Program} {d : Bool} {f : FuncId} {vs : List V} {o : Option Tmp} {K : St → Prop} {n : Nat} {sl : Nat → V} {bx : Boxes} (h : ∀ bxx, bxx = bx → callK P d f vs o K ⟨n, sl, bxx⟩) : callK P d f vs o K ⟨n, sl, bx⟩ := h bx rfl
theorem acc_some {bx : Boxes} (hf : FinB bx) (e sz : Nat) (es : List V) : ∃ r bx', Acc bx e sz es r bx' := by
 obtain ⟨b, hb⟩ := fin_fresh hf
 exact ⟨_, _, acc_new hb hf e sz es es.length rfl⟩
end Go.Pl
namespace Go.Proofs
open Go Go.Pl Go.Ck
theorem Try.Scope_c (s : Ck) (e : Int) (he : Chk s e) (p d : Int) (bx : Boxes) : PureCall Try.prog 16 [ckV s, .int .i64 p, .int .i64 d] bx (scpR s e p d) := by
 refine PureCall.wk (Try.ctr16 fun hf => ?_)
 have cC := fun bx => Try.Check_c s e he bx
 have cF := fun (b : Nat) (bx : Boxes) (hb : bx b = some (.row 25 4 [ckV s])) => Try.find_c s e he p b bx hb
 simp only [ckV] at cC cF ⊢
 simp [go_sem, Try.C16, hf]
 intro b1 hb1 b2 hb2
 have n12 : b1 ≠ b2 := fun e => by rw [← e, upd_eq] at hb2; cases hb2
 have hb2' : bx b2 = none := by rw [upd_ne _ _ n12.symm] at hb2; exact hb2
 simp [go_sem, hf, upd_eq, upd_ne, n12, n12.symm]
 have hE : ∀ x y, Ext bx (upd (upd bx b1 x) b2 y) := fun x y => ((Ext.refl _).new hb1 _).new (by rw [upd_ne _ _ n12.symm]; exact hb2') _
 refine callK_pure (cC _) ?_
 have bad : ∀ k, scpE s e p d = k → k ≠ 0 → scpR s e p d = .tup [ckV s, .int .i64 0, .int .i64 k] := fun k h1 h2 => by unfold scpR; rw [h1, if_neg h2]
 by_cases h0 : e = 0
 · subst h0
   simp [go_sem, hf, upd_eq, upd_ne, n12, n12.symm]
   refine callK_pure (Try.within_c _ _ _ _) ?_
   simp [go_sem, hf, upd_eq, upd_ne, n12, n12.symm]
   refine ⟨fun h => ?_, fun hd1 hd2 b3 hb3 => ?_⟩
   · rw [bad 7 (by unfold scpE; rw [if_neg (by simp), if_pos h]) (by decide)]
     exact ret_drop (by simp [go_sem]) (hE _ _) ⟨by simp [go_sem, upd_eq]; exact Wk.refl _, rfl⟩
   have n13 : b1 ≠ b3 := fun e => by subst e; rw [upd_ne _ _ n12, upd_eq] at hb3; cases hb3
   have n23 : b2 ≠ b3 := fun e => by subst e; rw [upd_eq] at hb3; cases hb3
   have hb3' : bx b3 = none := by rw [upd_ne _ _ n23.symm, upd_ne _ _ n13.symm] at hb3; exact hb3
   have hE3 : ∀ x y z, Ext bx (upd (upd (upd bx b1 x) b2 y) b3 z) := fun x y z => (hE x y).new (by rw [upd_ne _ _ n23.symm, upd_ne _ _ n13.symm]; exact hb3') _
   refine ⟨fun hp => ?_, fun hp => ?_⟩
   · refine callK_pure (cF b1 _ (by simp [upd_eq, upd_ne, n12, n13])) ?_
     unfold fndR
     cases hx : fidx s.scs p with
     | none =>
       rw [bad 4 (by unfold scpE; rw [if_neg (by simp), if_neg (by omega), if_pos ⟨hp, hx⟩]) (by decide)]
       simp [go_sem, hf, upd_eq, upd_ne, n12, n12.symm, n13, n13.symm, n23, n23.symm]
       exact ret_drop (by simp [go_sem]) (by repeat first | exact Ext.refl _ | refine Ext.upd_own ?_ (by assumption) _) ⟨by simp [go_sem, upd_eq]; exact Wk.refl _, rfl⟩
     | some k =>
       obtain ⟨hk, hke⟩ := fidx_some hx
       have hx0 : scp0 s p d = ⟨s.next, p, min d s.scs[k].dl, s.scs[k].why⟩ := by simp [scp0, hp, hx, hk]
       have hEf : ∀ q, (s.scs.length = 500 ∨ s.next = 1000000000000000 → q = 5) → (¬ (s.scs.length = 500 ∨ s.next = 1000000000000000) → q = 0) → scpE s 0 p d = q := fun q q1 q2 => by
         unfold scpE
         rw [if_neg (by simp), if_neg (by omega), if_neg (by simp [hx])]
         split
         · exact (q1 ‹_›).symm
         · exact (q2 ‹_›).symm
       simp [go_sem, hf, upd_eq, upd_ne, n12, n12.symm, n13, n13.symm, n23, n23.symm, hk, scV, imin, fzAt, fzb]
       refine ⟨fun c => ?_, fun c1 c2 => ⟨fun c3 c4 => ?_, fun c => ?_⟩⟩
       · rw [bad 5 (hEf 5 (fun _ => rfl) fun h => absurd c (by omega)) (by decide)]
         exact ret_drop (by simp [go_sem]) (by repeat first | exact Ext.refl _ | refine Ext.upd_own ?_ (by assumption) _) ⟨by simp [go_sem, upd_eq]; exact Wk.refl _, rfl⟩
       · have hX : scpX s p d = ⟨s.next, p, min d s.scs[k].dl, 2⟩ := by unfold scpX; rw [hx0]; simp [c3, c4]
         have hN : scpE s 0 p d = 0 := hEf 0 (fun h => absurd h (by omega)) fun _ => rfl
         have hR : scpR s 0 p d = .tup [ckV (scpS s p d), .int .i64 s.next, .int .i64 0] := by unfold scpR; rw [if_pos hN]
         rw [hR]
         unfold scpS
         rw [hX]
         have hwn : IntKind.i64.wrap (s.next + 1) = s.next + 1 := wr64 (by have := he.ok.rng.2.1; omega)
         refine callKx_bx fun bxx hbx => ?_
         have x1 : bxx b1 = some (.row 25 4 [.agg [.int .i64 s.now, .int .i64 s.next, .sl 4 (s.ts.map tmV), .sl 4 (s.scs.map scV)]]) := by rw [hbx]; simp [upd_eq, upd_ne, n12, n12.symm, n13, n13.symm, n23, n23.symm]
         have x2 : bxx b2 = some (.row 25 4 [.agg [.int .i64 0, .int .i64 0, .nils, .nils]]) := by rw [hbx]; simp [upd_eq, upd_ne, n12, n12.symm, n13, n13.symm, n23, n23.symm]
         have hxe : Ext bx bxx := by rw [hbx]; exact (by repeat first | exact Ext.refl _ | refine Ext.upd_own ?_ (by assumption) _)
         have hxf : FinB bxx := by rw [hbx]; simp [go_sem, hf]
         clear hbx
         refine callKx_abs (Try.CloneS_c (bx := bxx) (s.scs.map scV) hxf (by have := he.ok.len; simp; omega) (by simp [scV, V.cells])) (acc_some hxf _ _ _) ?_
         intro r bx1 ha
         have y1 := (ha.ext b1 (by rw [x1]; simp)).trans x1
         have y2 := (ha.ext b2 (by rw [x2]; simp)).trans x2
         simp [go_sem, ha.live, ha.fin, n12, n12.symm]
         refine acc_append (.agg #[.int .i64 0, .int .i64 0, .int .i64 0, .int .i64 0]) ha (Ext.refl _) ha.fin Try.knd23 Try.tsz51 (by simp [srcEls]; rfl) Try.tzero51 (by simp [go_sem]) (by decide) (by have := he.ok.len; simp [Try.tby51]; omega) (by have := he.ok.len; simp; omega) (by simp [go_sem]) fun v' bx2 ha2 => ?_
         obtain ⟨b4, hb4, rfl, z4⟩ := ha2.row (by simp)
         have z1 := (ha2.ext b1 (by rw [x1]; simp)).trans x1
         have z2 := (ha2.ext b2 (by rw [x2]; simp)).trans x2
         have n14 : b1 ≠ b4 := fun e => by subst e; rw [x1] at hb4; cases hb4
         have n24 : b2 ≠ b4 := fun e => by subst e; rw [x2] at hb4; cases hb4
         simp [go_sem, z1, z2, z4, ha2.fin, n12, n12.symm, n14, n14.symm, n24, n24.symm, upd_eq, upd_ne, hwn]
         refine ⟨by simp [fzAt, fzb], ?_⟩
         have hb4' : bx b4 = none := hxe.none hb4
         have fo : ∀ x y, frz (upd (upd bx2 b1 x) b2 y) bx 1 (.own b4 4 0 (s.scs.length + 1)) = .sl 4 _ := fun x y => frz_own1 (bx := upd (upd bx2 b1 x) b2 y) (by simp [upd_ne, n14.symm, n24.symm]; exact z4) hb4' (by decide) (by simp)
         refine ret_frz 3 (by simp [go_sem]) (by repeat first | exact hxe.trans ha2.ext | refine Ext.upd_own ?_ (by assumption) _) ⟨?_, rfl⟩
         simp [go_sem, upd_eq]
         simp [fo, ckV, scV]
         exact Wk.refl _
       · have hX : scpX s p d = ⟨s.next, p, min d s.scs[k].dl, s.scs[k].why⟩ := by unfold scpX; rw [hx0]; rw [if_neg (fun h => absurd (c h.1) (by have := h.2; dsimp only at this; omega))]
         have hN : scpE s 0 p d = 0 := hEf 0 (fun h => absurd h (by omega)) fun _ => rfl
         have hR : scpR s 0 p d = .tup [ckV (scpS s p d), .int .i64 s.next, .int .i64 0] := by unfold scpR; rw [if_pos hN]
         rw [hR]
         unfold scpS
         rw [hX]
         have hwn : IntKind.i64.wrap (s.next + 1) = s.next + 1 := wr64 (by have := he.ok.rng.2.1; omega)
         refine callKx_bx fun bxx hbx => ?_
         have x1 : bxx b1 = some (.row 25 4 [.agg [.int .i64 s.now, .int .i64 s.next, .sl 4 (s.ts.map tmV), .sl 4 (s.scs.map scV)]]) := by rw [hbx]; simp [upd_eq, upd_ne, n12, n12.symm, n13, n13.symm, n23, n23.symm]
         have x2 : bxx b2 = some (.row 25 4 [.agg [.int .i64 0, .int .i64 0, .nils, .nils]]) := by rw [hbx]; simp [upd_eq, upd_ne, n12, n12.symm, n13, n13.symm, n23, n23.symm]
         have hxe : Ext bx bxx := by rw [hbx]; exact (by repeat first | exact Ext.refl _ | refine Ext.upd_own ?_ (by assumption) _)
         have hxf : FinB bxx := by rw [hbx]; simp [go_sem, hf]
         clear hbx
         refine callKx_abs (Try.CloneS_c (bx := bxx) (s.scs.map scV) hxf (by have := he.ok.len; simp; omega) (by simp [scV, V.cells])) (acc_some hxf _ _ _) ?_
         intro r bx1 ha
         have y1 := (ha.ext b1 (by rw [x1]; simp)).trans x1
         have y2 := (ha.ext b2 (by rw [x2]; simp)).trans x2
         simp [go_sem, ha.live, ha.fin, n12, n12.symm]
         refine acc_append (.agg #[.int .i64 0, .int .i64 0, .int .i64 0, .int .i64 0]) ha (Ext.refl _) ha.fin Try.knd23 Try.tsz51 (by simp [srcEls]; rfl) Try.tzero51 (by simp [go_sem]) (by decide) (by have := he.ok.len; simp [Try.tby51]; omega) (by have := he.ok.len; simp; omega) (by simp [go_sem]) fun v' bx2 ha2 => ?_
         obtain ⟨b4, hb4, rfl, z4⟩ := ha2.row (by simp)
         have z1 := (ha2.ext b1 (by rw [x1]; simp)).trans x1
         have z2 := (ha2.ext b2 (by rw [x2]; simp)).trans x2
         have n14 : b1 ≠ b4 := fun e => by subst e; rw [x1] at hb4; cases hb4
         have n24 : b2 ≠ b4 := fun e => by subst e; rw [x2] at hb4; cases hb4
         simp [go_sem, z1, z2, z4, ha2.fin, n12, n12.symm, n14, n14.symm, n24, n24.symm, upd_eq, upd_ne, hwn]
         refine ⟨by simp [fzAt, fzb], ?_⟩
         have hb4' : bx b4 = none := hxe.none hb4
         have fo : ∀ x y, frz (upd (upd bx2 b1 x) b2 y) bx 1 (.own b4 4 0 (s.scs.length + 1)) = .sl 4 _ := fun x y => frz_own1 (bx := upd (upd bx2 b1 x) b2 y) (by simp [upd_ne, n14.symm, n24.symm]; exact z4) hb4' (by decide) (by simp)
         refine ret_frz 3 (by simp [go_sem]) (by repeat first | exact hxe.trans ha2.ext | refine Ext.upd_own ?_ (by assumption) _) ⟨?_, rfl⟩
         simp [go_sem, upd_eq]
         simp [fo, ckV, scV]
         exact Wk.refl _
   · have hx0 : scp0 s p d = ⟨s.next, p, d, 0⟩ := by simp [scp0, hp]
     have hEf : ∀ q, (s.scs.length = 500 ∨ s.next = 1000000000000000 → q = 5) → (¬ (s.scs.length = 500 ∨ s.next = 1000000000000000) → q = 0) → scpE s 0 p d = q := fun q q1 q2 => by
       unfold scpE
       rw [if_neg (by simp), if_neg (by omega), if_neg (by simp [hp])]
       split
       · exact (q1 ‹_›).symm
       · exact (q2 ‹_›).symm
     simp [go_sem, hf, upd_eq, upd_ne, n12, n12.symm, n13, n13.symm, n23, n23.symm, scV, fzAt, fzb]
     refine ⟨fun c => ?_, fun c1 c2 => ⟨fun c4 => ?_, fun c => ?_⟩⟩
     · rw [bad 5 (hEf 5 (fun _ => rfl) fun h => absurd c (by omega)) (by decide)]
       exact ret_drop (by simp [go_sem]) (by repeat first | exact Ext.refl _ | refine Ext.upd_own ?_ (by assumption) _) ⟨by simp [go_sem, upd_eq]; exact Wk.refl _, rfl⟩
     · have hX : scpX s p d = ⟨s.next, p, d, 2⟩ := by unfold scpX; rw [hx0]; simp [c4]
       have hN : scpE s 0 p d = 0 := hEf 0 (fun h => absurd h (by omega)) fun _ => rfl
       have hR : scpR s 0 p d = .tup [ckV (scpS s p d), .int .i64 s.next, .int .i64 0] := by unfold scpR; rw [if_pos hN]
       rw [hR]
       unfold scpS
       rw [hX]
       have hwn : IntKind.i64.wrap (s.next + 1) = s.next + 1 := wr64 (by have := he.ok.rng.2.1; omega)
       refine callKx_bx fun bxx hbx => ?_
       have x1 : bxx b1 = some (.row 25 4 [.agg [.int .i64 s.now, .int .i64 s.next, .sl 4 (s.ts.map tmV), .sl 4 (s.scs.map scV)]]) := by rw [hbx]; simp [upd_eq, upd_ne, n12, n12.symm, n13, n13.symm, n23, n23.symm]
       have x2 : bxx b2 = some (.row 25 4 [.agg [.int .i64 0, .int .i64 0, .nils, .nils]]) := by rw [hbx]; simp [upd_eq, upd_ne, n12, n12.symm, n13, n13.symm, n23, n23.symm]
       have hxe : Ext bx bxx := by rw [hbx]; exact (by repeat first | exact Ext.refl _ | refine Ext.upd_own ?_ (by assumption) _)
       have hxf : FinB bxx := by rw [hbx]; simp [go_sem, hf]
       clear hbx
       refine callKx_abs (Try.CloneS_c (bx := bxx) (s.scs.map scV) hxf (by have := he.ok.len; simp; omega) (by simp [scV, V.cells])) (acc_some hxf _ _ _) ?_
       intro r bx1 ha
       have y1 := (ha.ext b1 (by rw [x1]; simp)).trans x1
       have y2 := (ha.ext b2 (by rw [x2]; simp)).trans x2
       simp [go_sem, ha.live, ha.fin, n12, n12.symm]
       refine acc_append (.agg #[.int .i64 0, .int .i64 0, .int .i64 0, .int .i64 0]) ha (Ext.refl _) ha.fin Try.knd23 Try.tsz51 (by simp [srcEls]; rfl) Try.tzero51 (by simp [go_sem]) (by decide) (by have := he.ok.len; simp [Try.tby51]; omega) (by have := he.ok.len; simp; omega) (by simp [go_sem]) fun v' bx2 ha2 => ?_
       obtain ⟨b4, hb4, rfl, z4⟩ := ha2.row (by simp)
       have z1 := (ha2.ext b1 (by rw [x1]; simp)).trans x1
       have z2 := (ha2.ext b2 (by rw [x2]; simp)).trans x2
       have n14 : b1 ≠ b4 := fun e => by subst e; rw [x1] at hb4; cases hb4
       have n24 : b2 ≠ b4 := fun e => by subst e; rw [x2] at hb4; cases hb4
       simp [go_sem, z1, z2, z4, ha2.fin, n12, n12.symm, n14, n14.symm, n24, n24.symm, upd_eq, upd_ne, hwn]
       refine ⟨by simp [fzAt, fzb], ?_⟩
       have hb4' : bx b4 = none := hxe.none hb4
       have fo : ∀ x y, frz (upd (upd bx2 b1 x) b2 y) bx 1 (.own b4 4 0 (s.scs.length + 1)) = .sl 4 _ := fun x y => frz_own1 (bx := upd (upd bx2 b1 x) b2 y) (by simp [upd_ne, n14.symm, n24.symm]; exact z4) hb4' (by decide) (by simp)
       refine ret_frz 3 (by simp [go_sem]) (by repeat first | exact hxe.trans ha2.ext | refine Ext.upd_own ?_ (by assumption) _) ⟨?_, rfl⟩
       simp [go_sem, upd_eq]
       simp [fo, ckV, scV]
       exact Wk.refl _
     · have hX : scpX s p d = ⟨s.next, p, d, 0⟩ := by unfold scpX; rw [hx0]; rw [if_neg (fun h => by have := h.2; dsimp only at this; omega)]
       have hN : scpE s 0 p d = 0 := hEf 0 (fun h => absurd h (by omega)) fun _ => rfl
       have hR : scpR s 0 p d = .tup [ckV (scpS s p d), .int .i64 s.next, .int .i64 0] := by unfold scpR; rw [if_pos hN]
       rw [hR]
       unfold scpS
       rw [hX]
       have hwn : IntKind.i64.wrap (s.next + 1) = s.next + 1 := wr64 (by have := he.ok.rng.2.1; omega)
       refine callKx_bx fun bxx hbx => ?_
       have x1 : bxx b1 = some (.row 25 4 [.agg [.int .i64 s.now, .int .i64 s.next, .sl 4 (s.ts.map tmV), .sl 4 (s.scs.map scV)]]) := by rw [hbx]; simp [upd_eq, upd_ne, n12, n12.symm, n13, n13.symm, n23, n23.symm]
       have x2 : bxx b2 = some (.row 25 4 [.agg [.int .i64 0, .int .i64 0, .nils, .nils]]) := by rw [hbx]; simp [upd_eq, upd_ne, n12, n12.symm, n13, n13.symm, n23, n23.symm]
       have hxe : Ext bx bxx := by rw [hbx]; exact (by repeat first | exact Ext.refl _ | refine Ext.upd_own ?_ (by assumption) _)
       have hxf : FinB bxx := by rw [hbx]; simp [go_sem, hf]
       clear hbx
       refine callKx_abs (Try.CloneS_c (bx := bxx) (s.scs.map scV) hxf (by have := he.ok.len; simp; omega) (by simp [scV, V.cells])) (acc_some hxf _ _ _) ?_
       intro r bx1 ha
       have y1 := (ha.ext b1 (by rw [x1]; simp)).trans x1
       have y2 := (ha.ext b2 (by rw [x2]; simp)).trans x2
       simp [go_sem, ha.live, ha.fin, n12, n12.symm]
       refine acc_append (.agg #[.int .i64 0, .int .i64 0, .int .i64 0, .int .i64 0]) ha (Ext.refl _) ha.fin Try.knd23 Try.tsz51 (by simp [srcEls]; rfl) Try.tzero51 (by simp [go_sem]) (by decide) (by have := he.ok.len; simp [Try.tby51]; omega) (by have := he.ok.len; simp; omega) (by simp [go_sem]) fun v' bx2 ha2 => ?_
       obtain ⟨b4, hb4, rfl, z4⟩ := ha2.row (by simp)
       have z1 := (ha2.ext b1 (by rw [x1]; simp)).trans x1
       have z2 := (ha2.ext b2 (by rw [x2]; simp)).trans x2
       have n14 : b1 ≠ b4 := fun e => by subst e; rw [x1] at hb4; cases hb4
       have n24 : b2 ≠ b4 := fun e => by subst e; rw [x2] at hb4; cases hb4
       simp [go_sem, z1, z2, z4, ha2.fin, n12, n12.symm, n14, n14.symm, n24, n24.symm, upd_eq, upd_ne, hwn]
       refine ⟨by simp [fzAt, fzb], ?_⟩
       have hb4' : bx b4 = none := hxe.none hb4
       have fo : ∀ x y, frz (upd (upd bx2 b1 x) b2 y) bx 1 (.own b4 4 0 (s.scs.length + 1)) = .sl 4 _ := fun x y => frz_own1 (bx := upd (upd bx2 b1 x) b2 y) (by simp [upd_ne, n14.symm, n24.symm]; exact z4) hb4' (by decide) (by simp)
       refine ret_frz 3 (by simp [go_sem]) (by repeat first | exact hxe.trans ha2.ext | refine Ext.upd_own ?_ (by assumption) _) ⟨?_, rfl⟩
       simp [go_sem, upd_eq]
       simp [fo, ckV, scV]
       exact Wk.refl _
 · rw [bad e (by unfold scpE; rw [if_pos h0]) h0]
   simp [go_sem, hf, h0, upd_eq, upd_ne, n12, n12.symm]
   exact ret_drop (by simp [go_sem]) (hE _ _) ⟨by simp [go_sem, upd_eq]; exact Wk.refl _, rfl⟩
end Go.Proofs

set_option linter.unusedSimpArgs false
set_option linter.unusedVariables false
namespace Go.Proofs
open Go Go.Pl Go.Lib Go.RowKit Go.Shelf
theorem Try.uT : Try.prog.underlying 22 = some (.slice 35) := by kernel_rfl
theorem Try.uI : Try.prog.underlying 3 = some (.int .i64) := by kernel_rfl
theorem Try.sE : (Try.prog.info? 35).map (·.size) = some 4 := by kernel_rfl
set_option maxHeartbeats 4000000 in
set_option maxRecDepth 100000 in
theorem Try.ins_room (w : World) (b n c i : Nat) (cur : Array Value) (ty : TypeId) (a : Addr) (vc : Nat) (vs : List Value) (hg : w.heap[b]? = some (.cells cur ty (0, 0))) (hi : i < n) (hroom : n + 1 ≤ c) (hc63 : c ≤ 9223372036854775807) (hcap : c * 4 ≤ cur.size)
   (hvb : a.block ≠ b) (hvl : vs.length = 4) (hvs : ∀ j v, vs[j]? = some v → w.cell? (a.add j) = some v) (h1v : ∀ v ∈ vs, v.oneCell' = true) (h1c : ∀ j, j < n * 4 → (cur.getD j undef).oneCell' = true) :
   Calls Try.prog 48 #[.slice (some ⟨b, 0, none⟩) n c, .int .i64 i, .slice (some a) 1 vc] w fun e w' =>
     e = .returned (.slice (some ⟨b, 0, none⟩) (n + 1) c) ∧ w' = w.drew.setRow b (cur.toList.take (i * 4) ++ vs ++ (cur.toList.drop (i * 4)).take ((n - i) * 4) ++ cur.toList.drop ((n + 1) * 4)).toArray := by
 have uT := run_underlying Try.uT
 have uI := run_underlying Try.uI
 have hsz : ∀ w, (Go.sizeOf 35).run Try.prog w = .ok 4 w := fun w => by
   have := Try.sE
   cases h : Try.prog.info? 35 with
   | none => rw [h] at this; cases this
   | some x => rw [h] at this; simp at this; simp [Go.sizeOf, typeInfo, h, this]
 have mixed : Try.prog.follows .mixedOrders = true := by kernel_rfl
 have hz2 : ¬ ((i : Int) = (n : Int)) := by omega
 have hz3 : ¬ ((c : Int) < (n : Int) + 1) := by omega
 have hb0 : w.drew.heap[b]? = some (.cells cur ty (0, 0)) := hg
 have hsa : w.shape? a.block ≠ none ∧ ∀ ty k, w.shape? a.block = some (ty, k) → k ≠ 0 := by
   have h0 := hvs 0 _ (List.getElem?_eq_getElem (by omega))
   simp only [World.cell?, World.shape?, Addr.add] at h0 ⊢
   cases hh : w.heap[a.block]? with
   | none => simp [hh] at h0
   | some o =>
     cases o with
     | cells cc tt mm =>
       simp [hh] at h0 ⊢
       intro e
       rw [e] at h0; simp at h0
     | _ => simp [hh] at h0
 obtain ⟨⟨tA, kA⟩, hsA⟩ := Option.ne_none_iff_exists'.1 hsa.1
 have hkA := hsa.2 tA kA hsA
 have hov : ∀ o lb cb, (callFunc 77 #[.slice (some a) 1 vc, .slice (some ⟨b, o, none⟩) lb cb]).run Try.prog w = .ok (.value (.bool false)) w := fun o lb cb => by
   rw [run_callFunc_extern Try.func77 (by kernel_rfl) (by kernel_rfl) (by kernel_rfl) (e := Extern.SlicesOverlaps.overlaps #[22, 22] #[4]) (by kernel_rfl),
     run_overlaps_row w 22 4 35 Try.uT 4 hsz a b o 1 vc lb cb hvb tA kA hsA hkA cur ty hg (by omega)]
   rfl
 obtain ⟨mv, hmv⟩ : ∃ mv, mv = (cur.toList.drop (i * 4)).take ((n - i) * 4) := ⟨_, rfl⟩
 have hml : mv.length = (n - i) * 4 := by rw [hmv]; simp; omega
 have hmc : ∀ j v, mv[j]? = some v → w.cell? ⟨b, i * 4 + j, none⟩ = some v := fun j v hj => by
   rw [hmv, List.getElem?_take] at hj
   split at hj
   · rw [List.getElem?_drop] at hj
     rw [cell_of_row w b _ cur ty (0, 0) hg]
     simpa using hj
   · cases hj
 have hm1 : ∀ v ∈ mv, v.oneCell' = true := fun v hv => by
   obtain ⟨j, hj, rfl⟩ := List.getElem_of_mem hv
   have h2 := h1c (i * 4 + j) (by omega)
   have h3 := hmc j _ (List.getElem?_eq_getElem hj)
   rw [cell_of_row w b _ cur ty (0, 0) hg] at h3
   rw [Array.getD_eq_getD_getElem?, h3] at h2
   exact h2
 obtain ⟨row1, hrow1⟩ : ∃ row1, row1 = (cur.toList.take ((i + 1) * 4) ++ mv ++ cur.toList.drop ((i + 1) * 4 + mv.length)).toArray := ⟨_, rfl⟩
 have hr1 : row1.size = cur.size := by rw [hrow1]; simp; omega
 have hcp1 : ∀ ty' dc sc, (Builtin.copy_ #[22, 22] ty' #[.slice (some ⟨b, (i + 1) * 4, none⟩) (n - i) dc, .slice (some ⟨b, i * 4, none⟩) (n + 1 - i) sc]).run Try.prog w.drew = .ok (goInt (Nat.min (n + 1 - i) (n - i))) (w.drew.setRow b row1) := fun ty' dc sc => by
   rw [hrow1]
   refine run_copy_rowN w.drew _ _ ty' 4 Try.uT Try.sE b ((i + 1) * 4) _ dc ⟨b, i * 4, none⟩ _ sc cur ty mv hb0 ?_ (fun j v hj => ?_) (by omega) hm1
   · rw [hml]; simp only [Nat.min_def]; split <;> omega
   · rw [Addr.add_lit]; exact hmc j v hj
 have hW1 : (w.drew.setRow b row1).heap[b]? = some (.cells row1 ty (0, 0)) := setRow_heap w.drew b cur _ ty _ hb0
 obtain ⟨row2, hrow2⟩ : ∃ row2, row2 = (row1.toList.take (i * 4) ++ vs ++ row1.toList.drop (i * 4 + vs.length)).toArray := ⟨_, rfl⟩
 have hcp2 : ∀ ty' dc, (Builtin.copy_ #[22, 22] ty' #[.slice (some ⟨b, i * 4, none⟩) (n + 1 - i) dc, .slice (some a) 1 vc]).run Try.prog (w.drew.setRow b row1) = .ok (goInt (Nat.min 1 (n + 1 - i))) ((w.drew.setRow b row1).setRow b row2) := fun ty' dc => by
   rw [hrow2]
   refine run_copy_rowN _ _ _ ty' 4 Try.uT Try.sE b (i * 4) _ dc a _ vc row1 ty vs hW1 ?_ (fun j v hj => ?_) (by omega) h1v
   · rw [hvl]; simp only [Nat.min_def]; split <;> omega
   · have := hvs j v hj
     rw [World.cell?_of_block (w := w) (by rw [show (a.add j).block = a.block from by unfold Addr.add; split <;> rfl]; exact setRow_other w.drew b a.block _ hvb)]
     exact this
 have X : Aside ((w.drew.setRow b row1).setRow b row2 = w.drew.setRow b (cur.toList.take (i * 4) ++ vs ++ (cur.toList.drop (i * 4)).take ((n - i) * 4) ++ cur.toList.drop ((n + 1) * 4)).toArray) := by
   show _ = _
   rw [setRow_setRow, hrow2, hrow1]
   have hL : (i + 1) * 4 ≤ cur.toList.length := by simp; omega
   have e0 : (List.take ((i + 1) * 4) cur.toList).length = (i + 1) * 4 := by rw [List.length_take]; omega
   have e1 : List.take (i * 4) ((List.take ((i + 1) * 4) cur.toList ++ mv ++ List.drop ((i + 1) * 4 + mv.length) cur.toList).toArray.toList) = List.take (i * 4) cur.toList := by
     rw [List.append_assoc, List.take_append_of_le_length (by rw [e0]; omega), List.take_take, Nat.min_eq_left (by omega)]
   have e2 : List.drop (i * 4 + vs.length) ((List.take ((i + 1) * 4) cur.toList ++ mv ++ List.drop ((i + 1) * 4 + mv.length) cur.toList).toArray.toList) = mv ++ List.drop ((n + 1) * 4) cur.toList := by
     rw [hvl, List.append_assoc, show i * 4 + 4 = (List.take ((i + 1) * 4) cur.toList).length by rw [e0]; omega, List.drop_left, hml, show (i + 1) * 4 + (n - i) * 4 = (n + 1) * 4 by omega]
   rw [e1, e2, hmv]
   simp only [List.append_assoc]
 clear hrow1 hrow2 hmv hcap hr1 hml hm1 hmc
 have hb2 : ¬ (c = i + 1) := by omega
 have hb4 : ¬ (c = i) := by omega
 have hw1 : IntKind.i64.wrap ((i : Int) + 1) = (i : Int) + 1 := by rw [IntKind.wrap_i64]; omega
 have hw2 : IntKind.i64.wrap ((n : Int) + 1) = (n : Int) + 1 := by rw [IntKind.wrap_i64]; omega
 have htn : ((i : Int) + 1).toNat = i + 1 := by omega
 have hb1 : (0 : Int) ≤ (i : Int) + 1 := by omega
 have hb3 : (i : Int) ≤ (n : Int) + 1 := by omega
 have hb5 : (i : Int) ≤ (n : Int) := by omega
 go_enter Try.func48, Try.ntmps48
 go_wp2_with (simp only [hov])
 go_region_law_o (refine step_copy_runI rfl _ _ 22 22 rfl _ _ (by simp [Act.eval, Act.put]) (by simp [Act.eval, Act.put]) (hcp1 _ _ _) ?_)
 go_wp2_with (at_builtin; refine wpList_copy_runI _ rfl _ _ 22 22 rfl _ _ rfl rfl (hcp2 _ _) ?_)
 go_ret
 exact ⟨rfl, X.out⟩
theorem alloc_setRow (w : World) (r r' : Array Value) (t : TypeId) : (w.alloc (.cells r t)).setRow w.heap.size r' = w.alloc (.cells r' t) := by
 unfold World.setRow World.alloc
 simp only [World.mk.injEq, and_true, true_and]
 congr 1
 apply Array.ext
 · simp
 · intro i h1 h2
   simp only [Array.getElem_modify]
   by_cases e : w.heap.size = i
   · subst e; simp
   · simp at h1
     rw [if_neg e, Array.getElem_push_lt (by omega), Array.getElem_push_lt (by omega)]
set_option maxHeartbeats 4000000 in
set_option maxRecDepth 100000 in
theorem Try.ins_grow (w : World) (b n i : Nat) (cur : Array Value) (ty : TypeId) (a : Addr) (vc : Nat) (vs : List Value) (hg : w.heap[b]? = some (.cells cur ty (0, 0))) (hi : i < n) (hc63 : n ≤ 1000000) (hcap : n * 4 ≤ cur.size)
   (hvl : vs.length = 4) (hvs : ∀ j v, vs[j]? = some v → w.cell? (a.add j) = some v) (h1v : ∀ v ∈ vs, v.oneCell' = true) (h1c : ∀ j, j < n * 4 → (cur.getD j undef).oneCell' = true) :
   Calls Try.prog 48 #[.slice (some ⟨b, 0, none⟩) n n, .int .i64 i, .slice (some a) 1 vc] w fun e w' =>
     ∃ G cur', e = .returned (.slice (some ⟨w.heap.size, 0, none⟩) (n + 1) G) ∧ n + 1 ≤ G ∧ G ≤ maxLen ∧ w' = (w.alloc (.cells cur' 35)).drew.drew ∧ cur'.size = G * 4 ∧ cur'.toList.take ((n + 1) * 4) = cur.toList.take (i * 4) ++ vs ++ (cur.toList.drop (i * 4)).take ((n - i) * 4) := by
 have uT := run_underlying Try.uT
 have uI := run_underlying Try.uI
 obtain ⟨i0, hi0, hs0, hb0, z, hz0, hzs⟩ : ∃ i0, Try.prog.info? 35 = some i0 ∧ i0.size = 4 ∧ i0.bytes = 32 ∧ ∃ z, i0.zero = some z ∧ z.cells.size = 4 := by
   refine ⟨(Try.prog.info? 35).get (by kernel_rfl), by kernel_rfl, by kernel_rfl, by kernel_rfl, ((Try.prog.info? 35).get (by kernel_rfl)).zero.get (by kernel_rfl), by kernel_rfl, by kernel_rfl⟩
 have hsz : ∀ w, (Go.sizeOf 35).run Try.prog w = .ok 4 w := fun w => by simp [Go.sizeOf, typeInfo, hi0, hs0]
 have mixed : Try.prog.follows .mixedOrders = true := by kernel_rfl
 have hz2 : ¬ ((i : Int) = (n : Int)) := by omega
 have hz3 : ((n : Int) < (n : Int) + 1) := by omega
 have hbw : b < w.heap.size := (Array.getElem?_eq_some_iff.1 hg).1
 have hvw : a.block < w.heap.size := by
   have h0 := hvs 0 _ (List.getElem?_eq_getElem (by omega))
   have := block_lt_of_cell h0
   rwa [show (a.add 0).block = a.block from by unfold Addr.add; split <;> rfl] at this
 have hcell : ∀ j v, cur.toList[j]? = some v → w.cell? ⟨b, j, none⟩ = some v := fun j v hj => by
   rw [cell_of_row w b _ cur ty (0, 0) hg]; simpa using hj
 have hold : (Builtin.firstCells i0.size i (.slice (some ⟨b, 0, none⟩) i n)).run Try.prog w.drew = .ok (cur.toList.take (i * 4)).toArray w.drew := by
   rw [hs0]
   exact run_firstCells_some w.drew 4 i ⟨b, 0, none⟩ i n (cur.toList.take (i * 4)) (by rw [List.length_take]; simp; omega) (fun j v hj => by
     rw [Addr.add_lit, Nat.zero_add]
     rw [List.getElem?_take] at hj
     split at hj
     · exact hcell j v hj
     · cases hj)
 have hkk : (n : Int) + 1 - (i : Int) = ((n + 1 - i : Nat) : Int) := by omega
 have hik : i + (n + 1 - i) = n + 1 := by omega
 have hrz : ∀ ty', (Builtin.append_ #[22, 3] ty' #[.slice (some ⟨b, 0, none⟩) i n, .int .i64 ((n : Int) + 1 - (i : Int))]).run Try.prog w =
     .ok (.slice (some ⟨w.heap.size, 0, none⟩) (n + 1) (grownCap w (n + 1) n 35)) (w.drew.alloc (.cells ((cur.toList.take (i * 4)).toArray ++ Builtin.zeroCells z.cells (n + 1 - i) ++ Builtin.zeroCells z.cells (grownCap w (n + 1) n 35 - (n + 1))) 35)) := fun ty' => by
   have h := Lib.run_append_grow_zeros w 22 3 ty' 35 i0 z .i64 .i64 Try.uT Try.uI hi0 hz0 (some ⟨b, 0, none⟩) i n (cur.toList.take (i * 4)) hold (n + 1 - i) (by omega) (by omega) (by omega) (by omega) (by rw [hb0]; omega) (by rw [hb0, hik]; exact growslice_fits (by omega) (by omega))
   rw [hik] at h
   rw [hkk]
   exact h
 obtain ⟨G, hG⟩ : ∃ G, G = grownCap w (n + 1) n 35 := ⟨_, rfl⟩
 obtain ⟨ROW, hROW⟩ : ∃ ROW : Array Value, ROW = (cur.toList.take (i * 4)).toArray ++ Builtin.zeroCells z.cells (n + 1 - i) ++ Builtin.zeroCells z.cells (G - (n + 1)) := ⟨_, rfl⟩
 rw [← hG] at hrz
 rw [← hROW] at hrz
 have hGn : n + 1 ≤ G := by rw [hG]; exact grownCap_ge w _ _ _
 have hGm : G ≤ maxLen := by rw [hG]; exact grownCap_le_maxLen w (n + 1) n _ (by unfold maxLen; omega)
 have hG63 : G ≤ 9223372036854775807 := by unfold maxLen at hGm; omega
 have hRs : ROW.size = G * 4 := by
   rw [hROW]
   simp only [Array.size_append, List.size_toArray, size_zeroCells, hzs, List.length_take, Array.length_toList]
   omega
 have hW1 : (w.drew.alloc (.cells ROW 35)).heap[w.heap.size]? = some (.cells ROW 35 (0, 0)) := heap_alloc_new w.drew _
 obtain ⟨row1, hrow1⟩ : ∃ row1, row1 = (ROW.toList.take (i * 4) ++ vs ++ ROW.toList.drop (i * 4 + vs.length)).toArray := ⟨_, rfl⟩
 have hr1 : row1.size = G * 4 := by rw [hrow1]; simp; omega
 have hOv : ∀ (W : World), W.heap = (w.drew.alloc (.cells ROW 35)).heap → ∀ x : Addr, x.block < w.heap.size → W.cell? x = w.cell? x := fun W hW x hx => by
   refine World.cell?_of_block (w := w) ?_
   rw [hW]
   exact heap_alloc_old w.drew _ hx
 have hcpA : ∀ (W : World), W.heap = (w.drew.alloc (.cells ROW 35)).heap → ∀ ty' dc, (Builtin.copy_ #[22, 22] ty' #[.slice (some ⟨w.heap.size, i * 4, none⟩) (n + 1 - i) dc, .slice (some a) 1 vc]).run Try.prog W = .ok (goInt (Nat.min 1 (n + 1 - i))) (W.setRow w.heap.size row1) := fun W hW ty' dc => by
   rw [hrow1]
   refine run_copy_rowN W _ _ ty' 4 Try.uT Try.sE w.heap.size (i * 4) _ dc a _ vc ROW 35 vs (by rw [hW]; exact hW1) ?_ (fun j v hj => ?_) (by omega) h1v
   · rw [hvl]; simp only [Nat.min_def]; split <;> omega
   · rw [hOv W hW _ (by rw [show (a.add j).block = a.block from by unfold Addr.add; split <;> rfl]; omega)]
     exact hvs j v hj
 obtain ⟨mv, hmv⟩ : ∃ mv, mv = (cur.toList.drop (i * 4)).take ((n - i) * 4) := ⟨_, rfl⟩
 have hml : mv.length = (n - i) * 4 := by rw [hmv]; simp; omega
 have hmc : ∀ j v, mv[j]? = some v → w.cell? ⟨b, i * 4 + j, none⟩ = some v := fun j v hj => by
   rw [hmv, List.getElem?_take] at hj
   split at hj
   · rw [List.getElem?_drop] at hj
     exact hcell _ v hj
   · cases hj
 have hm1 : ∀ v ∈ mv, v.oneCell' = true := fun v hv => by
   obtain ⟨j, hj, rfl⟩ := List.getElem_of_mem hv
   have h2 := h1c (i * 4 + j) (by omega)
   have h3 := hmc j _ (List.getElem?_eq_getElem hj)
   rw [cell_of_row w b _ cur ty (0, 0) hg] at h3
   rw [Array.getD_eq_getD_getElem?, h3] at h2
   exact h2
 obtain ⟨row2, hrow2⟩ : ∃ row2, row2 = (row1.toList.take ((i + 1) * 4) ++ mv ++ row1.toList.drop ((i + 1) * 4 + mv.length)).toArray := ⟨_, rfl⟩
 have hr2 : row2.size = G * 4 := by rw [hrow2]; simp; omega
 have hcpB : ∀ (W W0 : World), W0.heap = (w.drew.alloc (.cells ROW 35)).heap → W.heap = (W0.setRow w.heap.size row1).heap → ∀ ty' dc sc, (Builtin.copy_ #[22, 22] ty' #[.slice (some ⟨w.heap.size, (i + 1) * 4, none⟩) (n - i) dc, .slice (some ⟨b, i * 4, none⟩) (n - i) sc]).run Try.prog W = .ok (goInt (Nat.min (n - i) (n - i))) (W.setRow w.heap.size row2) := fun W W0 hW0 hW ty' dc sc => by
   rw [hrow2]
   refine run_copy_rowN W _ _ ty' 4 Try.uT Try.sE w.heap.size ((i + 1) * 4) _ dc ⟨b, i * 4, none⟩ _ sc row1 35 mv (by rw [hW]; exact setRow_heap W0 w.heap.size ROW _ _ _ (by rw [hW0]; exact hW1)) ?_ (fun j v hj => ?_) (by omega) hm1
   · rw [hml]; simp only [Nat.min_def]; split <;> omega
   · rw [Addr.add_lit]
     rw [World.cell?_of_block (w := w) (show W.heap[b]? = w.heap[b]? by rw [hW, setRow_other W0 w.heap.size b _ (by omega), hW0]; exact heap_alloc_old w.drew _ hbw)]
     exact hmc j v hj
 have X : Aside (row2.toList.take ((n + 1) * 4) = cur.toList.take (i * 4) ++ vs ++ (cur.toList.drop (i * 4)).take ((n - i) * 4)) := by
   show _ = _
   have t1 : (List.take (i * 4) cur.toList).length = i * 4 := by rw [List.length_take]; simp; omega
   have e1 : row1.toList.take ((i + 1) * 4) = cur.toList.take (i * 4) ++ vs := by
     rw [hrow1]
     show List.take _ (List.take (i * 4) ROW.toList ++ vs ++ List.drop (i * 4 + vs.length) ROW.toList) = _
     have e0 : ROW.toList.take (i * 4) = cur.toList.take (i * 4) := by
       rw [hROW]
       simp only [Array.toList_append, List.append_assoc]
       rw [List.take_append_of_le_length (by rw [t1]; exact Nat.le_refl _), List.take_of_length_le (by rw [t1]; exact Nat.le_refl _)]
     rw [e0, List.take_append_of_le_length (by rw [List.length_append, t1, hvl]; omega), List.take_of_length_le (by rw [List.length_append, t1, hvl]; omega)]
   rw [hrow2]
   show List.take _ (List.take ((i + 1) * 4) row1.toList ++ mv ++ _) = _
   rw [e1, List.take_append_of_le_length (by rw [List.length_append, List.length_append, t1, hvl, hml]; omega), List.take_of_length_le (by rw [List.length_append, List.length_append, t1, hvl, hml]; omega), hmv]
 clear hrow1 hrow2 hmv hcap hr1 hml hm1 hmc hROW hG hRs hkk hik hold hcell
 have hb2 : ¬ (G = i + 1) := by omega
 have hb4 : ¬ (G = i) := by omega
 have hb6 : ¬ (n = i) := by omega
 have hw1 : IntKind.i64.wrap ((i : Int) + 1) = (i : Int) + 1 := by rw [IntKind.wrap_i64]; omega
 have hw2 : IntKind.i64.wrap ((n : Int) + 1) = (n : Int) + 1 := by rw [IntKind.wrap_i64]; omega
 have hw3 : IntKind.i64.wrap ((n : Int) + 1 - i) = (n : Int) + 1 - i := by rw [IntKind.wrap_i64]; omega
 have htn : ((i : Int) + 1).toNat = i + 1 := by omega
 have hb1 : (0 : Int) ≤ (i : Int) + 1 := by omega
 have hb3 : (i : Int) ≤ (n : Int) + 1 := by omega
 have hb5 : (i : Int) ≤ (n : Int) := by omega
 have hA := hcpA ((w.alloc (.cells ROW 35)).drew) rfl
 have hB : Aside _ := hcpB (((w.alloc (.cells ROW 35)).drew.setRow w.heap.size row1).drew) ((w.alloc (.cells ROW 35)).drew) rfl rfl
 clear hcpA hcpB
 go_enter Try.func48, Try.ntmps48
 go_wp2_with (at_builtin; refine Lib.wpList_append_run _ rfl _ _ _ _ rfl _ _ rfl rfl _ _ (hrz _) ?_)
 go_region_law_o (refine step_copy_runI rfl _ _ 22 22 rfl (.slice (some ⟨w.heap.size, (i + 1) * 4, none⟩) (n - i) (G - (i + 1))) (.slice (some ⟨b, i * 4, none⟩) (n - i) (n - i)) (by simp [Act.eval, Act.put]) (by simp [Act.eval, Act.put]) (hB.out 3 (G - (i + 1)) (n - i)) ?_)
 go_wp2
 go_ret
 refine ⟨G, row2, rfl, hGn, hGm, ?_, hr2, X.out⟩
 have e1 : ((w.alloc (.cells ROW 35)).drew.setRow w.heap.size row1).drew.setRow w.heap.size row2 = (((w.alloc (.cells ROW 35)).setRow w.heap.size row1).setRow w.heap.size row2).drew.drew := rfl
 rw [e1, setRow_setRow, alloc_setRow]
end Go.Proofs

set_option linter.unusedSimpArgs false
set_option linter.unusedVariables false
set_option maxRecDepth 100000
namespace Go.Proofs
open Go Go.Pl
theorem rowRep_sub {β : Beta} {w : World} {F : Nat → Prop} {sz o n : Nat} {es : List V} {cur : Array Value} (h : RowRep β w F sz es cur) (hn : o + n ≤ es.length) : RowRep β w F sz ((es.drop o).take n) ((cur.toList.drop (o * sz)).take (n * sz)).toArray := by
 intro i e he
 rw [List.getElem?_take, List.getElem?_drop] at he
 split at he
 · rename_i hi
   obtain ⟨h1, h2⟩ := h (o + i) e he
   refine ⟨h1, fun j c hc => ?_⟩
   have hj : j < sz := by have := (List.getElem?_eq_some_iff.1 hc).1; omega
   have hb : i * sz + j < n * sz := by
     have : (i + 1) * sz ≤ n * sz := Nat.mul_le_mul_right _ hi
     rw [Nat.succ_mul] at this
     omega
   have e2 : ((cur.toList.drop (o * sz)).take (n * sz)).toArray.getD (i * sz + j) undef = cur.getD ((o + i) * sz + j) undef := by
     simp only [Array.getD_eq_getD_getElem?, List.getElem?_toArray, List.getElem?_take, hb, if_true, List.getElem?_drop, Array.getElem?_toList]
     congr 2
     rw [Nat.add_mul]; omega
   rw [e2]
   exact h2 j c hc
 · cases he
theorem rowRep_one {β : Beta} {w : World} {F : Nat → Prop} {sz : Nat} {es : List V} {cur : Array Value} (h : RowRep β w F sz es cur) (hs : 0 < sz) : ∀ m, m < es.length * sz → (cur.getD m undef).oneCell' = true := by
 intro m hm
 have h4 : m / sz < es.length := (Nat.div_lt_iff_lt_mul hs).2 hm
 have h5 : m % sz < sz := Nat.mod_lt _ hs
 obtain ⟨h7, h8⟩ := h (m / sz) _ (List.getElem?_eq_getElem h4)
 have h9 := (h8 (m % sz) _ (List.getElem?_eq_getElem (by omega))).1
 have h10 : m / sz * sz + m % sz = m := by
   have := Nat.div_add_mod m sz
   rw [Nat.mul_comm] at this
   omega
 rw [h10] at h9
 exact h9
set_option maxHeartbeats 2000000 in
theorem Try.ins_mid {bx : Boxes} {b : Nat} {es : List V} {x : V} {i : Nat} (hb : bx b = some (.row 35 4 es)) (hi : i < es.length) (hl : es.length ≤ 100000) (hx : x.cells.length = 4) :
   AbsCall Try.prog 48 [.own b 4 0 es.length, .int .i64 i, .sl 4 [x]] bx fun r bx' => ∃ b', upd bx b none b' = none ∧ r = .own b' 4 0 (es.length + 1) ∧ bx' = upd (upd bx b none) b' (some (.row 35 4 (es.take i ++ x :: es.drop i))) := by
 refine ⟨enters_of Try.func48 (by kernel_rfl) rfl, fun β M w vs hok hgl hvs hrep => ?_⟩
 have h0 := hrep 0 _ rfl
 have h1 := hrep 1 _ rfl
 have h2 := hrep 2 _ rfl
 have hvs2 : vs = #[vs.getD 0 undef, vs.getD 1 undef, vs.getD 2 undef] := by
   apply Array.ext
   · simpa using hvs
   · intro k k1 k2
     have k3 : k < 3 := by simpa using k2
     rcases k with _ | _ | _ | k
     · simp [k1]
     · simp [k1]
     · simp [k1]
     · omega
 rw [hvs2]
 generalize vs.getD 0 undef = u0 at *
 generalize vs.getD 1 undef = u1 at *
 generalize vs.getD 2 undef = u2 at *
 clear hvs2 hvs hrep
 generalize hN : es.length = n at h0
 cases h1
 cases h0 with
 | own0 _ _ hβ => omega
 | own _ _ _ _ blk cap m ty' hβ hs hm hn hmax =>
   subst hN
   rcases hok.live b _ hb with ⟨h3, _⟩ | ⟨blk', h3, hlt, hMn, cur, hcur, hlc, hrow⟩
   · rw [hβ] at h3; cases h3
   · rw [hβ] at h3
     injection h3 with h3
     injection h3 with h3
     subst h3
     have hcap : cap * 4 ≤ cur.size := by
       rw [shape_of hcur] at hs
       injection hs with hs
       injection hs with _ hs
       rw [hs]; simpa using hm
     cases h2 with
     | sl _ _ A vc u hcapv hmaxv hA hsz hc hr =>
       obtain ⟨a, rfl⟩ := Option.ne_none_iff_exists'.1 (hA (by simp))
       have hcx : ∀ j, j < 4 → ∃ c, x.cells[j]? = some c := fun j hj => ⟨_, List.getElem?_eq_getElem (by omega)⟩
       have hcell : ∀ j, j < 4 → w.cell? (a.add j) = some (u j) ∧ (u j).oneCell' = true := fun j hj => by
         obtain ⟨c, hc1⟩ := hcx j hj
         obtain ⟨a', h5, h6, h7, h8⟩ := hc 0 x j c rfl hc1
         injection h5 with h5
         subst h5
         simp only [Nat.zero_mul, Nat.zero_add] at h7 h8
         exact ⟨h7, h8⟩
       have hblk : a.block ≠ blk := by
         obtain ⟨c, hc1⟩ := hcx 0 (by decide)
         obtain ⟨a', h5, h6, _⟩ := hc 0 x 0 c rfl hc1
         injection h5 with h5
         subst h5
         exact fun e => h6.2.2 b (by rw [hb]; simp) (by rw [hβ, e])
       obtain ⟨ws, hws⟩ : ∃ ws, ws = [u 0, u 1, u 2, u 3] := ⟨_, rfl⟩
       have hwl : ws.length = 4 := by rw [hws]; rfl
       have hwc : ∀ j v, ws[j]? = some v → w.cell? (a.add j) = some v := fun j v hj => by
         have hj4 : j < 4 := by have := (List.getElem?_eq_some_iff.1 hj).1; omega
         have := (hcell j hj4).1
         rw [this, ← hj, hws]
         rcases j with _ | _ | _ | _ | j
         · rfl
         · rfl
         · rfl
         · rfl
         · omega
       have hw1 : ∀ v ∈ ws, v.oneCell' = true := fun v hv => by
         obtain ⟨j, hj, rfl⟩ := List.getElem_of_mem hv
         have hj4 : j < 4 := by omega
         have := hwc j _ (List.getElem?_eq_getElem hj)
         rw [(hcell j hj4).1] at this
         injection this with this
         rw [← this]; exact (hcell j hj4).2
       have hwr : RowRep β w (Fz β M bx w) 4 [x] ws.toArray := by
         intro k e he
         rcases k with _ | k
         · simp at he
           subst he
           refine ⟨hx, fun j c hc1 => ?_⟩
           have hj4 : j < 4 := by have := (List.getElem?_eq_some_iff.1 hc1).1; omega
           have hg : ws.toArray.getD (0 * 4 + j) undef = u j := by
             rw [hws]
             rcases j with _ | _ | _ | _ | j
             · rfl
             · rfl
             · rfl
             · rfl
             · omega
           rw [hg]
           refine ⟨(hcell j hj4).2, ?_⟩
           have := hr 0 x j c rfl hc1
           simpa using this
         · simp at he
       have hone : ∀ j, j < es.length * 4 → (cur.getD j undef).oneCell' = true := rowRep_one hrow (by decide)
       have R1 := rowRep_sub (o := 0) (n := i) hrow (by omega)
       have R3 := rowRep_sub (o := i) (n := es.length - i) hrow (by omega)
       simp only [List.drop_zero, Nat.zero_mul] at R1
       have e3 : (es.drop i).take (es.length - i) = es.drop i := List.take_of_length_le (by simp)
       rw [e3] at R3
       have l1 : (List.take (i * 4) cur.toList).length = (es.take i).length * 4 := by simp; omega
       have R12 := rowRep_append (sz := 4) l1 R1 hwr (by rw [hwl]; rfl) (List.take (i * 4) cur.toList ++ ws).toArray (by
         show List.take _ (List.take (i * 4) cur.toList ++ ws) = _
         exact List.take_of_length_le (by rw [List.length_append, l1, hwl]; simp; omega))
       have row : ∀ cur' : Array Value, cur'.toList.take ((es.length + 1) * 4) = cur.toList.take (i * 4) ++ ws ++ (cur.toList.drop (i * 4)).take ((es.length - i) * 4) → RowRep β w (Fz β M bx w) 4 (es.take i ++ x :: es.drop i) cur' := fun cur' hc' => by
         have := rowRep_append (sz := 4) (es := es.take i ++ [x]) (news := es.drop i) (xs := List.take (i * 4) cur.toList ++ ws) (vals := (cur.toList.drop (i * 4)).take ((es.length - i) * 4)) (by rw [List.length_append, l1, hwl]; simp; omega) R12 R3 (by simp; omega) cur' (by
           rw [← hc']
           congr 1
           simp; omega)
         simpa using this
       obtain ⟨b', hb1, hb2⟩ := hok.fresh
       have hb2' : upd bx b none b' = none := by
         by_cases e0 : b' = b
         · subst e0; exact upd_eq _ _ _
         · rw [upd_ne _ _ e0]; exact hb2
       have hlen : (es.take i ++ x :: es.drop i).length = es.length + 1 := by simp; omega
       simp only [Nat.zero_mul]
       by_cases hroom : es.length + 1 ≤ cap
       · refine (Try.ins_room w blk es.length cap i cur 35 a vc ws hcur hi hroom (by simp only [maxLen] at hmax; omega) hcap hblk hwl hwc hw1 hone).mono ?_
         rintro e w' ⟨rfl, rfl⟩
         obtain ⟨cur', hcur'⟩ : ∃ cur', cur' = (cur.toList.take (i * 4) ++ ws ++ (cur.toList.drop (i * 4)).take ((es.length - i) * 4) ++ cur.toList.drop ((es.length + 1) * 4)).toArray := ⟨_, rfl⟩
         rw [← hcur']
         have hsz' : cur'.size = cur.size := by rw [hcur']; simp [hwl]; omega
         have htk : cur'.toList.take ((es.length + 1) * 4) = cur.toList.take (i * 4) ++ ws ++ (cur.toList.drop (i * 4)).take ((es.length - i) * 4) := by
           rw [hcur']
           show List.take _ (_ ++ _) = _
           have l4 : (cur.toList.take (i * 4) ++ ws ++ (cur.toList.drop (i * 4)).take ((es.length - i) * 4)).length = (es.length + 1) * 4 := by simp [hwl]; omega
           rw [← l4, List.take_left]
         have hkk : ∀ k, k ≠ blk → (w.drew.setRow blk cur').heap[k]? = w.heap[k]? := fun k hk => setRow_other w.drew blk k cur' hk
         have hgg : (w.drew.setRow blk cur').heap[blk]? = some (.cells cur' 35 (0, 0)) := setRow_heap w.drew blk cur cur' _ _ hcur
         have hss : (w.drew.setRow blk cur').heap.size = w.heap.size := by simp [World.setRow]
         have hshape : ∀ k y, w.shape? k = some y → (w.drew.setRow blk cur').shape? k = some y := fun k y hy => by
           by_cases e : k = blk
           · subst e
             rw [shape_of hgg, hsz', ← shape_of hcur]; exact hy
           · rw [shape_heap (hkk k e)]; exact hy
         obtain ⟨h5, h6⟩ := rebox hok b hb1 (w' := w.drew.setRow blk cur') rfl rfl rfl (Nat.le_succ _) (by rw [hss]; exact Nat.le_refl _) (fun k hk1 hk2 => hkk k fun e => hk2 (by rw [hb]; simp) (by rw [e]; exact hβ)) hshape (some blk) 35 4 (es.take i ++ x :: es.drop i) (.inl (by decide)) (fun h => by cases h) (fun g hg => by
           injection hg with hg
           subst hg
           exact ⟨.inr ⟨by rw [hb]; simp, hβ⟩, by rw [hss]; exact hlt, cur', hgg, by rw [hlen]; omega, row cur' htk⟩)
         refine ⟨_, _, _, _, rfl, ⟨b', hb2', rfl, rfl⟩, h5, h6, ?_⟩
         have := Rep.own (β := upd β b' (some (some blk))) (w := w.drew.setRow blk cur') (F := Fz (upd β b' (some (some blk))) M (upd (upd bx b none) b' (some (.row 35 4 (es.take i ++ x :: es.drop i)))) (w.drew.setRow blk cur')) b' 4 0 (es.length + 1) blk cap _ 35 (upd_eq _ _ _) (shape_of hgg) (by rw [hsz']; simpa using hcap) hroom (by simpa using hmax)
         simpa using this
       · obtain rfl : cap = es.length := by omega
         refine (Try.ins_grow w blk es.length i cur 35 a vc ws hcur hi (by omega) hcap hwl hwc hw1 hone).mono ?_
         rintro e w' ⟨G, cur', rfl, hG1, hG2, rfl, hsz', htk⟩
         have hgg : (w.alloc (.cells cur' 35)).drew.drew.heap[w.heap.size]? = some (.cells cur' 35 (0, 0)) := heap_alloc_new w _
         have hkk : ∀ k, k < w.heap.size → (w.alloc (.cells cur' 35)).drew.drew.heap[k]? = w.heap[k]? := fun k hk => heap_alloc_old w _ hk
         have hss : (w.alloc (.cells cur' 35)).drew.drew.heap.size = w.heap.size + 1 := by show (w.heap.push _).size = _; simp
         have hshape : ∀ k y, w.shape? k = some y → (w.alloc (.cells cur' 35)).drew.drew.shape? k = some y := fun k y hy => by
           rw [shape_heap (hkk k (shape_lt hy))]; exact hy
         obtain ⟨h5, h6⟩ := rebox hok b hb1 (w' := (w.alloc (.cells cur' 35)).drew.drew) rfl rfl rfl (by show w.drawn ≤ w.drawn + 1 + 1; omega) (by rw [hss]; omega) (fun k hk1 hk2 => hkk k hk1) hshape (some w.heap.size) 35 4 (es.take i ++ x :: es.drop i) (.inl (by decide)) (fun h => by cases h) (fun g hg => by
           injection hg with hg
           subst hg
           exact ⟨.inl (Nat.le_refl _), by rw [hss]; omega, cur', hgg, by rw [hlen, hsz']; omega, row cur' htk⟩)
         refine ⟨_, _, _, _, rfl, ⟨b', hb2', rfl, rfl⟩, h5, h6, ?_⟩
         have := Rep.own (β := upd β b' (some (some w.heap.size))) (w := (w.alloc (.cells cur' 35)).drew.drew) (F := Fz (upd β b' (some (some w.heap.size))) M (upd (upd bx b none) b' (some (.row 35 4 (es.take i ++ x :: es.drop i)))) ((w.alloc (.cells cur' 35)).drew.drew)) b' 4 0 (es.length + 1) w.heap.size G _ 35 (upd_eq _ _ _) (shape_of hgg) (by rw [hsz']; simp) hG1 (by simpa using hG2)
         simpa using this
end Go.Proofs

set_option linter.unusedSimpArgs false
set_option linter.unusedVariables false
set_option maxRecDepth 100000
namespace Go.Proofs
open Go Go.Pl Go.Ck
theorem Try.ins_end {bx bx1 : Boxes} {es : List V} {r x : V} (ha : Acc bx 35 4 es r bx1) (hx : x.cells.length = 4) (hl : es.length ≤ 100000) :
   AbsCall Try.prog 48 [r, .int .i64 es.length, .sl 4 [x]] bx1 fun r' bx' => Acc bx 35 4 (es ++ [x]) r' bx' := by
 refine Try.ctr48 fun hf => ?_
 rcases ha.is with ⟨rfl, rfl⟩ | ⟨b, hb, rfl, hr⟩
 · simp [go_sem, Try.C48, hf]
   refine acc_append (.agg #[.int .i64 0, .int .i64 0, .int .i64 0, .int .i64 0]) ha (Ext.refl _) ha.fin Try.knd22 Try.tsz35 (by simp [srcEls]; rfl) Try.tzero35 (by simp [go_sem]) (by decide) (by simp [Try.tby35]) (by simp) (by simp [go_sem]) fun v' bx2 ha2 => ?_
   simp [go_sem]
   refine ret_keep (by simp [go_sem, ha2.live]) ?_
   simpa [go_sem, ha2.strip] using ha2
 · simp [go_sem, Try.C48, hf, hr]
   refine acc_append (.agg #[.int .i64 0, .int .i64 0, .int .i64 0, .int .i64 0]) ha (Ext.refl _) ha.fin Try.knd22 Try.tsz35 (by simp [srcEls]; rfl) Try.tzero35 (by simp [go_sem]) (by decide) (by simp [Try.tby35]; omega) (by simp; omega) (by simp [go_sem]) fun v' bx2 ha2 => ?_
   simp [go_sem]
   refine ret_keep (by simp [go_sem, ha2.live]) ?_
   simpa [go_sem, ha2.strip] using ha2
theorem Try.ins_acc {bx bx1 : Boxes} {es : List V} {r x : V} {i : Nat} (ha : Acc bx 35 4 es r bx1) (hi : i ≤ es.length) (hx : x.cells.length = 4) (hl : es.length ≤ 100000) :
   AbsCall Try.prog 48 [r, .int .i64 i, .sl 4 [x]] bx1 fun r' bx' => Acc bx 35 4 (es.take i ++ x :: es.drop i) r' bx' := by
 by_cases h : i < es.length
 · obtain ⟨b, hb, rfl, hr⟩ := ha.row (by intro e; rw [e] at h; simp at h)
   refine (Try.ins_mid hr h hl hx).mono ?_
   rintro r' bx' ⟨b', hb', rfl, rfl⟩
   have hbb : bx b' = none := by
     by_cases e : b' = b
     · rw [e]; exact hb
     · rw [upd_ne _ _ e] at hb'
       exact ha.ext.none hb'
   refine ⟨((ha.ext.upd_own hb _).upd_own hbb _), (finB_upd _ _ _).2 ((finB_upd _ _ _).2 ha.fin), .inr ⟨b', hbb, ?_, upd_eq _ _ _⟩⟩
   have : (es.take i ++ x :: es.drop i).length = es.length + 1 := by simp; omega
   rw [this]
 · obtain rfl : i = es.length := by omega
   rw [List.take_length, List.drop_length]
   exact Try.ins_end ha hx hl
end Go.Proofs

set_option linter.unusedSimpArgs false
set_option linter.unusedVariables false
set_option maxRecDepth 100000
namespace Go.Ck
open Go Go.Pl
theorem ord_mono {l : List Tm} (h : SrtT l) {i q : Nat} (hq : q < l.length) (hiq : i ≤ q) : ¬ ord l[q] l[i] < 0 := by
 induction q with
 | zero => obtain rfl : i = 0 := by omega
           rw [Go.Proofs.ord_lt]; omega
 | succ q ih =>
   by_cases e : i = q + 1
   · subst e; rw [Go.Proofs.ord_lt]; omega
   · have h1 := ih (by omega) (by omega)
     have h2 := h q hq
     have g1 : l.getD (q + 1) default = l[q + 1] := by simp [hq]
     have g2 : l.getD q default = l[q] := by simp [show q < l.length by omega]
     rw [g1, g2] at h2
     rw [Go.Proofs.ord_lt] at h1 h2 ⊢
     omega
def insI (l : List Tm) (t : Tm) : Nat := (l.takeWhile fun x => decide (ord x t < 0)).length
def insT (l : List Tm) (t : Tm) : List Tm := l.take (insI l t) ++ t :: l.drop (insI l t)
theorem insI_le (l : List Tm) (t : Tm) : insI l t ≤ l.length := tw_le _ _
theorem insI_lo {l : List Tm} {t : Tm} {q : Nat} (hq : q < l.length) (h : q < insI l t) : ord l[q] t < 0 := by
 have := tw_lt (p := fun x => decide (ord x t < 0)) hq h
 simpa using this
theorem insI_hi {l : List Tm} (hs : SrtT l) {t : Tm} {q : Nat} (hq : q < l.length) (h : insI l t ≤ q) : ¬ ord l[q] t < 0 := by
 have h1 := tw_at (p := fun x => decide (ord x t < 0)) (l := l) (by unfold insI at h; omega)
 simp only [decide_eq_false_iff_not] at h1
 have h2 := ord_mono hs hq h
 unfold insI at h2
 rw [Go.Proofs.ord_lt] at h1 h2 ⊢
 omega
def aftE (s : Ck) (e a k o : Int) : Int := if e ≠ 0 then e else if ¬ ((0 ≤ a ∧ a ≤ 1000000000000) ∧ (0 ≤ k ∧ k ≤ 1000) ∧ (0 ≤ o ∧ o ≤ 1000000000000000)) then 7 else if s.ts.length = 2000 ∨ s.next = 1000000000000000 then 5 else 0
def aftT (s : Ck) (a k o : Int) : Tm := ⟨s.next, a, k, o⟩
def aftS (s : Ck) (a k o : Int) : Ck := { s with next := s.next + 1, ts := insT s.ts (aftT s a k o) }
def aftR (s : Ck) (e a k o : Int) : V := if aftE s e a k o = 0 then .tup [ckV (aftS s a k o), .int .i64 s.next, .int .i64 0] else .tup [ckV s, .int .i64 0, .int .i64 (aftE s e a k o)]
end Go.Ck
namespace Go.Proofs
open Go Go.Pl Go.Ck
theorem Try.After_c (s : Ck) (e : Int) (he : Chk s e) (a k o : Int) (bx : Boxes) : PureCall Try.prog 25 [ckV s, .int .i64 a, .int .i64 k, .int .i64 o] bx (aftR s e a k o) := by
 refine PureCall.wk (Try.ctr25 fun hf => ?_)
 have cC := fun bx => Try.Check_c s e he bx
 simp only [ckV] at cC ⊢
 simp [go_sem, Try.C25, hf]
 intro b1 hb1 b2 hb2
 have n12 : b1 ≠ b2 := fun e => by rw [← e, upd_eq] at hb2; cases hb2
 have hb2' : bx b2 = none := by rw [upd_ne _ _ n12.symm] at hb2; exact hb2
 simp [go_sem, hf, upd_eq, upd_ne, n12, n12.symm]
 refine callK_pure (cC _) ?_
 simp [go_sem, hf, upd_eq, upd_ne, n12, n12.symm]
 obtain ⟨tE, htE⟩ : ∃ tE : Int, (if (0 ≤ a ∧ a ≤ 1000000000000) ∧ (0 ≤ k ∧ k ≤ 1000) ∧ (0 ≤ o ∧ o ≤ 1000000000000000) then (0 : Int) else 7) = tE := ⟨_, rfl⟩
 have cT := fun bx => Try.timer_c a k o bx
 simp only [htE] at cT
 refine callK_pure (cT _) ?_
 have bad : ∀ q, aftE s e a k o = q → q ≠ 0 → aftR s e a k o = .tup [ckV s, .int .i64 0, .int .i64 q] := fun q h1 h2 => by unfold aftR; rw [h1, if_neg h2]
 simp [go_sem, hf, upd_eq, upd_ne, n12, n12.symm]
 intro b3 hb3
 have n13 : b1 ≠ b3 := fun e => by subst e; rw [upd_ne _ _ n12, upd_eq] at hb3; cases hb3
 have n23 : b2 ≠ b3 := fun e => by subst e; rw [upd_eq] at hb3; cases hb3
 have hb3' : bx b3 = none := by rw [upd_ne _ _ n23.symm, upd_ne _ _ n13.symm] at hb3; exact hb3
 obtain ⟨z, hz⟩ : ∃ z, or2 e tE = z := ⟨_, rfl⟩
 have cO : ∀ x y, PureCall Try.prog 45 [.own b3 1 0 2] (upd (upd (upd bx b1 x) b2 y) b3 (some (.row 31 1 [.int .i64 e, .int .i64 tE]))) (.int .i64 z) := fun x y => by
   rw [← hz]
   refine PureCall.frame 1 (Try.orE_c e tE (fun _ => none)) ?_ rfl
   have := frz_own1 (bx := upd (upd (upd bx b1 x) b2 y) b3 (some (.row 31 1 [.int .i64 e, .int .i64 tE]))) (bx' := fun _ => none) (b := b3) (sz := 1) (n := 2) (upd_eq _ _ _) rfl (by decide) rfl
   simp [this]
 refine callK_pure (cO _ _) ?_
 by_cases hz0 : z = 0
 · subst hz0
   have h0 : e = 0 := by unfold or2 at hz; split at hz <;> simp_all
   subst h0
   have hT : (0 ≤ a ∧ a ≤ 1000000000000) ∧ (0 ≤ k ∧ k ≤ 1000) ∧ (0 ≤ o ∧ o ≤ 1000000000000000) := by
     unfold or2 at hz
     rw [if_pos rfl] at hz
     subst hz
     split at htE
     · assumption
     · cases htE
   have ho := he.ok
   have hEf : ∀ q, (s.ts.length = 2000 ∨ s.next = 1000000000000000 → q = 5) → (¬ (s.ts.length = 2000 ∨ s.next = 1000000000000000) → q = 0) → aftE s 0 a k o = q := fun q q1 q2 => by
     unfold aftE
     rw [if_neg (by simp), if_neg (fun h => h hT)]
     split
     · exact (q1 ‹_›).symm
     · exact (q2 ‹_›).symm
   simp [go_sem, hf, upd_eq, upd_ne, n12, n12.symm, n13, n13.symm, n23, n23.symm]
   refine ⟨fun c => ?_, fun c1 c2 b4 hb4 => ?_⟩
   · rw [bad 5 (hEf 5 (fun _ => rfl) fun h => absurd c (by omega)) (by decide)]
     exact ret_drop (by simp [go_sem]) (by repeat first | exact Ext.refl _ | refine Ext.upd_own ?_ (by assumption) _) ⟨by simp [go_sem, upd_eq]; exact Wk.refl _, rfl⟩
   rw [upd_self hb4]
   simp [go_sem, hf, upd_eq, upd_ne, n12, n12.symm, n13, n13.symm, n23, n23.symm]
   have hN : aftE s 0 a k o = 0 := hEf 0 (fun h => absurd h (by omega)) fun _ => rfl
   have hR : aftR s 0 a k o = .tup [ckV (aftS s a k o), .int .i64 s.next, .int .i64 0] := by unfold aftR; rw [if_pos hN]
   rw [hR]
   unfold aftS insT
   have hwn : IntKind.i64.wrap (s.next + 1) = s.next + 1 := wr64 (by have := ho.rng.2.1; omega)
   obtain ⟨i, hi⟩ : ∃ i, insI s.ts (aftT s a k o) = i := ⟨_, rfl⟩
   have hile : i ≤ s.ts.length := hi ▸ insI_le _ _
   have cB := fun bx => Try.bsT_c s.ts (aftT s a k o) i hile (fun q hq h => insI_lo hq (by rw [hi]; exact h)) (fun q hq h => insI_hi ho.srt hq (by rw [hi]; exact h)) (by have := ho.len; omega) bx
   rw [hi]
   simp only [tmV, aftT] at cB
   refine callK_pure (cB _) ?_
   clear cB
   simp [go_sem, hf, upd_eq, upd_ne, n12, n12.symm, n13, n13.symm, n23, n23.symm, fzAt, fzb]
   refine callKx_bx fun bxx hbx => ?_
   have x1 : bxx b1 = some (.row 25 4 [.agg [.int .i64 s.now, .int .i64 s.next, .sl 4 (s.ts.map tmV), .sl 4 (s.scs.map scV)]]) := by rw [hbx]; simp [upd_eq, upd_ne, n12, n12.symm, n13, n13.symm, n23, n23.symm]
   have x2 : bxx b2 = some (.row 25 4 [.agg [.int .i64 0, .int .i64 0, .nils, .nils]]) := by rw [hbx]; simp [upd_eq, upd_ne, n12, n12.symm, n13, n13.symm, n23, n23.symm]
   have hxe : Ext bx bxx := by rw [hbx]; exact (by repeat first | exact Ext.refl _ | refine Ext.upd_own ?_ (by assumption) _)
   have hxf : FinB bxx := by rw [hbx]; simp [go_sem, hf]
   clear hbx
   refine callKx_abs (Try.CloneT_c (bx := bxx) (s.ts.map tmV) hxf (by have := ho.len; simp; omega) (by simp [tmV, V.cells])) (acc_some hxf _ _ _) ?_
   intro r bx1 ha
   simp [go_sem, ha.live, ha.fin, ha.strip]
   have cI := Try.ins_acc (i := i) (x := .agg [.int .i64 s.next, .int .i64 a, .int .i64 k, .int .i64 o]) ha (by simpa using hile) rfl (by have := ho.len; simp; omega)
   refine callKx_abs cI (acc_some hxf _ _ _) ?_
   intro r' bx2 ha2
   obtain ⟨b5, hb5, rfl, z5⟩ := ha2.row (by simp)
   have z1 := (ha2.ext b1 (by rw [x1]; simp)).trans x1
   have z2 := (ha2.ext b2 (by rw [x2]; simp)).trans x2
   have n15 : b1 ≠ b5 := fun e => by subst e; rw [x1] at hb5; cases hb5
   have n25 : b2 ≠ b5 := fun e => by subst e; rw [x2] at hb5; cases hb5
   have hb5' : bx b5 = none := hxe.none hb5
   simp [go_sem, z1, z2, z5, ha2.fin, n12, n12.symm, n15, n15.symm, n25, n25.symm, upd_eq, upd_ne, hwn]
   refine ⟨by simp [fzAt, fzb], ?_⟩
   have fo : ∀ x y, frz (upd (upd bx2 b1 x) b2 y) bx 1 (.own b5 4 0 (min i s.ts.length + (s.ts.length - i + 1))) = .sl 4 _ := fun x y => frz_own1 (bx := upd (upd bx2 b1 x) b2 y) (by simp [upd_ne, n15.symm, n25.symm]; exact z5) hb5' (by decide) (by simp)
   refine ret_frz 3 (by simp [go_sem]) (by repeat first | exact hxe.trans ha2.ext | refine Ext.upd_own ?_ (by assumption) _) ⟨?_, rfl⟩
   simp [go_sem, upd_eq]
   simp [fo, ckV, tmV, aftT]
   exact Wk.refl _
 · rw [bad z (by
     unfold aftE
     unfold or2 at hz
     by_cases h0 : e = 0
     · rw [if_pos h0] at hz
       rw [if_neg (by simp [h0])]
       subst hz
       split at htE
       · exact absurd htE.symm hz0
       · rw [if_pos (by assumption)]; exact htE
     · rw [if_neg h0] at hz
       rw [if_pos h0]; exact hz) hz0]
   simp [go_sem, hf, hz0, upd_eq, upd_ne, n12, n12.symm, n13, n13.symm, n23, n23.symm]
   exact ret_drop (by simp [go_sem]) (by repeat first | exact Ext.refl _ | refine Ext.upd_own ?_ (by assumption) _) ⟨by simp [go_sem, upd_eq]; exact Wk.refl _, rfl⟩
end Go.Proofs

set_option linter.unusedSimpArgs false
set_option linter.unusedVariables false
namespace Go.Ck
open Go Go.Pl
abbrev Tb := {t : Tm // -9223372036854775808 ≤ t.id ∧ t.id ≤ 9223372036854775807}
instance : Inhabited Tb := ⟨⟨⟨0, 0, 0, 0⟩, by decide⟩⟩
def vV (v : Tb) : V := .agg [.int .i64 v.1.id, .int .i64 v.1.at_, .int .i64 v.1.kind, .int .i64 v.1.owner]
def zV : V := .agg [.int .i64 0, .int .i64 0, .int .i64 0, .int .i64 0]
attribute [go_sem] vV zV
end Go.Ck

set_option linter.unusedSimpArgs false
set_option linter.unusedVariables false
set_option maxRecDepth 100000
namespace Go.Proofs.Tq
open Go Go.Pl Go.Hp Go.Ck
def entC (h : Int) (v : Tb) (i : Int) : V := .agg [.int .i64 h, .int .i64 v.1.id, .int .i64 v.1.at_, .int .i64 v.1.kind, .int .i64 v.1.owner, .int .i64 i]
def qV (sv : V) (g : FuncId) (vm : V) (next : Int) : V := .agg [sv, .fn (.func g) [], vm, .int .i64 next]
def Lt (P : Program) (g : FuncId) (lt : Tb → Tb → Bool) : Prop := ∀ a b (bx : Boxes), PureCall P g [vV a, vV b] bx (.bool (lt a b))
theorem Try.before_c {bx : Boxes} {bq a b : Nat} {g : FuncId} {lt : Tb → Tb → Bool} {sv vm : V} {next ah ai bh bi : Int} {av bv : Tb} (hl : Lt Try.prog g lt)
   (hq : bx bq = some (.row 104 4 [qV sv g vm next])) (ha : bx a = some (.row 109 6 [entC ah av ai])) (hb : bx b = some (.row 109 6 [entC bh bv bi])) :
   PureCall Try.prog 110 [.ptr bq 4 0 0, .ptr a 6 0 0, .ptr b 6 0 0] bx (.bool (bef lt ⟨ah, av, a⟩ ⟨bh, bv, b⟩)) := by
 refine Try.ctr110 fun hf => ?_
 simp only [qV, entC] at hq ha hb
 simp [go_sem, Try.C110, hf, hq, ha, hb]
 refine callK_pure (hl av bv bx) ?_
 simp [go_sem, hf, hq, ha, hb]
 refine ⟨fun h => ret_pure (by simp [go_sem]) (by simp [go_sem, bef, h]), fun h => ?_⟩
 refine callK_pure (hl bv av bx) ?_
 simp [go_sem, hf, hq, ha, hb]
 refine ⟨fun h2 => ret_pure (by simp [go_sem]) (by simp [go_sem, bef, h, h2]), fun h2 => ?_⟩
 exact ret_pure (by simp [go_sem]) (by simp [go_sem, bef, h, h2])
structure HeapS (bx : Boxes) (bq bl : Nat) (g : FuncId) (vm : V) (next : Int) (es : List (Ent Tb)) (R : List V) : Prop where
 q : bx bq = some (.row 104 4 [qV (.own bl 1 0 es.length) g vm next])
 l : bx bl = some (.row 107 1 R)
 r : ∀ i, i < es.length → R[i]? = some (.ptr (at_ es i).b 6 0 0)
 e : ∀ i, i < es.length → bx (at_ es i).b = some (.row 109 6 [entC (at_ es i).h (at_ es i).v i])
 nd : (bq :: bl :: es.map (·.b)).Nodup
 fin : FinB bx
 len : es.length ≤ 100000
theorem HeapS.rlt {bx : Boxes} {bq bl : Nat} {g : FuncId} {vm : V} {next : Int} {es : List (Ent Tb)} {R : List V} (h : HeapS bx bq bl g vm next es R) {i : Nat} (hi : i < es.length) : ∃ hR : i < R.length, R[i] = .ptr (at_ es i).b 6 0 0 := by
 have := h.r i hi
 obtain ⟨h1, h2⟩ := List.getElem?_eq_some_iff.1 this
 exact ⟨h1, h2⟩
theorem HeapS.ne {bx : Boxes} {bq bl : Nat} {g : FuncId} {vm : V} {next : Int} {es : List (Ent Tb)} {R : List V} (h : HeapS bx bq bl g vm next es R) : bq ≠ bl ∧ (∀ i, i < es.length → (at_ es i).b ≠ bq ∧ (at_ es i).b ≠ bl) ∧ ∀ i k, i < es.length → k < es.length → (at_ es i).b = (at_ es k).b → i = k := by
 have hn := h.nd
 rw [List.nodup_cons, List.nodup_cons] at hn
 obtain ⟨h1, h2, h3⟩ := hn
 have hm : ∀ i, i < es.length → (at_ es i).b ∈ es.map (·.b) := fun i hi => by
   rw [at_get hi]; exact List.mem_map.2 ⟨_, List.getElem_mem hi, rfl⟩
 refine ⟨fun e => h1 (by simp [e]), fun i hi => ⟨fun e => h1 (by rw [← e]; exact List.mem_cons_of_mem _ (hm i hi)), fun e => h2 (by rw [← e]; exact hm i hi)⟩, fun i k hi hk e => ?_⟩
 have hl : (es.map (·.b)).length = es.length := by simp
 refine (List.getElem_inj (h₀ := by rw [hl]; exact hi) (h₁ := by rw [hl]; exact hk) h3).1 ?_
 rw [List.getElem_map, List.getElem_map, ← at_get hi, ← at_get hk]
 exact e
theorem Try.len_c {bx : Boxes} {bq : Nat} {g : FuncId} {sv vm : V} {next : Int} {n : Nat} (hf : FinB bx) (hq : bx bq = some (.row 104 4 [qV sv g vm next])) (hs : (sv = .nils ∧ n = 0) ∨ ∃ bl, sv = .own bl 1 0 n) :
   PureCall Try.prog 105 [.ptr bq 4 0 0] bx (.int .i64 n) := by
 refine Try.ctr105 fun hf => ?_
 simp only [qV] at hq
 rcases hs with ⟨rfl, rfl⟩ | ⟨bl, rfl⟩ <;>
 · simp [go_sem, Try.C105, hf, hq]
   exact ret_pure (by simp [go_sem]) (by simp [go_sem])
theorem Try.less_c {bx : Boxes} {bq bl : Nat} {g : FuncId} {lt : Tb → Tb → Bool} {vm : V} {next : Int} {es : List (Ent Tb)} {R : List V} (hlt : Lt Try.prog g lt) (h : HeapS bx bq bl g vm next es R) {i k : Nat} (hi : i < es.length) (hk : k < es.length) :
   PureCall Try.prog 106 [.ptr bq 4 0 0, .int .i64 i, .int .i64 k] bx (.bool (bef lt (at_ es i) (at_ es k))) := by
 refine Try.ctr106 fun hf => ?_
 have c := Try.before_c hlt h.q (h.e i hi) (h.e k hk)
 have hq := h.q
 have hl := h.l
 obtain ⟨i1, i2⟩ := h.rlt hi
 obtain ⟨k1, k2⟩ := h.rlt hk
 simp only [qV] at hq
 simp [go_sem, Try.C106, hf, hq, hl, hi, hk, i1, i2, k1, k2]
 refine callK_pure c ?_
 simp [go_sem]
 exact ret_pure (by simp [go_sem]) (by simp [go_sem])
def Fr (bl : Nat) (es : List (Ent Tb)) (bx bx' : Boxes) : Prop := ∀ b, b ≠ bl → (∀ e, e ∈ es → b ≠ e.b) → bx' b = bx b
theorem HeapS.swap {bx bx' : Boxes} {bq bl : Nat} {g : FuncId} {vm : V} {next : Int} {es : List (Ent Tb)} {R : List V} (h : HeapS bx bq bl g vm next es R) {i k : Nat} (hi : i < es.length) (hk : k < es.length) (hf : FinB bx')
   (hq : bx' bq = bx bq) (hl : bx' bl = some (.row 107 1 ((R.set i (.ptr (at_ es k).b 6 0 0)).set k (.ptr (at_ es i).b 6 0 0))))
   (he : ∀ j, j < es.length → bx' (at_ es j).b = some (.row 109 6 [entC (at_ es j).h (at_ es j).v (if j = i then k else if j = k then i else j : Nat)])) :
   HeapS bx' bq bl g vm next (swp es i k) ((R.set i (.ptr (at_ es k).b 6 0 0)).set k (.ptr (at_ es i).b 6 0 0)) := by
 have hs := fun q => swp_at es i k q hi hk
 obtain ⟨i1, i2⟩ := h.rlt hi
 obtain ⟨k1, k2⟩ := h.rlt hk
 refine ⟨by rw [hq, swp_len]; exact h.q, hl, fun j hj => ?_, fun j hj => ?_, ?_, hf, by rw [swp_len]; exact h.len⟩
 · rw [swp_len] at hj
   rw [hs, List.getElem?_set, List.getElem?_set]
   by_cases e1 : k = j
   · rw [if_pos e1, if_pos e1.symm]
     simp [k1]
   · rw [if_neg e1, if_neg (Ne.symm e1)]
     by_cases e2 : i = j
     · rw [if_pos e2, if_pos e2.symm]
       simp [i1, k1]
     · rw [if_neg e2, if_neg (Ne.symm e2)]
       exact h.r j hj
 · rw [swp_len] at hj
   rw [hs]
   by_cases e1 : j = k
   · rw [if_pos e1, he i hi, if_pos rfl, e1]
   · rw [if_neg e1]
     by_cases e2 : j = i
     · rw [if_pos e2, he k hk]
       by_cases e3 : k = i
       · exact absurd (e2.trans e3.symm) e1
       · rw [if_neg e3, if_pos rfl, e2]
     · rw [if_neg e2, he j hj, if_neg e2, if_neg e1]
 · have hp := (swp_perm es i k hi hk).map (·.b)
   exact (((hp.cons bl).cons bq).nodup_iff).2 h.nd
theorem Try.swap_c {bx : Boxes} {bq bl : Nat} {g : FuncId} {vm : V} {next : Int} {es : List (Ent Tb)} {R : List V} (h : HeapS bx bq bl g vm next es R) {i k : Nat} (hi : i < es.length) (hk : k < es.length) :
   AbsCall Try.prog 109 [.ptr bq 4 0 0, .int .i64 i, .int .i64 k] bx fun r bx' => ∃ R', R'.length = R.length ∧ HeapS bx' bq bl g vm next (swp es i k) R' ∧ Fr bl es bx bx' := by
 refine Try.ctr109 fun hf => ?_
 have hq := h.q
 have hl := h.l
 obtain ⟨i1, i2⟩ := h.rlt hi
 obtain ⟨k1, k2⟩ := h.rlt hk
 obtain ⟨n1, n2, n3⟩ := h.ne
 have ei := h.e i hi
 have ek := h.e k hk
 obtain ⟨n4, n5⟩ := n2 i hi
 obtain ⟨n6, n7⟩ := n2 k hk
 simp only [qV] at hq
 simp only [entC] at ei ek
 by_cases e : i = k
 · subst e
   simp [go_sem, Try.C109, hf, hq, hl, hi, i1, i2, ei, upd_ne, n1, Ne.symm n1, n4, Ne.symm n4, n5, Ne.symm n5]
   refine ret_pure (by simp [go_sem]) ⟨_, ?_, h.swap hi hi (by simp [finB_upd, hf]) ?_ ?_ fun j hj => ?_, fun b hb1 hb2 => ?_⟩
   · simp
   · dsimp only; rw [upd_ne _ _ (Ne.symm n4), upd_ne _ _ n1]
   · dsimp only; rw [upd_ne _ _ (Ne.symm n5), upd_eq, List.set_set]
   · dsimp only
     by_cases ej : (at_ es j).b = (at_ es i).b
     · have := n3 j i hj hi ej
       subst this
       rw [upd_eq]
       simp [entC]
     · rw [upd_ne _ _ ej, upd_ne _ _ (n2 j hj).2, h.e j hj, if_neg (fun e => ej (by rw [e])), if_neg (fun e => ej (by rw [e]))]
   · have hm : at_ es i ∈ es := by rw [at_get hi]; exact List.getElem_mem hi
     dsimp only
     rw [upd_ne _ _ (hb2 _ hm), upd_ne _ _ hb1]
 · have n8 : (at_ es i).b ≠ (at_ es k).b := fun e' => e (n3 i k hi hk e')
   simp [go_sem, Try.C109, hf, hq, hl, hi, hk, i1, i2, k1, k2, ei, ek, upd_ne, n1, Ne.symm n1, n4, Ne.symm n4, n5, Ne.symm n5, n6, Ne.symm n6, n7, Ne.symm n7, n8, Ne.symm n8, List.getElem_set, e, Ne.symm e]
   refine ret_pure (by simp [go_sem]) ⟨_, ?_, h.swap hi hk (by simp [finB_upd, hf]) ?_ ?_ fun j hj => ?_, fun b hb1 hb2 => ?_⟩
   · simp
   · dsimp only
     rw [upd_ne _ _ (Ne.symm n4), upd_ne _ _ (Ne.symm n6), upd_ne _ _ n1]
   · dsimp only
     rw [upd_ne _ _ (Ne.symm n5), upd_ne _ _ (Ne.symm n7), upd_eq]
   · dsimp only
     by_cases ej : (at_ es j).b = (at_ es i).b
     · have := n3 j i hj hi ej
       subst this
       rw [upd_eq]
       simp [entC]
     · rw [upd_ne _ _ ej, if_neg (c := j = i) (fun e => ej (by rw [e]))]
       by_cases ek' : (at_ es j).b = (at_ es k).b
       · have := n3 j k hj hk ek'
         subst this
         rw [upd_eq]
         simp [entC]
       · rw [upd_ne _ _ ek', upd_ne _ _ (n2 j hj).2, h.e j hj, if_neg (fun e => ek' (by rw [e]))]
   · have hm : at_ es i ∈ es := by rw [at_get hi]; exact List.getElem_mem hi
     have hm2 : at_ es k ∈ es := by rw [at_get hk]; exact List.getElem_mem hk
     dsimp only
     rw [upd_ne _ _ (hb2 _ hm), upd_ne _ _ (hb2 _ hm2), upd_ne _ _ hb1]
end Go.Proofs.Tq

set_option linter.unusedSimpArgs false
set_option linter.unusedVariables false
set_option maxRecDepth 100000
namespace Go.Proofs.Tq
open Go Go.Pl Go.Hp Go.Ck
theorem Try.mLess : methodV Try.prog 111 "Less" = some 106 := by kernel_rfl
theorem Try.mSwap : methodV Try.prog 111 "Swap" = some 109 := by kernel_rfl
theorem Try.mLen : methodV Try.prog 111 "Len" = some 105 := by kernel_rfl
theorem Try.mPush : methodV Try.prog 111 "Push" = some 108 := by kernel_rfl
theorem Try.mPop : methodV Try.prog 111 "Pop" = some 107 := by kernel_rfl
theorem Fr.refl (bl : Nat) (es : List (Ent Tb)) (bx : Boxes) : Fr bl es bx bx := fun _ _ _ => rfl
theorem Fr.swap {bl : Nat} {es : List (Ent Tb)} {i k : Nat} {bx bx' bx'' : Boxes} (h : Fr bl es bx bx') (h' : Fr bl (swp es i k) bx' bx'') (hi : i < es.length) (hk : k < es.length) : Fr bl es bx bx'' := fun b h1 h2 => by
 rw [h' b h1 (fun e he => h2 e ((swp_perm es i k hi hk).mem_iff.1 he)), h b h1 h2]
structure At (bx bx' : Boxes) (bq bl : Nat) (g : FuncId) (vm : V) (next : Int) (n : Nat) (es es' : List (Ent Tb)) : Prop where
 s : ∃ R, R.length = n ∧ HeapS bx' bq bl g vm next es' R
 f : Fr bl es bx bx'
 p : es'.Perm es
theorem At.step {bx bx' bx'' : Boxes} {bq bl : Nat} {g : FuncId} {vm : V} {next : Int} {n : Nat} {es es' : List (Ent Tb)} (h : At bx bx' bq bl g vm next n es es') {i k : Nat} (hi : i < es'.length) (hk : k < es'.length) {R' : List V} (hn : R'.length = n) (h1 : HeapS bx'' bq bl g vm next (swp es' i k) R') (h2 : Fr bl es' bx' bx'') :
   At bx bx'' bq bl g vm next n es (swp es' i k) :=
 ⟨⟨R', hn, h1⟩, fun b hb1 hb2 => by rw [h2 b hb1 (fun e he => hb2 e (h.p.mem_iff.1 he)), h.f b hb1 hb2], (swp_perm _ _ _ hi hk).trans h.p⟩
theorem Try.up_c {bx : Boxes} {bq bl : Nat} {g : FuncId} {lt : Tb → Tb → Bool} {vm : V} {next : Int} {es : List (Ent Tb)} {R : List V} (hlt : Lt Try.prog g lt) (h : HeapS bx bq bl g vm next es R) {j : Nat} (hj : j < es.length) :
   AbsCall Try.prog 84 [.iface 111 (.ptr bq 4 0 0), .int .i64 j] bx fun r bx' => At bx bx' bq bl g vm next R.length es (upL lt es j) := by
 refine Try.ctr84 fun hf => ?_
 have hl := h.len
 simp [go_sem, Try.C84, hf]
 refine pw_loop (ι := Nat × List (Ent Tb) × Boxes) (fun p => p.1 < es.length ∧ At bx p.2.2 bq bl g vm next R.length es p.2.1 ∧ upL lt p.2.1 p.1 = upL lt es j)
   (fun p => ⟨23, slk [(0, .iface 111 (.ptr bq 4 0 0)), (1, .int .i64 p.1)], p.2.2⟩) (fun p => p.1) (j, es, bx) ⟨hj, ⟨⟨R, rfl, h⟩, Fr.refl _ _ _, List.Perm.refl _⟩, rfl⟩ (cov_look (by simp [go_sem])) ?_
 rintro ⟨j, es', bx'⟩ ⟨hj', hat, hup⟩
 dsimp only at hj' hat hup ⊢
 obtain ⟨R', hRl, hs⟩ := hat.s
 have hle : es'.length = es.length := hat.p.length_eq
 have w1 : IntKind.i64.wrap ((j : Int) - 1) = (j : Int) - 1 := wr64 (by omega)
 by_cases hj0 : j = 0
 · subst hj0
   have w2 : IntKind.i64.wrap (-1) = -1 := by decide
   have w3 : IntKind.i64.wrap ((-1 : Int).tdiv 2) = 0 := by decide
   have hu : upL lt es' 0 = es' := by unfold upL; simp
   simp [go_sem, Try.L84_0, hs.fin, w1, w2, w3, (by decide : IntKind.i64.wrap 0 = 0), (by decide : (-1 : Int).tdiv 2 = 0)]
   refine ret_pure (by simp [go_sem]) ?_
   rw [← hup, hu]; exact hat
 obtain ⟨p, hp⟩ : ∃ p, (j - 1) / 2 = p := ⟨_, rfl⟩
 have w2 : IntKind.i64.wrap (((j : Int) - 1).tdiv 2) = (p : Int) := by
   rw [Int.tdiv_eq_ediv_of_nonneg (by omega), wr64 (by omega)]; omega
 have hpj : ¬ (p : Int) = j := by omega
 have hu : upL lt es' j = if bef lt (at_ es' j) (at_ es' p) = true then upL lt (swp es' p j) p else es' := by
   rw [upL.eq_def, dif_neg hj0, hp]
 have cL := Try.less_c hlt hs (i := j) (k := p) (by omega) (by omega)
 have cS := Try.swap_c hs (i := p) (k := j) (by omega) (by omega)
 simp [go_sem, Try.L84_0, hs.fin, w1, w2, hpj]
 refine invK_pure Try.mLess (by simp [go_sem]) (by simp [go_sem]) (by simpa [go_sem] using cL) ?_
 simp [go_sem]
 refine ⟨fun hb => ?_, fun hb => ?_⟩
 · refine ret_pure (by simp [go_sem]) ?_
   rw [← hup, hu, if_neg (by simp [hb])]; exact hat
 · refine invK_abs Try.mSwap (by simp [go_sem]) (by simp [go_sem]) (by simpa [go_sem] using cS) ?_
   rintro r bx2 ⟨R2, hR2, hs2, hf2⟩
   simp [go_sem]
   refine ⟨(p, swp es' p j, bx2), ⟨by dsimp only; omega, hat.step (by omega) (by omega) (by omega) hs2 hf2, ?_⟩, cov_look (by simp [go_sem]), by dsimp only; omega⟩
   dsimp only
   rw [← hup, hu, if_pos hb]
theorem Try.down_c {bx : Boxes} {bq bl : Nat} {g : FuncId} {lt : Tb → Tb → Bool} {vm : V} {next : Int} {es : List (Ent Tb)} {R : List V} (hlt : Lt Try.prog g lt) (h : HeapS bx bq bl g vm next es R) {i n : Nat} (hi : i < es.length) (hn : n ≤ es.length) :
   AbsCall Try.prog 85 [.iface 111 (.ptr bq 4 0 0), .int .i64 i, .int .i64 n] bx fun r bx' => r = .bool (decide (i < (downL lt es i n).2)) ∧ At bx bx' bq bl g vm next R.length es (downL lt es i n).1 := by
 refine Try.ctr85 fun hf => ?_
 have hl := h.len
 simp [go_sem, Try.C85, hf]
 refine pw_loop (ι := Nat × List (Ent Tb) × Boxes) (fun p => p.1 < es.length ∧ At bx p.2.2 bq bl g vm next R.length es p.2.1 ∧ downL lt p.2.1 p.1 n = downL lt es i n)
   (fun p => ⟨48, slk [(0, .iface 111 (.ptr bq 4 0 0)), (1, .int .i64 i), (2, .int .i64 n), (7, .int .i64 p.1)], p.2.2⟩) (fun p => es.length - p.1) (i, es, bx) ⟨hi, ⟨⟨R, rfl, h⟩, Fr.refl _ _ _, List.Perm.refl _⟩, rfl⟩ (cov_look (by simp [go_sem])) ?_
 rintro ⟨j, es', bx'⟩ ⟨hj', hat, hdn⟩
 dsimp only at hj' hat hdn ⊢
 obtain ⟨R', hRl, hs⟩ := hat.s
 have hle : es'.length = es.length := hat.p.length_eq
 have w1 : IntKind.i64.wrap (2 * (j : Int)) = 2 * (j : Int) := wr64 (by omega)
 have w2 : IntKind.i64.wrap (2 * (j : Int) + 1) = 2 * (j : Int) + 1 := wr64 (by omega)
 have w3 : IntKind.i64.wrap (2 * (j : Int) + 1 + 1) = 2 * (j : Int) + 2 := by rw [wr64 (by omega)]; omega
 by_cases hj0 : n ≤ 2 * j + 1
 · have hu : downL lt es' j n = (es', j) := by rw [downL.eq_def, dif_pos hj0]
   have hc : (n : Int) ≤ 2 * (j : Int) + 1 := by omega
   simp [go_sem, Try.L85_0, hs.fin, w1, w2, hc]
   refine ret_pure (by simp [go_sem]) ?_
   rw [← hdn, hu]
   exact ⟨by simp [go_sem], hat⟩
 have hc : ¬ (n : Int) ≤ 2 * (j : Int) + 1 := by omega
 have hc2 : ¬ 2 * (j : Int) + 1 < 0 := by omega
 have hu : downL lt es' j n = if bef lt (at_ es' (kid lt es' j n)) (at_ es' j) then downL lt (swp es' j (kid lt es' j n)) (kid lt es' j n) n else (es', j) := by rw [downL.eq_def, dif_neg hj0]
 obtain ⟨c1, c2, c3⟩ := kid_lt lt es' hj0
 simp [go_sem, Try.L85_0, hs.fin, w1, w2, w3, hc, hc2]
 by_cases h2 : 2 * j + 2 < n
 · have hg : (2 * (j : Int) + 2 < n) := by omega
   have cL := Try.less_c hlt hs (i := 2 * j + 2) (k := 2 * j + 1) (by omega) (by omega)
   simp only [Int.natCast_add, Int.natCast_mul, Int.cast_ofNat_Int] at cL
   simp [go_sem, hg]
   refine invK_pure Try.mLess (by simp [go_sem]) (by simp [go_sem]) (by simpa [go_sem] using cL) ?_
   simp [go_sem]
   refine ⟨fun hb => ?_, fun hb => ?_⟩
   · have hkc : kid lt es' j n = 2 * j + 2 := by unfold kid; rw [if_pos ⟨by omega, hb⟩]
     rw [hkc] at hu c1 c2
     have cL2 := Try.less_c hlt hs (i := 2 * j + 2) (k := j) (by omega) (by omega)
     have cS := Try.swap_c hs (i := j) (k := 2 * j + 2) (by omega) (by omega)
     simp only [Int.natCast_add, Int.natCast_mul, Int.cast_ofNat_Int] at cL2 cS
     refine invK_pure Try.mLess (by simp [go_sem]) (by simp [go_sem]) (by simpa [go_sem] using cL2) ?_
     simp [go_sem]
     refine ⟨fun hb2 => ?_, fun hb2 => ?_⟩
     · rw [if_neg (by simp [hb2])] at hu
       refine ret_pure (by simp [go_sem]) ?_
       rw [← hdn, hu]
       exact ⟨by simp [go_sem], hat⟩
     · rw [if_pos hb2] at hu
       refine invK_abs Try.mSwap (by simp [go_sem]) (by simp [go_sem]) (by simpa [go_sem] using cS) ?_
       rintro r bx2 ⟨R2, hR2, hs2, hf2⟩
       simp [go_sem]
       refine ⟨(2 * j + 2, swp es' j (2 * j + 2), bx2), ⟨by dsimp only; omega, hat.step (by omega) (by omega) (by omega) hs2 hf2, ?_⟩, cov_look (by simp [go_sem]), by dsimp only; omega⟩
       dsimp only
       rw [← hdn, hu]
   · have hkc : kid lt es' j n = 2 * j + 1 := by unfold kid; rw [if_neg (fun hh => by simp [hb] at hh)]
     rw [hkc] at hu c1 c2
     have cL2 := Try.less_c hlt hs (i := 2 * j + 1) (k := j) (by omega) (by omega)
     have cS := Try.swap_c hs (i := j) (k := 2 * j + 1) (by omega) (by omega)
     simp only [Int.natCast_add, Int.natCast_mul, Int.cast_ofNat_Int] at cL2 cS
     refine invK_pure Try.mLess (by simp [go_sem]) (by simp [go_sem]) (by simpa [go_sem] using cL2) ?_
     simp [go_sem]
     refine ⟨fun hb2 => ?_, fun hb2 => ?_⟩
     · rw [if_neg (by simp [hb2])] at hu
       refine ret_pure (by simp [go_sem]) ?_
       rw [← hdn, hu]
       exact ⟨by simp [go_sem], hat⟩
     · rw [if_pos hb2] at hu
       refine invK_abs Try.mSwap (by simp [go_sem]) (by simp [go_sem]) (by simpa [go_sem] using cS) ?_
       rintro r bx2 ⟨R2, hR2, hs2, hf2⟩
       simp [go_sem]
       refine ⟨(2 * j + 1, swp es' j (2 * j + 1), bx2), ⟨by dsimp only; omega, hat.step (by omega) (by omega) (by omega) hs2 hf2, ?_⟩, cov_look (by simp [go_sem]), by dsimp only; omega⟩
       dsimp only
       rw [← hdn, hu]
 · have hg : ¬ (2 * (j : Int) + 2 < n) := by omega
   simp [go_sem, hg]
   have hkc : kid lt es' j n = 2 * j + 1 := by unfold kid; rw [if_neg (fun hh => by omega)]
   rw [hkc] at hu c1 c2
   have cL2 := Try.less_c hlt hs (i := 2 * j + 1) (k := j) (by omega) (by omega)
   have cS := Try.swap_c hs (i := j) (k := 2 * j + 1) (by omega) (by omega)
   simp only [Int.natCast_add, Int.natCast_mul, Int.cast_ofNat_Int] at cL2 cS
   refine invK_pure Try.mLess (by simp [go_sem]) (by simp [go_sem]) (by simpa [go_sem] using cL2) ?_
   simp [go_sem]
   refine ⟨fun hb2 => ?_, fun hb2 => ?_⟩
   · rw [if_neg (by simp [hb2])] at hu
     refine ret_pure (by simp [go_sem]) ?_
     rw [← hdn, hu]
     exact ⟨by simp [go_sem], hat⟩
   · rw [if_pos hb2] at hu
     refine invK_abs Try.mSwap (by simp [go_sem]) (by simp [go_sem]) (by simpa [go_sem] using cS) ?_
     rintro r bx2 ⟨R2, hR2, hs2, hf2⟩
     simp [go_sem]
     refine ⟨(2 * j + 1, swp es' j (2 * j + 1), bx2), ⟨by dsimp only; omega, hat.step (by omega) (by omega) (by omega) hs2 hf2, ?_⟩, cov_look (by simp [go_sem]), by dsimp only; omega⟩
     dsimp only
     rw [← hdn, hu]
end Go.Proofs.Tq

set_option linter.unusedSimpArgs false
set_option linter.unusedVariables false
set_option maxRecDepth 100000
namespace Go.Proofs.Tq
open Go Go.Pl Go.Hp Go.Ck
def QS (bx : Boxes) (bq : Nat) (ol : Option Nat) (g : FuncId) (vm : V) (next : Int) (es : List (Ent Tb)) : Prop :=
 (es = [] ∧ ol = none ∧ bx bq = some (.row 104 4 [qV .nils g vm next]) ∧ FinB bx) ∨ ∃ bl R, ol = some bl ∧ HeapS bx bq bl g vm next es R
theorem QS.fin {bx : Boxes} {bq : Nat} {ol : Option Nat} {g : FuncId} {vm : V} {next : Int} {es : List (Ent Tb)} (h : QS bx bq ol g vm next es) : FinB bx := by
 rcases h with ⟨_, _, _, h⟩ | ⟨_, _, _, h⟩
 · exact h
 · exact h.fin
def Fq (bq : Nat) (ol : Option Nat) (es : List (Ent Tb)) (bx bx' : Boxes) : Prop := ∀ b, bx b ≠ none → b ≠ bq → ol ≠ some b → (∀ e, e ∈ es → b ≠ e.b) → bx' b = bx b
theorem heapS_snoc {bx' : Boxes} {bq bl : Nat} {g : FuncId} {vm : V} {next : Int} {es : List (Ent Tb)} {e : Ent Tb} {Rt : List V} (hq : bx' bq = some (.row 104 4 [qV (.own bl 1 0 (es.length + 1)) g vm next]))
   (hl : bx' bl = some (.row 107 1 (Rt ++ [.ptr e.b 6 0 0]))) (hRt : Rt.length = es.length) (hr : ∀ i, i < es.length → Rt[i]? = some (.ptr (at_ es i).b 6 0 0))
   (he : ∀ i, i < es.length → bx' (at_ es i).b = some (.row 109 6 [entC (at_ es i).h (at_ es i).v i])) (hee : bx' e.b = some (.row 109 6 [entC e.h e.v es.length]))
   (nd : (bq :: bl :: (es ++ [e]).map (·.b)).Nodup) (fin : FinB bx') (len : es.length < 100000) : HeapS bx' bq bl g vm next (es ++ [e]) (Rt ++ [.ptr e.b 6 0 0]) := by
 have hat : ∀ i, i < es.length → at_ (es ++ [e]) i = at_ es i := fun i hi => by
   unfold at_; rw [List.getD_eq_getElem?_getD, List.getD_eq_getElem?_getD, List.getElem?_append_left hi]
 have hat2 : at_ (es ++ [e]) es.length = e := by
   unfold at_; rw [List.getD_eq_getElem?_getD, List.getElem?_append_right (Nat.le_refl _)]; simp
 refine ⟨by rw [List.length_append]; exact hq, hl, fun i hi => ?_, fun i hi => ?_, nd, fin, by rw [List.length_append]; simp only [List.length_singleton]; omega⟩
 · rw [List.length_append, List.length_singleton] at hi
   by_cases h : i < es.length
   · rw [hat i h, List.getElem?_append_left (by omega)]; exact hr i h
   · obtain rfl : i = es.length := by omega
     rw [hat2, List.getElem?_append_right (by omega), hRt]; simp
 · rw [List.length_append, List.length_singleton] at hi
   by_cases h : i < es.length
   · rw [hat i h]; exact he i h
   · obtain rfl : i = es.length := by omega
     rw [hat2]; exact hee
theorem Try.ppush_c {bx : Boxes} {bq eb : Nat} {ol : Option Nat} {g : FuncId} {vm : V} {next h i : Int} {v : Tb} {es : List (Ent Tb)} (hs : QS bx bq ol g vm next es) (he : bx eb = some (.row 109 6 [entC h v i])) (h1 : eb ≠ bq) (h2 : ol ≠ some eb) (h3 : ∀ e, e ∈ es → e.b ≠ eb) (hlen : es.length < 100000) :
   AbsCall Try.prog 108 [.ptr bq 4 0 0, .iface 107 (.ptr eb 6 0 0)] bx fun r bx' => ∃ bl R, (bx bl = none ∨ ol = some bl) ∧ HeapS bx' bq bl g vm next (es ++ [⟨h, v, eb⟩]) R ∧ Fq bq ol (es ++ [⟨h, v, eb⟩]) bx bx' := by
 refine Try.ctr108 fun hf => ?_
 simp only [entC] at he
 have hne := Ne.symm h1
 rcases hs with ⟨rfl, rfl, hq, _⟩ | ⟨bl, R, rfl, hp⟩
 · simp only [qV] at hq
   simp [go_sem, Try.C108, hf, hq, he, upd_ne, h1, hne]
   intro b hb0
   have hb1 := (new_ne hb0).1
   have hb2 := (new_ne hb0).2
   have hb3 : b ≠ bq := fun e => by rw [e, hq] at hb2; cases hb2
   unfold appendA
   simp [go_sem, srcEls, hf, finB_upd, upd_ne, h1, hne, hb1, Ne.symm hb1, hb3, Ne.symm hb3]
   intro b' hb'
   have hc1 := (new_ne hb').1
   have hc2 := (new_ne (new_ne hb').2).1
   have hc3 := (new_ne (new_ne hb').2).2
   have hc4 : b' ≠ bq := fun e => by rw [e, hq] at hc3; cases hc3
   simp [go_sem, hq, upd_ne, h1, hne, hb1, Ne.symm hb1, hb3, Ne.symm hb3, hc1, Ne.symm hc1, hc2, Ne.symm hc2, hc4, Ne.symm hc4]
   refine ret_pure (by simp [go_sem]) ⟨b', hc3, ⟨_, heapS_snoc (es := []) (e := ⟨h, v, eb⟩) (Rt := []) ?_ ?_ rfl (fun i hi => absurd hi (Nat.not_lt_zero _)) (fun i hi => absurd hi (Nat.not_lt_zero _)) ?_ ?_ ?_ (by decide)⟩, fun c hc1' hc2' hc3' hc4' => ?_⟩
   · dsimp only; rw [upd_eq]; rfl
   · dsimp only; rw [upd_ne _ _ hc4, upd_eq]; rfl
   · dsimp only; rw [upd_ne _ _ h1, upd_ne _ _ (Ne.symm hc2), upd_ne _ _ (Ne.symm hb1), upd_eq]; rfl
   · simp [Ne.symm hc4, hne, hc2]
   · simp [finB_upd, hf]
   · have := hc4' ⟨h, v, eb⟩ (by simp)
     dsimp only at this ⊢
     have e1 : c ≠ b' := fun e => hc1' (by rw [e]; exact hc3)
     have e2 : c ≠ b := fun e => hc1' (by rw [e]; exact hb2)
     rw [upd_ne _ _ hc2', upd_ne _ _ e1, upd_ne _ _ e2, upd_ne _ _ this]
 · have hq := hp.q
   have hl := hp.l
   obtain ⟨n1, n2, n3⟩ := hp.ne
   have hbl : eb ≠ bl := fun e => h2 (by rw [e])
   simp only [qV] at hq
   simp [go_sem, Try.C108, hf, hq, hl, he, upd_ne, h1, hne, hbl, Ne.symm hbl, n1, Ne.symm n1]
   intro b hb0
   have hb1 := (new_ne hb0).1
   have hb2 := (new_ne hb0).2
   have hb3 : b ≠ bq := fun e => by rw [e, hq] at hb2; cases hb2
   have hb4 : b ≠ bl := fun e => by rw [e, hl] at hb2; cases hb2
   have hRl : es.length ≤ R.length := by
     rcases Nat.eq_zero_or_pos es.length with h0 | h0
     · omega
     · obtain ⟨h5, _⟩ := hp.rlt (i := es.length - 1) (by omega)
       omega
   unfold appendA
   simp [go_sem, srcEls, hf, finB_upd, upd_ne, h1, hne, hb1, Ne.symm hb1, hb3, Ne.symm hb3, hb4, Ne.symm hb4, hl, hbl, Ne.symm hbl, hRl]
   refine ⟨by omega, by omega, fun b' hb' => ?_⟩
   have hme : ∀ i, i < es.length → at_ es i ∈ es := fun i hi => by rw [at_get hi]; exact List.getElem_mem hi
   have hX : ∀ c, c ≠ bl → bx c ≠ none → b' ≠ c := fun c hc hcn e => by
     subst e
     have hbb : b' ≠ b := fun e => hcn (by rw [e]; exact hb2)
     rw [upd_ne _ _ hc, upd_ne _ _ hbb] at hb'
     by_cases e2 : b' = eb
     · subst e2; rw [upd_eq] at hb'; cases hb'
     · rw [upd_ne _ _ e2] at hb'; exact hcn hb'
   have d1 : b' ≠ bq := hX bq n1 (by rw [hq]; simp)
   have d2 : b' ≠ eb := hX eb hbl (by rw [he]; simp)
   have d3 : b' ≠ b := fun e => by
     subst e
     rw [upd_ne _ _ hb4, upd_eq] at hb'; cases hb'
   have d4 : ∀ i, i < es.length → b' ≠ (at_ es i).b := fun i hi => hX _ (n2 i hi).2 (by rw [hp.e i hi]; simp)
   have d5 : b' = bl ∨ bx b' = none := by
     by_cases e : b' = bl
     · exact .inl e
     · rw [upd_ne _ _ e, upd_ne _ _ d3, upd_ne _ _ d2] at hb'
       exact .inr hb'
   have hmin : min es.length R.length = es.length := by omega
   have hfin : HeapS (upd (upd (upd (upd (upd bx eb (some (.row 109 6 [entC h v es.length]))) b (some (.row 107 1 [.ptr eb 6 0 0]))) bl none) b' (some (.row 107 1 (R.take es.length ++ [.ptr eb 6 0 0])))) bq (some (.row 104 4 [qV (.own b' 1 0 (es.length + 1)) g vm next]))) bq b' g vm next (es ++ [⟨h, v, eb⟩]) (R.take es.length ++ [.ptr eb 6 0 0]) := by
     refine heapS_snoc (e := ⟨h, v, eb⟩) (upd_eq _ _ _) ?_ (by rw [List.length_take]; omega) (fun i hi => ?_) (fun i hi => ?_) ?_ ?_ ?_ hlen
     · rw [upd_ne _ _ d1, upd_eq]
     · rw [List.getElem?_take, if_pos hi]; exact hp.r i hi
     · obtain ⟨g1, g2⟩ := n2 i hi
       have g3 := h3 _ (hme i hi)
       have g4 : (at_ es i).b ≠ b := fun e => by have := hp.e i hi; rw [e, hb2] at this; cases this
       rw [upd_ne _ _ g1, upd_ne _ _ (Ne.symm (d4 i hi)), upd_ne _ _ g2, upd_ne _ _ g4, upd_ne _ _ g3]
       exact hp.e i hi
     · dsimp only
       rw [upd_ne _ _ h1, upd_ne _ _ (Ne.symm d2), upd_ne _ _ hbl, upd_ne _ _ (Ne.symm hb1), upd_eq]
     · have hnd := hp.nd
       rw [List.nodup_cons, List.nodup_cons] at hnd ⊢
       obtain ⟨m1, m2, m3⟩ := hnd
       simp only [List.map_append, List.map_cons, List.map_nil, List.mem_cons, List.mem_append, List.mem_map, List.not_mem_nil, or_false, not_or] at m1 m2 ⊢
       refine ⟨⟨Ne.symm d1, m1.2, hne⟩, ⟨fun ⟨e, he1, he2⟩ => ?_, d2⟩, ?_⟩
       · obtain ⟨i, hi, rfl⟩ := List.getElem_of_mem he1
         exact d4 i hi (by rw [at_get hi]; exact he2.symm)
       · rw [List.nodup_append]
         refine ⟨m3, by simp, ?_⟩
         intro x hx y hy
         obtain ⟨e, he1, rfl⟩ := List.mem_map.1 hx
         simp at hy
         subst hy
         exact h3 e he1
     · simp [finB_upd, hf]
   have hfr : Fq bq (some bl) (es ++ [⟨h, v, eb⟩]) bx (upd (upd (upd (upd (upd bx eb (some (.row 109 6 [entC h v es.length]))) b (some (.row 107 1 [.ptr eb 6 0 0]))) bl none) b' (some (.row 107 1 (R.take es.length ++ [.ptr eb 6 0 0])))) bq (some (.row 104 4 [qV (.own b' 1 0 (es.length + 1)) g vm next]))) := fun c k1 k2 k3 k4 => by
     have k5 := k4 ⟨h, v, eb⟩ (by simp)
     have k6 : c ≠ bl := fun e => k3 (by rw [e])
     have k7 : c ≠ b := fun e => k1 (by rw [e]; exact hb2)
     have k8 : c ≠ b' := fun e => by
       rcases d5 with e2 | e2
       · exact k6 (e.trans e2)
       · exact k1 (by rw [e]; exact e2)
     dsimp only at k5
     rw [upd_ne _ _ k2, upd_ne _ _ k8, upd_ne _ _ k6, upd_ne _ _ k7, upd_ne _ _ k5]
   simp only [qV, entC] at hfin hfr
   simp [go_sem, hq, upd_ne, h1, hne, hb1, Ne.symm hb1, hb3, Ne.symm hb3, hb4, Ne.symm hb4, d1, Ne.symm d1, d2, Ne.symm d2, d3, Ne.symm d3, n1, Ne.symm n1]
   refine ret_pure (by simp [go_sem]) ?_
   rcases d5 with rfl | e2
   · exact .inr ⟨⟨_, hfin⟩, hfr⟩
   · exact .inl ⟨b', e2, ⟨_, hfin⟩, hfr⟩
end Go.Proofs.Tq

set_option linter.unusedSimpArgs false
set_option linter.unusedVariables false
set_option maxRecDepth 100000
namespace Go.Proofs.Tq
open Go Go.Pl Go.Hp Go.Ck
theorem Try.ppop_c {bx : Boxes} {bq bl : Nat} {g : FuncId} {vm : V} {next : Int} {es : List (Ent Tb)} {R : List V} (h : HeapS bx bq bl g vm next es R) (hne : es ≠ []) :
   AbsCall Try.prog 107 [.ptr bq 4 0 0] bx fun r bx' => r = .iface 107 (.ptr (at_ es (es.length - 1)).b 6 0 0) ∧ (∃ R', HeapS bx' bq bl g vm next es.dropLast R') ∧ (∀ b, b ≠ bq → b ≠ bl → bx' b = bx b) := by
 refine Try.ctr107 fun hf => ?_
 have hpos : 0 < es.length := List.length_pos_iff.2 hne
 have hq := h.q
 have hl := h.l
 have hlen := h.len
 obtain ⟨n1, n2, n3⟩ := h.ne
 obtain ⟨i1, i2⟩ := h.rlt (i := es.length - 1) (by omega)
 have w1 : IntKind.i64.wrap ((es.length : Int) - 1) = ((es.length - 1 : Nat) : Int) := by rw [wr64 (by omega)]; omega
 have hlt : es.length - 1 < es.length := by omega
 simp only [qV] at hq
 generalize hn : es.length - 1 = n at *
 simp [go_sem, Try.C107, hf, hq, hl, w1, hlt, i1, i2, upd_ne, n1, Ne.symm n1]
 have hdl : es.dropLast.length = n := by rw [List.length_dropLast]; exact hn
 refine ⟨by omega, ret_pure (by simp [go_sem]) ⟨by simp [go_sem], ⟨R.set n .nilp, ⟨?_, ?_, fun i hi => ?_, fun i hi => ?_, ?_, ?_, ?_⟩⟩, fun b hb1 hb2 => ?_⟩⟩
 · dsimp only; rw [upd_eq, hdl]; rfl
 · dsimp only; rw [upd_ne _ _ (Ne.symm n1), upd_eq]
 · rw [hdl] at hi
   rw [at_drop (by omega), List.getElem?_set_ne (by omega)]
   exact h.r i (by omega)
 · rw [hdl] at hi
   obtain ⟨g1, g2⟩ := n2 i (by omega)
   rw [at_drop (by omega)]
   dsimp only
   rw [upd_ne _ _ g1, upd_ne _ _ g2]
   exact h.e i (by omega)
 · have hnd := h.nd
   refine List.Nodup.sublist ?_ hnd
   exact (((List.dropLast_sublist es).map _).cons_cons bl).cons_cons bq
 · simp [finB_upd, hf]
 · omega
 · dsimp only; rw [upd_ne _ _ hb1, upd_ne _ _ hb2]
theorem Try.hpush_c {bx : Boxes} {bq eb : Nat} {ol : Option Nat} {g : FuncId} {lt : Tb → Tb → Bool} {vm : V} {next h i : Int} {v : Tb} {es : List (Ent Tb)} (hlt : Lt Try.prog g lt) (hs : QS bx bq ol g vm next es) (he : bx eb = some (.row 109 6 [entC h v i])) (h1 : eb ≠ bq) (h2 : ol ≠ some eb) (h3 : ∀ e, e ∈ es → e.b ≠ eb) (hlen : es.length < 100000) :
   AbsCall Try.prog 71 [.iface 111 (.ptr bq 4 0 0), .iface 107 (.ptr eb 6 0 0)] bx fun r bx' => ∃ bl R, (bx bl = none ∨ ol = some bl) ∧ HeapS bx' bq bl g vm next (upL lt (es ++ [⟨h, v, eb⟩]) es.length) R ∧ Fq bq ol (es ++ [⟨h, v, eb⟩]) bx bx' := by
 refine Try.ctr71 fun hf => ?_
 simp [go_sem, Try.C71, hf]
 refine invK_abs Try.mPush (by simp [go_sem]) (by simp [go_sem]) (Try.ppush_c hs he h1 h2 h3 hlen) ?_
 rintro r bx1 ⟨bl, R, hb, hs1, hf1⟩
 have hl : (es ++ [⟨h, v, eb⟩] : List (Ent Tb)).length = es.length + 1 := by simp
 have cN := Try.len_c hs1.fin hs1.q (.inr ⟨bl, rfl⟩)
 have cU := Try.up_c hlt hs1 (j := es.length) (by omega)
 have w1 : IntKind.i64.wrap ((es.length : Int) + 1 - 1) = (es.length : Int) := by rw [wr64 (by omega)]; omega
 rw [hl] at cN
 simp only [Int.natCast_add, Int.cast_ofNat_Int] at cN
 simp [go_sem, hs1.fin]
 refine invK_pure Try.mLen (by simp [go_sem]) (by simp [go_sem]) (by simpa [go_sem] using cN) ?_
 have w2 : IntKind.i64.wrap (es.length : Int) = (es.length : Int) := wr64 (by omega)
 simp [go_sem, w1, w2]
 refine callK_abs cU ?_
 rintro r bx2 ⟨⟨R2, _, hs2⟩, hf2, hp2⟩
 simp [go_sem]
 refine ret_pure (by simp [go_sem]) ⟨bl, hb, ⟨R2, hs2⟩, fun b k1 k2 k3 k4 => ?_⟩
 have k5 : b ≠ bl := fun e => by
   subst e
   rcases hb with hb | hb
   · exact k1 hb
   · exact k3 hb
 dsimp only
 rw [hf2 b k5 k4]
 exact hf1 b k1 k2 k3 k4
theorem Try.hpop_c {bx : Boxes} {bq bl : Nat} {g : FuncId} {lt : Tb → Tb → Bool} {vm : V} {next : Int} {es : List (Ent Tb)} {R : List V} (hlt : Lt Try.prog g lt) (h : HeapS bx bq bl g vm next es R) (hne : es ≠ []) :
   AbsCall Try.prog 73 [.iface 111 (.ptr bq 4 0 0)] bx fun r bx' => r = .iface 107 (.ptr (at_ es 0).b 6 0 0) ∧ (∃ R', HeapS bx' bq bl g vm next (popL lt es) R') ∧ Fq bq (some bl) es bx bx' := by
 refine Try.ctr73 fun hf => ?_
 have hpos : 0 < es.length := List.length_pos_iff.2 hne
 have hlen := h.len
 have cN := Try.len_c h.fin h.q (.inr ⟨bl, rfl⟩)
 have cS := Try.swap_c h (i := 0) (k := es.length - 1) (by omega) (by omega)
 have w1 : IntKind.i64.wrap ((es.length : Int) - 1) = ((es.length - 1 : Nat) : Int) := by rw [wr64 (by omega)]; omega
 simp [go_sem, Try.C73, hf]
 refine invK_pure Try.mLen (by simp [go_sem]) (by simp [go_sem]) cN ?_
 simp [go_sem, w1]
 refine invK_abs Try.mSwap (by simp [go_sem]) (by simp [go_sem]) cS ?_
 rintro r bx1 ⟨R1, hR1, hs1, hf1⟩
 have hl1 := swp_len es 0 (es.length - 1)
 have cD := Try.down_c hlt hs1 (i := 0) (n := es.length - 1) (by omega) (by omega)
 simp [go_sem]
 refine callK_abs cD ?_
 rintro r bx2 ⟨rfl, ⟨R2, _, hs2⟩, hf2, hp2⟩
 have hl2 := downL_len lt (es.length - 1) (es.length - 1) 0 (swp es 0 (es.length - 1)) (by omega)
 have hd2 := (downL_perm lt (es.length - 1) (es.length - 1) 0 (swp es 0 (es.length - 1)) (by omega) (by omega)).2 (es.length - 1) (by omega)
 rw [swp_at _ _ _ _ (by omega) (by omega), if_pos rfl] at hd2
 have cP := Try.ppop_c hs2 (fun e => by rw [e] at hl2; simp at hl2; omega)
 rw [hl2, hl1, hd2] at cP
 simp [go_sem]
 refine invK_abs Try.mPop (by simp [go_sem]) (by simp [go_sem]) cP ?_
 rintro r bx3 ⟨rfl, ⟨R3, hs3⟩, hf3⟩
 simp [go_sem]
 refine ret_pure (by simp [go_sem]) ⟨by simp [go_sem], ⟨R3, hs3⟩, fun b k1 k2 k3 k4 => ?_⟩
 have k5 : b ≠ bl := fun e => k3 (by rw [e])
 dsimp only
 rw [hf3 b k2 k5, hf2 b k5 (fun e he => k4 e ((swp_perm es 0 _ (by omega) (by omega)).mem_iff.1 he)), hf1 b k5 k4]
end Go.Proofs.Tq

set_option linter.unusedSimpArgs false
set_option linter.unusedVariables false
set_option maxRecDepth 100000
namespace Go.Proofs.Tq
open Go Go.Pl Go.Hp Go.Ck
def mpV (ms : List (Int × Nat)) : List (V × V) := ms.map fun p => (.int .i64 p.1, .ptr p.2 6 0 0)
def pr (e : Ent Tb) : Int × Nat := (e.h, e.b)
structure QM (bx : Boxes) (bq : Nat) (ol : Option Nat) (g : FuncId) (bm : Nat) (next : Int) (es : List (Ent Tb)) : Prop where
 s : QS bx bq ol g (.mp bm) next es
 m : ∃ ms, ms.Perm (es.map pr) ∧ bx bm = some (.map (mpV ms))
 h : ∀ e, e ∈ es → 1 ≤ e.h ∧ e.h < next
 hd : (es.map (·.h)).Nodup
 d : bm ≠ bq ∧ ol ≠ some bm ∧ ∀ e, e ∈ es → e.b ≠ bm
 n : 1 ≤ next ∧ next ≤ 1000000000000000
theorem QS.q {bx : Boxes} {bq : Nat} {ol : Option Nat} {g : FuncId} {vm : V} {next : Int} {es : List (Ent Tb)} (h : QS bx bq ol g vm next es) : ∃ sv, bx bq = some (.row 104 4 [qV sv g vm next]) ∧ ((es = [] ∧ sv = .nils) ∨ ∃ bl, ol = some bl ∧ sv = .own bl 1 0 es.length) := by
 rcases h with ⟨h1, _, h2, _⟩ | ⟨bl, R, h1, h2⟩
 · exact ⟨_, h2, .inl ⟨h1, rfl⟩⟩
 · exact ⟨_, h2.q, .inr ⟨bl, h1, rfl⟩⟩
theorem findV_at (h : Int) : ∀ (ms : List (Int × Nat)) (k : Nat), (ms.map (·.1)).Nodup → (∀ b, (h, b) ∈ ms → ∃ i, ms[i]? = some (h, b) ∧ findV (.int .i64 h) (mpV ms) k = some (some (k + i, .ptr b 6 0 0))) ∧ ((∀ b, (h, b) ∉ ms) → findV (.int .i64 h) (mpV ms) k = some none)
 | [], k, _ => ⟨fun b hb => (by cases hb), fun _ => rfl⟩
 | (h', b') :: ms, k, hn => by
   rw [List.map_cons, List.nodup_cons] at hn
   obtain ⟨ih1, ih2⟩ := findV_at h ms (k + 1) hn.2
   have hst : findV (.int .i64 h) (mpV ((h', b') :: ms)) k = if h = h' then some (some (k, .ptr b' 6 0 0)) else findV (.int .i64 h) (mpV ms) (k + 1) := by
     show findV (.int .i64 h) ((.int .i64 h', .ptr b' 6 0 0) :: mpV ms) k = _
     rw [findV]
     by_cases e : h = h'
     · simp [sameK, e]
     · have : (h == h') = false := by simp [e]
       simp [sameK, this, e]
   rw [hst]
   refine ⟨fun b hb => ?_, fun hno => ?_⟩
   · rcases List.mem_cons.1 hb with e | e
     · injection e with e1 e2
       subst e1 e2
       exact ⟨0, rfl, by simp⟩
     · have : h ≠ h' := fun e2 => hn.1 (by rw [← e2]; exact List.mem_map.2 ⟨_, e, rfl⟩)
       rw [if_neg this]
       obtain ⟨i, h1, h2⟩ := ih1 b e
       exact ⟨i + 1, h1, by rw [h2]; congr 3; omega⟩
   · have : h ≠ h' := fun e => hno b' (by simp [e])
     rw [if_neg this]
     exact ih2 fun b hb => hno b (List.mem_cons_of_mem _ hb)
theorem Try.made_c {bx : Boxes} {bq : Nat} {sv : V} {g : FuncId} {bm : Nat} {next : Int} (hf : FinB bx) (hq : bx bq = some (.row 104 4 [qV sv g (.mp bm) next])) :
   PureCall Try.prog 70 [.ptr bq 4 0 0] bx (.bool true) := by
 refine Try.ctr70 fun hf => ?_
 simp only [qV] at hq
 simp [go_sem, Try.C70, hf, hq]
 exact ret_pure (by simp [go_sem]) (by simp [go_sem])
theorem Try.New_c (g : FuncId) (bx : Boxes) :
   AbsCall Try.prog 34 [.fn (.func g) []] bx fun r bx' => ∃ bq bm, bx bq = none ∧ bx bm = none ∧ r = .ptr bq 4 0 0 ∧ QM bx' bq none g bm 1 [] ∧ Ext bx bx' := by
 refine Try.ctr34 fun hf => ?_
 simp [go_sem, Try.C34, hf]
 intro bm hbm bq hbq
 obtain ⟨hn, hbq'⟩ := new_ne hbq
 refine ret_pure (by simp [go_sem]) ⟨bq, hbq', bm, hbm, by simp [go_sem], ⟨.inl ⟨rfl, rfl, ?_, ?_⟩, ⟨[], List.Perm.refl _, ?_⟩, fun e he => (by cases he), List.nodup_nil, ⟨Ne.symm hn, by simp, fun e he => (by cases he)⟩, by decide⟩, ?_⟩
 · dsimp only; rw [upd_eq]; rfl
 · simp [finB_upd, hf]
 · dsimp only; rw [upd_ne _ _ (Ne.symm hn), upd_eq]; rfl
 · exact ((Ext.refl _).new hbm _).new hbq _
def FQ (bq : Nat) (ol : Option Nat) (bm : Nat) (es : List (Ent Tb)) (bx bx' : Boxes) : Prop := ∀ b, bx b ≠ none → b ≠ bq → ol ≠ some b → b ≠ bm → (∀ e, e ∈ es → b ≠ e.b) → bx' b = bx b
def full (next : Int) (es : List (Ent Tb)) : Bool := decide (5000 ≤ es.length) || decide (1000000000000000 ≤ next)
theorem HeapS.vm {bx : Boxes} {bq bl bm : Nat} {g : FuncId} {vm : V} {next : Int} {es : List (Ent Tb)} {R : List V} {x : Box} (h : HeapS bx bq bl g vm next es R) (h1 : bm ≠ bq) (h2 : bm ≠ bl) (h3 : ∀ e, e ∈ es → e.b ≠ bm) : HeapS (upd bx bm (some x)) bq bl g vm next es R := by
 have hm : ∀ i, i < es.length → at_ es i ∈ es := fun i hi => by rw [at_get hi]; exact List.getElem_mem hi
 exact ⟨by rw [upd_ne _ _ (Ne.symm h1)]; exact h.q, by rw [upd_ne _ _ (Ne.symm h2)]; exact h.l, h.r, fun i hi => by rw [upd_ne _ _ (h3 _ (hm i hi))]; exact h.e i hi, h.nd, (finB_upd _ _ _).2 h.fin, h.len⟩
theorem QS.next {bx bx2 : Boxes} {bq bm : Nat} {ol : Option Nat} {g : FuncId} {vm : V} {next next' : Int} {es : List (Ent Tb)} (h : QS bx bq ol g vm next es)
   (hq : ∀ sv, bx bq = some (.row 104 4 [qV sv g vm next]) → bx2 bq = some (.row 104 4 [qV sv g vm next'])) (ho : ∀ b, bx b ≠ none → b ≠ bq → b ≠ bm → bx2 b = bx b) (hd : ol ≠ some bm ∧ ∀ e, e ∈ es → e.b ≠ bm) (hf : FinB bx2) : QS bx2 bq ol g vm next' es := by
 rcases h with ⟨h1, h2, h3, _⟩ | ⟨bl, R, rfl, hp⟩
 · exact .inl ⟨h1, h2, hq _ h3, hf⟩
 · obtain ⟨n1, n2, _⟩ := hp.ne
   have hm : ∀ i, i < es.length → at_ es i ∈ es := fun i hi => by rw [at_get hi]; exact List.getElem_mem hi
   refine .inr ⟨bl, R, rfl, ⟨hq _ hp.q, ?_, hp.r, fun i hi => ?_, hp.nd, hf, hp.len⟩⟩
   · rw [ho bl (by rw [hp.l]; simp) (Ne.symm n1) (fun e => hd.1 (by rw [e]))]; exact hp.l
   · rw [ho _ (by rw [hp.e i hi]; simp) (n2 i hi).1 (hd.2 _ (hm i hi))]; exact hp.e i hi
theorem Try.PushF_c {bx : Boxes} {bq bm : Nat} {ol : Option Nat} {g : FuncId} {next : Int} {es : List (Ent Tb)} (v : Tb) (h : QM bx bq ol g bm next es) (hfu : full next es = true) :
   PureCall Try.prog 37 [.ptr bq 4 0 0, vV v] bx (.tup [.int .i64 0, .int .i64 5]) := by
 refine Try.ctr37 fun hf => ?_
 obtain ⟨sv, hq, hsv⟩ := h.s.q
 have hmd := Try.made_c hf hq
 obtain ⟨ms, hms, hbm⟩ := h.m
 obtain ⟨d1, d2, d3⟩ := h.d
 obtain ⟨hn1, hn2⟩ := h.n
 simp only [qV] at hq
 have hqs := h.s
 have hfu' : 5000 ≤ es.length ∨ 1000000000000000 ≤ next := by simpa [full] using hfu
 have hg : (5000 ≤ (es.length : Int)) ∨ 1000000000000000 ≤ next := by omega
 rcases hsv with ⟨rfl, rfl⟩ | ⟨bl, rfl, rfl⟩
 · have hg : 1000000000000000 ≤ next := by simpa using hg
   simp [go_sem, Try.C37, hf, hq]
   refine callK_pure hmd ?_
   simp [go_sem, hf, hq, hg]
   exact ret_pure (by simp [go_sem]) (by simp [go_sem])
 · by_cases h5 : 5000 ≤ (es.length : Int)
   · simp [go_sem, Try.C37, hf, hq]
     refine callK_pure hmd ?_
     simp [go_sem, hf, hq, h5]
     exact ret_pure (by simp [go_sem]) (by simp [go_sem])
   · have hg : 1000000000000000 ≤ next := by omega
     simp [go_sem, Try.C37, hf, hq]
     refine callK_pure hmd ?_
     simp [go_sem, hf, hq, h5, hg]
     exact ret_pure (by simp [go_sem]) (by simp [go_sem])
theorem QS.live {bx : Boxes} {bq : Nat} {ol : Option Nat} {g : FuncId} {vm : V} {next : Int} {es : List (Ent Tb)} (h : QS bx bq ol g vm next es) : (∀ bl, ol = some bl → bx bl ≠ none) ∧ ∀ e, e ∈ es → bx e.b ≠ none := by
 rcases h with ⟨rfl, rfl, _, _⟩ | ⟨bl, R, rfl, hp⟩
 · exact ⟨fun bl hb => (by cases hb), fun e he => (by cases he)⟩
 · refine ⟨fun bl' hb => ?_, fun e he => ?_⟩
   · injection hb with hb
     subst hb
     rw [hp.l]; simp
   · obtain ⟨i, hi, rfl⟩ := List.getElem_of_mem he
     have := hp.e i hi
     rw [at_get hi] at this
     rw [this]; simp
theorem Try.Push_c {bx : Boxes} {bq bm : Nat} {ol : Option Nat} {g : FuncId} {lt : Tb → Tb → Bool} {next : Int} {es : List (Ent Tb)} (v : Tb) (hlt : Lt Try.prog g lt) (h : QM bx bq ol g bm next es) (hfu : full next es = false)
   {Kc : V → Boxes → Prop} (hK : ∀ eb bl bx', bx eb = none → (bx bl = none ∨ ol = some bl) → QM bx' bq (some bl) g bm (next + 1) (upL lt (es ++ [⟨next, v, eb⟩]) es.length) → FQ bq ol bm es bx bx' → Kc (.tup [.int .i64 next, .int .i64 0]) bx') :
   AbsCall Try.prog 37 [.ptr bq 4 0 0, vV v] bx Kc := by
 refine Try.ctr37 fun hf => ?_
 obtain ⟨sv, hq, hsv⟩ := h.s.q
 have hmd := Try.made_c hf hq
 obtain ⟨ms, hms, hbm⟩ := h.m
 obtain ⟨d1, d2, d3⟩ := h.d
 obtain ⟨hn1, hn2⟩ := h.n
 simp only [qV] at hq
 have hqs := h.s
 have hfu' : ¬ (5000 ≤ es.length ∨ 1000000000000000 ≤ next) := by simpa [full] using hfu
 have hg1 : ¬ (5000 ≤ (es.length : Int)) := by omega
 have hg2 : ¬ 1000000000000000 ≤ next := by omega
 have w1 : IntKind.i64.wrap (next + 1) = next + 1 := wr64 (by omega)
 have hkeys : (ms.map (·.1)).Nodup := by
   have := (hms.map (·.1)).nodup_iff.2 (by rw [List.map_map]; exact h.hd)
   exact this
 have hnot : ∀ b, (next, b) ∉ ms := fun b hb => by
   obtain ⟨e, he, hee⟩ := List.mem_map.1 (hms.mem_iff.1 hb)
   have := (h.h e he).2
   have : e.h = next := congrArg Prod.fst hee
   omega
 have hfind := (findV_at next ms 0 hkeys).2 hnot
 obtain ⟨lv1, lv2⟩ := hqs.live
 have hpush : ∀ eb, bx eb = none → eb ≠ bq → eb ≠ bm → AbsCall Try.prog 71 [.iface 111 (.ptr bq 4 0 0), .iface 107 (.ptr eb 6 0 0)] (upd (upd (upd bx eb (some (.row 109 6 [.agg [.int .i64 next, .int .i64 v.1.id, .int .i64 v.1.at_, .int .i64 v.1.kind, .int .i64 v.1.owner, .int .i64 0]]))) bq (some (.row 104 4 [.agg [sv, .fn (.func g) [], .mp bm, .int .i64 (next + 1)]]))) bm (some (.map (mpV ms ++ [(.int .i64 next, .ptr eb 6 0 0)])))) fun r bx' =>
     ∃ i : Int, bx' eb = some (.row 109 6 [entC next v i]) ∧ ∃ bl, (bx bl = none ∨ ol = some bl) ∧ QM bx' bq (some bl) g bm (next + 1) (upL lt (es ++ [⟨next, v, eb⟩]) es.length) ∧ FQ bq ol bm es bx bx' := by
   intro eb heb hebq hebm
   have hs2 : QS (upd (upd (upd bx eb (some (.row 109 6 [.agg [.int .i64 next, .int .i64 v.1.id, .int .i64 v.1.at_, .int .i64 v.1.kind, .int .i64 v.1.owner, .int .i64 0]]))) bq (some (.row 104 4 [.agg [sv, .fn (.func g) [], .mp bm, .int .i64 (next + 1)]]))) bm (some (.map (mpV ms ++ [(.int .i64 next, .ptr eb 6 0 0)])))) bq ol g (.mp bm) (next + 1) es := by
     refine hqs.next (bm := bm) (fun sv' hsv' => ?_) (fun b k1 k2 k3 => ?_) ⟨d2, d3⟩ (by simp [finB_upd, hf])
     · rw [upd_ne _ _ (Ne.symm d1), upd_eq]
       rw [hq] at hsv'
       simp only [qV, Option.some.injEq, Box.row.injEq, List.cons.injEq, V.agg.injEq, and_true, true_and] at hsv'
       rw [qV, hsv']
     · rw [upd_ne _ _ k3, upd_ne _ _ k2, upd_ne _ _ (fun e => k1 (by rw [e]; exact heb))]
   have hol : ol ≠ some eb := fun e => lv1 eb e heb
   have hee : ∀ e, e ∈ es → e.b ≠ eb := fun e he e2 => lv2 e he (by rw [e2]; exact heb)
   refine (Try.hpush_c hlt hs2 (h := next) (v := v) (i := 0) (by rw [upd_ne _ _ hebm, upd_ne _ _ hebq, upd_eq]; rfl) hebq hol hee (by omega)).mono ?_
   rintro r bx3 ⟨bl', R', hbl', hs3, hf3⟩
   have hp3 : (upL lt (es ++ [⟨next, v, eb⟩]) es.length).Perm (es ++ [⟨next, v, eb⟩]) := upL_perm lt _ _ (by simp)
   have hbl2 : bx bl' = none ∨ ol = some bl' := by
     rcases hbl' with e | e
     · left
       by_cases e1 : bl' = bm
       · subst e1; rw [upd_eq] at e; cases e
       · rw [upd_ne _ _ e1] at e
         by_cases e2 : bl' = bq
         · subst e2; rw [upd_eq] at e; cases e
         · rw [upd_ne _ _ e2] at e
           by_cases e3 : bl' = eb
           · subst e3; exact heb
           · rwa [upd_ne _ _ e3] at e
     · exact .inr e
   have hbm3 : bx3 bm = some (.map (mpV (ms ++ [(next, eb)]))) := by
     rw [hf3 bm (by rw [upd_eq]; simp) d1 d2 (fun e he => ?_), upd_eq]
     · simp [mpV]
     · rcases List.mem_append.1 he with he | he
       · exact Ne.symm (d3 e he)
       · simp at he; subst he; exact Ne.symm hebm
   have hmem : (⟨next, v, eb⟩ : Ent Tb) ∈ upL lt (es ++ [⟨next, v, eb⟩]) es.length := hp3.mem_iff.2 (by simp)
   obtain ⟨i, hi, hie⟩ := List.getElem_of_mem hmem
   have hei := hs3.e i hi
   rw [at_get hi, hie] at hei
   refine ⟨i, hei, bl', hbl2, ⟨.inr ⟨bl', R', rfl, hs3⟩, ⟨ms ++ [(next, eb)], ?_, hbm3⟩, fun e he => ?_, ?_, ⟨d1, fun e => ?_, fun e he => ?_⟩, ⟨by omega, by omega⟩⟩, fun b k1 k2 k3 k4 k5 => ?_⟩
   · refine List.Perm.trans ?_ (hp3.map pr).symm
     rw [List.map_append]
     exact hms.append_right _
   · rcases List.mem_append.1 (hp3.mem_iff.1 he) with he | he
     · have := h.h e he; omega
     · simp at he; subst he; exact ⟨by dsimp only; omega, by dsimp only; omega⟩
   · refine ((hp3.map (·.h)).nodup_iff).2 ?_
     rw [List.map_append, List.nodup_append]
     refine ⟨h.hd, by simp, fun x hx y hy => ?_⟩
     obtain ⟨e, he, rfl⟩ := List.mem_map.1 hx
     simp at hy
     subst hy
     have := (h.h e he).2
     omega
   · injection e with e
     rcases hbl2 with e2 | e2
     · rw [e, hbm] at e2; cases e2
     · exact d2 (by rw [e2, e])
   · rcases List.mem_append.1 (hp3.mem_iff.1 he) with he | he
     · exact d3 e he
     · simp at he; subst he; exact hebm
   · have k6 : b ≠ eb := fun e => k1 (by rw [e]; exact heb)
     rw [hf3 b (by rw [upd_ne _ _ k4, upd_ne _ _ k2, upd_ne _ _ k6]; exact k1) k2 k3 (fun e he => ?_), upd_ne _ _ k4, upd_ne _ _ k2, upd_ne _ _ k6]
     rcases List.mem_append.1 he with he | he
     · exact k5 e he
     · simp at he; subst he; exact k6
 rcases hsv with ⟨rfl, rfl⟩ | ⟨bl, rfl, rfl⟩
 · simp [go_sem, Try.C37, hf, hq]
   refine callK_pure hmd ?_
   simp [go_sem, hf, hq, hg2]
   intro eb heb
   have hebq : eb ≠ bq := fun e => by rw [e, hq] at heb; cases heb
   have hebm : eb ≠ bm := fun e => by rw [e, hbm] at heb; cases heb
   simp [go_sem, hf, hq, hbm, upd_ne, hebq, Ne.symm hebq, hebm, Ne.symm hebm, d1, Ne.symm d1, w1, hfind]
   refine callK_abs (hpush eb heb hebq hebm) ?_
   rintro r bx3 ⟨i, hb3, bl', g1, g2, g3⟩
   simp only [entC] at hb3
   simp [go_sem, hb3]
   exact ret_pure (by simp [go_sem]) (by simpa [go_sem] using hK eb bl' bx3 heb g1 g2 g3)
 · simp [go_sem, Try.C37, hf, hq]
   refine callK_pure hmd ?_
   simp [go_sem, hf, hq, hg1, hg2]
   intro eb heb
   have hebq : eb ≠ bq := fun e => by rw [e, hq] at heb; cases heb
   have hebm : eb ≠ bm := fun e => by rw [e, hbm] at heb; cases heb
   simp [go_sem, hf, hq, hbm, upd_ne, hebq, Ne.symm hebq, hebm, Ne.symm hebm, d1, Ne.symm d1, w1, hfind]
   refine callK_abs (hpush eb heb hebq hebm) ?_
   rintro r bx3 ⟨i, hb3, bl', g1, g2, g3⟩
   simp only [entC] at hb3
   simp [go_sem, hb3]
   exact ret_pure (by simp [go_sem]) (by simpa [go_sem] using hK eb bl' bx3 heb g1 g2 g3)
end Go.Proofs.Tq

set_option linter.unusedSimpArgs false
set_option linter.unusedVariables false
set_option maxRecDepth 100000
namespace Go.Proofs.Tq
open Go Go.Pl Go.Hp Go.Ck
theorem QM.sub {bx bx' : Boxes} {bq bm : Nat} {ol : Option Nat} {g : FuncId} {next : Int} {es es' : List (Ent Tb)} (h : QM bx bq ol g bm next es) (hs : QS bx' bq ol g (.mp bm) next es') {R : List (Int × Nat)} (hp : (R ++ es'.map pr).Perm (es.map pr)) {ms : List (Int × Nat)} (hm : ms.Perm (es'.map pr)) (hb : bx' bm = some (.map (mpV ms))) : QM bx' bq ol g bm next es' := by
 have hmem : ∀ e, e ∈ es' → ∃ e0, e0 ∈ es ∧ e0.h = e.h ∧ e0.b = e.b := fun e he => by
   have := hp.mem_iff.1 (List.mem_append_right R (List.mem_map.2 ⟨e, he, rfl⟩))
   obtain ⟨e0, h0, h1⟩ := List.mem_map.1 this
   exact ⟨e0, h0, congrArg Prod.fst h1, congrArg Prod.snd h1⟩
 refine ⟨hs, ⟨ms, hm, hb⟩, fun e he => ?_, ?_, ⟨h.d.1, h.d.2.1, fun e he => ?_⟩, h.n⟩
 · obtain ⟨e0, h0, h1, _⟩ := hmem e he
   rw [← h1]; exact h.h e0 h0
 · have h1 := h.hd
   have h2 : es.map (·.h) = (es.map pr).map (·.1) := by rw [List.map_map]; rfl
   rw [h2] at h1
   have h3 := (hp.map (·.1)).nodup_iff.2 h1
   rw [List.map_append, List.nodup_append] at h3
   have h4 := h3.2.1
   rw [List.map_map] at h4
   exact h4
 · obtain ⟨e0, h0, _, h1⟩ := hmem e he
   rw [← h1]; exact h.d.2.2 e0 h0
theorem erase_perm {β : Type} (l : List β) (i : Nat) (h : i < l.length) : (l[i] :: l.eraseIdx i).Perm l := by
 rw [List.eraseIdx_eq_take_drop_succ]
 have e : l = l.take i ++ l[i] :: l.drop (i + 1) := by rw [List.getElem_cons_drop, List.take_append_drop]
 conv => rhs; rw [e]
 exact List.perm_middle.symm
theorem mpV_erase : ∀ (ms : List (Int × Nat)) (i : Nat), (mpV ms).eraseIdx i = mpV (ms.eraseIdx i)
 | [], i => by simp [mpV]
 | x :: ms, 0 => by simp [mpV]
 | x :: ms, i + 1 => by
   have := mpV_erase ms i
   simp only [mpV, List.map_cons, List.eraseIdx_cons_succ] at this ⊢
   rw [this]
theorem QM.keys {bx : Boxes} {bq bm : Nat} {ol : Option Nat} {g : FuncId} {next : Int} {es : List (Ent Tb)} (h : QM bx bq ol g bm next es) {ms : List (Int × Nat)} (hms : ms.Perm (es.map pr)) : (ms.map (·.1)).Nodup := by
 have := (hms.map (·.1)).nodup_iff.2 (by rw [List.map_map]; exact h.hd)
 exact this
theorem QM.heap {bx : Boxes} {bq bm : Nat} {ol : Option Nat} {g : FuncId} {next : Int} {es : List (Ent Tb)} (h : QM bx bq ol g bm next es) (hne : es ≠ []) : ∃ bl R, ol = some bl ∧ HeapS bx bq bl g (.mp bm) next es R := by
 rcases h.s with ⟨h1, _⟩ | ⟨bl, R, h1, h2⟩
 · exact absurd h1 hne
 · exact ⟨bl, R, h1, h2⟩
theorem QM.fin {bx : Boxes} {bq bm : Nat} {ol : Option Nat} {g : FuncId} {next : Int} {es : List (Ent Tb)} (h : QM bx bq ol g bm next es) : FinB bx := by
 rcases h.s with ⟨_, _, _, h4⟩ | ⟨bl, R, h1, h2⟩
 · exact h4
 · exact h2.fin
theorem QM.same {bx bx' : Boxes} {bq bm : Nat} {ol : Option Nat} {g : FuncId} {next : Int} {es : List (Ent Tb)} (h : QM bx bq ol g bm next es) (hs : ∀ b, (b = bq ∨ b = bm ∨ ol = some b ∨ ∃ e, e ∈ es ∧ b = e.b) → bx' b = bx b) (hf : FinB bx') : QM bx' bq ol g bm next es := by
 refine ⟨?_, ?_, h.h, h.hd, h.d, h.n⟩
 · rcases h.s with ⟨h1, h2, h3, h4⟩ | ⟨bl, R, h1, h2⟩
   · exact .inl ⟨h1, h2, by rw [hs bq (.inl rfl)]; exact h3, hf⟩
   · refine .inr ⟨bl, R, h1, ⟨by rw [hs bq (.inl rfl)]; exact h2.q, by rw [hs bl (.inr (.inr (.inl h1)))]; exact h2.l, h2.r, fun i hi => ?_, h2.nd, hf, h2.len⟩⟩
     rw [hs _ (.inr (.inr (.inr ⟨at_ es i, by rw [at_get hi]; exact List.getElem_mem _, rfl⟩)))]
     exact h2.e i hi
 · obtain ⟨ms, h1, h2⟩ := h.m
   exact ⟨ms, h1, by rw [hs bm (.inr (.inl rfl))]; exact h2⟩
theorem QM.new {bx : Boxes} {bq bm : Nat} {ol : Option Nat} {g : FuncId} {next : Int} {es : List (Ent Tb)} (h : QM bx bq ol g bm next es) {b : Nat} (hb : bx b = none) (x : Box) : QM (upd bx b (some x)) bq ol g bm next es := by
 obtain ⟨lv1, lv2⟩ := h.s.live
 refine h.same (fun c hc => upd_ne _ _ fun e => ?_) ((finB_upd _ _ _).2 h.s.fin)
 subst e
 rcases hc with rfl | rfl | e | ⟨e, he, rfl⟩
 · obtain ⟨sv, hq, _⟩ := h.s.q
   rw [hb] at hq; cases hq
 · obtain ⟨ms, _, hbm⟩ := h.m
   rw [hb] at hbm; cases hbm
 · exact lv1 _ e hb
 · exact lv2 e he hb
theorem Try.Peek0_c {bx : Boxes} {bq bm : Nat} {ol : Option Nat} {g : FuncId} {next : Int} (h : QM bx bq ol g bm next []) :
   PureCall Try.prog 72 [.ptr bq 4 0 0] bx (.tup [.int .i64 0, zV, .int .i64 4]) := by
 refine Try.ctr72 fun hf => ?_
 simp [go_sem, Try.C72, hf]
 intro b3 hb3
 have h3 := fun x => h.new hb3 x
 have hmd := fun x => Try.made_c (bm := bm) (sv := (h3 x).s.q.choose) ((finB_upd _ _ _).2 hf) (h3 x).s.q.choose_spec.1
 refine callK_pure (hmd _) ?_
 obtain ⟨sv, hq, hsv⟩ := h.s.q
 have hne : bq ≠ b3 := fun e => by rw [e, hb3] at hq; cases hq
 simp only [qV] at hq
 rcases hsv with ⟨_, rfl⟩ | ⟨bl, rfl, rfl⟩ <;>
 · simp [go_sem, hf, hq, upd_ne, hne, upd_eq, upd_upd]
   exact ret_drop (by simp [go_sem, upd_eq]) ((Ext.refl _).new hb3 _) ⟨by simp [go_sem, upd_eq], rfl⟩
theorem Try.Peek_c {bx : Boxes} {bq bm : Nat} {ol : Option Nat} {g : FuncId} {next : Int} {es : List (Ent Tb)} (h : QM bx bq ol g bm next es) (hne : es ≠ []) :
   PureCall Try.prog 72 [.ptr bq 4 0 0] bx (.tup [.int .i64 (at_ es 0).h, vV (at_ es 0).v, .int .i64 0]) := by
 refine Try.ctr72 fun hf => ?_
 simp [go_sem, Try.C72, hf]
 intro b3 hb3
 have h3 := fun x => h.new hb3 x
 have hmd := fun x => Try.made_c (bm := bm) (sv := (h3 x).s.q.choose) ((finB_upd _ _ _).2 hf) (h3 x).s.q.choose_spec.1
 refine callK_pure (hmd _) ?_
 obtain ⟨bl, R, rfl, hs⟩ := h.heap hne
 have hq := hs.q
 have hl := hs.l
 have hpos : 0 < es.length := List.length_pos_iff.2 hne
 have hp : ¬ es.length = 0 := by omega
 obtain ⟨i1, i2⟩ := hs.rlt hpos
 have he := hs.e 0 hpos
 have nq : bq ≠ b3 := fun e => by rw [e, hb3] at hq; cases hq
 have nl : bl ≠ b3 := fun e => by rw [e, hb3] at hl; cases hl
 have ne : (at_ es 0).b ≠ b3 := fun e => by rw [e, hb3] at he; cases he
 simp only [qV] at hq
 simp only [entC] at he
 simp [go_sem, hf, hq, hl, he, i1, i2, hpos, hne, hp, upd_ne, nq, nl, ne, upd_eq, upd_upd]
 exact ret_drop (by simp [go_sem, upd_eq]) ((Ext.refl _).new hb3 _) ⟨by simp [go_sem, upd_eq], rfl⟩
theorem Try.Pop0_c {bx : Boxes} {bq bm : Nat} {ol : Option Nat} {g : FuncId} {next : Int} (h : QM bx bq ol g bm next []) :
   PureCall Try.prog 38 [.ptr bq 4 0 0] bx (.tup [.int .i64 0, zV, .int .i64 4]) := by
 refine Try.ctr38 fun hf => ?_
 simp [go_sem, Try.C38, hf]
 intro b3 hb3
 refine callK_pure (Try.Peek0_c (h.new hb3 _)) ?_
 simp [go_sem, hf, upd_eq, upd_upd]
 exact ret_drop (by simp [go_sem, upd_eq]) ((Ext.refl _).new hb3 _) ⟨by simp [go_sem, upd_eq], rfl⟩
theorem Try.Pop_c {bx : Boxes} {bq bm : Nat} {ol : Option Nat} {g : FuncId} {lt : Tb → Tb → Bool} {next : Int} {es : List (Ent Tb)} (hlt : Lt Try.prog g lt) (h : QM bx bq ol g bm next es) (hne : es ≠ []) :
   AbsCall Try.prog 38 [.ptr bq 4 0 0] bx fun r bx' => r = .tup [.int .i64 (at_ es 0).h, vV (at_ es 0).v, .int .i64 0] ∧ QM bx' bq ol g bm next (popL lt es) ∧ FQ bq ol bm es bx bx' := by
 refine Try.ctr38 fun hf => ?_
 simp [go_sem, Try.C38, hf]
 intro b3 hb3
 have hpk := fun x => Try.Peek_c (h.new hb3 x) hne
 refine callK_pure (hpk _) ?_
 have h4 := fun x => h.new hb3 x
 have hb4 : ∀ x : Box, upd bx b3 (some x) b3 = some x := fun x => upd_eq _ _ _
 have hfr : ∀ (x : Box) c, c ≠ b3 → upd bx b3 (some x) c = bx c := fun x c hc => upd_ne _ _ hc
 simp [go_sem, hf, upd_eq, upd_upd]
 have nb : bq ≠ b3 := fun e => by
   obtain ⟨sv, hq, _⟩ := h.s.q
   rw [e, hb3] at hq; cases hq
 have hI := h4 (.row 35 4 [vV (at_ es 0).v])
 have hbI := hb4 (.row 35 4 [vV (at_ es 0).v])
 have hfI := hfr (.row 35 4 [vV (at_ es 0).v])
 have hf3 : FinB (upd bx b3 (some (.row 35 4 [vV (at_ es 0).v]))) := (finB_upd _ _ _).2 hf
 simp only [vV] at hI hbI hfI hf3
 generalize upd bx b3 (some (.row 35 4 [_])) = bx0 at *
 obtain ⟨bl, R, rfl, hs⟩ := hI.heap hne
 have hq := hs.q
 obtain ⟨ms, hms, hbm⟩ := hI.m
 obtain ⟨d1, d2, d3⟩ := hI.d
 have hpos : 0 < es.length := List.length_pos_iff.2 hne
 have hpp := popL_perm (lt := lt) hne
 have hkeys := hI.keys hms
 have h0 : at_ es 0 ∈ es := by rw [at_get hpos]; exact List.getElem_mem _
 obtain ⟨i, hi, hfi⟩ := (findV_at (at_ es 0).h ms 0 hkeys).1 (at_ es 0).b (hms.mem_iff.2 (List.mem_map.2 ⟨_, h0, rfl⟩))
 have hi' := List.getElem?_eq_some_iff.1 hi
 obtain ⟨hil, hie⟩ := hi'
 have n3l : b3 ≠ bl := fun e => by have := hs.l; rw [← e, hbI] at this; injection this with this; injection this with t1; revert t1; decide
 have n3e : ∀ e, e ∈ es → b3 ≠ e.b := fun e he e2 => by
   obtain ⟨j, hj, rfl⟩ := List.getElem_of_mem he
   have := hs.e j hj
   rw [at_get hj, ← e2, hbI] at this; injection this with this; injection this with t1; revert t1; decide
 have n3m : b3 ≠ bm := fun e => by rw [← e, hbI] at hbm; cases hbm
 simp only [qV] at hq
 refine callK_abs (Try.hpop_c hlt hs hne) ?_
 rintro r bx2 ⟨rfl, ⟨R2, hs2⟩, hf2⟩
 have hq2 := hs2.q
 have hbm2 : bx2 bm = some (.map (mpV ms)) := by rw [hf2 bm (by dsimp only; rw [hbm]; simp) d1 d2 fun e he => Ne.symm (d3 e he)]; exact hbm
 have h32 : bx2 b3 = _ := (hf2 b3 (by dsimp only; rw [hbI]; simp) (Ne.symm nb) (fun e => by injection e with e; exact n3l e.symm) n3e).trans hbI
 simp only [qV] at hq2
 simp [go_sem, hs2.fin, hq2, hbm2, hfi, h32, upd_ne, n3m, Ne.symm n3m]
 rw [mpV_erase]
 have hm2 : (ms.eraseIdx i).Perm ((popL lt es).map pr) := by
   have a := erase_perm ms i hil
   rw [hie] at a
   have b := a.trans (hms.trans (hpp.map pr))
   exact b.cons_inv
 have hQ : QM (upd bx2 bm (some (.map (mpV (ms.eraseIdx i))))) bq (some bl) g bm next (popL lt es) := by
   refine hI.sub (R := [pr (at_ es 0)]) (.inr ⟨bl, R2, rfl, ?_⟩) (hpp.map pr).symm hm2 ?_
   · exact hs2.vm d1 (fun e => d2 (by rw [e])) fun e he => d3 e (hpp.mem_iff.2 (List.mem_cons_of_mem _ he))
   · rw [upd_eq]
 refine ret_pure (by simp [go_sem, upd_eq]) ⟨by simp [go_sem, upd_eq], ?_, fun b k1 k2 k3 k4 k5 => ?_⟩
 · refine hQ.same (fun c hc => upd_ne _ _ fun e => ?_) (by simp [finB_upd, hs2.fin])
   subst e
   rcases hc with rfl | rfl | e | ⟨e, he, e2⟩
   · exact nb rfl
   · exact n3m rfl
   · injection e with e; exact n3l e.symm
   · exact n3e e (hpp.mem_iff.2 (List.mem_cons_of_mem _ he)) e2
 · have kb : b ≠ b3 := fun e => k1 (by rw [e]; exact hb3)
   dsimp only
   rw [upd_ne _ _ kb, upd_ne _ _ k4, hf2 b (by dsimp only; rw [hfI b kb]; exact k1) k2 k3 k5]; exact hfI b kb
end Go.Proofs.Tq

set_option linter.unusedSimpArgs false
set_option linter.unusedVariables false
set_option maxRecDepth 100000
namespace Go.Proofs.Tq
open Go Go.Pl Go.Hp Go.Ck
structure Qu (bx : Boxes) (bq : Nat) (g : FuncId) (lt : Tb → Tb → Bool) (next : Int) (its : List (Int × Tb)) (D : Nat → Prop) : Prop where
 ex : ∃ ol bm es, QM bx bq ol g bm next es ∧ HeapOK lt es es.length ∧ its.Perm (es.map hv) ∧ ∀ b, D b ↔ b = bq ∨ b = bm ∨ ol = some b ∨ ∃ e, e ∈ es ∧ b = e.b
 s : Srt lt its
def Frm (D D' : Nat → Prop) (bx bx' : Boxes) : Prop := (∀ b, bx b ≠ none → ¬ D b → bx' b = bx b) ∧ ∀ b, D' b → D b ∨ bx b = none
theorem Frm.refl (D : Nat → Prop) (bx : Boxes) : Frm D D bx bx := ⟨fun _ _ _ => rfl, fun _ h => .inl h⟩
theorem Frm.trans {D D' D'' : Nat → Prop} {bx bx' bx'' : Boxes} (h : Frm D D' bx bx') (h' : Frm D' D'' bx' bx'') (hl : ∀ b, bx' b = none → bx b = none) : Frm D D'' bx bx'' := by
 refine ⟨fun b h1 h2 => ?_, fun b hb => ?_⟩
 · rw [h'.1 b (fun e => h1 (hl b e)) fun e => ?_, h.1 b h1 h2]
   rcases h.2 b e with e | e
   · exact h2 e
   · exact h1 e
 · rcases h'.2 b hb with e | e
   · exact h.2 b e
   · exact .inr (hl b e)
theorem Qu.live {bx : Boxes} {bq : Nat} {g : FuncId} {lt : Tb → Tb → Bool} {next : Int} {its : List (Int × Tb)} {D : Nat → Prop} (h : Qu bx bq g lt next its D) : ∀ b, D b → bx b ≠ none := by
 obtain ⟨ol, bm, es, hm, _, _, hD⟩ := h.ex
 intro b hb
 obtain ⟨lv1, lv2⟩ := hm.s.live
 rcases (hD b).1 hb with rfl | rfl | e | ⟨e, he, rfl⟩
 · obtain ⟨sv, hq, _⟩ := hm.s.q
   rw [hq]; simp
 · obtain ⟨ms, _, hbm⟩ := hm.m
   rw [hbm]; simp
 · exact lv1 _ e
 · exact lv2 e he
theorem Qu.keys {bx : Boxes} {bq : Nat} {g : FuncId} {lt : Tb → Tb → Bool} {next : Int} {its : List (Int × Tb)} {D : Nat → Prop} (h : Qu bx bq g lt next its D) : (its.map (·.1)).Nodup := by
 obtain ⟨ol, bm, es, hm, _, hp, hD⟩ := h.ex
 refine (hp.map (·.1)).nodup_iff.2 ?_
 rw [List.map_map]
 exact hm.hd
theorem Qu.range {bx : Boxes} {bq : Nat} {g : FuncId} {lt : Tb → Tb → Bool} {next : Int} {its : List (Int × Tb)} {D : Nat → Prop} (h : Qu bx bq g lt next its D) : ∀ p, p ∈ its → 1 ≤ p.1 ∧ p.1 < next := by
 obtain ⟨ol, bm, es, hm, _, hp, hD⟩ := h.ex
 intro p hpi
 obtain ⟨e, he, rfl⟩ := List.mem_map.1 (hp.mem_iff.1 hpi)
 exact hm.h e he
theorem Qu.nx {bx : Boxes} {bq : Nat} {g : FuncId} {lt : Tb → Tb → Bool} {next : Int} {its : List (Int × Tb)} {D : Nat → Prop} (h : Qu bx bq g lt next its D) : 1 ≤ next ∧ next ≤ 1000000000000000 := by
 obtain ⟨ol, bm, es, hm, _, hp, hD⟩ := h.ex
 exact hm.n
theorem Qu.fin {bx : Boxes} {bq : Nat} {g : FuncId} {lt : Tb → Tb → Bool} {next : Int} {its : List (Int × Tb)} {D : Nat → Prop} (h : Qu bx bq g lt next its D) : FinB bx := by
 obtain ⟨ol, bm, es, hm, _, hp, hD⟩ := h.ex
 exact hm.fin
theorem FQ.frm {bx bx' : Boxes} {bq bm : Nat} {ol ol' : Option Nat} {es es' : List (Ent Tb)} {D : Nat → Prop} (hf : FQ bq ol bm es bx bx') (hD : ∀ b, D b ↔ b = bq ∨ b = bm ∨ ol = some b ∨ ∃ e, e ∈ es ∧ b = e.b)
   (hl : ∀ bl, ol' = some bl → ol = some bl ∨ bx bl = none) (he : ∀ e, e ∈ es' → (∃ e0, e0 ∈ es ∧ e0.b = e.b) ∨ bx e.b = none) : Frm D (fun b => b = bq ∨ b = bm ∨ ol' = some b ∨ ∃ e, e ∈ es' ∧ b = e.b) bx bx' := by
 refine ⟨fun b h1 h2 => ?_, fun b hb => ?_⟩
 · rw [hD] at h2
   exact hf b h1 (fun e => h2 (.inl e)) (fun e => h2 (.inr (.inr (.inl e)))) (fun e => h2 (.inr (.inl e))) fun e he heq => h2 (.inr (.inr (.inr ⟨e, he, heq⟩)))
 · rcases hb with e | e | e | ⟨e, h1, h2⟩
   · exact .inl ((hD b).2 (.inl e))
   · exact .inl ((hD b).2 (.inr (.inl e)))
   · rcases hl b e with e | e
     · exact .inl ((hD b).2 (.inr (.inr (.inl e))))
     · exact .inr e
   · rcases he e h1 with ⟨e0, h3, h4⟩ | h3
     · exact .inl ((hD b).2 (.inr (.inr (.inr ⟨e0, h3, by rw [h2, h4]⟩))))
     · exact .inr (by rw [h2]; exact h3)
def pushN (next : Int) (its : List (Int × Tb)) : Int := if 5000 ≤ its.length ∨ 1000000000000000 ≤ next then next else next + 1
def pushI (lt : Tb → Tb → Bool) (next : Int) (its : List (Int × Tb)) (v : Tb) : List (Int × Tb) := if 5000 ≤ its.length ∨ 1000000000000000 ≤ next then its else ins lt (next, v) its
def pushR (next : Int) (its : List (Int × Tb)) : V := if 5000 ≤ its.length ∨ 1000000000000000 ≤ next then .tup [.int .i64 0, .int .i64 5] else .tup [.int .i64 next, .int .i64 0]
variable {bx : Boxes} {bq : Nat} {g : FuncId} {lt : Tb → Tb → Bool} {key : Tb → Int} {next : Int} {its : List (Int × Tb)} {D : Nat → Prop}
theorem Try.New_q (g : FuncId) (lt : Tb → Tb → Bool) (bx : Boxes) :
   AbsCall Try.prog 34 [.fn (.func g) []] bx fun r bx' => ∃ bq D, r = .ptr bq 4 0 0 ∧ Qu bx' bq g lt 1 [] D ∧ (∀ b, bx b ≠ none → bx' b = bx b) ∧ ∀ b, D b → bx b = none := by
 refine (Try.New_c g bx).mono ?_
 rintro r bx' ⟨bq, bm, h1, h2, rfl, hm, he⟩
 refine ⟨bq, fun b => b = bq ∨ b = bm ∨ (none : Option Nat) = some b ∨ ∃ e, e ∈ ([] : List (Ent Tb)) ∧ b = e.b, rfl, ⟨⟨none, bm, [], hm, fun i _ h => by simp at h, List.Perm.refl _, fun b => Iff.rfl⟩, List.Pairwise.nil⟩, he, fun b hb => ?_⟩
 rcases hb with rfl | rfl | e | ⟨e, he, _⟩
 · exact h1
 · exact h2
 · cases e
 · cases he
theorem Try.Push_q (hk : ByKey lt key) (hlt : Lt Try.prog g lt) (h : Qu bx bq g lt next its D) (v : Tb) :
   AbsCall Try.prog 37 [.ptr bq 4 0 0, vV v] bx fun r bx' => r = pushR next its ∧ ∃ D', Qu bx' bq g lt (pushN next its) (pushI lt next its v) D' ∧ Frm D D' bx bx' := by
 obtain ⟨ol, bm, es, hm, hh, hp, hD⟩ := h.ex
 have hl := hp.length_eq
 rw [List.length_map] at hl
 unfold pushR pushN pushI
 by_cases hfu : 5000 ≤ its.length ∨ 1000000000000000 ≤ next
 · rw [if_pos hfu, if_pos hfu, if_pos hfu]
   refine AbsCall.mono (Try.PushF_c v hm (by simp [full]; omega)) ?_
   rintro r bx' ⟨rfl, rfl⟩
   exact ⟨rfl, D, h, Frm.refl _ _⟩
 · rw [if_neg hfu, if_neg hfu, if_neg hfu]
   refine Try.Push_c v hlt hm (by simp [full]; omega) fun eb bl bx' h1 h2 h3 h4 => ?_
   have hpp := upL_perm lt es.length (es ++ [⟨next, v, eb⟩]) (by simp)
   refine ⟨rfl, _, ⟨⟨some bl, bm, _, h3, ?_, ?_, fun b => Iff.rfl⟩, srt_ins hk h.s fun p hpi => ?_⟩, h4.frm hD (fun b e => ?_) fun e he => ?_⟩
   · rw [upL_len, List.length_append]; exact pushL_heap hk hh _
   · refine (ins_perm _ _).trans ?_
     refine List.Perm.trans ?_ (hpp.map hv).symm
     rw [List.map_append]
     exact (List.Perm.cons _ hp).trans (List.perm_append_singleton (hv ⟨next, v, eb⟩) (es.map hv)).symm
   · have := (h.range p hpi).2
     show p.1 ≠ next
     omega
   · injection e with e
     rw [← e]
     exact h2.symm
   · rcases List.mem_append.1 (hpp.mem_iff.1 he) with he | he
     · exact .inl ⟨e, he, rfl⟩
     · simp at he; subst he; exact .inr h1
def peekR (its : List (Int × Tb)) : V := match its with
 | [] => .tup [.int .i64 0, zV, .int .i64 4]
 | p :: _ => .tup [.int .i64 p.1, vV p.2, .int .i64 0]
theorem Try.Pop_q (hk : ByKey lt key) (hlt : Lt Try.prog g lt) (h : Qu bx bq g lt next its D) :
   AbsCall Try.prog 38 [.ptr bq 4 0 0] bx fun r bx' => r = peekR its ∧ ∃ D', Qu bx' bq g lt next its.tail D' ∧ Frm D D' bx bx' := by
 obtain ⟨ol, bm, es, hm, hh, hp, hD⟩ := h.ex
 cases its with
 | nil =>
   have : es = [] := by have := hp.length_eq; simpa using this.symm
   subst this
   refine AbsCall.mono (Try.Pop0_c hm) ?_
   rintro r bx' ⟨rfl, rfl⟩
   exact ⟨rfl, D, h, Frm.refl _ _⟩
 | cons p l =>
   obtain ⟨h1, h2⟩ := head_eq hk hh h.s hp
   have hpp := popL_perm (lt := lt) h1
   refine (Try.Pop_c hlt hm h1).mono ?_
   rintro r bx' ⟨rfl, h3, h4⟩
   refine ⟨by rw [← h2]; rfl, _, ⟨⟨ol, bm, _, h3, popL_heap hk hh, ?_, fun b => Iff.rfl⟩, (List.pairwise_cons.1 h.s).2⟩, h4.frm hD (fun b e => .inl e) fun e he => .inl ⟨e, hpp.mem_iff.2 (List.mem_cons_of_mem _ he), rfl⟩⟩
   have := hp.trans (hpp.map hv)
   rw [List.map_cons, h2] at this
   exact this.cons_inv
end Go.Proofs.Tq
