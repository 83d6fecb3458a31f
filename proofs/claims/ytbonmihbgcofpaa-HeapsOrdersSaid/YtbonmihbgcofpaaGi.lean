/- Texts of the proof, put together: Hw, Hx, Hxa, Ka, Kb, Kc, Kd, Ke, Kf, Kh, Kn, Ko, Kp. -/
import Derived.Test.YtbonmihbgcofpaaGh
import Derived.Test.YtbonmihbgcofpaaGg
import Derived.Test.YtbonmihbgcofpaaGd
import Derived.Test.YtbonmihbgcofpaaGe

set_option linter.unusedSimpArgs false
set_option linter.unusedVariables false
set_option maxRecDepth 100000
namespace Go.Proofs
open Go Go.Pl Go.Hp
end Go.Proofs

set_option linter.unusedSimpArgs false
set_option linter.unusedVariables false
set_option maxRecDepth 100000
namespace Go.Proofs
open Go Go.Pl Go.Hp
structure Chk (lt : Int → Int → Bool) (n : Int) (its : List (Int × Int)) (e : Int) : Prop where
 fl : 5000 < its.length → e = 3
 fn : its.length ≤ 5000 → ¬ (1 ≤ n ∧ n ≤ 1000000000000000) → e = 7
 fr : its.length ≤ 5000 → (1 ≤ n ∧ n ≤ 1000000000000000) → ∀ p, p ∈ its → ¬ (1 ≤ p.1 ∧ p.1 < n) → e = 7
 ft : its.length ≤ 5000 → (1 ≤ n ∧ n ≤ 1000000000000000) → (∀ p, p ∈ its → 1 ≤ p.1 ∧ p.1 < n) → ¬ (its.map (·.1)).Nodup → e = 8
 fs : its.length ≤ 5000 → (1 ≤ n ∧ n ≤ 1000000000000000) → (∀ p, p ∈ its → 1 ≤ p.1 ∧ p.1 < n) → (its.map (·.1)).Nodup → ¬ Srt lt its → e = 6
 fo : its.length ≤ 5000 → (1 ≤ n ∧ n ≤ 1000000000000000) → (∀ p, p ∈ its → 1 ≤ p.1 ∧ p.1 < n) → (its.map (·.1)).Nodup → Srt lt its → e = 0
theorem Chk.ok {lt : Int → Int → Bool} {n : Int} {its : List (Int × Int)} (h : Chk lt n its 0) : its.length ≤ 5000 ∧ (1 ≤ n ∧ n ≤ 1000000000000000) ∧ (∀ p, p ∈ its → 1 ≤ p.1 ∧ p.1 < n) ∧ (its.map (·.1)).Nodup ∧ Srt lt its := by
 by_cases h1 : its.length ≤ 5000
 · by_cases h2 : 1 ≤ n ∧ n ≤ 1000000000000000
   · by_cases h3 : ∀ p, p ∈ its → 1 ≤ p.1 ∧ p.1 < n
     · by_cases h4 : (its.map (·.1)).Nodup
       · by_cases h5 : Srt lt its
         · exact ⟨h1, h2, h3, h4, h5⟩
         · exact absurd (h.fs h1 h2 h3 h4 h5) (by decide)
       · exact absurd (h.ft h1 h2 h3 h4) (by decide)
     · exfalso
       apply h3
       intro p hp
       by_cases h6 : 1 ≤ p.1 ∧ p.1 < n
       · exact h6
       · exact absurd (h.fr h1 h2 p hp h6) (by decide)
   · exact absurd (h.fn h1 h2) (by decide)
 · exact absurd (h.fl (by omega)) (by decide)
theorem srt_iff {lt : Int → Int → Bool} {key : Int → Int} (hk : ByKey lt key) : ∀ {its : List (Int × Int)}, (∀ i (h : i + 1 < its.length), bf lt its[i] its[i + 1] = true) → Srt lt its
 | [], _ => List.Pairwise.nil
 | [p], _ => List.pairwise_singleton _ _
 | p :: q :: l, h => by
   have ih := srt_iff hk (its := q :: l) fun i hi => by
     have := h (i + 1) (by simp at hi ⊢; omega)
     simpa using this
   have h0 := h 0 (by simp)
   simp at h0
   refine List.pairwise_cons.2 ⟨fun r hr => ?_, ih⟩
   rcases List.mem_cons.1 hr with rfl | hr
   · exact h0
   · have := (List.pairwise_cons.1 ih).1 r hr
     rw [bf_key hk] at h0 this ⊢
     omega
end Go.Proofs

set_option linter.unusedSimpArgs false
set_option linter.unusedVariables false
set_option maxRecDepth 100000
namespace Go.Proofs
open Go Go.Pl Go.Hp
theorem _root_.Go.Pl.Acc.new {bx bx' : Boxes} {e sz : Nat} {es : List V} {v : V} (h : Acc bx e sz es v bx') {b : Nat} (hb : bx' b = none) (x : Box) : Acc (upd bx b (some x)) e sz es v (upd bx' b (some x)) := by
 have hb0 := h.ext.none hb
 refine ⟨fun c hc => ?_, (finB_upd _ _ _).2 h.fin, ?_⟩
 · by_cases e : c = b
   · subst e; rw [upd_eq, upd_eq]
   · rw [upd_ne _ _ e, upd_ne _ _ e]
     rw [upd_ne _ _ e] at hc
     exact h.ext c hc
 · rcases h.is with h1 | ⟨b', h1, h2, h3⟩
   · exact .inl h1
   · have hn : b' ≠ b := fun e => by rw [e, hb] at h3; cases h3
     exact .inr ⟨b', by rw [upd_ne _ _ hn]; exact h1, h2, by rw [upd_ne _ _ hn]; exact h3⟩
theorem _root_.Go.Pl.Acc.base_put {bx bx' : Boxes} {e sz : Nat} {es : List V} {v : V} {b : Nat} {x : Box} (h : Acc bx e sz es v bx') (hb : bx b = some x) (y : Box) : Acc (upd bx b (some y)) e sz es v (upd bx' b (some y)) := by
 have e : bx = upd bx b (some x) := by
   funext c
   by_cases e : c = b
   · subst e; rw [upd_eq, hb]
   · rw [upd_ne _ _ e]
 rw [e] at h
 have h2 := h.put y
 have e2 : upd (upd bx b (some x)) b (some y) = upd bx b (some y) := upd_upd _ _ _ _
 have e3 : upd bx b (some y) = upd (upd bx b (some x)) b (some y) := e2.symm
 exact h2
structure LdI (bx : Boxes) (bq bm : Nat) (g : FuncId) (n : Int) (its : List (Int × Int)) (k : Nat) (tw : Bool) (bx' : Boxes) (bs : Boxes) (es : List (Ent Int)) (v : V) (ms : List (Int × Nat)) : Prop where
 a : Acc bs 85 1 (es.map fun e => .ptr e.b 3 0 0) v bx'
 q : bs bq = some (.row 79 4 [qV v g (.mp bm) n])
 e : ∀ i, i < es.length → bs (at_ es i).b = some (.row 90 3 [entC (at_ es i).h (at_ es i).v i])
 m : bs bm = some (.map (mpV ms))
 mn : (ms.map (·.1)).Nodup
 mi : ∀ h, h ∈ ms.map (·.1) ↔ h ∈ (its.take k).map (·.1)
 hv : es.map hv = its.take k
 tf : tw = false → ms.Perm (es.map pr) ∧ ((its.take k).map (·.1)).Nodup
 tt : tw = true → ¬ ((its.take k).map (·.1)).Nodup
 ra : ∀ p, p ∈ its.take k → 1 ≤ p.1 ∧ p.1 < n
 f : Ext bx bs
 fq : bx bq = none ∧ bx bm = none ∧ ∀ x, x ∈ es → bx x.b = none
 nd : (bq :: bm :: es.map (·.b)).Nodup
theorem mpV_snoc (ms : List (Int × Nat)) (h : Int) (b : Nat) : mpV ms ++ [(.int .i64 h, .ptr b 3 0 0)] = mpV (ms ++ [(h, b)]) := by simp [mpV]
theorem mpV_set (ms : List (Int × Nat)) (i : Nat) (h : Int) (b : Nat) : (mpV ms).set i (.int .i64 h, .ptr b 3 0 0) = mpV (ms.set i (h, b)) := by simp [mpV, List.map_set]
theorem LdI.mid {bx : Boxes} {bq bm : Nat} {g : FuncId} {n : Int} {its : List (Int × Int)} {k : Nat} {tw : Bool} {bx2 bs : Boxes} {es : List (Ent Int)} {v : V} {ms : List (Int × Nat)} (hI : LdI bx bq bm g n its k tw bx2 bs es v ms) {eb : Nat} (heb : bx2 eb = none) (x : Box) (ms' : List (Int × Nat)) :
   Acc (upd (upd bs eb (some x)) bm (some (.map (mpV ms')))) 85 1 (es.map fun e => .ptr e.b 3 0 0) v (upd (upd bx2 eb (some x)) bm (some (.map (mpV ms')))) := by
 refine (hI.a.new heb x).base_put (x := .map (mpV ms)) ?_ _
 rw [upd_ne _ _ fun e => ?_]
 · exact hI.m
 · have := hI.a.ext.none heb
   rw [← e, hI.m] at this; cases this
theorem LdI.step {bx : Boxes} {bq bm : Nat} {g : FuncId} {n : Int} {its : List (Int × Int)} {k : Nat} {tw : Bool} {bx2 bs : Boxes} {es : List (Ent Int)} {v : V} {ms : List (Int × Nat)} (hI : LdI bx bq bm g n its k tw bx2 bs es v ms) (hkk : k < its.length) {eb : Nat} (heb : bx2 eb = none) {ms' : List (Int × Nat)} {tw' : Bool}
   (hn : (ms'.map (·.1)).Nodup) (hmi : ∀ h, h ∈ ms'.map (·.1) ↔ h ∈ (its.take (k + 1)).map (·.1)) (hra : 1 ≤ its[k].1 ∧ its[k].1 < n)
   (htf : tw' = false → ms'.Perm ((es ++ [(⟨its[k].1, its[k].2, eb⟩ : Ent Int)]).map pr) ∧ ((its.take (k + 1)).map (·.1)).Nodup) (htt : tw' = true → ¬ ((its.take (k + 1)).map (·.1)).Nodup)
   {v' : V} {bx5 : Boxes} (ha : Acc (upd (upd bs eb (some (.row 90 3 [entC its[k].1 its[k].2 k]))) bm (some (.map (mpV ms')))) 85 1 ((es.map fun e => .ptr e.b 3 0 0) ++ [.ptr eb 3 0 0]) v' bx5) :
   LdI bx bq bm g n its (k + 1) tw' (upd bx5 bq (some (.row 79 4 [qV v' g (.mp bm) n]))) (upd (upd (upd bs eb (some (.row 90 3 [entC its[k].1 its[k].2 k]))) bm (some (.map (mpV ms')))) bq (some (.row 79 4 [qV v' g (.mp bm) n]))) (es ++ [⟨its[k].1, its[k].2, eb⟩]) v' ms' := by
 have hebs := hI.a.ext.none heb
 have nq : bq ≠ eb := fun e => by have := hI.q; rw [e, hebs] at this; cases this
 have nm : bm ≠ eb := fun e => by have := hI.m; rw [e, hebs] at this; cases this
 have hnd := hI.nd
 have hes : es.length = k := by have := congrArg List.length hI.hv; simp at this; omega
 have hbe : bx eb = none := hI.f.none hebs
 have hat : ∀ i, i < es.length → at_ (es ++ [(⟨its[k].1, its[k].2, eb⟩ : Ent Int)]) i = at_ es i := fun i hi => by
   unfold at_; rw [List.getD_eq_getElem?_getD, List.getD_eq_getElem?_getD, List.getElem?_append_left hi]
 have hat2 : at_ (es ++ [(⟨its[k].1, its[k].2, eb⟩ : Ent Int)]) k = ⟨its[k].1, its[k].2, eb⟩ := by
   unfold at_; rw [List.getD_eq_getElem?_getD, List.getElem?_append_right (by omega)]; simp [hes]
 simp only [List.nodup_cons, List.mem_cons, List.mem_map, not_or, not_exists, not_and] at hnd
 obtain ⟨⟨n1, n2⟩, n3, n4⟩ := hnd
 have hme : ∀ i, i < es.length → at_ es i ∈ es := fun i hi => by rw [at_get hi]; exact List.getElem_mem hi
 have hebE : ∀ x, x ∈ es → x.b ≠ eb := fun x hx e => by
   obtain ⟨i, hi, rfl⟩ := List.getElem_of_mem hx
   have := hI.e i hi
   rw [at_get hi, e, hebs] at this; cases this
 have qB : upd (upd bs eb (some (.row 90 3 [entC its[k].1 its[k].2 k]))) bm (some (.map (mpV ms'))) bq = some (.row 79 4 [qV v g (.mp bm) n]) := by
   rw [upd_ne _ _ n1, upd_ne _ _ nq]; exact hI.q
 refine LdI.mk ?_ (upd_eq _ _ _) (fun i hi => ?_) ?_ hn hmi ?_ htf htt ?_ ?_ ⟨hI.fq.1, hI.fq.2.1, ?_⟩ ?_
 · have := ha.base_put qB (.row 79 4 [qV v' g (.mp bm) n])
   simpa using this
 · rw [List.length_append, List.length_singleton] at hi
   by_cases h : i < es.length
   · have m := hme i h
     rw [hat i h, upd_ne _ _ (n2 _ m), upd_ne _ _ (n3 _ m), upd_ne _ _ (hebE _ m)]
     exact hI.e i h
   · obtain rfl : i = k := by omega
     rw [hat2, upd_ne _ _ (Ne.symm nq), upd_ne _ _ (Ne.symm nm), upd_eq]
 · rw [upd_ne _ _ (Ne.symm n1), upd_eq]
 · rw [List.map_append, hI.hv, List.take_succ_eq_append_getElem hkk]; rfl
 · intro p hp
   rw [List.take_succ_eq_append_getElem hkk] at hp
   rcases List.mem_append.1 hp with hp | hp
   · exact hI.ra p hp
   · simp at hp; subst hp; exact hra
 · exact ((hI.f.upd_own hbe _).upd_own hI.fq.2.1 _).upd_own hI.fq.1 _
 · intro x hx
   rcases List.mem_append.1 hx with hx | hx
   · exact hI.fq.2.2 x hx
   · simp at hx; subst hx; exact hbe
 · simp only [List.nodup_cons, List.map_append, List.mem_cons, List.mem_append, List.mem_map, not_or, not_exists, not_and, List.map_cons, List.map_nil, List.not_mem_nil, or_false]
   refine ⟨⟨n1, n2, nq⟩, ⟨n3, nm⟩, ?_⟩
   rw [List.nodup_append]
   refine ⟨n4, by simp, ?_⟩
   intro a ha b hb
   obtain ⟨x, hx, rfl⟩ := List.mem_map.1 ha
   simp at hb
   subst hb
   exact hebE x hx
theorem LdI.qs {bx : Boxes} {bq bm : Nat} {g : FuncId} {n : Int} {its : List (Int × Int)} {k : Nat} {tw : Bool} {bx2 bs : Boxes} {es : List (Ent Int)} {v : V} {ms : List (Int × Nat)} (hI : LdI bx bq bm g n its k tw bx2 bs es v ms) (hl : es.length ≤ 100000) :
   ∃ ol, QS bx2 bq ol g (.mp bm) n es ∧ (∀ b, ol = some b → bx b = none) ∧ ol ≠ some bm := by
 have hnd := hI.nd
 simp only [List.nodup_cons, List.mem_cons, List.mem_map, not_or, not_exists, not_and] at hnd
 obtain ⟨⟨n1, n2⟩, n3, n4⟩ := hnd
 have hx : ∀ b x, bs b = some x → bx2 b = some x := fun b x h => (hI.a.ext b (by rw [h]; simp)).trans h
 rcases hI.a.is with ⟨h1, h2⟩ | ⟨b, h1, h2, h3⟩
 · refine ⟨none, .inl ⟨by simpa using h1, rfl, ?_, hI.a.fin⟩, fun b hb => (by cases hb), by simp⟩
   rw [← h2]; exact hx _ _ hI.q
 · have nb : ∀ c x, bs c = some x → b ≠ c := fun c x hc e => by rw [e, hc] at h1; cases h1
   refine ⟨some b, .inr ⟨b, _, rfl, ?_, h3, fun i hi => ?_, fun i hi => hx _ _ (hI.e i hi), ?_, hI.a.fin, hl⟩, fun c hc => ?_, fun e => ?_⟩
   · rw [hx _ _ hI.q, h2]; simp
   · rw [List.getElem?_map, at_get hi, List.getElem?_eq_getElem hi]; rfl
   · simp only [List.nodup_cons, List.mem_cons, List.mem_map, not_or, not_exists, not_and]
     refine ⟨⟨fun e => nb _ _ hI.q e.symm, n2⟩, fun x hx' e => ?_, n4⟩
     obtain ⟨i, hi, rfl⟩ := List.getElem_of_mem hx'
     have := hI.e i hi
     rw [at_get hi] at this
     exact nb _ _ this e.symm
   · injection hc with hc
     subst hc
     exact hI.f.none h1
   · injection e with e
     exact nb _ _ hI.m e
theorem heap_srt {lt : Int → Int → Bool} {key : Int → Int} (hk : ByKey lt key) {es : List (Ent Int)} (hs : Srt lt (es.map hv)) : HeapOK lt es es.length := by
 intro i hi hil
 rw [Srt, List.pairwise_iff_getElem] at hs
 have := hs ((i - 1) / 2) i (by simp; omega) (by simpa using hil) (by omega)
 rw [List.getElem_map, List.getElem_map] at this
 unfold le
 rw [at_get hil, at_get (by omega), bef_bf]
 by_cases h : bf lt (hv es[i]) (hv es[(i - 1) / 2]) = true
 · rw [bf_key hk] at this h
   omega
 · simpa using h
theorem Try.Load_c {g : FuncId} {lt : Int → Int → Bool} {key : Int → Int} (hk : ByKey lt key) (hlt : Lt Try.prog g lt) (n : Int) (its : List (Int × Int)) (e : Int) (he : Chk lt n its e) (bx : Boxes) :
   AbsCall Try.prog 27 [.fn (.func g) [], stV n its] bx fun r bx' => (e ≠ 0 ∧ r = .tup [.nilp, .int .i64 e] ∧ FinB bx' ∧ Ext bx bx') ∨ (e = 0 ∧ ∃ bq D, r = .tup [.ptr bq 4 0 0, .int .i64 0] ∧ QF bx bx' bq g lt n its D) := by
 refine Try.ctr27 fun hf => ?_
 have h1 := he.fl
 have h2 := he.fn
 have h3 := he.fr
 have h4 := he.ft
 have h5 := he.fs
 have h6 := he.fo
 simp only [stV]
 simp [go_sem, Try.C27, hf]
 refine callK_abs (Try.New_c g bx) ?_
 rintro r bx1 ⟨bq, bm, gq, gm, rfl, hm, hE⟩
 obtain ⟨sv, hq, hsv⟩ := hm.s.q
 obtain rfl : sv = .nils := by
   rcases hsv with ⟨_, h⟩ | ⟨bl, h, _⟩
   · exact h
   · cases h
 obtain ⟨ms0, hms0, hbm⟩ := hm.m
 obtain rfl : ms0 = [] := by simpa using hms0
 have hf1 := hm.fin
 have hne := hm.d.1
 by_cases hl : 5000 < its.length
 · have hl' : (5000 : Int) < its.length := by omega
   simp [go_sem, hf1, hl']
   exact ret_pure (by simp [go_sem]) (.inl ⟨by rw [h1 hl]; decide, by simp [go_sem, h1 hl], hf1, hE⟩)
 have hl5 : its.length ≤ 5000 := by omega
 have hl' : ¬ (5000 : Int) < its.length := by omega
 simp [go_sem, hf1, hl']
 refine ⟨fun hn => ret_pure (by simp [go_sem]) (.inl ⟨by rw [h2 hl5 (by omega)]; decide, by simp [go_sem, h2 hl5 (by omega)], hf1, hE⟩), fun hn1 hn2 => ?_⟩
 have hn : 1 ≤ n ∧ n ≤ 1000000000000000 := ⟨hn1, hn2⟩
 simp only [qV] at hq
 simp [go_sem, hq, hf1]
 have hI0 : ∃ bs es v ms, LdI bx bq bm g n its 0 false (upd bx1 bq (some (.row 79 4 [.agg [.nils, .fn (.func g) [], .mp bm, .int .i64 n]]))) bs es v ms := by
   refine ⟨_, [], .nils, [], acc_nil ((finB_upd _ _ _).2 hf1) _ _, upd_eq _ _ _, fun i hi => by simp at hi, ?_, by simp, by simp, by simp, by simp, by simp, by simp, ?_, ⟨gq, gm, by simp⟩, by simpa using Ne.symm hne⟩
   · rw [upd_ne _ _ hne]; exact hbm
   · exact hE.upd_own gq _
 refine pw_for (ι := Bool × Boxes) its.length (fun k i => ∃ bs es v ms, LdI bx bq bm g n its k i.1 i.2 bs es v ms) (fun k i => ⟨114, slk [(3, .ep (stV n its) 0), (6, .ptr bq 4 0 0), (7, .bool i.1), (39, .sl 2 (its.map itV)), (40, .int .i64 its.length), (41, .int .i64 k)], i.2⟩) (false, _) hI0 (cov_look (by simp [go_sem, stV])) (fun k i hkk hJ N hN => ?_) (fun i hJ N => ?_)
 · obtain ⟨tw, bx2⟩ := i
   obtain ⟨bs, es, v, ms, hI⟩ := hJ
   dsimp only at hI hN ⊢
   have hw := wr_succ (k := k) (by omega)
   have hes : es.length = k := by have := congrArg List.length hI.hv; simp at this; omega
   have q2 : bx2 bq = _ := (hI.a.ext bq (by rw [hI.q]; simp)).trans hI.q
   have m2 : bx2 bm = _ := (hI.a.ext bm (by rw [hI.m]; simp)).trans hI.m
   have f2 := hI.a.fin
   simp only [qV] at q2
   simp [go_sem, Try.L27_0, stV, hkk, itV, f2]
   intro b hb
   rw [upd_self hb]
   refine ⟨fun hr => ret_pure (by simp [go_sem]) (.inl ⟨?_, ?_, f2, hI.f.trans hI.a.ext⟩), fun hr1 hr2 => ?_⟩
   · rw [h3 hl5 hn its[k] (List.getElem_mem hkk) (by omega)]; decide
   · simp [go_sem]
     rw [h3 hl5 hn its[k] (List.getElem_mem hkk) (by omega)]
   have hlk : (its[k].1 ∉ ms.map (·.1) ∧ findV (.int .i64 its[k].1) (mpV ms) 0 = some none) ∨ ∃ i b0, its[k].1 ∈ ms.map (·.1) ∧ ms[i]? = some (its[k].1, b0) ∧ findV (.int .i64 its[k].1) (mpV ms) 0 = some (some (i, .ptr b0 3 0 0)) := by
     have hfa := findV_at its[k].1 ms 0 hI.mn
     by_cases hx : its[k].1 ∈ ms.map (·.1)
     · obtain ⟨p, hp, hpe⟩ := List.mem_map.1 hx
       obtain ⟨i, g1, g2⟩ := hfa.1 p.2 (by rw [← hpe]; exact hp)
       exact .inr ⟨i, p.2, hx, g1, by simpa using g2⟩
     · exact .inl ⟨hx, hfa.2 fun b0 hb0 => hx (List.mem_map.2 ⟨_, hb0, rfl⟩)⟩
   rcases hlk with ⟨hx, hfi⟩ | ⟨i, b0, hx, hi, hfi⟩
   all_goals
     simp [go_sem, q2, m2, hfi, f2]
     intro eb heb
     have nq : bq ≠ eb := fun e => by rw [e, heb] at q2; cases q2
     have nm : bm ≠ eb := fun e => by rw [e, heb] at m2; cases m2
     simp [go_sem, q2, m2, hfi, f2, upd_ne, nq, nm, hne, Ne.symm hne]
     intro b hb
   · rw [mpV_snoc] at hb ⊢
     have hM := hI.mid heb (.row 90 3 [entC its[k].1 its[k].2 k]) (ms ++ [(its[k].1, eb)])
     simp only [entC] at hM
     have hnb : bq ≠ b := fun e => by rw [← e, upd_ne _ _ (Ne.symm hne), upd_ne _ _ nq, q2] at hb; cases hb
     refine acc_append (news := [.ptr eb 3 0 0]) (.pointer none) hM ((Ext.refl _).new hb _) ((finB_upd _ _ _).2 hM.fin) Try.knd74 Try.tsz85 (by simp [srcEls, upd_eq]) Try.tzero85 (by simp [go_sem]) (by decide) (by simp [Try.tby85]; omega) (by simp; omega) (by simp [go_sem]) fun v' bx5 h5 => ?_
     have q5 : bx5 bq = _ := (h5.ext bq (by rw [upd_ne _ _ (Ne.symm hne), upd_ne _ _ nq, hI.q]; simp)).trans (by rw [upd_ne _ _ (Ne.symm hne), upd_ne _ _ nq, hI.q])
     simp only [qV] at q5
     simp [go_sem, q5, h5.fin, h5.cells, h5.setC, h5.okV, h5.strip, h5.live, hw]
     have hst := hI.step hkk heb (ms' := ms ++ [(its[k].1, eb)]) (tw' := tw) ?_ ?_ ⟨hr1, hr2⟩ ?_ ?_ (by simpa only [entC] using h5)
     · exact hN _ (tw, _) ⟨_, _, _, _, hst⟩ (cov_look (by simp [go_sem, stV]))
     · rw [List.map_append, List.nodup_append]
       refine ⟨hI.mn, by simp, fun a ha b hb2 => ?_⟩
       simp at hb2
       subst hb2
       exact fun e => hx (e ▸ ha)
     · intro h
       rw [List.take_succ_eq_append_getElem hkk, List.map_append, List.map_append, List.mem_append, List.mem_append, hI.mi h]
       simp
     · intro htw
       obtain ⟨t1, t2⟩ := hI.tf htw
       refine ⟨?_, ?_⟩
       · rw [List.map_append]
         exact t1.append (List.Perm.refl _)
       · rw [List.take_succ_eq_append_getElem hkk, List.map_append, List.nodup_append]
         refine ⟨t2, by simp, fun a ha b hb2 => ?_⟩
         simp at hb2
         subst hb2
         exact fun e => hx ((hI.mi _).2 (e ▸ ha))
     · intro htw hnd
       rw [List.take_succ_eq_append_getElem hkk, List.map_append, List.nodup_append] at hnd
       exact hI.tt htw hnd.1
   · rw [mpV_set] at hb ⊢
     have hM := hI.mid heb (.row 90 3 [entC its[k].1 its[k].2 k]) (ms.set i (its[k].1, eb))
     simp only [entC] at hM
     have hnb : bq ≠ b := fun e => by rw [← e, upd_ne _ _ (Ne.symm hne), upd_ne _ _ nq, q2] at hb; cases hb
     refine acc_append (news := [.ptr eb 3 0 0]) (.pointer none) hM ((Ext.refl _).new hb _) ((finB_upd _ _ _).2 hM.fin) Try.knd74 Try.tsz85 (by simp [srcEls, upd_eq]) Try.tzero85 (by simp [go_sem]) (by decide) (by simp [Try.tby85]; omega) (by simp; omega) (by simp [go_sem]) fun v' bx5 h5 => ?_
     have q5 : bx5 bq = _ := (h5.ext bq (by rw [upd_ne _ _ (Ne.symm hne), upd_ne _ _ nq, hI.q]; simp)).trans (by rw [upd_ne _ _ (Ne.symm hne), upd_ne _ _ nq, hI.q])
     simp only [qV] at q5
     simp [go_sem, q5, h5.fin, h5.cells, h5.setC, h5.okV, h5.strip, h5.live, hw]
     obtain ⟨hil, hie⟩ := List.getElem?_eq_some_iff.1 hi
     have hk0 : (ms.set i (its[k].1, eb)).map (·.1) = ms.map (·.1) := by
       rw [List.map_set]
       apply List.ext_getElem
       · simp
       · intro j j1 j2
         rw [List.getElem_set]
         split
         · rename_i e
           subst e
           simp [hie]
         · rfl
     have hin : its[k].1 ∈ (its.take k).map (·.1) := (hI.mi _).1 hx
     have hst := hI.step hkk heb (ms' := ms.set i (its[k].1, eb)) (tw' := true) (by rw [hk0]; exact hI.mn) ?_ ⟨hr1, hr2⟩ (by simp) ?_ (by simpa only [entC] using h5)
     · exact hN _ (true, _) ⟨_, _, _, _, hst⟩ (cov_look (by simp [go_sem, stV]))
     · intro h
       rw [hk0, hI.mi h, List.take_succ_eq_append_getElem hkk, List.map_append, List.mem_append]
       constructor
       · exact fun e => .inl e
       · rintro (e | e)
         · exact e
         · simp at e; rw [e]; exact hin
     · intro _ hnd
       rw [List.take_succ_eq_append_getElem hkk, List.map_append, List.nodup_append] at hnd
       exact hnd.2.2 _ hin _ (by simp) rfl
 · obtain ⟨tw, bx2⟩ := i
   obtain ⟨bs, es, v, ms, hI⟩ := hJ
   dsimp only at hI ⊢
   have hes : es.length = its.length := by have := congrArg List.length hI.hv; simp at this; omega
   have q2 : bx2 bq = _ := (hI.a.ext bq (by rw [hI.q]; simp)).trans hI.q
   have m2 : bx2 bm = _ := (hI.a.ext bm (by rw [hI.m]; simp)).trans hI.m
   have f2 := hI.a.fin
   have hr : ∀ p, p ∈ its → 1 ≤ p.1 ∧ p.1 < n := fun p hp => hI.ra p (by rw [List.take_length]; exact hp)
   simp only [qV] at q2
   cases tw with
   | true =>
     have hnd := hI.tt rfl
     rw [List.take_length] at hnd
     simp [go_sem, Try.L27_0, stV, f2]
     refine ret_pure (by simp [go_sem]) (.inl ⟨?_, ?_, f2, hI.f.trans hI.a.ext⟩)
     · rw [h4 hl5 hn hr hnd]; decide
     · simp [go_sem]
       rw [h4 hl5 hn hr hnd]
   | false =>
     obtain ⟨hpm, hnd⟩ := hI.tf rfl
     rw [List.take_length] at hnd
     simp [go_sem, Try.L27_0, stV, f2]
     obtain ⟨ol, hQS, hol, holm⟩ := hI.qs (by omega)
     have hhv : es.map hv = its := by rw [hI.hv, List.take_length]
     refine pw_find (its.length - 1) (fun k => !bf lt (its.getD k (0, 0)) (its.getD (k + 1) (0, 0))) (fun k => ⟨114, slk [(6, .ptr bq 4 0 0), (13, .int .i64 ((k : Int) + 1))], bx2⟩) (cov_look (by simp [go_sem])) (fun k hk hJ N hN => ?_) (fun hJ N => ?_)
     · have hk1 : k < its.length := by omega
       have hk2 : k + 1 < its.length := by omega
       have hw : IntKind.i64.wrap ((k : Int) + 1 + 1) = (k : Int) + 1 + 1 := wr64 (by omega)
       have hw2 : IntKind.i64.wrap (k : Int) = (k : Int) := wr64 (by omega)
       have hk3 : (k : Int) + 1 < es.length := by omega
       have hg : its.getD k (0, 0) = its[k] := by simp [hk1]
       have hg2 : its.getD (k + 1) (0, 0) = its[k + 1] := by simp [hk2]
       rw [hg, hg2] at hN
       have e1 : its[k] = hv (at_ es k) := by subst hhv; rw [List.getElem_map, at_get (by omega)]
       have e2 : its[k + 1] = hv (at_ es (k + 1)) := by subst hhv; rw [List.getElem_map, at_get (by omega)]
       obtain ⟨bl, R, rfl, hs⟩ : ∃ bl R, ol = some bl ∧ HeapS bx2 bq bl g (.mp bm) n es R := by
         rcases hQS with ⟨h, _⟩ | h
         · rw [h] at hes; simp at hes; omega
         · exact h
       have cL := Try.less_c hlt hs (i := k) (k := k + 1) (by omega) (by omega)
       rw [bef_bf, ← e1, ← e2] at cL
       have q3 := hs.q
       simp only [qV] at q3
       simp only [Int.natCast_add, Int.cast_ofNat_Int] at cL
       simp [go_sem, Try.L27_1, f2, q3, hk3, hw2]
       refine callK_pure cL ?_
       simp [go_sem, hw]
       refine ⟨fun h => ret_pure (by simp [go_sem]) (.inl ?_), fun h => hN _ (by simpa using h) (cov_look (by simp [go_sem]))⟩
       have he6 : e = 6 := h5 hl5 hn hr hnd fun hs => by
         rw [Srt, List.pairwise_iff_getElem] at hs
         have := hs k (k + 1) hk1 hk2 (by omega)
         rw [h] at this
         cases this
       exact ⟨by rw [he6]; decide, by simp [go_sem, he6], f2, hI.f.trans hI.a.ext⟩
     · have hs : Srt lt its := srt_iff hk fun i hi => by
         have := hJ i (by omega)
         simpa [hi, show i < its.length by omega] using this
       have he0 := h6 hl5 hn hr hnd hs
       obtain ⟨sv, q3, hsv⟩ := hQS.q
       simp only [qV] at q3
       have fin : ∃ bq' D, (V.ptr bq 4 0 0) = .ptr bq' 4 0 0 ∧ QF bx bx2 bq' g lt n its D := by
         refine ⟨bq, fun b => b = bq ∨ b = bm ∨ ol = some b ∨ ∃ e, e ∈ es ∧ b = e.b, rfl, ⟨⟨ol, bm, es, ⟨hQS, ⟨ms, hpm, m2⟩, fun x hx => ?_, ?_, ?_, hn⟩, ?_, by rw [hhv], fun b => Iff.rfl⟩, hs⟩, fun b hb => (hI.f.trans hI.a.ext) b hb, fun b hb => ?_⟩
         · have := hr (hv x) (by rw [← hhv]; exact List.mem_map.2 ⟨x, hx, rfl⟩)
           exact this
         · have : es.map (·.h) = its.map (·.1) := by rw [← hhv, List.map_map]; rfl
           rw [this]; exact hnd
         · have hnd2 := hI.nd
           simp only [List.nodup_cons, List.mem_cons, List.mem_map, not_or, not_exists, not_and] at hnd2
           obtain ⟨⟨n1, n2⟩, n3, n4⟩ := hnd2
           exact ⟨Ne.symm n1, holm, fun x hx => n3 x hx⟩
         · exact heap_srt hk (by rw [hhv]; exact hs)
         · rcases hb with rfl | rfl | hb | ⟨x, hx, rfl⟩
           · exact hI.fq.1
           · exact hI.fq.2.1
           · exact hol b hb
           · exact hI.fq.2.2 x hx
       have hk3 : ¬ ((its.length - 1 : Nat) : Int) + 1 < es.length := by omega
       rcases hsv with ⟨rfl, rfl⟩ | ⟨bl, rfl, rfl⟩
       · have hk3 : ¬ ((its.length - 1 : Nat) : Int) + 1 < 0 := by omega
         simp [go_sem, Try.L27_1, f2, q3, hk3]
         exact ret_pure (by simp [go_sem]) (.inr ⟨he0, by simpa [go_sem] using fin⟩)
       · simp [go_sem, Try.L27_1, f2, q3, hk3]
         exact ret_pure (by simp [go_sem]) (.inr ⟨he0, by simpa [go_sem] using fin⟩)
end Go.Proofs

set_option linter.unusedSimpArgs false
set_option linter.unusedVariables false
set_option maxRecDepth 100000
namespace Go.Proofs.Nq
open Go Go.Pl Go.Hp
structure Nm where
 t : List UInt8
 n : Int
 deriving DecidableEq, Inhabited
def vV (v : Nm) : V := .agg [.str v.t, .int .i64 v.n]
def zV : V := .agg [.str [], .int .i64 0]
attribute [go_sem] vV zV
def entC (h : Int) (v : Nm) (i : Int) : V := .agg [.int .i64 h, .str v.t, .int .i64 v.n, .int .i64 i]
def qV (sv : V) (g : FuncId) (vm : V) (next : Int) : V := .agg [sv, .fn (.func g) [], vm, .int .i64 next]
def Lt (P : Program) (g : FuncId) (lt : Nm → Nm → Bool) : Prop := ∀ a b (bx : Boxes), PureCall P g [vV a, vV b] bx (.bool (lt a b))
theorem Try.before_c {bx : Boxes} {bq a b : Nat} {g : FuncId} {lt : Nm → Nm → Bool} {sv vm : V} {next ah ai bh bi : Int} {av bv : Nm} (hl : Lt Try.prog g lt)
   (hq : bx bq = some (.row 99 4 [qV sv g vm next])) (ha : bx a = some (.row 102 4 [entC ah av ai])) (hb : bx b = some (.row 102 4 [entC bh bv bi])) :
   PureCall Try.prog 115 [.ptr bq 4 0 0, .ptr a 4 0 0, .ptr b 4 0 0] bx (.bool (bef lt ⟨ah, av, a⟩ ⟨bh, bv, b⟩)) := by
 refine Try.ctr115 fun hf => ?_
 simp only [qV, entC] at hq ha hb
 simp [go_sem, Try.C115, hf, hq, ha, hb]
 refine callK_pure (hl av bv bx) ?_
 simp [go_sem, hf, hq, ha, hb]
 refine ⟨fun h => ret_pure (by simp [go_sem]) (by simp [go_sem, bef, h]), fun h => ?_⟩
 refine callK_pure (hl bv av bx) ?_
 simp [go_sem, hf, hq, ha, hb]
 refine ⟨fun h2 => ret_pure (by simp [go_sem]) (by simp [go_sem, bef, h, h2]), fun h2 => ?_⟩
 exact ret_pure (by simp [go_sem]) (by simp [go_sem, bef, h, h2])
structure HeapS (bx : Boxes) (bq bl : Nat) (g : FuncId) (vm : V) (next : Int) (es : List (Ent Nm)) (R : List V) : Prop where
 q : bx bq = some (.row 99 4 [qV (.own bl 1 0 es.length) g vm next])
 l : bx bl = some (.row 100 1 R)
 r : ∀ i, i < es.length → R[i]? = some (.ptr (at_ es i).b 4 0 0)
 e : ∀ i, i < es.length → bx (at_ es i).b = some (.row 102 4 [entC (at_ es i).h (at_ es i).v i])
 nd : (bq :: bl :: es.map (·.b)).Nodup
 fin : FinB bx
 len : es.length ≤ 100000
theorem HeapS.rlt {bx : Boxes} {bq bl : Nat} {g : FuncId} {vm : V} {next : Int} {es : List (Ent Nm)} {R : List V} (h : HeapS bx bq bl g vm next es R) {i : Nat} (hi : i < es.length) : ∃ hR : i < R.length, R[i] = .ptr (at_ es i).b 4 0 0 := by
 have := h.r i hi
 obtain ⟨h1, h2⟩ := List.getElem?_eq_some_iff.1 this
 exact ⟨h1, h2⟩
theorem HeapS.ne {bx : Boxes} {bq bl : Nat} {g : FuncId} {vm : V} {next : Int} {es : List (Ent Nm)} {R : List V} (h : HeapS bx bq bl g vm next es R) : bq ≠ bl ∧ (∀ i, i < es.length → (at_ es i).b ≠ bq ∧ (at_ es i).b ≠ bl) ∧ ∀ i k, i < es.length → k < es.length → (at_ es i).b = (at_ es k).b → i = k := by
 have hn := h.nd
 rw [List.nodup_cons, List.nodup_cons] at hn
 obtain ⟨h1, h2, h3⟩ := hn
 have hm : ∀ i, i < es.length → (at_ es i).b ∈ es.map (·.b) := fun i hi => by
   rw [at_get hi]; exact List.mem_map.2 ⟨_, List.getElem_mem hi, rfl⟩
 refine ⟨fun e => h1 (by simp [e]), fun i hi => ⟨fun e => h1 (by rw [← e]; exact List.mem_cons_of_mem _ (hm i hi)), fun e => h2 (by rw [← e]; exact hm i hi)⟩, fun i k hi hk e => ?_⟩
 have hl : (es.map (·.b)).length = es.length := by simp
 refine (List.getElem_inj (h₀ := by rw [hl]; exact hi) (h₁ := by rw [hl]; exact hk) h3).1 ?_
 rw [List.getElem_map, List.getElem_map, ← at_get hi, ← at_get hk]
 exact e
theorem Try.len_c {bx : Boxes} {bq : Nat} {g : FuncId} {sv vm : V} {next : Int} {n : Nat} (hf : FinB bx) (hq : bx bq = some (.row 99 4 [qV sv g vm next])) (hs : (sv = .nils ∧ n = 0) ∨ ∃ bl, sv = .own bl 1 0 n) :
   PureCall Try.prog 110 [.ptr bq 4 0 0] bx (.int .i64 n) := by
 refine Try.ctr110 fun hf => ?_
 simp only [qV] at hq
 rcases hs with ⟨rfl, rfl⟩ | ⟨bl, rfl⟩ <;>
 · simp [go_sem, Try.C110, hf, hq]
   exact ret_pure (by simp [go_sem]) (by simp [go_sem])
theorem Try.less_c {bx : Boxes} {bq bl : Nat} {g : FuncId} {lt : Nm → Nm → Bool} {vm : V} {next : Int} {es : List (Ent Nm)} {R : List V} (hlt : Lt Try.prog g lt) (h : HeapS bx bq bl g vm next es R) {i k : Nat} (hi : i < es.length) (hk : k < es.length) :
   PureCall Try.prog 111 [.ptr bq 4 0 0, .int .i64 i, .int .i64 k] bx (.bool (bef lt (at_ es i) (at_ es k))) := by
 refine Try.ctr111 fun hf => ?_
 have c := Try.before_c hlt h.q (h.e i hi) (h.e k hk)
 have hq := h.q
 have hl := h.l
 obtain ⟨i1, i2⟩ := h.rlt hi
 obtain ⟨k1, k2⟩ := h.rlt hk
 simp only [qV] at hq
 simp [go_sem, Try.C111, hf, hq, hl, hi, hk, i1, i2, k1, k2]
 refine callK_pure c ?_
 simp [go_sem]
 exact ret_pure (by simp [go_sem]) (by simp [go_sem])
def Fr (bl : Nat) (es : List (Ent Nm)) (bx bx' : Boxes) : Prop := ∀ b, b ≠ bl → (∀ e, e ∈ es → b ≠ e.b) → bx' b = bx b
theorem HeapS.swap {bx bx' : Boxes} {bq bl : Nat} {g : FuncId} {vm : V} {next : Int} {es : List (Ent Nm)} {R : List V} (h : HeapS bx bq bl g vm next es R) {i k : Nat} (hi : i < es.length) (hk : k < es.length) (hf : FinB bx')
   (hq : bx' bq = bx bq) (hl : bx' bl = some (.row 100 1 ((R.set i (.ptr (at_ es k).b 4 0 0)).set k (.ptr (at_ es i).b 4 0 0))))
   (he : ∀ j, j < es.length → bx' (at_ es j).b = some (.row 102 4 [entC (at_ es j).h (at_ es j).v (if j = i then k else if j = k then i else j : Nat)])) :
   HeapS bx' bq bl g vm next (swp es i k) ((R.set i (.ptr (at_ es k).b 4 0 0)).set k (.ptr (at_ es i).b 4 0 0)) := by
 have hs := fun q => swp_at es i k q hi hk
 obtain ⟨i1, i2⟩ := h.rlt hi
 obtain ⟨k1, k2⟩ := h.rlt hk
 refine ⟨by rw [hq, swp_len]; exact h.q, hl, fun j hj => ?_, fun j hj => ?_, ?_, hf, by rw [swp_len]; exact h.len⟩
 · rw [swp_len] at hj
   rw [hs, List.getElem?_set, List.getElem?_set]
   by_cases e1 : k = j
   · rw [if_pos e1, if_pos e1.symm]
     simp [k1]
   · rw [if_neg e1, if_neg (Ne.symm e1)]
     by_cases e2 : i = j
     · rw [if_pos e2, if_pos e2.symm]
       simp [i1, k1]
     · rw [if_neg e2, if_neg (Ne.symm e2)]
       exact h.r j hj
 · rw [swp_len] at hj
   rw [hs]
   by_cases e1 : j = k
   · rw [if_pos e1, he i hi, if_pos rfl, e1]
   · rw [if_neg e1]
     by_cases e2 : j = i
     · rw [if_pos e2, he k hk]
       by_cases e3 : k = i
       · exact absurd (e2.trans e3.symm) e1
       · rw [if_neg e3, if_pos rfl, e2]
     · rw [if_neg e2, he j hj, if_neg e2, if_neg e1]
 · have hp := (swp_perm es i k hi hk).map (·.b)
   exact (((hp.cons bl).cons bq).nodup_iff).2 h.nd
theorem Try.swap_c {bx : Boxes} {bq bl : Nat} {g : FuncId} {vm : V} {next : Int} {es : List (Ent Nm)} {R : List V} (h : HeapS bx bq bl g vm next es R) {i k : Nat} (hi : i < es.length) (hk : k < es.length) :
   AbsCall Try.prog 114 [.ptr bq 4 0 0, .int .i64 i, .int .i64 k] bx fun r bx' => ∃ R', R'.length = R.length ∧ HeapS bx' bq bl g vm next (swp es i k) R' ∧ Fr bl es bx bx' := by
 refine Try.ctr114 fun hf => ?_
 have hq := h.q
 have hl := h.l
 obtain ⟨i1, i2⟩ := h.rlt hi
 obtain ⟨k1, k2⟩ := h.rlt hk
 obtain ⟨n1, n2, n3⟩ := h.ne
 have ei := h.e i hi
 have ek := h.e k hk
 obtain ⟨n4, n5⟩ := n2 i hi
 obtain ⟨n6, n7⟩ := n2 k hk
 simp only [qV] at hq
 simp only [entC] at ei ek
 by_cases e : i = k
 · subst e
   simp [go_sem, Try.C114, hf, hq, hl, hi, i1, i2, ei, upd_ne, n1, Ne.symm n1, n4, Ne.symm n4, n5, Ne.symm n5]
   refine ret_pure (by simp [go_sem]) ⟨_, ?_, h.swap hi hi (by simp [finB_upd, hf]) ?_ ?_ fun j hj => ?_, fun b hb1 hb2 => ?_⟩
   · simp
   · dsimp only; rw [upd_ne _ _ (Ne.symm n4), upd_ne _ _ n1]
   · dsimp only; rw [upd_ne _ _ (Ne.symm n5), upd_eq, List.set_set]
   · dsimp only
     by_cases ej : (at_ es j).b = (at_ es i).b
     · have := n3 j i hj hi ej
       subst this
       rw [upd_eq]
       simp [entC]
     · rw [upd_ne _ _ ej, upd_ne _ _ (n2 j hj).2, h.e j hj, if_neg (fun e => ej (by rw [e])), if_neg (fun e => ej (by rw [e]))]
   · have hm : at_ es i ∈ es := by rw [at_get hi]; exact List.getElem_mem hi
     dsimp only
     rw [upd_ne _ _ (hb2 _ hm), upd_ne _ _ hb1]
 · have n8 : (at_ es i).b ≠ (at_ es k).b := fun e' => e (n3 i k hi hk e')
   simp [go_sem, Try.C114, hf, hq, hl, hi, hk, i1, i2, k1, k2, ei, ek, upd_ne, n1, Ne.symm n1, n4, Ne.symm n4, n5, Ne.symm n5, n6, Ne.symm n6, n7, Ne.symm n7, n8, Ne.symm n8, List.getElem_set, e, Ne.symm e]
   refine ret_pure (by simp [go_sem]) ⟨_, ?_, h.swap hi hk (by simp [finB_upd, hf]) ?_ ?_ fun j hj => ?_, fun b hb1 hb2 => ?_⟩
   · simp
   · dsimp only
     rw [upd_ne _ _ (Ne.symm n4), upd_ne _ _ (Ne.symm n6), upd_ne _ _ n1]
   · dsimp only
     rw [upd_ne _ _ (Ne.symm n5), upd_ne _ _ (Ne.symm n7), upd_eq]
   · dsimp only
     by_cases ej : (at_ es j).b = (at_ es i).b
     · have := n3 j i hj hi ej
       subst this
       rw [upd_eq]
       simp [entC]
     · rw [upd_ne _ _ ej, if_neg (c := j = i) (fun e => ej (by rw [e]))]
       by_cases ek' : (at_ es j).b = (at_ es k).b
       · have := n3 j k hj hk ek'
         subst this
         rw [upd_eq]
         simp [entC]
       · rw [upd_ne _ _ ek', upd_ne _ _ (n2 j hj).2, h.e j hj, if_neg (fun e => ek' (by rw [e]))]
   · have hm : at_ es i ∈ es := by rw [at_get hi]; exact List.getElem_mem hi
     have hm2 : at_ es k ∈ es := by rw [at_get hk]; exact List.getElem_mem hk
     dsimp only
     rw [upd_ne _ _ (hb2 _ hm), upd_ne _ _ (hb2 _ hm2), upd_ne _ _ hb1]
end Go.Proofs.Nq

set_option linter.unusedSimpArgs false
set_option linter.unusedVariables false
set_option maxRecDepth 100000
namespace Go.Proofs.Nq
open Go Go.Pl Go.Hp
theorem Try.mLess : methodV Try.prog 103 "Less" = some 111 := by kernel_rfl
theorem Try.mSwap : methodV Try.prog 103 "Swap" = some 114 := by kernel_rfl
theorem Try.mLen : methodV Try.prog 103 "Len" = some 110 := by kernel_rfl
theorem Try.mPush : methodV Try.prog 103 "Push" = some 113 := by kernel_rfl
theorem Try.mPop : methodV Try.prog 103 "Pop" = some 112 := by kernel_rfl
theorem Fr.refl (bl : Nat) (es : List (Ent Nm)) (bx : Boxes) : Fr bl es bx bx := fun _ _ _ => rfl
theorem Fr.swap {bl : Nat} {es : List (Ent Nm)} {i k : Nat} {bx bx' bx'' : Boxes} (h : Fr bl es bx bx') (h' : Fr bl (swp es i k) bx' bx'') (hi : i < es.length) (hk : k < es.length) : Fr bl es bx bx'' := fun b h1 h2 => by
 rw [h' b h1 (fun e he => h2 e ((swp_perm es i k hi hk).mem_iff.1 he)), h b h1 h2]
structure At (bx bx' : Boxes) (bq bl : Nat) (g : FuncId) (vm : V) (next : Int) (n : Nat) (es es' : List (Ent Nm)) : Prop where
 s : ∃ R, R.length = n ∧ HeapS bx' bq bl g vm next es' R
 f : Fr bl es bx bx'
 p : es'.Perm es
theorem At.step {bx bx' bx'' : Boxes} {bq bl : Nat} {g : FuncId} {vm : V} {next : Int} {n : Nat} {es es' : List (Ent Nm)} (h : At bx bx' bq bl g vm next n es es') {i k : Nat} (hi : i < es'.length) (hk : k < es'.length) {R' : List V} (hn : R'.length = n) (h1 : HeapS bx'' bq bl g vm next (swp es' i k) R') (h2 : Fr bl es' bx' bx'') :
   At bx bx'' bq bl g vm next n es (swp es' i k) :=
 ⟨⟨R', hn, h1⟩, fun b hb1 hb2 => by rw [h2 b hb1 (fun e he => hb2 e (h.p.mem_iff.1 he)), h.f b hb1 hb2], (swp_perm _ _ _ hi hk).trans h.p⟩
theorem Try.up_c {bx : Boxes} {bq bl : Nat} {g : FuncId} {lt : Nm → Nm → Bool} {vm : V} {next : Int} {es : List (Ent Nm)} {R : List V} (hlt : Lt Try.prog g lt) (h : HeapS bx bq bl g vm next es R) {j : Nat} (hj : j < es.length) :
   AbsCall Try.prog 60 [.iface 103 (.ptr bq 4 0 0), .int .i64 j] bx fun r bx' => At bx bx' bq bl g vm next R.length es (upL lt es j) := by
 refine Try.ctr60 fun hf => ?_
 have hl := h.len
 simp [go_sem, Try.C60, hf]
 refine pw_loop (ι := Nat × List (Ent Nm) × Boxes) (fun p => p.1 < es.length ∧ At bx p.2.2 bq bl g vm next R.length es p.2.1 ∧ upL lt p.2.1 p.1 = upL lt es j)
   (fun p => ⟨23, slk [(0, .iface 103 (.ptr bq 4 0 0)), (1, .int .i64 p.1)], p.2.2⟩) (fun p => p.1) (j, es, bx) ⟨hj, ⟨⟨R, rfl, h⟩, Fr.refl _ _ _, List.Perm.refl _⟩, rfl⟩ (cov_look (by simp [go_sem])) ?_
 rintro ⟨j, es', bx'⟩ ⟨hj', hat, hup⟩
 dsimp only at hj' hat hup ⊢
 obtain ⟨R', hRl, hs⟩ := hat.s
 have hle : es'.length = es.length := hat.p.length_eq
 have w1 : IntKind.i64.wrap ((j : Int) - 1) = (j : Int) - 1 := wr64 (by omega)
 by_cases hj0 : j = 0
 · subst hj0
   have w2 : IntKind.i64.wrap (-1) = -1 := by decide
   have w3 : IntKind.i64.wrap ((-1 : Int).tdiv 2) = 0 := by decide
   have hu : upL lt es' 0 = es' := by unfold upL; simp
   simp [go_sem, Try.L60_0, hs.fin, w1, w2, w3, (by decide : IntKind.i64.wrap 0 = 0), (by decide : (-1 : Int).tdiv 2 = 0)]
   refine ret_pure (by simp [go_sem]) ?_
   rw [← hup, hu]; exact hat
 obtain ⟨p, hp⟩ : ∃ p, (j - 1) / 2 = p := ⟨_, rfl⟩
 have w2 : IntKind.i64.wrap (((j : Int) - 1).tdiv 2) = (p : Int) := by
   rw [Int.tdiv_eq_ediv_of_nonneg (by omega), wr64 (by omega)]; omega
 have hpj : ¬ (p : Int) = j := by omega
 have hu : upL lt es' j = if bef lt (at_ es' j) (at_ es' p) = true then upL lt (swp es' p j) p else es' := by
   rw [upL.eq_def, dif_neg hj0, hp]
 have cL := Try.less_c hlt hs (i := j) (k := p) (by omega) (by omega)
 have cS := Try.swap_c hs (i := p) (k := j) (by omega) (by omega)
 simp [go_sem, Try.L60_0, hs.fin, w1, w2, hpj]
 refine invK_pure Try.mLess (by simp [go_sem]) (by simp [go_sem]) (by simpa [go_sem] using cL) ?_
 simp [go_sem]
 refine ⟨fun hb => ?_, fun hb => ?_⟩
 · refine ret_pure (by simp [go_sem]) ?_
   rw [← hup, hu, if_neg (by simp [hb])]; exact hat
 · refine invK_abs Try.mSwap (by simp [go_sem]) (by simp [go_sem]) (by simpa [go_sem] using cS) ?_
   rintro r bx2 ⟨R2, hR2, hs2, hf2⟩
   simp [go_sem]
   refine ⟨(p, swp es' p j, bx2), ⟨by dsimp only; omega, hat.step (by omega) (by omega) (by omega) hs2 hf2, ?_⟩, cov_look (by simp [go_sem]), by dsimp only; omega⟩
   dsimp only
   rw [← hup, hu, if_pos hb]
theorem Try.down_c {bx : Boxes} {bq bl : Nat} {g : FuncId} {lt : Nm → Nm → Bool} {vm : V} {next : Int} {es : List (Ent Nm)} {R : List V} (hlt : Lt Try.prog g lt) (h : HeapS bx bq bl g vm next es R) {i n : Nat} (hi : i < es.length) (hn : n ≤ es.length) :
   AbsCall Try.prog 55 [.iface 103 (.ptr bq 4 0 0), .int .i64 i, .int .i64 n] bx fun r bx' => r = .bool (decide (i < (downL lt es i n).2)) ∧ At bx bx' bq bl g vm next R.length es (downL lt es i n).1 := by
 refine Try.ctr55 fun hf => ?_
 have hl := h.len
 simp [go_sem, Try.C55, hf]
 refine pw_loop (ι := Nat × List (Ent Nm) × Boxes) (fun p => p.1 < es.length ∧ At bx p.2.2 bq bl g vm next R.length es p.2.1 ∧ downL lt p.2.1 p.1 n = downL lt es i n)
   (fun p => ⟨48, slk [(0, .iface 103 (.ptr bq 4 0 0)), (1, .int .i64 i), (2, .int .i64 n), (7, .int .i64 p.1)], p.2.2⟩) (fun p => es.length - p.1) (i, es, bx) ⟨hi, ⟨⟨R, rfl, h⟩, Fr.refl _ _ _, List.Perm.refl _⟩, rfl⟩ (cov_look (by simp [go_sem])) ?_
 rintro ⟨j, es', bx'⟩ ⟨hj', hat, hdn⟩
 dsimp only at hj' hat hdn ⊢
 obtain ⟨R', hRl, hs⟩ := hat.s
 have hle : es'.length = es.length := hat.p.length_eq
 have w1 : IntKind.i64.wrap (2 * (j : Int)) = 2 * (j : Int) := wr64 (by omega)
 have w2 : IntKind.i64.wrap (2 * (j : Int) + 1) = 2 * (j : Int) + 1 := wr64 (by omega)
 have w3 : IntKind.i64.wrap (2 * (j : Int) + 1 + 1) = 2 * (j : Int) + 2 := by rw [wr64 (by omega)]; omega
 by_cases hj0 : n ≤ 2 * j + 1
 · have hu : downL lt es' j n = (es', j) := by rw [downL.eq_def, dif_pos hj0]
   have hc : (n : Int) ≤ 2 * (j : Int) + 1 := by omega
   simp [go_sem, Try.L55_0, hs.fin, w1, w2, hc]
   refine ret_pure (by simp [go_sem]) ?_
   rw [← hdn, hu]
   exact ⟨by simp [go_sem], hat⟩
 have hc : ¬ (n : Int) ≤ 2 * (j : Int) + 1 := by omega
 have hc2 : ¬ 2 * (j : Int) + 1 < 0 := by omega
 have hu : downL lt es' j n = if bef lt (at_ es' (kid lt es' j n)) (at_ es' j) then downL lt (swp es' j (kid lt es' j n)) (kid lt es' j n) n else (es', j) := by rw [downL.eq_def, dif_neg hj0]
 obtain ⟨c1, c2, c3⟩ := kid_lt lt es' hj0
 simp [go_sem, Try.L55_0, hs.fin, w1, w2, w3, hc, hc2]
 by_cases h2 : 2 * j + 2 < n
 · have hg : (2 * (j : Int) + 2 < n) := by omega
   have cL := Try.less_c hlt hs (i := 2 * j + 2) (k := 2 * j + 1) (by omega) (by omega)
   simp only [Int.natCast_add, Int.natCast_mul, Int.cast_ofNat_Int] at cL
   simp [go_sem, hg]
   refine invK_pure Try.mLess (by simp [go_sem]) (by simp [go_sem]) (by simpa [go_sem] using cL) ?_
   simp [go_sem]
   refine ⟨fun hb => ?_, fun hb => ?_⟩
   · have hkc : kid lt es' j n = 2 * j + 2 := by unfold kid; rw [if_pos ⟨by omega, hb⟩]
     rw [hkc] at hu c1 c2
     have cL2 := Try.less_c hlt hs (i := 2 * j + 2) (k := j) (by omega) (by omega)
     have cS := Try.swap_c hs (i := j) (k := 2 * j + 2) (by omega) (by omega)
     simp only [Int.natCast_add, Int.natCast_mul, Int.cast_ofNat_Int] at cL2 cS
     refine invK_pure Try.mLess (by simp [go_sem]) (by simp [go_sem]) (by simpa [go_sem] using cL2) ?_
     simp [go_sem]
     refine ⟨fun hb2 => ?_, fun hb2 => ?_⟩
     · rw [if_neg (by simp [hb2])] at hu
       refine ret_pure (by simp [go_sem]) ?_
       rw [← hdn, hu]
       exact ⟨by simp [go_sem], hat⟩
     · rw [if_pos hb2] at hu
       refine invK_abs Try.mSwap (by simp [go_sem]) (by simp [go_sem]) (by simpa [go_sem] using cS) ?_
       rintro r bx2 ⟨R2, hR2, hs2, hf2⟩
       simp [go_sem]
       refine ⟨(2 * j + 2, swp es' j (2 * j + 2), bx2), ⟨by dsimp only; omega, hat.step (by omega) (by omega) (by omega) hs2 hf2, ?_⟩, cov_look (by simp [go_sem]), by dsimp only; omega⟩
       dsimp only
       rw [← hdn, hu]
   · have hkc : kid lt es' j n = 2 * j + 1 := by unfold kid; rw [if_neg (fun hh => by simp [hb] at hh)]
     rw [hkc] at hu c1 c2
     have cL2 := Try.less_c hlt hs (i := 2 * j + 1) (k := j) (by omega) (by omega)
     have cS := Try.swap_c hs (i := j) (k := 2 * j + 1) (by omega) (by omega)
     simp only [Int.natCast_add, Int.natCast_mul, Int.cast_ofNat_Int] at cL2 cS
     refine invK_pure Try.mLess (by simp [go_sem]) (by simp [go_sem]) (by simpa [go_sem] using cL2) ?_
     simp [go_sem]
     refine ⟨fun hb2 => ?_, fun hb2 => ?_⟩
     · rw [if_neg (by simp [hb2])] at hu
       refine ret_pure (by simp [go_sem]) ?_
       rw [← hdn, hu]
       exact ⟨by simp [go_sem], hat⟩
     · rw [if_pos hb2] at hu
       refine invK_abs Try.mSwap (by simp [go_sem]) (by simp [go_sem]) (by simpa [go_sem] using cS) ?_
       rintro r bx2 ⟨R2, hR2, hs2, hf2⟩
       simp [go_sem]
       refine ⟨(2 * j + 1, swp es' j (2 * j + 1), bx2), ⟨by dsimp only; omega, hat.step (by omega) (by omega) (by omega) hs2 hf2, ?_⟩, cov_look (by simp [go_sem]), by dsimp only; omega⟩
       dsimp only
       rw [← hdn, hu]
 · have hg : ¬ (2 * (j : Int) + 2 < n) := by omega
   simp [go_sem, hg]
   have hkc : kid lt es' j n = 2 * j + 1 := by unfold kid; rw [if_neg (fun hh => by omega)]
   rw [hkc] at hu c1 c2
   have cL2 := Try.less_c hlt hs (i := 2 * j + 1) (k := j) (by omega) (by omega)
   have cS := Try.swap_c hs (i := j) (k := 2 * j + 1) (by omega) (by omega)
   simp only [Int.natCast_add, Int.natCast_mul, Int.cast_ofNat_Int] at cL2 cS
   refine invK_pure Try.mLess (by simp [go_sem]) (by simp [go_sem]) (by simpa [go_sem] using cL2) ?_
   simp [go_sem]
   refine ⟨fun hb2 => ?_, fun hb2 => ?_⟩
   · rw [if_neg (by simp [hb2])] at hu
     refine ret_pure (by simp [go_sem]) ?_
     rw [← hdn, hu]
     exact ⟨by simp [go_sem], hat⟩
   · rw [if_pos hb2] at hu
     refine invK_abs Try.mSwap (by simp [go_sem]) (by simp [go_sem]) (by simpa [go_sem] using cS) ?_
     rintro r bx2 ⟨R2, hR2, hs2, hf2⟩
     simp [go_sem]
     refine ⟨(2 * j + 1, swp es' j (2 * j + 1), bx2), ⟨by dsimp only; omega, hat.step (by omega) (by omega) (by omega) hs2 hf2, ?_⟩, cov_look (by simp [go_sem]), by dsimp only; omega⟩
     dsimp only
     rw [← hdn, hu]
end Go.Proofs.Nq

set_option linter.unusedSimpArgs false
set_option linter.unusedVariables false
set_option maxRecDepth 100000
namespace Go.Proofs.Nq
open Go Go.Pl Go.Hp
def QS (bx : Boxes) (bq : Nat) (ol : Option Nat) (g : FuncId) (vm : V) (next : Int) (es : List (Ent Nm)) : Prop :=
 (es = [] ∧ ol = none ∧ bx bq = some (.row 99 4 [qV .nils g vm next]) ∧ FinB bx) ∨ ∃ bl R, ol = some bl ∧ HeapS bx bq bl g vm next es R
theorem QS.fin {bx : Boxes} {bq : Nat} {ol : Option Nat} {g : FuncId} {vm : V} {next : Int} {es : List (Ent Nm)} (h : QS bx bq ol g vm next es) : FinB bx := by
 rcases h with ⟨_, _, _, h⟩ | ⟨_, _, _, h⟩
 · exact h
 · exact h.fin
def Fq (bq : Nat) (ol : Option Nat) (es : List (Ent Nm)) (bx bx' : Boxes) : Prop := ∀ b, bx b ≠ none → b ≠ bq → ol ≠ some b → (∀ e, e ∈ es → b ≠ e.b) → bx' b = bx b
theorem heapS_snoc {bx' : Boxes} {bq bl : Nat} {g : FuncId} {vm : V} {next : Int} {es : List (Ent Nm)} {e : Ent Nm} {Rt : List V} (hq : bx' bq = some (.row 99 4 [qV (.own bl 1 0 (es.length + 1)) g vm next]))
   (hl : bx' bl = some (.row 100 1 (Rt ++ [.ptr e.b 4 0 0]))) (hRt : Rt.length = es.length) (hr : ∀ i, i < es.length → Rt[i]? = some (.ptr (at_ es i).b 4 0 0))
   (he : ∀ i, i < es.length → bx' (at_ es i).b = some (.row 102 4 [entC (at_ es i).h (at_ es i).v i])) (hee : bx' e.b = some (.row 102 4 [entC e.h e.v es.length]))
   (nd : (bq :: bl :: (es ++ [e]).map (·.b)).Nodup) (fin : FinB bx') (len : es.length < 100000) : HeapS bx' bq bl g vm next (es ++ [e]) (Rt ++ [.ptr e.b 4 0 0]) := by
 have hat : ∀ i, i < es.length → at_ (es ++ [e]) i = at_ es i := fun i hi => by
   unfold at_; rw [List.getD_eq_getElem?_getD, List.getD_eq_getElem?_getD, List.getElem?_append_left hi]
 have hat2 : at_ (es ++ [e]) es.length = e := by
   unfold at_; rw [List.getD_eq_getElem?_getD, List.getElem?_append_right (Nat.le_refl _)]; simp
 refine ⟨by rw [List.length_append]; exact hq, hl, fun i hi => ?_, fun i hi => ?_, nd, fin, by rw [List.length_append]; simp only [List.length_singleton]; omega⟩
 · rw [List.length_append, List.length_singleton] at hi
   by_cases h : i < es.length
   · rw [hat i h, List.getElem?_append_left (by omega)]; exact hr i h
   · obtain rfl : i = es.length := by omega
     rw [hat2, List.getElem?_append_right (by omega), hRt]; simp
 · rw [List.length_append, List.length_singleton] at hi
   by_cases h : i < es.length
   · rw [hat i h]; exact he i h
   · obtain rfl : i = es.length := by omega
     rw [hat2]; exact hee
theorem Try.ppush_c {bx : Boxes} {bq eb : Nat} {ol : Option Nat} {g : FuncId} {vm : V} {next h i : Int} {v : Nm} {es : List (Ent Nm)} (hs : QS bx bq ol g vm next es) (he : bx eb = some (.row 102 4 [entC h v i])) (h1 : eb ≠ bq) (h2 : ol ≠ some eb) (h3 : ∀ e, e ∈ es → e.b ≠ eb) (hlen : es.length < 100000) :
   AbsCall Try.prog 113 [.ptr bq 4 0 0, .iface 100 (.ptr eb 4 0 0)] bx fun r bx' => ∃ bl R, (bx bl = none ∨ ol = some bl) ∧ HeapS bx' bq bl g vm next (es ++ [⟨h, v, eb⟩]) R ∧ Fq bq ol (es ++ [⟨h, v, eb⟩]) bx bx' := by
 refine Try.ctr113 fun hf => ?_
 simp only [entC] at he
 have hne := Ne.symm h1
 rcases hs with ⟨rfl, rfl, hq, _⟩ | ⟨bl, R, rfl, hp⟩
 · simp only [qV] at hq
   simp [go_sem, Try.C113, hf, hq, he, upd_ne, h1, hne]
   intro b hb0
   have hb1 := (new_ne hb0).1
   have hb2 := (new_ne hb0).2
   have hb3 : b ≠ bq := fun e => by rw [e, hq] at hb2; cases hb2
   unfold appendA
   simp [go_sem, srcEls, hf, finB_upd, upd_ne, h1, hne, hb1, Ne.symm hb1, hb3, Ne.symm hb3]
   intro b' hb'
   have hc1 := (new_ne hb').1
   have hc2 := (new_ne (new_ne hb').2).1
   have hc3 := (new_ne (new_ne hb').2).2
   have hc4 : b' ≠ bq := fun e => by rw [e, hq] at hc3; cases hc3
   simp [go_sem, hq, upd_ne, h1, hne, hb1, Ne.symm hb1, hb3, Ne.symm hb3, hc1, Ne.symm hc1, hc2, Ne.symm hc2, hc4, Ne.symm hc4]
   refine ret_pure (by simp [go_sem]) ⟨b', hc3, ⟨_, heapS_snoc (es := []) (e := ⟨h, v, eb⟩) (Rt := []) ?_ ?_ rfl (fun i hi => absurd hi (Nat.not_lt_zero _)) (fun i hi => absurd hi (Nat.not_lt_zero _)) ?_ ?_ ?_ (by decide)⟩, fun c hc1' hc2' hc3' hc4' => ?_⟩
   · dsimp only; rw [upd_eq]; rfl
   · dsimp only; rw [upd_ne _ _ hc4, upd_eq]; rfl
   · dsimp only; rw [upd_ne _ _ h1, upd_ne _ _ (Ne.symm hc2), upd_ne _ _ (Ne.symm hb1), upd_eq]; rfl
   · simp [Ne.symm hc4, hne, hc2]
   · simp [finB_upd, hf]
   · have := hc4' ⟨h, v, eb⟩ (by simp)
     dsimp only at this ⊢
     have e1 : c ≠ b' := fun e => hc1' (by rw [e]; exact hc3)
     have e2 : c ≠ b := fun e => hc1' (by rw [e]; exact hb2)
     rw [upd_ne _ _ hc2', upd_ne _ _ e1, upd_ne _ _ e2, upd_ne _ _ this]
 · have hq := hp.q
   have hl := hp.l
   obtain ⟨n1, n2, n3⟩ := hp.ne
   have hbl : eb ≠ bl := fun e => h2 (by rw [e])
   simp only [qV] at hq
   simp [go_sem, Try.C113, hf, hq, hl, he, upd_ne, h1, hne, hbl, Ne.symm hbl, n1, Ne.symm n1]
   intro b hb0
   have hb1 := (new_ne hb0).1
   have hb2 := (new_ne hb0).2
   have hb3 : b ≠ bq := fun e => by rw [e, hq] at hb2; cases hb2
   have hb4 : b ≠ bl := fun e => by rw [e, hl] at hb2; cases hb2
   have hRl : es.length ≤ R.length := by
     rcases Nat.eq_zero_or_pos es.length with h0 | h0
     · omega
     · obtain ⟨h5, _⟩ := hp.rlt (i := es.length - 1) (by omega)
       omega
   unfold appendA
   simp [go_sem, srcEls, hf, finB_upd, upd_ne, h1, hne, hb1, Ne.symm hb1, hb3, Ne.symm hb3, hb4, Ne.symm hb4, hl, hbl, Ne.symm hbl, hRl]
   refine ⟨by omega, by omega, fun b' hb' => ?_⟩
   have hme : ∀ i, i < es.length → at_ es i ∈ es := fun i hi => by rw [at_get hi]; exact List.getElem_mem hi
   have hX : ∀ c, c ≠ bl → bx c ≠ none → b' ≠ c := fun c hc hcn e => by
     subst e
     have hbb : b' ≠ b := fun e => hcn (by rw [e]; exact hb2)
     rw [upd_ne _ _ hc, upd_ne _ _ hbb] at hb'
     by_cases e2 : b' = eb
     · subst e2; rw [upd_eq] at hb'; cases hb'
     · rw [upd_ne _ _ e2] at hb'; exact hcn hb'
   have d1 : b' ≠ bq := hX bq n1 (by rw [hq]; simp)
   have d2 : b' ≠ eb := hX eb hbl (by rw [he]; simp)
   have d3 : b' ≠ b := fun e => by
     subst e
     rw [upd_ne _ _ hb4, upd_eq] at hb'; cases hb'
   have d4 : ∀ i, i < es.length → b' ≠ (at_ es i).b := fun i hi => hX _ (n2 i hi).2 (by rw [hp.e i hi]; simp)
   have d5 : b' = bl ∨ bx b' = none := by
     by_cases e : b' = bl
     · exact .inl e
     · rw [upd_ne _ _ e, upd_ne _ _ d3, upd_ne _ _ d2] at hb'
       exact .inr hb'
   have hmin : min es.length R.length = es.length := by omega
   have hfin : HeapS (upd (upd (upd (upd (upd bx eb (some (.row 102 4 [entC h v es.length]))) b (some (.row 100 1 [.ptr eb 4 0 0]))) bl none) b' (some (.row 100 1 (R.take es.length ++ [.ptr eb 4 0 0])))) bq (some (.row 99 4 [qV (.own b' 1 0 (es.length + 1)) g vm next]))) bq b' g vm next (es ++ [⟨h, v, eb⟩]) (R.take es.length ++ [.ptr eb 4 0 0]) := by
     refine heapS_snoc (e := ⟨h, v, eb⟩) (upd_eq _ _ _) ?_ (by rw [List.length_take]; omega) (fun i hi => ?_) (fun i hi => ?_) ?_ ?_ ?_ hlen
     · rw [upd_ne _ _ d1, upd_eq]
     · rw [List.getElem?_take, if_pos hi]; exact hp.r i hi
     · obtain ⟨g1, g2⟩ := n2 i hi
       have g3 := h3 _ (hme i hi)
       have g4 : (at_ es i).b ≠ b := fun e => by have := hp.e i hi; rw [e, hb2] at this; cases this
       rw [upd_ne _ _ g1, upd_ne _ _ (Ne.symm (d4 i hi)), upd_ne _ _ g2, upd_ne _ _ g4, upd_ne _ _ g3]
       exact hp.e i hi
     · dsimp only
       rw [upd_ne _ _ h1, upd_ne _ _ (Ne.symm d2), upd_ne _ _ hbl, upd_ne _ _ (Ne.symm hb1), upd_eq]
     · have hnd := hp.nd
       rw [List.nodup_cons, List.nodup_cons] at hnd ⊢
       obtain ⟨m1, m2, m3⟩ := hnd
       simp only [List.map_append, List.map_cons, List.map_nil, List.mem_cons, List.mem_append, List.mem_map, List.not_mem_nil, or_false, not_or] at m1 m2 ⊢
       refine ⟨⟨Ne.symm d1, m1.2, hne⟩, ⟨fun ⟨e, he1, he2⟩ => ?_, d2⟩, ?_⟩
       · obtain ⟨i, hi, rfl⟩ := List.getElem_of_mem he1
         exact d4 i hi (by rw [at_get hi]; exact he2.symm)
       · rw [List.nodup_append]
         refine ⟨m3, by simp, ?_⟩
         intro x hx y hy
         obtain ⟨e, he1, rfl⟩ := List.mem_map.1 hx
         simp at hy
         subst hy
         exact h3 e he1
     · simp [finB_upd, hf]
   have hfr : Fq bq (some bl) (es ++ [⟨h, v, eb⟩]) bx (upd (upd (upd (upd (upd bx eb (some (.row 102 4 [entC h v es.length]))) b (some (.row 100 1 [.ptr eb 4 0 0]))) bl none) b' (some (.row 100 1 (R.take es.length ++ [.ptr eb 4 0 0])))) bq (some (.row 99 4 [qV (.own b' 1 0 (es.length + 1)) g vm next]))) := fun c k1 k2 k3 k4 => by
     have k5 := k4 ⟨h, v, eb⟩ (by simp)
     have k6 : c ≠ bl := fun e => k3 (by rw [e])
     have k7 : c ≠ b := fun e => k1 (by rw [e]; exact hb2)
     have k8 : c ≠ b' := fun e => by
       rcases d5 with e2 | e2
       · exact k6 (e.trans e2)
       · exact k1 (by rw [e]; exact e2)
     dsimp only at k5
     rw [upd_ne _ _ k2, upd_ne _ _ k8, upd_ne _ _ k6, upd_ne _ _ k7, upd_ne _ _ k5]
   simp only [qV, entC] at hfin hfr
   simp [go_sem, hq, upd_ne, h1, hne, hb1, Ne.symm hb1, hb3, Ne.symm hb3, hb4, Ne.symm hb4, d1, Ne.symm d1, d2, Ne.symm d2, d3, Ne.symm d3, n1, Ne.symm n1]
   refine ret_pure (by simp [go_sem]) ?_
   rcases d5 with rfl | e2
   · exact .inr ⟨⟨_, hfin⟩, hfr⟩
   · exact .inl ⟨b', e2, ⟨_, hfin⟩, hfr⟩
end Go.Proofs.Nq

set_option linter.unusedSimpArgs false
set_option linter.unusedVariables false
set_option maxRecDepth 100000
namespace Go.Proofs.Nq
open Go Go.Pl Go.Hp
theorem Try.ppop_c {bx : Boxes} {bq bl : Nat} {g : FuncId} {vm : V} {next : Int} {es : List (Ent Nm)} {R : List V} (h : HeapS bx bq bl g vm next es R) (hne : es ≠ []) :
   AbsCall Try.prog 112 [.ptr bq 4 0 0] bx fun r bx' => r = .iface 100 (.ptr (at_ es (es.length - 1)).b 4 0 0) ∧ (∃ R', HeapS bx' bq bl g vm next es.dropLast R') ∧ (∀ b, b ≠ bq → b ≠ bl → bx' b = bx b) := by
 refine Try.ctr112 fun hf => ?_
 have hpos : 0 < es.length := List.length_pos_iff.2 hne
 have hq := h.q
 have hl := h.l
 have hlen := h.len
 obtain ⟨n1, n2, n3⟩ := h.ne
 obtain ⟨i1, i2⟩ := h.rlt (i := es.length - 1) (by omega)
 have w1 : IntKind.i64.wrap ((es.length : Int) - 1) = ((es.length - 1 : Nat) : Int) := by rw [wr64 (by omega)]; omega
 have hlt : es.length - 1 < es.length := by omega
 simp only [qV] at hq
 generalize hn : es.length - 1 = n at *
 simp [go_sem, Try.C112, hf, hq, hl, w1, hlt, i1, i2, upd_ne, n1, Ne.symm n1]
 have hdl : es.dropLast.length = n := by rw [List.length_dropLast]; exact hn
 refine ⟨by omega, ret_pure (by simp [go_sem]) ⟨by simp [go_sem], ⟨R.set n .nilp, ⟨?_, ?_, fun i hi => ?_, fun i hi => ?_, ?_, ?_, ?_⟩⟩, fun b hb1 hb2 => ?_⟩⟩
 · dsimp only; rw [upd_eq, hdl]; rfl
 · dsimp only; rw [upd_ne _ _ (Ne.symm n1), upd_eq]
 · rw [hdl] at hi
   rw [at_drop (by omega), List.getElem?_set_ne (by omega)]
   exact h.r i (by omega)
 · rw [hdl] at hi
   obtain ⟨g1, g2⟩ := n2 i (by omega)
   rw [at_drop (by omega)]
   dsimp only
   rw [upd_ne _ _ g1, upd_ne _ _ g2]
   exact h.e i (by omega)
 · have hnd := h.nd
   refine List.Nodup.sublist ?_ hnd
   exact (((List.dropLast_sublist es).map _).cons_cons bl).cons_cons bq
 · simp [finB_upd, hf]
 · omega
 · dsimp only; rw [upd_ne _ _ hb1, upd_ne _ _ hb2]
theorem Fq.of {bq bl : Nat} {es : List (Ent Nm)} {bx bx' : Boxes} (h : Fr bl es bx bx') : Fq bq (some bl) es bx bx' := fun b _ _ h2 h3 => h b (fun e => h2 (by rw [e])) h3
theorem Try.hpush_c {bx : Boxes} {bq eb : Nat} {ol : Option Nat} {g : FuncId} {lt : Nm → Nm → Bool} {vm : V} {next h i : Int} {v : Nm} {es : List (Ent Nm)} (hlt : Lt Try.prog g lt) (hs : QS bx bq ol g vm next es) (he : bx eb = some (.row 102 4 [entC h v i])) (h1 : eb ≠ bq) (h2 : ol ≠ some eb) (h3 : ∀ e, e ∈ es → e.b ≠ eb) (hlen : es.length < 100000) :
   AbsCall Try.prog 43 [.iface 103 (.ptr bq 4 0 0), .iface 100 (.ptr eb 4 0 0)] bx fun r bx' => ∃ bl R, (bx bl = none ∨ ol = some bl) ∧ HeapS bx' bq bl g vm next (upL lt (es ++ [⟨h, v, eb⟩]) es.length) R ∧ Fq bq ol (es ++ [⟨h, v, eb⟩]) bx bx' := by
 refine Try.ctr43 fun hf => ?_
 simp [go_sem, Try.C43, hf]
 refine invK_abs Try.mPush (by simp [go_sem]) (by simp [go_sem]) (Try.ppush_c hs he h1 h2 h3 hlen) ?_
 rintro r bx1 ⟨bl, R, hb, hs1, hf1⟩
 have hl : (es ++ [⟨h, v, eb⟩] : List (Ent Nm)).length = es.length + 1 := by simp
 have cN := Try.len_c hs1.fin hs1.q (.inr ⟨bl, rfl⟩)
 have cU := Try.up_c hlt hs1 (j := es.length) (by omega)
 have w1 : IntKind.i64.wrap ((es.length : Int) + 1 - 1) = (es.length : Int) := by rw [wr64 (by omega)]; omega
 rw [hl] at cN
 simp only [Int.natCast_add, Int.cast_ofNat_Int] at cN
 simp [go_sem, hs1.fin]
 refine invK_pure Try.mLen (by simp [go_sem]) (by simp [go_sem]) (by simpa [go_sem] using cN) ?_
 have w2 : IntKind.i64.wrap (es.length : Int) = (es.length : Int) := wr64 (by omega)
 simp [go_sem, w1, w2]
 refine callK_abs cU ?_
 rintro r bx2 ⟨⟨R2, _, hs2⟩, hf2, hp2⟩
 simp [go_sem]
 refine ret_pure (by simp [go_sem]) ⟨bl, hb, ⟨R2, hs2⟩, fun b k1 k2 k3 k4 => ?_⟩
 have k5 : b ≠ bl := fun e => by
   subst e
   rcases hb with hb | hb
   · exact k1 hb
   · exact k3 hb
 dsimp only
 rw [hf2 b k5 k4]
 exact hf1 b k1 k2 k3 k4
theorem Try.hpop_c {bx : Boxes} {bq bl : Nat} {g : FuncId} {lt : Nm → Nm → Bool} {vm : V} {next : Int} {es : List (Ent Nm)} {R : List V} (hlt : Lt Try.prog g lt) (h : HeapS bx bq bl g vm next es R) (hne : es ≠ []) :
   AbsCall Try.prog 37 [.iface 103 (.ptr bq 4 0 0)] bx fun r bx' => r = .iface 100 (.ptr (at_ es 0).b 4 0 0) ∧ (∃ R', HeapS bx' bq bl g vm next (popL lt es) R') ∧ Fq bq (some bl) es bx bx' := by
 refine Try.ctr37 fun hf => ?_
 have hpos : 0 < es.length := List.length_pos_iff.2 hne
 have hlen := h.len
 have cN := Try.len_c h.fin h.q (.inr ⟨bl, rfl⟩)
 have cS := Try.swap_c h (i := 0) (k := es.length - 1) (by omega) (by omega)
 have w1 : IntKind.i64.wrap ((es.length : Int) - 1) = ((es.length - 1 : Nat) : Int) := by rw [wr64 (by omega)]; omega
 simp [go_sem, Try.C37, hf]
 refine invK_pure Try.mLen (by simp [go_sem]) (by simp [go_sem]) cN ?_
 simp [go_sem, w1]
 refine invK_abs Try.mSwap (by simp [go_sem]) (by simp [go_sem]) cS ?_
 rintro r bx1 ⟨R1, hR1, hs1, hf1⟩
 have hl1 := swp_len es 0 (es.length - 1)
 have cD := Try.down_c hlt hs1 (i := 0) (n := es.length - 1) (by omega) (by omega)
 simp [go_sem]
 refine callK_abs cD ?_
 rintro r bx2 ⟨rfl, ⟨R2, _, hs2⟩, hf2, hp2⟩
 have hl2 := downL_len lt (es.length - 1) (es.length - 1) 0 (swp es 0 (es.length - 1)) (by omega)
 have hd2 := (downL_perm lt (es.length - 1) (es.length - 1) 0 (swp es 0 (es.length - 1)) (by omega) (by omega)).2 (es.length - 1) (by omega)
 rw [swp_at _ _ _ _ (by omega) (by omega), if_pos rfl] at hd2
 have cP := Try.ppop_c hs2 (fun e => by rw [e] at hl2; simp at hl2; omega)
 rw [hl2, hl1, hd2] at cP
 simp [go_sem]
 refine invK_abs Try.mPop (by simp [go_sem]) (by simp [go_sem]) cP ?_
 rintro r bx3 ⟨rfl, ⟨R3, hs3⟩, hf3⟩
 simp [go_sem]
 refine ret_pure (by simp [go_sem]) ⟨by simp [go_sem], ⟨R3, hs3⟩, fun b k1 k2 k3 k4 => ?_⟩
 have k5 : b ≠ bl := fun e => k3 (by rw [e])
 dsimp only
 rw [hf3 b k2 k5, hf2 b k5 (fun e he => k4 e ((swp_perm es 0 _ (by omega) (by omega)).mem_iff.1 he)), hf1 b k5 k4]
end Go.Proofs.Nq

set_option linter.unusedSimpArgs false
set_option linter.unusedVariables false
set_option maxRecDepth 100000
namespace Go.Proofs.Nq
open Go Go.Pl Go.Hp
def mpV (ms : List (Int × Nat)) : List (V × V) := ms.map fun p => (.int .i64 p.1, .ptr p.2 4 0 0)
def pr (e : Ent Nm) : Int × Nat := (e.h, e.b)
structure QM (bx : Boxes) (bq : Nat) (ol : Option Nat) (g : FuncId) (bm : Nat) (next : Int) (es : List (Ent Nm)) : Prop where
 s : QS bx bq ol g (.mp bm) next es
 m : ∃ ms, ms.Perm (es.map pr) ∧ bx bm = some (.map (mpV ms))
 h : ∀ e, e ∈ es → 1 ≤ e.h ∧ e.h < next
 hd : (es.map (·.h)).Nodup
 d : bm ≠ bq ∧ ol ≠ some bm ∧ ∀ e, e ∈ es → e.b ≠ bm
 n : 1 ≤ next ∧ next ≤ 1000000000000000
theorem QS.q {bx : Boxes} {bq : Nat} {ol : Option Nat} {g : FuncId} {vm : V} {next : Int} {es : List (Ent Nm)} (h : QS bx bq ol g vm next es) : ∃ sv, bx bq = some (.row 99 4 [qV sv g vm next]) ∧ ((es = [] ∧ sv = .nils) ∨ ∃ bl, ol = some bl ∧ sv = .own bl 1 0 es.length) := by
 rcases h with ⟨h1, _, h2, _⟩ | ⟨bl, R, h1, h2⟩
 · exact ⟨_, h2, .inl ⟨h1, rfl⟩⟩
 · exact ⟨_, h2.q, .inr ⟨bl, h1, rfl⟩⟩
theorem findV_at (h : Int) : ∀ (ms : List (Int × Nat)) (k : Nat), (ms.map (·.1)).Nodup → (∀ b, (h, b) ∈ ms → ∃ i, ms[i]? = some (h, b) ∧ findV (.int .i64 h) (mpV ms) k = some (some (k + i, .ptr b 4 0 0))) ∧ ((∀ b, (h, b) ∉ ms) → findV (.int .i64 h) (mpV ms) k = some none)
 | [], k, _ => ⟨fun b hb => (by cases hb), fun _ => rfl⟩
 | (h', b') :: ms, k, hn => by
   rw [List.map_cons, List.nodup_cons] at hn
   obtain ⟨ih1, ih2⟩ := findV_at h ms (k + 1) hn.2
   have hst : findV (.int .i64 h) (mpV ((h', b') :: ms)) k = if h = h' then some (some (k, .ptr b' 4 0 0)) else findV (.int .i64 h) (mpV ms) (k + 1) := by
     show findV (.int .i64 h) ((.int .i64 h', .ptr b' 4 0 0) :: mpV ms) k = _
     rw [findV]
     by_cases e : h = h'
     · simp [sameK, e]
     · have : (h == h') = false := by simp [e]
       simp [sameK, this, e]
   rw [hst]
   refine ⟨fun b hb => ?_, fun hno => ?_⟩
   · rcases List.mem_cons.1 hb with e | e
     · injection e with e1 e2
       subst e1 e2
       exact ⟨0, rfl, by simp⟩
     · have : h ≠ h' := fun e2 => hn.1 (by rw [← e2]; exact List.mem_map.2 ⟨_, e, rfl⟩)
       rw [if_neg this]
       obtain ⟨i, h1, h2⟩ := ih1 b e
       exact ⟨i + 1, h1, by rw [h2]; congr 3; omega⟩
   · have : h ≠ h' := fun e => hno b' (by simp [e])
     rw [if_neg this]
     exact ih2 fun b hb => hno b (List.mem_cons_of_mem _ hb)
theorem Try.made_c {bx : Boxes} {bq : Nat} {sv : V} {g : FuncId} {bm : Nat} {next : Int} (hf : FinB bx) (hq : bx bq = some (.row 99 4 [qV sv g (.mp bm) next])) :
   PureCall Try.prog 45 [.ptr bq 4 0 0] bx (.bool true) := by
 refine Try.ctr45 fun hf => ?_
 simp only [qV] at hq
 simp [go_sem, Try.C45, hf, hq]
 exact ret_pure (by simp [go_sem]) (by simp [go_sem])
theorem Try.New_c (g : FuncId) (bx : Boxes) :
   AbsCall Try.prog 24 [.fn (.func g) []] bx fun r bx' => ∃ bq bm, bx bq = none ∧ bx bm = none ∧ r = .ptr bq 4 0 0 ∧ QM bx' bq none g bm 1 [] ∧ Ext bx bx' := by
 refine Try.ctr24 fun hf => ?_
 simp [go_sem, Try.C24, hf]
 intro bm hbm bq hbq
 obtain ⟨hn, hbq'⟩ := new_ne hbq
 refine ret_pure (by simp [go_sem]) ⟨bq, hbq', bm, hbm, by simp [go_sem], ⟨.inl ⟨rfl, rfl, ?_, ?_⟩, ⟨[], List.Perm.refl _, ?_⟩, fun e he => (by cases he), List.nodup_nil, ⟨Ne.symm hn, by simp, fun e he => (by cases he)⟩, by decide⟩, ?_⟩
 · dsimp only; rw [upd_eq]; rfl
 · simp [finB_upd, hf]
 · dsimp only; rw [upd_ne _ _ (Ne.symm hn), upd_eq]; rfl
 · exact ((Ext.refl _).new hbm _).new hbq _
def FQ (bq : Nat) (ol : Option Nat) (bm : Nat) (es : List (Ent Nm)) (bx bx' : Boxes) : Prop := ∀ b, bx b ≠ none → b ≠ bq → ol ≠ some b → b ≠ bm → (∀ e, e ∈ es → b ≠ e.b) → bx' b = bx b
def full (next : Int) (es : List (Ent Nm)) : Bool := decide (5000 ≤ es.length) || decide (1000000000000000 ≤ next)
theorem HeapS.vm {bx : Boxes} {bq bl bm : Nat} {g : FuncId} {vm : V} {next : Int} {es : List (Ent Nm)} {R : List V} {x : Box} (h : HeapS bx bq bl g vm next es R) (h1 : bm ≠ bq) (h2 : bm ≠ bl) (h3 : ∀ e, e ∈ es → e.b ≠ bm) : HeapS (upd bx bm (some x)) bq bl g vm next es R := by
 have hm : ∀ i, i < es.length → at_ es i ∈ es := fun i hi => by rw [at_get hi]; exact List.getElem_mem hi
 exact ⟨by rw [upd_ne _ _ (Ne.symm h1)]; exact h.q, by rw [upd_ne _ _ (Ne.symm h2)]; exact h.l, h.r, fun i hi => by rw [upd_ne _ _ (h3 _ (hm i hi))]; exact h.e i hi, h.nd, (finB_upd _ _ _).2 h.fin, h.len⟩
theorem QS.next {bx bx2 : Boxes} {bq bm : Nat} {ol : Option Nat} {g : FuncId} {vm : V} {next next' : Int} {es : List (Ent Nm)} (h : QS bx bq ol g vm next es)
   (hq : ∀ sv, bx bq = some (.row 99 4 [qV sv g vm next]) → bx2 bq = some (.row 99 4 [qV sv g vm next'])) (ho : ∀ b, bx b ≠ none → b ≠ bq → b ≠ bm → bx2 b = bx b) (hd : ol ≠ some bm ∧ ∀ e, e ∈ es → e.b ≠ bm) (hf : FinB bx2) : QS bx2 bq ol g vm next' es := by
 rcases h with ⟨h1, h2, h3, _⟩ | ⟨bl, R, rfl, hp⟩
 · exact .inl ⟨h1, h2, hq _ h3, hf⟩
 · obtain ⟨n1, n2, _⟩ := hp.ne
   have hm : ∀ i, i < es.length → at_ es i ∈ es := fun i hi => by rw [at_get hi]; exact List.getElem_mem hi
   refine .inr ⟨bl, R, rfl, ⟨hq _ hp.q, ?_, hp.r, fun i hi => ?_, hp.nd, hf, hp.len⟩⟩
   · rw [ho bl (by rw [hp.l]; simp) (Ne.symm n1) (fun e => hd.1 (by rw [e]))]; exact hp.l
   · rw [ho _ (by rw [hp.e i hi]; simp) (n2 i hi).1 (hd.2 _ (hm i hi))]; exact hp.e i hi
theorem Try.PushF_c {bx : Boxes} {bq bm : Nat} {ol : Option Nat} {g : FuncId} {next : Int} {es : List (Ent Nm)} (v : Nm) (h : QM bx bq ol g bm next es) (hfu : full next es = true) :
   PureCall Try.prog 26 [.ptr bq 4 0 0, vV v] bx (.tup [.int .i64 0, .int .i64 5]) := by
 refine Try.ctr26 fun hf => ?_
 obtain ⟨sv, hq, hsv⟩ := h.s.q
 have hmd := Try.made_c hf hq
 obtain ⟨ms, hms, hbm⟩ := h.m
 obtain ⟨d1, d2, d3⟩ := h.d
 obtain ⟨hn1, hn2⟩ := h.n
 simp only [qV] at hq
 have hqs := h.s
 have hfu' : 5000 ≤ es.length ∨ 1000000000000000 ≤ next := by simpa [full] using hfu
 have hg : (5000 ≤ (es.length : Int)) ∨ 1000000000000000 ≤ next := by omega
 rcases hsv with ⟨rfl, rfl⟩ | ⟨bl, rfl, rfl⟩
 · have hg : 1000000000000000 ≤ next := by simpa using hg
   simp [go_sem, Try.C26, hf, hq]
   refine callK_pure hmd ?_
   simp [go_sem, hf, hq, hg]
   exact ret_pure (by simp [go_sem]) (by simp [go_sem])
 · by_cases h5 : 5000 ≤ (es.length : Int)
   · simp [go_sem, Try.C26, hf, hq]
     refine callK_pure hmd ?_
     simp [go_sem, hf, hq, h5]
     exact ret_pure (by simp [go_sem]) (by simp [go_sem])
   · have hg : 1000000000000000 ≤ next := by omega
     simp [go_sem, Try.C26, hf, hq]
     refine callK_pure hmd ?_
     simp [go_sem, hf, hq, h5, hg]
     exact ret_pure (by simp [go_sem]) (by simp [go_sem])
theorem QS.live {bx : Boxes} {bq : Nat} {ol : Option Nat} {g : FuncId} {vm : V} {next : Int} {es : List (Ent Nm)} (h : QS bx bq ol g vm next es) : (∀ bl, ol = some bl → bx bl ≠ none) ∧ ∀ e, e ∈ es → bx e.b ≠ none := by
 rcases h with ⟨rfl, rfl, _, _⟩ | ⟨bl, R, rfl, hp⟩
 · exact ⟨fun bl hb => (by cases hb), fun e he => (by cases he)⟩
 · refine ⟨fun bl' hb => ?_, fun e he => ?_⟩
   · injection hb with hb
     subst hb
     rw [hp.l]; simp
   · obtain ⟨i, hi, rfl⟩ := List.getElem_of_mem he
     have := hp.e i hi
     rw [at_get hi] at this
     rw [this]; simp
theorem Try.Push_c {bx : Boxes} {bq bm : Nat} {ol : Option Nat} {g : FuncId} {lt : Nm → Nm → Bool} {next : Int} {es : List (Ent Nm)} (v : Nm) (hlt : Lt Try.prog g lt) (h : QM bx bq ol g bm next es) (hfu : full next es = false)
   {Kc : V → Boxes → Prop} (hK : ∀ eb bl bx', bx eb = none → (bx bl = none ∨ ol = some bl) → QM bx' bq (some bl) g bm (next + 1) (upL lt (es ++ [⟨next, v, eb⟩]) es.length) → FQ bq ol bm es bx bx' → Kc (.tup [.int .i64 next, .int .i64 0]) bx') :
   AbsCall Try.prog 26 [.ptr bq 4 0 0, vV v] bx Kc := by
 refine Try.ctr26 fun hf => ?_
 obtain ⟨sv, hq, hsv⟩ := h.s.q
 have hmd := Try.made_c hf hq
 obtain ⟨ms, hms, hbm⟩ := h.m
 obtain ⟨d1, d2, d3⟩ := h.d
 obtain ⟨hn1, hn2⟩ := h.n
 simp only [qV] at hq
 have hqs := h.s
 have hfu' : ¬ (5000 ≤ es.length ∨ 1000000000000000 ≤ next) := by simpa [full] using hfu
 have hg1 : ¬ (5000 ≤ (es.length : Int)) := by omega
 have hg2 : ¬ 1000000000000000 ≤ next := by omega
 have w1 : IntKind.i64.wrap (next + 1) = next + 1 := wr64 (by omega)
 have hkeys : (ms.map (·.1)).Nodup := by
   have := (hms.map (·.1)).nodup_iff.2 (by rw [List.map_map]; exact h.hd)
   exact this
 have hnot : ∀ b, (next, b) ∉ ms := fun b hb => by
   obtain ⟨e, he, hee⟩ := List.mem_map.1 (hms.mem_iff.1 hb)
   have := (h.h e he).2
   have : e.h = next := congrArg Prod.fst hee
   omega
 have hfind := (findV_at next ms 0 hkeys).2 hnot
 obtain ⟨lv1, lv2⟩ := hqs.live
 have hpush : ∀ eb, bx eb = none → eb ≠ bq → eb ≠ bm → AbsCall Try.prog 43 [.iface 103 (.ptr bq 4 0 0), .iface 100 (.ptr eb 4 0 0)] (upd (upd (upd bx eb (some (.row 102 4 [.agg [.int .i64 next, .str v.t, .int .i64 v.n, .int .i64 0]]))) bq (some (.row 99 4 [.agg [sv, .fn (.func g) [], .mp bm, .int .i64 (next + 1)]]))) bm (some (.map (mpV ms ++ [(.int .i64 next, .ptr eb 4 0 0)])))) fun r bx' =>
     ∃ i : Int, bx' eb = some (.row 102 4 [entC next v i]) ∧ ∃ bl, (bx bl = none ∨ ol = some bl) ∧ QM bx' bq (some bl) g bm (next + 1) (upL lt (es ++ [⟨next, v, eb⟩]) es.length) ∧ FQ bq ol bm es bx bx' := by
   intro eb heb hebq hebm
   have hs2 : QS (upd (upd (upd bx eb (some (.row 102 4 [.agg [.int .i64 next, .str v.t, .int .i64 v.n, .int .i64 0]]))) bq (some (.row 99 4 [.agg [sv, .fn (.func g) [], .mp bm, .int .i64 (next + 1)]]))) bm (some (.map (mpV ms ++ [(.int .i64 next, .ptr eb 4 0 0)])))) bq ol g (.mp bm) (next + 1) es := by
     refine hqs.next (bm := bm) (fun sv' hsv' => ?_) (fun b k1 k2 k3 => ?_) ⟨d2, d3⟩ (by simp [finB_upd, hf])
     · rw [upd_ne _ _ (Ne.symm d1), upd_eq]
       rw [hq] at hsv'
       simp only [qV, Option.some.injEq, Box.row.injEq, List.cons.injEq, V.agg.injEq, and_true, true_and] at hsv'
       rw [qV, hsv']
     · rw [upd_ne _ _ k3, upd_ne _ _ k2, upd_ne _ _ (fun e => k1 (by rw [e]; exact heb))]
   have hol : ol ≠ some eb := fun e => lv1 eb e heb
   have hee : ∀ e, e ∈ es → e.b ≠ eb := fun e he e2 => lv2 e he (by rw [e2]; exact heb)
   refine (Try.hpush_c hlt hs2 (h := next) (v := v) (i := 0) (by rw [upd_ne _ _ hebm, upd_ne _ _ hebq, upd_eq]; rfl) hebq hol hee (by omega)).mono ?_
   rintro r bx3 ⟨bl', R', hbl', hs3, hf3⟩
   have hp3 : (upL lt (es ++ [⟨next, v, eb⟩]) es.length).Perm (es ++ [⟨next, v, eb⟩]) := upL_perm lt _ _ (by simp)
   have hbl2 : bx bl' = none ∨ ol = some bl' := by
     rcases hbl' with e | e
     · left
       by_cases e1 : bl' = bm
       · subst e1; rw [upd_eq] at e; cases e
       · rw [upd_ne _ _ e1] at e
         by_cases e2 : bl' = bq
         · subst e2; rw [upd_eq] at e; cases e
         · rw [upd_ne _ _ e2] at e
           by_cases e3 : bl' = eb
           · subst e3; exact heb
           · rwa [upd_ne _ _ e3] at e
     · exact .inr e
   have hbm3 : bx3 bm = some (.map (mpV (ms ++ [(next, eb)]))) := by
     rw [hf3 bm (by rw [upd_eq]; simp) d1 d2 (fun e he => ?_), upd_eq]
     · simp [mpV]
     · rcases List.mem_append.1 he with he | he
       · exact Ne.symm (d3 e he)
       · simp at he; subst he; exact Ne.symm hebm
   have hmem : (⟨next, v, eb⟩ : Ent Nm) ∈ upL lt (es ++ [⟨next, v, eb⟩]) es.length := hp3.mem_iff.2 (by simp)
   obtain ⟨i, hi, hie⟩ := List.getElem_of_mem hmem
   have hei := hs3.e i hi
   rw [at_get hi, hie] at hei
   refine ⟨i, hei, bl', hbl2, ⟨.inr ⟨bl', R', rfl, hs3⟩, ⟨ms ++ [(next, eb)], ?_, hbm3⟩, fun e he => ?_, ?_, ⟨d1, fun e => ?_, fun e he => ?_⟩, ⟨by omega, by omega⟩⟩, fun b k1 k2 k3 k4 k5 => ?_⟩
   · refine List.Perm.trans ?_ (hp3.map pr).symm
     rw [List.map_append]
     exact hms.append_right _
   · rcases List.mem_append.1 (hp3.mem_iff.1 he) with he | he
     · have := h.h e he; omega
     · simp at he; subst he; exact ⟨by dsimp only; omega, by dsimp only; omega⟩
   · refine ((hp3.map (·.h)).nodup_iff).2 ?_
     rw [List.map_append, List.nodup_append]
     refine ⟨h.hd, by simp, fun x hx y hy => ?_⟩
     obtain ⟨e, he, rfl⟩ := List.mem_map.1 hx
     simp at hy
     subst hy
     have := (h.h e he).2
     omega
   · injection e with e
     rcases hbl2 with e2 | e2
     · rw [e, hbm] at e2; cases e2
     · exact d2 (by rw [e2, e])
   · rcases List.mem_append.1 (hp3.mem_iff.1 he) with he | he
     · exact d3 e he
     · simp at he; subst he; exact hebm
   · have k6 : b ≠ eb := fun e => k1 (by rw [e]; exact heb)
     rw [hf3 b (by rw [upd_ne _ _ k4, upd_ne _ _ k2, upd_ne _ _ k6]; exact k1) k2 k3 (fun e he => ?_), upd_ne _ _ k4, upd_ne _ _ k2, upd_ne _ _ k6]
     rcases List.mem_append.1 he with he | he
     · exact k5 e he
     · simp at he; subst he; exact k6
 rcases hsv with ⟨rfl, rfl⟩ | ⟨bl, rfl, rfl⟩
 · simp [go_sem, Try.C26, hf, hq]
   refine callK_pure hmd ?_
   simp [go_sem, hf, hq, hg2]
   intro eb heb
   have hebq : eb ≠ bq := fun e => by rw [e, hq] at heb; cases heb
   have hebm : eb ≠ bm := fun e => by rw [e, hbm] at heb; cases heb
   simp [go_sem, hf, hq, hbm, upd_ne, hebq, Ne.symm hebq, hebm, Ne.symm hebm, d1, Ne.symm d1, w1, hfind]
   refine callK_abs (hpush eb heb hebq hebm) ?_
   rintro r bx3 ⟨i, hb3, bl', g1, g2, g3⟩
   simp only [entC] at hb3
   simp [go_sem, hb3]
   exact ret_pure (by simp [go_sem]) (by simpa [go_sem] using hK eb bl' bx3 heb g1 g2 g3)
 · simp [go_sem, Try.C26, hf, hq]
   refine callK_pure hmd ?_
   simp [go_sem, hf, hq, hg1, hg2]
   intro eb heb
   have hebq : eb ≠ bq := fun e => by rw [e, hq] at heb; cases heb
   have hebm : eb ≠ bm := fun e => by rw [e, hbm] at heb; cases heb
   simp [go_sem, hf, hq, hbm, upd_ne, hebq, Ne.symm hebq, hebm, Ne.symm hebm, d1, Ne.symm d1, w1, hfind]
   refine callK_abs (hpush eb heb hebq hebm) ?_
   rintro r bx3 ⟨i, hb3, bl', g1, g2, g3⟩
   simp only [entC] at hb3
   simp [go_sem, hb3]
   exact ret_pure (by simp [go_sem]) (by simpa [go_sem] using hK eb bl' bx3 heb g1 g2 g3)
end Go.Proofs.Nq

set_option linter.unusedSimpArgs false
set_option linter.unusedVariables false
set_option maxRecDepth 100000
namespace Go.Proofs.Nq
open Go Go.Pl Go.Hp
theorem QM.sub {bx bx' : Boxes} {bq bm : Nat} {ol : Option Nat} {g : FuncId} {next : Int} {es es' : List (Ent Nm)} (h : QM bx bq ol g bm next es) (hs : QS bx' bq ol g (.mp bm) next es') {R : List (Int × Nat)} (hp : (R ++ es'.map pr).Perm (es.map pr)) {ms : List (Int × Nat)} (hm : ms.Perm (es'.map pr)) (hb : bx' bm = some (.map (mpV ms))) : QM bx' bq ol g bm next es' := by
 have hmem : ∀ e, e ∈ es' → ∃ e0, e0 ∈ es ∧ e0.h = e.h ∧ e0.b = e.b := fun e he => by
   have := hp.mem_iff.1 (List.mem_append_right R (List.mem_map.2 ⟨e, he, rfl⟩))
   obtain ⟨e0, h0, h1⟩ := List.mem_map.1 this
   exact ⟨e0, h0, congrArg Prod.fst h1, congrArg Prod.snd h1⟩
 refine ⟨hs, ⟨ms, hm, hb⟩, fun e he => ?_, ?_, ⟨h.d.1, h.d.2.1, fun e he => ?_⟩, h.n⟩
 · obtain ⟨e0, h0, h1, _⟩ := hmem e he
   rw [← h1]; exact h.h e0 h0
 · have h1 := h.hd
   have h2 : es.map (·.h) = (es.map pr).map (·.1) := by rw [List.map_map]; rfl
   rw [h2] at h1
   have h3 := (hp.map (·.1)).nodup_iff.2 h1
   rw [List.map_append, List.nodup_append] at h3
   have h4 := h3.2.1
   rw [List.map_map] at h4
   exact h4
 · obtain ⟨e0, h0, _, h1⟩ := hmem e he
   rw [← h1]; exact h.d.2.2 e0 h0
theorem erase_perm {β : Type} (l : List β) (i : Nat) (h : i < l.length) : (l[i] :: l.eraseIdx i).Perm l := by
 rw [List.eraseIdx_eq_take_drop_succ]
 have e : l = l.take i ++ l[i] :: l.drop (i + 1) := by rw [List.getElem_cons_drop, List.take_append_drop]
 conv => rhs; rw [e]
 exact List.perm_middle.symm
theorem mpV_erase : ∀ (ms : List (Int × Nat)) (i : Nat), (mpV ms).eraseIdx i = mpV (ms.eraseIdx i)
 | [], i => by simp [mpV]
 | x :: ms, 0 => by simp [mpV]
 | x :: ms, i + 1 => by
   have := mpV_erase ms i
   simp only [mpV, List.map_cons, List.eraseIdx_cons_succ] at this ⊢
   rw [this]
theorem QM.keys {bx : Boxes} {bq bm : Nat} {ol : Option Nat} {g : FuncId} {next : Int} {es : List (Ent Nm)} (h : QM bx bq ol g bm next es) {ms : List (Int × Nat)} (hms : ms.Perm (es.map pr)) : (ms.map (·.1)).Nodup := by
 have := (hms.map (·.1)).nodup_iff.2 (by rw [List.map_map]; exact h.hd)
 exact this
theorem QM.heap {bx : Boxes} {bq bm : Nat} {ol : Option Nat} {g : FuncId} {next : Int} {es : List (Ent Nm)} (h : QM bx bq ol g bm next es) (hne : es ≠ []) : ∃ bl R, ol = some bl ∧ HeapS bx bq bl g (.mp bm) next es R := by
 rcases h.s with ⟨h1, _⟩ | ⟨bl, R, h1, h2⟩
 · exact absurd h1 hne
 · exact ⟨bl, R, h1, h2⟩
theorem QM.fin {bx : Boxes} {bq bm : Nat} {ol : Option Nat} {g : FuncId} {next : Int} {es : List (Ent Nm)} (h : QM bx bq ol g bm next es) : FinB bx := by
 rcases h.s with ⟨_, _, _, h4⟩ | ⟨bl, R, h1, h2⟩
 · exact h4
 · exact h2.fin
theorem Try.Len_c {bx : Boxes} {bq bm : Nat} {ol : Option Nat} {g : FuncId} {next : Int} {es : List (Ent Nm)} (h : QM bx bq ol g bm next es) :
   PureCall Try.prog 30 [.ptr bq 4 0 0] bx (.int .i64 es.length) := by
 refine Try.ctr30 fun hf => ?_
 obtain ⟨sv, hq, hsv⟩ := h.s.q
 have hmd := Try.made_c hf hq
 simp only [qV] at hq
 rcases hsv with ⟨rfl, rfl⟩ | ⟨bl, rfl, rfl⟩ <;>
 · simp [go_sem, Try.C30, hf, hq]
   refine callK_pure hmd ?_
   simp [go_sem, hf, hq]
   exact ret_pure (by simp [go_sem]) (by simp [go_sem])
theorem QM.same {bx bx' : Boxes} {bq bm : Nat} {ol : Option Nat} {g : FuncId} {next : Int} {es : List (Ent Nm)} (h : QM bx bq ol g bm next es) (hs : ∀ b, (b = bq ∨ b = bm ∨ ol = some b ∨ ∃ e, e ∈ es ∧ b = e.b) → bx' b = bx b) (hf : FinB bx') : QM bx' bq ol g bm next es := by
 refine ⟨?_, ?_, h.h, h.hd, h.d, h.n⟩
 · rcases h.s with ⟨h1, h2, h3, h4⟩ | ⟨bl, R, h1, h2⟩
   · exact .inl ⟨h1, h2, by rw [hs bq (.inl rfl)]; exact h3, hf⟩
   · refine .inr ⟨bl, R, h1, ⟨by rw [hs bq (.inl rfl)]; exact h2.q, by rw [hs bl (.inr (.inr (.inl h1)))]; exact h2.l, h2.r, fun i hi => ?_, h2.nd, hf, h2.len⟩⟩
     rw [hs _ (.inr (.inr (.inr ⟨at_ es i, by rw [at_get hi]; exact List.getElem_mem _, rfl⟩)))]
     exact h2.e i hi
 · obtain ⟨ms, h1, h2⟩ := h.m
   exact ⟨ms, h1, by rw [hs bm (.inr (.inl rfl))]; exact h2⟩
theorem QM.new {bx : Boxes} {bq bm : Nat} {ol : Option Nat} {g : FuncId} {next : Int} {es : List (Ent Nm)} (h : QM bx bq ol g bm next es) {b : Nat} (hb : bx b = none) (x : Box) : QM (upd bx b (some x)) bq ol g bm next es := by
 obtain ⟨lv1, lv2⟩ := h.s.live
 refine h.same (fun c hc => upd_ne _ _ fun e => ?_) ((finB_upd _ _ _).2 h.s.fin)
 subst e
 rcases hc with rfl | rfl | e | ⟨e, he, rfl⟩
 · obtain ⟨sv, hq, _⟩ := h.s.q
   rw [hb] at hq; cases hq
 · obtain ⟨ms, _, hbm⟩ := h.m
   rw [hb] at hbm; cases hbm
 · exact lv1 _ e hb
 · exact lv2 e he hb
theorem Try.Peek0_c {bx : Boxes} {bq bm : Nat} {ol : Option Nat} {g : FuncId} {next : Int} (h : QM bx bq ol g bm next []) :
   PureCall Try.prog 47 [.ptr bq 4 0 0] bx (.tup [.int .i64 0, zV, .int .i64 4]) := by
 refine Try.ctr47 fun hf => ?_
 simp [go_sem, Try.C47, hf]
 intro b3 hb3
 have h3 := fun x => h.new hb3 x
 have hmd := fun x => Try.made_c (bm := bm) (sv := (h3 x).s.q.choose) ((finB_upd _ _ _).2 hf) (h3 x).s.q.choose_spec.1
 refine callK_pure (hmd _) ?_
 obtain ⟨sv, hq, hsv⟩ := h.s.q
 have hne : bq ≠ b3 := fun e => by rw [e, hb3] at hq; cases hq
 simp only [qV] at hq
 rcases hsv with ⟨_, rfl⟩ | ⟨bl, rfl, rfl⟩ <;>
 · simp [go_sem, hf, hq, upd_ne, hne, upd_eq, upd_upd]
   exact ret_drop (by simp [go_sem, upd_eq]) ((Ext.refl _).new hb3 _) ⟨by simp [go_sem, upd_eq], rfl⟩
theorem Try.Peek_c {bx : Boxes} {bq bm : Nat} {ol : Option Nat} {g : FuncId} {next : Int} {es : List (Ent Nm)} (h : QM bx bq ol g bm next es) (hne : es ≠ []) :
   PureCall Try.prog 47 [.ptr bq 4 0 0] bx (.tup [.int .i64 (at_ es 0).h, vV (at_ es 0).v, .int .i64 0]) := by
 refine Try.ctr47 fun hf => ?_
 simp [go_sem, Try.C47, hf]
 intro b3 hb3
 have h3 := fun x => h.new hb3 x
 have hmd := fun x => Try.made_c (bm := bm) (sv := (h3 x).s.q.choose) ((finB_upd _ _ _).2 hf) (h3 x).s.q.choose_spec.1
 refine callK_pure (hmd _) ?_
 obtain ⟨bl, R, rfl, hs⟩ := h.heap hne
 have hq := hs.q
 have hl := hs.l
 have hpos : 0 < es.length := List.length_pos_iff.2 hne
 have hp : ¬ es.length = 0 := by omega
 obtain ⟨i1, i2⟩ := hs.rlt hpos
 have he := hs.e 0 hpos
 have nq : bq ≠ b3 := fun e => by rw [e, hb3] at hq; cases hq
 have nl : bl ≠ b3 := fun e => by rw [e, hb3] at hl; cases hl
 have ne : (at_ es 0).b ≠ b3 := fun e => by rw [e, hb3] at he; cases he
 simp only [qV] at hq
 simp only [entC] at he
 simp [go_sem, hf, hq, hl, he, i1, i2, hpos, hne, hp, upd_ne, nq, nl, ne, upd_eq, upd_upd]
 exact ret_drop (by simp [go_sem, upd_eq]) ((Ext.refl _).new hb3 _) ⟨by simp [go_sem, upd_eq], rfl⟩
theorem Try.Pop0_c {bx : Boxes} {bq bm : Nat} {ol : Option Nat} {g : FuncId} {next : Int} (h : QM bx bq ol g bm next []) :
   PureCall Try.prog 29 [.ptr bq 4 0 0] bx (.tup [.int .i64 0, zV, .int .i64 4]) := by
 refine Try.ctr29 fun hf => ?_
 simp [go_sem, Try.C29, hf]
 intro b3 hb3
 refine callK_pure (Try.Peek0_c (h.new hb3 _)) ?_
 simp [go_sem, hf, upd_eq, upd_upd]
 exact ret_drop (by simp [go_sem, upd_eq]) ((Ext.refl _).new hb3 _) ⟨by simp [go_sem, upd_eq], rfl⟩
theorem Try.Pop_c {bx : Boxes} {bq bm : Nat} {ol : Option Nat} {g : FuncId} {lt : Nm → Nm → Bool} {next : Int} {es : List (Ent Nm)} (hlt : Lt Try.prog g lt) (h : QM bx bq ol g bm next es) (hne : es ≠ []) :
   AbsCall Try.prog 29 [.ptr bq 4 0 0] bx fun r bx' => r = .tup [.int .i64 (at_ es 0).h, vV (at_ es 0).v, .int .i64 0] ∧ QM bx' bq ol g bm next (popL lt es) ∧ FQ bq ol bm es bx bx' := by
 refine Try.ctr29 fun hf => ?_
 simp [go_sem, Try.C29, hf]
 intro b3 hb3
 have hpk := fun x => Try.Peek_c (h.new hb3 x) hne
 refine callK_pure (hpk _) ?_
 have h4 := fun x => h.new hb3 x
 have hb4 : ∀ x : Box, upd bx b3 (some x) b3 = some x := fun x => upd_eq _ _ _
 have hfr : ∀ (x : Box) c, c ≠ b3 → upd bx b3 (some x) c = bx c := fun x c hc => upd_ne _ _ hc
 simp [go_sem, hf, upd_eq, upd_upd]
 have nb : bq ≠ b3 := fun e => by
   obtain ⟨sv, hq, _⟩ := h.s.q
   rw [e, hb3] at hq; cases hq
 have hI := h4 (.row 58 2 [vV (at_ es 0).v])
 have hbI := hb4 (.row 58 2 [vV (at_ es 0).v])
 have hfI := hfr (.row 58 2 [vV (at_ es 0).v])
 have hf3 : FinB (upd bx b3 (some (.row 58 2 [vV (at_ es 0).v]))) := (finB_upd _ _ _).2 hf
 simp only [vV] at hI hbI hfI hf3
 generalize upd bx b3 (some (.row 58 2 [_])) = bx0 at *
 obtain ⟨bl, R, rfl, hs⟩ := hI.heap hne
 have hq := hs.q
 obtain ⟨ms, hms, hbm⟩ := hI.m
 obtain ⟨d1, d2, d3⟩ := hI.d
 have hpos : 0 < es.length := List.length_pos_iff.2 hne
 have hpp := popL_perm (lt := lt) hne
 have hkeys := hI.keys hms
 have h0 : at_ es 0 ∈ es := by rw [at_get hpos]; exact List.getElem_mem _
 obtain ⟨i, hi, hfi⟩ := (findV_at (at_ es 0).h ms 0 hkeys).1 (at_ es 0).b (hms.mem_iff.2 (List.mem_map.2 ⟨_, h0, rfl⟩))
 have hi' := List.getElem?_eq_some_iff.1 hi
 obtain ⟨hil, hie⟩ := hi'
 have n3l : b3 ≠ bl := fun e => by have := hs.l; rw [← e, hbI] at this; injection this with this; injection this with t1; revert t1; decide
 have n3e : ∀ e, e ∈ es → b3 ≠ e.b := fun e he e2 => by
   obtain ⟨j, hj, rfl⟩ := List.getElem_of_mem he
   have := hs.e j hj
   rw [at_get hj, ← e2, hbI] at this; injection this with this; injection this with t1; revert t1; decide
 have n3m : b3 ≠ bm := fun e => by rw [← e, hbI] at hbm; cases hbm
 simp only [qV] at hq
 refine callK_abs (Try.hpop_c hlt hs hne) ?_
 rintro r bx2 ⟨rfl, ⟨R2, hs2⟩, hf2⟩
 have hq2 := hs2.q
 have hbm2 : bx2 bm = some (.map (mpV ms)) := by rw [hf2 bm (by dsimp only; rw [hbm]; simp) d1 d2 fun e he => Ne.symm (d3 e he)]; exact hbm
 have h32 : bx2 b3 = _ := (hf2 b3 (by dsimp only; rw [hbI]; simp) (Ne.symm nb) (fun e => by injection e with e; exact n3l e.symm) n3e).trans hbI
 simp only [qV] at hq2
 simp [go_sem, hs2.fin, hq2, hbm2, hfi, h32, upd_ne, n3m, Ne.symm n3m]
 rw [mpV_erase]
 have hm2 : (ms.eraseIdx i).Perm ((popL lt es).map pr) := by
   have a := erase_perm ms i hil
   rw [hie] at a
   have b := a.trans (hms.trans (hpp.map pr))
   exact b.cons_inv
 have hQ : QM (upd bx2 bm (some (.map (mpV (ms.eraseIdx i))))) bq (some bl) g bm next (popL lt es) := by
   refine hI.sub (R := [pr (at_ es 0)]) (.inr ⟨bl, R2, rfl, ?_⟩) (hpp.map pr).symm hm2 ?_
   · exact hs2.vm d1 (fun e => d2 (by rw [e])) fun e he => d3 e (hpp.mem_iff.2 (List.mem_cons_of_mem _ he))
   · rw [upd_eq]
 refine ret_pure (by simp [go_sem, upd_eq]) ⟨by simp [go_sem, upd_eq], ?_, fun b k1 k2 k3 k4 k5 => ?_⟩
 · refine hQ.same (fun c hc => upd_ne _ _ fun e => ?_) (by simp [finB_upd, hs2.fin])
   subst e
   rcases hc with rfl | rfl | e | ⟨e, he, e2⟩
   · exact nb rfl
   · exact n3m rfl
   · injection e with e; exact n3l e.symm
   · exact n3e e (hpp.mem_iff.2 (List.mem_cons_of_mem _ he)) e2
 · have kb : b ≠ b3 := fun e => k1 (by rw [e]; exact hb3)
   dsimp only
   rw [upd_ne _ _ kb, upd_ne _ _ k4, hf2 b (by dsimp only; rw [hfI b kb]; exact k1) k2 k3 k5]; exact hfI b kb
end Go.Proofs.Nq

set_option linter.unusedSimpArgs false
set_option linter.unusedVariables false
set_option maxRecDepth 100000
namespace Go.Proofs.Nq
open Go Go.Pl Go.Hp
structure Qu (bx : Boxes) (bq : Nat) (g : FuncId) (lt : Nm → Nm → Bool) (next : Int) (its : List (Int × Nm)) (D : Nat → Prop) : Prop where
 ex : ∃ ol bm es, QM bx bq ol g bm next es ∧ HeapOK lt es es.length ∧ its.Perm (es.map hv) ∧ ∀ b, D b ↔ b = bq ∨ b = bm ∨ ol = some b ∨ ∃ e, e ∈ es ∧ b = e.b
 s : Srt lt its
def Frm (D D' : Nat → Prop) (bx bx' : Boxes) : Prop := (∀ b, bx b ≠ none → ¬ D b → bx' b = bx b) ∧ ∀ b, D' b → D b ∨ bx b = none
theorem Frm.refl (D : Nat → Prop) (bx : Boxes) : Frm D D bx bx := ⟨fun _ _ _ => rfl, fun _ h => .inl h⟩
theorem Frm.trans {D D' D'' : Nat → Prop} {bx bx' bx'' : Boxes} (h : Frm D D' bx bx') (h' : Frm D' D'' bx' bx'') (hl : ∀ b, bx' b = none → bx b = none) : Frm D D'' bx bx'' := by
 refine ⟨fun b h1 h2 => ?_, fun b hb => ?_⟩
 · rw [h'.1 b (fun e => h1 (hl b e)) fun e => ?_, h.1 b h1 h2]
   rcases h.2 b e with e | e
   · exact h2 e
   · exact h1 e
 · rcases h'.2 b hb with e | e
   · exact h.2 b e
   · exact .inr (hl b e)
theorem Qu.live {bx : Boxes} {bq : Nat} {g : FuncId} {lt : Nm → Nm → Bool} {next : Int} {its : List (Int × Nm)} {D : Nat → Prop} (h : Qu bx bq g lt next its D) : ∀ b, D b → bx b ≠ none := by
 obtain ⟨ol, bm, es, hm, _, _, hD⟩ := h.ex
 intro b hb
 obtain ⟨lv1, lv2⟩ := hm.s.live
 rcases (hD b).1 hb with rfl | rfl | e | ⟨e, he, rfl⟩
 · obtain ⟨sv, hq, _⟩ := hm.s.q
   rw [hq]; simp
 · obtain ⟨ms, _, hbm⟩ := hm.m
   rw [hbm]; simp
 · exact lv1 _ e
 · exact lv2 e he
theorem Qu.keys {bx : Boxes} {bq : Nat} {g : FuncId} {lt : Nm → Nm → Bool} {next : Int} {its : List (Int × Nm)} {D : Nat → Prop} (h : Qu bx bq g lt next its D) : (its.map (·.1)).Nodup := by
 obtain ⟨ol, bm, es, hm, _, hp, hD⟩ := h.ex
 refine (hp.map (·.1)).nodup_iff.2 ?_
 rw [List.map_map]
 exact hm.hd
theorem Qu.range {bx : Boxes} {bq : Nat} {g : FuncId} {lt : Nm → Nm → Bool} {next : Int} {its : List (Int × Nm)} {D : Nat → Prop} (h : Qu bx bq g lt next its D) : ∀ p, p ∈ its → 1 ≤ p.1 ∧ p.1 < next := by
 obtain ⟨ol, bm, es, hm, _, hp, hD⟩ := h.ex
 intro p hpi
 obtain ⟨e, he, rfl⟩ := List.mem_map.1 (hp.mem_iff.1 hpi)
 exact hm.h e he
theorem Qu.nx {bx : Boxes} {bq : Nat} {g : FuncId} {lt : Nm → Nm → Bool} {next : Int} {its : List (Int × Nm)} {D : Nat → Prop} (h : Qu bx bq g lt next its D) : 1 ≤ next ∧ next ≤ 1000000000000000 := by
 obtain ⟨ol, bm, es, hm, _, hp, hD⟩ := h.ex
 exact hm.n
theorem Qu.fin {bx : Boxes} {bq : Nat} {g : FuncId} {lt : Nm → Nm → Bool} {next : Int} {its : List (Int × Nm)} {D : Nat → Prop} (h : Qu bx bq g lt next its D) : FinB bx := by
 obtain ⟨ol, bm, es, hm, _, hp, hD⟩ := h.ex
 exact hm.fin
theorem Qu.D0 {bx : Boxes} {bq : Nat} {g : FuncId} {lt : Nm → Nm → Bool} {next : Int} {its : List (Int × Nm)} {D : Nat → Prop} (h : Qu bx bq g lt next its D) : D bq := by
 obtain ⟨ol, bm, es, hm, _, hp, hD⟩ := h.ex
 exact (hD bq).2 (.inl rfl)
theorem FQ.frm {bx bx' : Boxes} {bq bm : Nat} {ol ol' : Option Nat} {es es' : List (Ent Nm)} {D : Nat → Prop} (hf : FQ bq ol bm es bx bx') (hD : ∀ b, D b ↔ b = bq ∨ b = bm ∨ ol = some b ∨ ∃ e, e ∈ es ∧ b = e.b)
   (hl : ∀ bl, ol' = some bl → ol = some bl ∨ bx bl = none) (he : ∀ e, e ∈ es' → (∃ e0, e0 ∈ es ∧ e0.b = e.b) ∨ bx e.b = none) : Frm D (fun b => b = bq ∨ b = bm ∨ ol' = some b ∨ ∃ e, e ∈ es' ∧ b = e.b) bx bx' := by
 refine ⟨fun b h1 h2 => ?_, fun b hb => ?_⟩
 · rw [hD] at h2
   exact hf b h1 (fun e => h2 (.inl e)) (fun e => h2 (.inr (.inr (.inl e)))) (fun e => h2 (.inr (.inl e))) fun e he heq => h2 (.inr (.inr (.inr ⟨e, he, heq⟩)))
 · rcases hb with e | e | e | ⟨e, h1, h2⟩
   · exact .inl ((hD b).2 (.inl e))
   · exact .inl ((hD b).2 (.inr (.inl e)))
   · rcases hl b e with e | e
     · exact .inl ((hD b).2 (.inr (.inr (.inl e))))
     · exact .inr e
   · rcases he e h1 with ⟨e0, h3, h4⟩ | h3
     · exact .inl ((hD b).2 (.inr (.inr (.inr ⟨e0, h3, by rw [h2, h4]⟩))))
     · exact .inr (by rw [h2]; exact h3)
def pushN (next : Int) (its : List (Int × Nm)) : Int := if 5000 ≤ its.length ∨ 1000000000000000 ≤ next then next else next + 1
def pushI (lt : Nm → Nm → Bool) (next : Int) (its : List (Int × Nm)) (v : Nm) : List (Int × Nm) := if 5000 ≤ its.length ∨ 1000000000000000 ≤ next then its else ins lt (next, v) its
def pushR (next : Int) (its : List (Int × Nm)) : V := if 5000 ≤ its.length ∨ 1000000000000000 ≤ next then .tup [.int .i64 0, .int .i64 5] else .tup [.int .i64 next, .int .i64 0]
variable {bx : Boxes} {bq : Nat} {g : FuncId} {lt : Nm → Nm → Bool} {key : Nm → Int} {next : Int} {its : List (Int × Nm)} {D : Nat → Prop}
theorem Try.New_q (g : FuncId) (lt : Nm → Nm → Bool) (bx : Boxes) :
   AbsCall Try.prog 24 [.fn (.func g) []] bx fun r bx' => ∃ bq D, r = .ptr bq 4 0 0 ∧ Qu bx' bq g lt 1 [] D ∧ (∀ b, bx b ≠ none → bx' b = bx b) ∧ ∀ b, D b → bx b = none := by
 refine (Try.New_c g bx).mono ?_
 rintro r bx' ⟨bq, bm, h1, h2, rfl, hm, he⟩
 refine ⟨bq, fun b => b = bq ∨ b = bm ∨ (none : Option Nat) = some b ∨ ∃ e, e ∈ ([] : List (Ent Nm)) ∧ b = e.b, rfl, ⟨⟨none, bm, [], hm, fun i _ h => by simp at h, List.Perm.refl _, fun b => Iff.rfl⟩, List.Pairwise.nil⟩, he, fun b hb => ?_⟩
 rcases hb with rfl | rfl | e | ⟨e, he, _⟩
 · exact h1
 · exact h2
 · cases e
 · cases he
theorem Try.Push_q (hk : ByKey lt key) (hlt : Lt Try.prog g lt) (h : Qu bx bq g lt next its D) (v : Nm) :
   AbsCall Try.prog 26 [.ptr bq 4 0 0, vV v] bx fun r bx' => r = pushR next its ∧ ∃ D', Qu bx' bq g lt (pushN next its) (pushI lt next its v) D' ∧ Frm D D' bx bx' := by
 obtain ⟨ol, bm, es, hm, hh, hp, hD⟩ := h.ex
 have hl := hp.length_eq
 rw [List.length_map] at hl
 unfold pushR pushN pushI
 by_cases hfu : 5000 ≤ its.length ∨ 1000000000000000 ≤ next
 · rw [if_pos hfu, if_pos hfu, if_pos hfu]
   refine AbsCall.mono (Try.PushF_c v hm (by simp [full]; omega)) ?_
   rintro r bx' ⟨rfl, rfl⟩
   exact ⟨rfl, D, h, Frm.refl _ _⟩
 · rw [if_neg hfu, if_neg hfu, if_neg hfu]
   refine Try.Push_c v hlt hm (by simp [full]; omega) fun eb bl bx' h1 h2 h3 h4 => ?_
   have hpp := upL_perm lt es.length (es ++ [⟨next, v, eb⟩]) (by simp)
   refine ⟨rfl, _, ⟨⟨some bl, bm, _, h3, ?_, ?_, fun b => Iff.rfl⟩, srt_ins hk h.s fun p hpi => ?_⟩, h4.frm hD (fun b e => ?_) fun e he => ?_⟩
   · rw [upL_len, List.length_append]; exact pushL_heap hk hh _
   · refine (ins_perm _ _).trans ?_
     refine List.Perm.trans ?_ (hpp.map hv).symm
     rw [List.map_append]
     exact (List.Perm.cons _ hp).trans (List.perm_append_singleton (hv ⟨next, v, eb⟩) (es.map hv)).symm
   · have := (h.range p hpi).2
     show p.1 ≠ next
     omega
   · injection e with e
     rw [← e]
     exact h2.symm
   · rcases List.mem_append.1 (hpp.mem_iff.1 he) with he | he
     · exact .inl ⟨e, he, rfl⟩
     · simp at he; subst he; exact .inr h1
theorem Try.Len_q (h : Qu bx bq g lt next its D) : PureCall Try.prog 30 [.ptr bq 4 0 0] bx (.int .i64 its.length) := by
 obtain ⟨ol, bm, es, hm, hh, hp, hD⟩ := h.ex
 have hl := hp.length_eq
 rw [List.length_map] at hl
 rw [hl]
 exact Try.Len_c hm
def peekR (its : List (Int × Nm)) : V := match its with
 | [] => .tup [.int .i64 0, zV, .int .i64 4]
 | p :: _ => .tup [.int .i64 p.1, vV p.2, .int .i64 0]
theorem Try.Peek_q (hk : ByKey lt key) (h : Qu bx bq g lt next its D) : PureCall Try.prog 47 [.ptr bq 4 0 0] bx (peekR its) := by
 obtain ⟨ol, bm, es, hm, hh, hp, hD⟩ := h.ex
 cases its with
 | nil =>
   have : es = [] := by have := hp.length_eq; simpa using this.symm
   subst this
   exact Try.Peek0_c hm
 | cons p l =>
   obtain ⟨h1, h2⟩ := head_eq hk hh h.s hp
   have := Try.Peek_c hm h1
   rw [← h2]
   exact this
theorem Try.Pop_q (hk : ByKey lt key) (hlt : Lt Try.prog g lt) (h : Qu bx bq g lt next its D) :
   AbsCall Try.prog 29 [.ptr bq 4 0 0] bx fun r bx' => r = peekR its ∧ ∃ D', Qu bx' bq g lt next its.tail D' ∧ Frm D D' bx bx' := by
 obtain ⟨ol, bm, es, hm, hh, hp, hD⟩ := h.ex
 cases its with
 | nil =>
   have : es = [] := by have := hp.length_eq; simpa using this.symm
   subst this
   refine AbsCall.mono (Try.Pop0_c hm) ?_
   rintro r bx' ⟨rfl, rfl⟩
   exact ⟨rfl, D, h, Frm.refl _ _⟩
 | cons p l =>
   obtain ⟨h1, h2⟩ := head_eq hk hh h.s hp
   have hpp := popL_perm (lt := lt) h1
   refine (Try.Pop_c hlt hm h1).mono ?_
   rintro r bx' ⟨rfl, h3, h4⟩
   refine ⟨by rw [← h2]; rfl, _, ⟨⟨ol, bm, _, h3, popL_heap hk hh, ?_, fun b => Iff.rfl⟩, (List.pairwise_cons.1 h.s).2⟩, h4.frm hD (fun b e => .inl e) fun e he => .inl ⟨e, hpp.mem_iff.2 (List.mem_cons_of_mem _ he), rfl⟩⟩
   have := hp.trans (hpp.map hv)
   rw [List.map_cons, h2] at this
   exact this.cons_inv
end Go.Proofs.Nq

set_option linter.unusedSimpArgs false
set_option linter.unusedVariables false
set_option maxRecDepth 100000
namespace Go.Proofs
open Go Go.Pl Go.Hp
def ddk (l : List Int) : Nat → List Int
 | 0 => []
 | k + 1 => if l.getD k 0 ∈ ddk l k then ddk l k else ddk l k ++ [l.getD k 0]
theorem ddk_nd (l : List Int) : ∀ k, (ddk l k).Nodup
 | 0 => List.nodup_nil
 | k + 1 => by
   unfold ddk
   split
   · exact ddk_nd l k
   · rename_i h
     rw [List.nodup_append]
     refine ⟨ddk_nd l k, by simp, fun a ha b hb e => ?_⟩
     rw [List.mem_singleton] at hb
     subst hb
     exact h (e ▸ ha)
theorem ddk_len (l : List Int) : ∀ k, (ddk l k).length ≤ k
 | 0 => Nat.le_refl _
 | k + 1 => by
   have := ddk_len l k
   unfold ddk
   split
   · omega
   · simp; omega
theorem two_srt {a b : List Int} (h : a.Perm b) (ha : a.Pairwise (· < ·)) (hb : b.Pairwise (· < ·)) : a = b :=
 List.Perm.eq_of_pairwise (fun x y _ _ h1 h2 => absurd h1 (by omega)) ha hb h
theorem srt_lt {β : Type} {lt : β → β → Bool} {key : β → Int} (hk : ByKey lt key) {its : List (Int × β)} (hs : Srt lt its) (hn : (its.map fun p => key p.2).Nodup) : (its.map fun p => key p.2).Pairwise (· < ·) := by
 rw [List.Nodup, List.pairwise_map] at hn
 rw [List.pairwise_map]
 refine (hs.and hn).imp ?_
 rintro a b ⟨h1, h2⟩
 rw [bf_key hk] at h1
 omega
theorem Nq.Qu.same {bx bx' : Boxes} {bq : Nat} {g : FuncId} {lt : Nq.Nm → Nq.Nm → Bool} {next : Int} {its : List (Int × Nq.Nm)} {D : Nat → Prop} (h : Nq.Qu bx bq g lt next its D) (hs : ∀ b, D b → bx' b = bx b) (hf : FinB bx') : Nq.Qu bx' bq g lt next its D := by
 obtain ⟨⟨ol, bm, es, hm, hh, hp, hD⟩, hS⟩ := h
 exact ⟨⟨ol, bm, es, hm.same (fun b hb => hs b ((hD b).2 hb)) hf, hh, hp, hD⟩, hS⟩
theorem Qu.apart {bx bx' : Boxes} {bq : Nat} {g : FuncId} {lt : Int → Int → Bool} {next : Int} {its : List (Int × Int)} {D D1 D1' : Nat → Prop} (h : Qu bx bq g lt next its D) (f : (∀ b, bx b ≠ none → ¬ D1 b → bx' b = bx b) ∧ ∀ b, D1' b → D1 b ∨ bx b = none) (hf : FinB bx') (d : ∀ b, D b → ¬ D1 b) : Qu bx' bq g lt next its D ∧ ∀ b, D b → ¬ D1' b := by
 refine ⟨h.same (fun b hb => f.1 b (h.live b hb) (d b hb)) hf, fun b hb e => ?_⟩
 rcases f.2 b e with e | e
 · exact d b hb e
 · exact h.live b hb e
theorem Nq.Qu.apart {bx bx' : Boxes} {bq : Nat} {g : FuncId} {lt : Nq.Nm → Nq.Nm → Bool} {next : Int} {its : List (Int × Nq.Nm)} {D D1 D1' : Nat → Prop} (h : Nq.Qu bx bq g lt next its D) (f : (∀ b, bx b ≠ none → ¬ D1 b → bx' b = bx b) ∧ ∀ b, D1' b → D1 b ∨ bx b = none) (hf : FinB bx') (d : ∀ b, D b → ¬ D1 b) : Nq.Qu bx' bq g lt next its D ∧ ∀ b, D b → ¬ D1' b := by
 refine ⟨h.same (fun b hb => f.1 b (h.live b hb) (d b hb)) hf, fun b hb e => ?_⟩
 rcases f.2 b e with e | e
 · exact d b hb e
 · exact h.live b hb e
theorem rest_perm {r : List Int} {k : Nat} (hk : k < r.length) : r.Perm (r[k] :: (r.take k ++ r.drop (k + 1))) := by
 have h := List.take_append_drop k r
 rw [List.drop_eq_getElem_cons hk] at h
 conv => lhs; rw [← h]
 exact List.perm_middle
theorem Qu.upd {bx : Boxes} {bq : Nat} {g : FuncId} {lt : Int → Int → Bool} {next : Int} {its : List (Int × Int)} {D : Nat → Prop} (h : Qu bx bq g lt next its D) {b : Nat} (hb : ¬ D b) (x : Option Box) : Qu (upd bx b x) bq g lt next its D :=
 h.same (fun c hc => upd_ne _ _ fun e => hb (e ▸ hc)) ((finB_upd _ _ _).2 h.fin)
theorem Nq.Qu.upd {bx : Boxes} {bq : Nat} {g : FuncId} {lt : Nq.Nm → Nq.Nm → Bool} {next : Int} {its : List (Int × Nq.Nm)} {D : Nat → Prop} (h : Nq.Qu bx bq g lt next its D) {b : Nat} (hb : ¬ D b) (x : Option Box) : Nq.Qu (Go.Pl.upd bx b x) bq g lt next its D :=
 h.same (fun c hc => upd_ne _ _ fun e => hb (e ▸ hc)) ((finB_upd _ _ _).2 h.fin)
structure OrI (bx : Boxes) (qa qb br : Nat) (ga gb : FuncId) (lta : Int → Int → Bool) (ltb : Nq.Nm → Nq.Nm → Bool) (na : Int) (I : List (Int × Int)) (Da : Nat → Prop) (d : List Int) (k : Nat) (r : List Int) : Prop where
 a : Qu bx qa ga lta na I Da
 b : ∃ its Db, Nq.Qu bx qb gb ltb ((k : Int) + 1) its Db ∧ its.length = k ∧ (∀ p, p ∈ its → p.2.t = [120]) ∧ (its.map (fun p => p.2.n) ++ r).Perm d ∧ (∀ b, Da b → ¬ Db b) ∧ ¬ Db br
 rr : bx br = some (.row 3 1 (r.map (.int .i64)))
 nd : ¬ Da br
 nl : r.length + k = d.length
theorem OrI.start {bx1 bx2 : Boxes} {qa qb br : Nat} {ga gb : FuncId} {lta : Int → Int → Bool} {ltb : Nq.Nm → Nq.Nm → Bool} {na : Int} {I : List (Int × Int)} {Da Db : Nat → Prop} (d : List Int) (ha : Qu bx1 qa ga lta na I Da) (hb : Nq.Qu bx2 qb gb ltb 1 [] Db) (fb : ∀ b, bx1 b ≠ none → bx2 b = bx1 b) (nb : ∀ b, Db b → bx1 b = none) (hbr : bx2 br = none) :
   OrI (upd bx2 br (some (.row 3 1 (d.map (.int .i64))))) qa qb br ga gb lta ltb na I Da d 0 d := by
 have ha2 := ha.same (fun b h => fb b (ha.live b h)) hb.fin
 have hda : ¬ Da br := fun h => ha2.live _ h hbr
 have hdb : ¬ Db br := fun h => hb.live _ h hbr
 exact ⟨ha2.upd hda _, ⟨[], Db, hb.upd hdb _, rfl, fun p h => (by cases h), List.Perm.refl _, fun b h h2 => ha.live b h (nb b h2), hdb⟩, upd_eq _ _ _, hda, rfl⟩
theorem OrI.step {bx bx3 : Boxes} {qa qb br br' : Nat} {ga gb : FuncId} {lta : Int → Int → Bool} {ltb : Nq.Nm → Nq.Nm → Bool} {na : Int} {I : List (Int × Int)} {Da Db Db' : Nat → Prop} {d : List Int} {k : Nat} {r : List Int} (h : OrI bx qa qb br ga gb lta ltb na I Da d k r) {its : List (Int × Nq.Nm)}
   (hl : its.length = k) (ht : ∀ p, p ∈ its → p.2.t = [120]) (hp : (its.map (fun p => p.2.n) ++ r).Perm d) (hd : ∀ b, Da b → ¬ Db b) (hdb : ¬ Db br) {j : Nat} (hj : j < r.length)
   (hq : Nq.Qu bx3 qb gb ltb ((k : Int) + 1 + 1) (ins ltb ((k : Int) + 1, ⟨[120], r[j]⟩) its) Db') (f : Nq.Frm Db Db' bx bx3) (hbr : upd bx3 br none br' = none) :
   OrI (upd (upd bx3 br none) br' (some (.row 3 1 ((r.take j ++ r.drop (j + 1)).map (.int .i64))))) qa qb br' ga gb lta ltb na I Da d (k + 1) (r.take j ++ r.drop (j + 1)) := by
 obtain ⟨ha, hab⟩ := h.a.apart f hq.fin hd
 have hbr0 : bx br ≠ none := by rw [h.rr]; simp
 have hdb' : ¬ Db' br := fun e => by
   rcases f.2 br e with e | e
   · exact hdb e
   · exact hbr0 e
 have ha2 := ha.upd h.nd none
 have hq2 := hq.upd hdb' none
 have hda : ¬ Da br' := fun e => ha2.live _ e hbr
 have hdq : ¬ Db' br' := fun e => hq2.live _ e hbr
 refine ⟨ha2.upd hda _, ⟨ins ltb ((k : Int) + 1, ⟨[120], r[j]⟩) its, Db', ?_, ?_, fun p hpp => ?_, ?_, hab, hdq⟩, upd_eq _ _ _, hda, ?_⟩
 · have := hq2.upd hdq (some (.row 3 1 ((r.take j ++ r.drop (j + 1)).map (.int .i64))))
   rw [show (((k + 1 : Nat) : Int) + 1) = (k : Int) + 1 + 1 by omega]
   exact this
 · rw [(ins_perm _ _).length_eq]; simp [hl]
 · rcases List.mem_cons.1 ((ins_perm _ _).mem_iff.1 hpp) with rfl | hpp
   · rfl
   · exact ht p hpp
 · refine (((ins_perm _ _).map _).append_right _).trans ?_
   rw [List.map_cons, List.cons_append]
   refine List.Perm.trans ?_ hp
   refine (List.perm_middle.symm).trans ?_
   exact (List.perm_append_left_iff _).2 (rest_perm hj).symm
 · have := h.nl
   rw [(by simp; omega : (r.take j ++ r.drop (j + 1)).length = r.length - 1)]
   omega
theorem Try.app_out {r : List Int} {j : Nat} (hj : j < r.length) (hl : r.length ≤ 1000) {bx : Boxes} {br : Nat} (hf : FinB bx) (hbr : bx br = some (.row 3 1 (r.map (.int .i64)))) {n : Nat} {sl : Nat → V} {dst : Option Tmp} (hd : dstOk ⟨n, sl, bx⟩ dst) {x : V} (hx : (j + 1 < r.length → x = .own br 1 (j + 1) (r.length - (j + 1))) ∧ (¬ j + 1 < r.length → x = .sl 1 [])) {K : St → Prop}
   (hK : ∀ b', upd bx br none b' = none → K (St.put ⟨n, sl, upd (upd bx br none) b' (some (.row 3 1 ((r.take j ++ r.drop (j + 1)).map (.int .i64))))⟩ dst (.own b' 1 0 (r.take j ++ r.drop (j + 1)).length))) : appendA Try.prog ⟨n, sl, bx⟩ dst 22 (.own br 1 0 j) x K := by
 have hs : srcEls ⟨n, sl, bx⟩ 1 x = some ((r.drop (j + 1)).map (.int .i64)) := by
   by_cases h : j + 1 < r.length
   · rw [hx.1 h]
     have h2 : j + 1 + (r.length - (j + 1)) ≤ r.length := by omega
     simp [srcEls, hbr, h2, List.map_drop, List.take_of_length_le]
   · rw [hx.2 h]
     have h2 : r.drop (j + 1) = [] := List.drop_eq_nil_of_le (by omega)
     simp [srcEls, h2]
 have e : (r.map (V.int .i64)).take j ++ (r.drop (j + 1)).map (V.int .i64) = (r.take j ++ r.drop (j + 1)).map (V.int .i64) := by simp [List.map_take]
 have hn : j + ((r.drop (j + 1)).map (V.int .i64)).length = (r.take j ++ r.drop (j + 1)).length := by simp; omega
 have hl2 : ((r.drop (j + 1)).map (V.int .i64)).length ≤ 1000 := by simp; omega
 unfold appendA
 simp only [Try.knd22, Try.tsz3, Try.tzero3, hs, hbr, Try.tby3]
 refine ⟨by simp [go_sem], by decide, hd, hf, trivial, trivial, trivial, by simp; omega, by omega, by omega, fun b' hb' => ?_⟩
 have := hK b' hb'
 rw [← hn, ← e] at this
 exact this
structure OrP (bx : Boxes) (qa qb qc : Nat) (ga gb gc : FuncId) (lta ltc : Int → Int → Bool) (ltb : Nq.Nm → Nq.Nm → Bool) (n nb : Int) (A : List (Int × Int)) (B : List (Int × Nq.Nm)) (C : List (Int × Int)) : Prop where
 ex : ∃ Da Db Dc, Qu bx qa ga lta n A Da ∧ Nq.Qu bx qb gb ltb nb B Db ∧ Qu bx qc gc ltc n C Dc ∧ (∀ b, Da b → ¬ Db b) ∧ (∀ b, Da b → ¬ Dc b) ∧ ∀ b, Db b → ¬ Dc b
theorem not_sym {D E : Nat → Prop} (h : ∀ b, D b → ¬ E b) : ∀ b, E b → ¬ D b := fun b h1 h2 => h b h2 h1
theorem numb_vals (l : List Int) : (numb l l.length).map (·.2) = l := by
 unfold numb
 rw [List.map_map]
 apply List.ext_getElem
 · simp
 · intro i h1 h2
   simp at h1
   simp [h1]
end Go.Proofs

set_option linter.unusedSimpArgs false
set_option linter.unusedVariables false
set_option maxRecDepth 100000
namespace Go.Proofs
open Go Go.Pl Go.Hp
def ltN (x y : Nq.Nm) : Bool := decide (x.n < y.n)
theorem ltN_key : ByKey ltN fun x => x.n := fun a b => rfl
theorem Try.ltN_lt : Nq.Lt Try.prog 25 ltN := by
 intro a b bx
 refine Try.ctr25 fun hf => ?_
 simp only [Nq.vV]
 simp [go_sem, Try.C25, hf]
 exact ret_pure (by simp [go_sem]) (by simp [go_sem, ltN])
theorem Try.heapsOrders_c (l picks : List Int) (hpk : ∀ x, x ∈ picks → 0 ≤ x ∧ x < 256) (bx : Boxes) (hfin : FinB bx) :
   AbsCall Try.prog 7 [.sl 1 (l.map (.int .i64)), .sl 1 (picks.map (.int .u8))] bx fun r bx' => r = .bool true := by
 refine Try.ctr7 fun hf => ?_
 by_cases hl : 100 < l.length
 · have hl' : (100 : Int) < l.length := by omega
   simp [go_sem, Try.C7, hf, hl']
   refine callK_abs (Try.awake_c bx) ?_
   rintro r bx' ⟨rfl, he⟩
   simp [go_sem]
   exact ret_pure (by simp [go_sem]) (by simp [go_sem])
 by_cases hp : 200 < picks.length
 · have hl' : ¬ (100 : Int) < l.length := by omega
   have hp' : (200 : Int) < picks.length := by omega
   simp [go_sem, Try.C7, hf, hl', hp']
   refine callK_abs (Try.awake_c bx) ?_
   rintro r bx' ⟨rfl, he⟩
   simp [go_sem]
   exact ret_pure (by simp [go_sem]) (by simp [go_sem])
 have hl' : ¬ (100 : Int) < l.length := by omega
 have hp' : ¬ (200 : Int) < picks.length := by omega
 simp [go_sem, Try.C7, hf, hl', hp']
 refine pw_for (ι := Boxes × V) l.length (fun k i => Acc bx 3 1 ((ddk l k).map (.int .i64)) i.2 i.1) (fun k i => ⟨217, slk [(0, .sl 1 (l.map (.int .i64))), (1, .sl 1 (picks.map (.int .u8))), (5, i.2), (6, .int .i64 k)], i.1⟩) (bx, .nils) (acc_nil hfin _ _) (cov_look (by simp [go_sem])) (fun k i hk hJ N hN => ?_) (fun i hJ N => ?_)
 · obtain ⟨bx1, v⟩ := i
   dsimp only at hJ ⊢
   have hw := wr_succ (k := k) (by omega)
   have hdl := ddk_len l k
   have hg : l.getD k 0 = l[k] := by simp [hk]
   have hst : ddk l (k + 1) = if l[k] ∈ ddk l k then ddk l k else ddk l k ++ [l[k]] := by rw [← hg]; rfl
   have hcl := hJ.cells
   generalize hD : ddk l k = D at *
   simp [go_sem, Try.L7_1, hk, hJ.fin]
   refine pw_upto D.length (fun j => ⟨217, slk [(0, .sl 1 (l.map (.int .i64))), (1, .sl 1 (picks.map (.int .u8))), (5, v), (6, .int .i64 k), (7, .bool (decide (l[k] ∈ D.take j))), (8, .int .i64 j)], bx1⟩) (cov_look (by simp [go_sem])) (fun j hj N2 hN2 => ?_) (fun N2 => ?_)
   · have hw2 := wr_succ (k := j) (by omega)
     obtain ⟨b, _, rfl, hb⟩ := hJ.row (by intro e; rw [List.map_eq_nil_iff] at e; rw [e] at hj; simp at hj)
     have htk : (D.take (j + 1)) = D.take j ++ [D[j]] := List.take_succ_eq_append_getElem hj
     by_cases hin : l[k] ∈ D.take j
     · have hin2 : l[k] ∈ D.take (j + 1) := by rw [htk, List.mem_append]; exact .inl hin
       simp [go_sem, Try.L7_0, hk, hj, hJ.fin, hb, hin, hw2]
       exact hN2 _ (cov_look (by simp [go_sem, hin2]))
     · have hin2 : (l[k] ∈ D.take (j + 1)) ↔ D[j] = l[k] := by rw [htk, List.mem_append, List.mem_singleton]; exact ⟨fun h => h.elim (fun h => absurd h hin) Eq.symm, fun h => .inr h.symm⟩
       simp [go_sem, Try.L7_0, hk, hj, hJ.fin, hb, hin, hw2]
       exact hN2 _ (cov_look (by simp [go_sem, hin2]))
   · have hDl : (D.map (V.int .i64)).length = D.length := by simp
     rcases hJ.is with ⟨h1, rfl⟩ | ⟨b, hb0, rfl, hb⟩
     · rw [List.map_eq_nil_iff] at h1
       subst h1
       simp [go_sem, Try.L7_0, hk, hJ.fin, hw]
       intro b' hb'
       refine acc_append (es := []) (news := [.int .i64 l[k]]) (e := 3) (sz := 1) (.int .i64 0) hJ ((Ext.refl _).new hb' _) (by simp [finB_upd, hJ.fin]) Try.knd22 Try.tsz3 (by simp [go_sem, srcEls]) Try.tzero3 (by simp [go_sem]) (by omega) (by simp [Try.tby3] <;> omega) (by simp <;> omega) (by simp [go_sem]) ?_
       intro v' bx3 ha'
       simp [go_sem, ha'.fin, ha'.cells, hw]
       exact hN _ (bx3, v') (by rw [hst, if_neg (by simp)]; exact ha') (cov_look (by simp [go_sem]))
     · rw [hDl] at hJ ⊢
       by_cases hin : l[k] ∈ D
       · simp [go_sem, Try.L7_0, hk, hJ.fin, hw, hin]
         refine hN _ (bx1, .own b 1 0 D.length) (by rw [hst, if_pos hin]; exact hJ) (cov_look (by simp [go_sem]))
       · simp [go_sem, Try.L7_0, hk, hJ.fin, hw, hin]
         intro b' hb'
         refine acc_append (es := D.map (.int .i64)) (news := [.int .i64 l[k]]) (e := 3) (sz := 1) (.int .i64 0) hJ ((Ext.refl _).new hb' _) (by simp [finB_upd, hJ.fin]) Try.knd22 Try.tsz3 (by simp [go_sem, srcEls]) Try.tzero3 (by simp [go_sem]) (by omega) (by simp [Try.tby3] <;> omega) (by simp <;> omega) (by simp [go_sem]) ?_
         intro v' bx3 ha'
         simp [go_sem, ha'.fin, ha'.cells, hw]
         exact hN _ (bx3, v') (by rw [hst, if_neg hin, List.map_append]; exact ha') (cov_look (by simp [go_sem]))
 · obtain ⟨bx0, v⟩ := i
   dsimp only at hJ ⊢
   have hnd := ddk_nd l l.length
   have hdl := ddk_len l l.length
   generalize ddk l l.length = d at *
   simp [go_sem, Try.L7_1, hJ.fin]
   refine pw_wk (st' := ⟨217, slk [(1, .sl 1 (picks.map (.int .u8))), (5, .sl 1 (d.map (.int .i64)))], bx⟩) (cov_wk hJ.ext ?_) ?_
   · intro q hq
     simp at hq
     rcases hq with rfl | rfl
     · left; rfl
     · right
       refine ⟨1, ?_⟩
       rcases hJ.is with ⟨h1, rfl⟩ | ⟨b, h0, rfl, h2⟩
       · rw [h1]; exact wk_nils 1
       · show Wk (frz bx0 bx 1 (V.own b 1 0 (List.map (V.int .i64) d).length)) (V.sl 1 (List.map (V.int .i64) d))
         rw [frz_own1 h2 h0 (by decide) rfl]
         exact Wk.refl _
   simp [go_sem, hfin]
   refine callK_abs (Try.made_l 0 (by decide) d (by omega) bx hfin) ?_
   rintro r bx1 ⟨qa, rfl, Da, ha⟩
   simp [go_sem, ha.q.fin]
   refine callK_abs (Nq.Try.New_q 25 ltN bx1) ?_
   rintro r bx2 ⟨qb, Db, rfl, hb, fb, nb⟩
   have hf2 := hb.fin
   simp [go_sem, hf2]
   intro b0 hb0
   have hs0 : upd bx2 b0 none = bx2 := by
     funext c
     by_cases e : c = b0
     · subst e; rw [upd_eq, hb0]
     · rw [upd_ne _ _ e]
   simp [appendA, srcEls, go_sem, upd_eq, upd_upd, hs0, hf2, finB_upd, Try.knd22, Try.tsz3, Try.tzero3, Try.tby3]
   refine ⟨by omega, by omega, fun br hbr => ?_⟩
   have h0 := OrI.start d ha.q hb fb nb hbr
   have hIl := mkI_len (ordL 0) d d.length
   have hIp := mkI_perm (ordL 0) d d.length
   have hIs := mkI_srt (ordL_key 0) d d.length
   generalize mkI (ordL 0) d d.length = I at *
   refine pw_for (ι := Boxes × List Int × Nat) d.length (fun k i => OrI i.1 qa qb i.2.2 (ordF 0) 25 (ordL 0) ltN ((d.length : Int) + 1) I Da d k i.2.1) (fun k i => ⟨217, slk [(1, .sl 1 (picks.map (.int .u8))), (5, .sl 1 (d.map (.int .i64))), (9, .ptr qa 4 0 0), (10, .ptr qb 4 0 0), (11, .own i.2.2 1 0 i.2.1.length), (12, .int .i64 k)], i.1⟩) (_, d, br) h0 (cov_look (by simp [go_sem])) (fun k i hk hJ N hN => ?_) (fun i hJ N => ?_)
   · obtain ⟨bx3, r, br⟩ := i
     dsimp only at hJ ⊢
     obtain ⟨its, Db, hq, hl1, ht, hpm, hdd, hdb⟩ := hJ.b
     have hn := hJ.nl
     have hw := wr_succ (k := k) (by omega)
     have hrp : 0 < r.length := by omega
     have hbr := hJ.rr
     by_cases hp0 : picks = []
     · simp [go_sem, Try.L7_2, hq.fin, hrp, hp0, hbr]
       have hj : 0 < r.length := hrp
       have hz : ((0 : Nat) : Int) = 0 := rfl
       refine callK_abs (Nq.Try.Push_q ltN_key Try.ltN_lt hq ⟨[120], r[0]⟩) ?_
       rintro rr bx4 ⟨rfl, D4, h4, f4⟩
       have hnf : ¬ (5000 ≤ its.length ∨ 1000000000000000 ≤ (k : Int) + 1) := by omega
       unfold Nq.pushN Nq.pushI at h4
       rw [if_neg hnf, if_neg hnf] at h4
       unfold Nq.pushR
       rw [if_neg hnf]
       have hbr4 : bx4 br = some (.row 3 1 (r.map (.int .i64))) := (f4.1 br (by rw [hbr]; simp) hdb).trans hbr
       have w1 : IntKind.i64.wrap ((1 : Int)) = (1 : Int) := wr64 (by omega)
       have w2 : ((1 : Int)).toNat = 0 + 1 := by omega
       have c3 : (1 : Int) < (r.length : Int) ∨ (1 : Int) = (r.length : Int) := by omega
       have c4 : (0 : Int) ≤ (1 : Int) := by omega
       have c5 : ¬ (1 : Int) = (0 : Int) := by omega
       simp [go_sem, h4.fin, hbr4, w1, hj, c3, c4, c5, w2, Nat.le_of_lt hj]
       refine Try.app_out hj (by omega) h4.fin hbr4 (by simp [go_sem]) ⟨fun h => ?_, fun h => ?_⟩ fun b' hb' => ?_
       · rw [if_pos (by omega)]
       · rw [if_neg (by omega)]
       · have hst := hJ.step hl1 ht hpm hdd hdb hj h4 f4 hb'
         revert hst
         generalize r.take 0 ++ r.drop (0 + 1) = R
         intro hst
         simp [go_sem, hst.a.fin, hw]
         refine hN _ (_, _, b') hst ?_
         exact cov_look (by simp [go_sem, hp0])
     · have hpl : 0 < picks.length := List.length_pos_iff.2 hp0
       have hkm := Nat.mod_lt k hpl
       obtain ⟨m, hm, e1⟩ : ∃ m, m < picks.length ∧ Int.tmod (k : Int) (picks.length : Int) = (m : Int) := ⟨_, hkm, rfl⟩
       have hv := hpk _ (List.getElem_mem hm)
       obtain ⟨x, hx⟩ : ∃ x, picks[m] = x := ⟨_, rfl⟩
       rw [hx] at hv
       have hx2 : picks[m]? = some x := by rw [List.getElem?_eq_getElem hm, hx]
       have hxw : IntKind.i64.wrap x = x := wr64 (by omega)
       have hj := Nat.mod_lt x.toNat hrp
       have e4 : x.tmod (r.length : Int) = ((x.toNat % r.length : Nat) : Int) := by
         rw [Int.tmod_eq_emod_of_nonneg hv.1, Int.natCast_emod, Int.toNat_of_nonneg hv.1]
       obtain ⟨j, hj, e4⟩ : ∃ j, j < r.length ∧ x.tmod (r.length : Int) = (j : Int) := ⟨_, hj, e4⟩
       simp [go_sem, Try.L7_2, hq.fin, hrp, hpl, hbr, e1, hm, hx, hx2, hp0, hxw, e4, hj]
       refine ⟨List.length_pos_iff.1 hrp, ?_⟩
       refine callK_abs (Nq.Try.Push_q ltN_key Try.ltN_lt hq ⟨[120], r[j]⟩) ?_
       rintro rr bx4 ⟨rfl, D4, h4, f4⟩
       have hnf : ¬ (5000 ≤ its.length ∨ 1000000000000000 ≤ (k : Int) + 1) := by omega
       unfold Nq.pushN Nq.pushI at h4
       rw [if_neg hnf, if_neg hnf] at h4
       unfold Nq.pushR
       rw [if_neg hnf]
       have hbr4 : bx4 br = some (.row 3 1 (r.map (.int .i64))) := (f4.1 br (by rw [hbr]; simp) hdb).trans hbr
       have w1 : IntKind.i64.wrap ((j : Int) + 1) = (j : Int) + 1 := wr64 (by omega)
       have w2 : ((j : Int) + 1).toNat = j + 1 := by omega
       have c3 : (j : Int) + 1 < (r.length : Int) ∨ (j : Int) + 1 = (r.length : Int) := by omega
       have c4 : (0 : Int) ≤ (j : Int) + 1 := by omega
       have c5 : ¬ (j : Int) + 1 = (0 : Int) := by omega
       simp [go_sem, h4.fin, hbr4, w1, hj, c3, c4, c5, w2, Nat.le_of_lt hj]
       refine Try.app_out hj (by omega) h4.fin hbr4 (by simp [go_sem]) ⟨fun h => ?_, fun h => ?_⟩ fun b' hb' => ?_
       · rw [if_pos (by omega)]
       · rw [if_neg (by omega)]
       · have hst := hJ.step hl1 ht hpm hdd hdb hj h4 f4 hb'
         revert hst
         generalize r.take j ++ r.drop (j + 1) = R
         intro hst
         simp [go_sem, hst.a.fin, hw]
         refine hN _ (_, _, b') hst ?_
         exact cov_look (by simp [go_sem])
   · obtain ⟨bx3, r, br⟩ := i
     dsimp only at hJ ⊢
     obtain ⟨its, Db, hq, hl1, ht, hpm, hdd, hdb⟩ := hJ.b
     have hr0 : r = [] := List.length_eq_zero_iff.1 (by have := hJ.nl; omega)
     subst hr0
     simp [go_sem, Try.L7_2, hq.fin]
     have hltL : Lt Try.prog 28 ltL := Try.ord_lt 0
     have hkA := ordL_key 0
     have hltA := Try.ord_lt 0
     have qA := hJ.a
     refine callK_pure (Try.Save_q hkA hltA qA) ?_
     simp only [stV]
     simp [go_sem, hq.fin]
     have hck : Chk ltL ((d.length : Int) + 1) I 0 := ⟨fun h => by omega, fun _ h => absurd qA.nx h, fun _ _ p hp h => absurd (qA.range p hp) h, fun _ _ _ h => absurd qA.keys h, fun _ _ _ _ h => absurd hIs h, fun _ _ _ _ _ => rfl⟩
     refine callK_abs (Try.Load_c ltL_key hltL ((d.length : Int) + 1) I 0 hck bx3) ?_
     rintro rr bx4 (⟨h, _⟩ | ⟨_, qc, Dc, rfl, hc⟩)
     · exact absurd rfl h
     simp [go_sem, hc.q.fin]
     have hP0 : OrP bx4 qa qb qc (ordF 0) 25 28 (ordL 0) ltL ltN ((d.length : Int) + 1) ((d.length : Int) + 1) I its I :=
       ⟨Da, Db, Dc, qA.same (fun b h => hc.f b (qA.live b h)) hc.q.fin, hq.same (fun b h => hc.f b (hq.live b h)) hc.q.fin, hc.q, hdd, fun b h1 h2 => qA.live b h1 (hc.n b h2), fun b h1 h2 => hq.live b h1 (hc.n b h2)⟩
     have hIv : (I.map (·.2)).Perm d := by have := hIp.map (·.2); rw [numb_vals] at this; exact this
     have hBv : (its.map fun p => p.2.n).Perm d := by simpa using hpm
     have hs1 := srt_lt ltL_key (its := I) hIs (hIv.nodup_iff.2 hnd)
     have hs2 := srt_lt ltN_key hq.s (hBv.nodup_iff.2 hnd)
     have heq : (I.map fun p => p.2) = its.map fun p => p.2.n := two_srt (hIv.trans hBv.symm) hs1 hs2
     have hat : ∀ k (h1 : k < I.length) (h2 : k < its.length), its[k].2.n = I[k].2 := by
       intro k h1 h2
       have h3 : (I.map fun p => p.2)[k]? = (its.map fun p => p.2.n)[k]? := by rw [heq]
       simp [h1, h2] at h3
       exact h3.symm
     clear hpm hIv hBv hs1 hs2 heq hck h0 hIp hIs
     refine pw_for (ι := Boxes) d.length (fun k bx' => OrP bx' qa qb qc (ordF 0) 25 28 (ordL 0) ltL ltN ((d.length : Int) + 1) ((d.length : Int) + 1) (I.drop k) (its.drop k) (I.drop k)) (fun k bx' => ⟨217, slk [(5, .sl 1 (d.map (.int .i64))), (9, .ptr qa 4 0 0), (10, .ptr qb 4 0 0), (16, .ptr qc 4 0 0), (18, .int .i64 k)], bx'⟩) bx4 hP0 (cov_look (by simp [go_sem])) (fun k bx5 hk hP N hN => ?_) (fun bx5 hP N => ?_)
     · obtain ⟨Da, Db, Dc, h1, h2, h3, hab, hac, hbc⟩ := hP.ex
       have hw := wr_succ (k := k) (by omega)
       have hkI : k < I.length := by omega
       have hkB : k < its.length := by omega
       have e1 : I.drop k = I[k] :: I.drop (k + 1) := List.drop_eq_getElem_cons hkI
       have e2 : its.drop k = its[k] :: its.drop (k + 1) := List.drop_eq_getElem_cons hkB
       have hv := hat k hkI hkB
       have htx := ht its[k] (List.getElem_mem hkB)
       simp [go_sem, Try.L7_3, hk, h1.fin]
       rw [e1] at h1 h3
       rw [e2] at h2
       generalize I.drop (k + 1) = A1 at *
       generalize its.drop (k + 1) = B1 at *
       generalize I[k] = p at *
       generalize its[k] = q at *
       obtain ⟨ph, pv⟩ := p
       obtain ⟨qh, qt, qn⟩ := q
       dsimp only at hv htx
       subst hv htx
       refine callK_abs (Try.Pop_q hkA hltA h1) ?_
       rintro rr bx6 ⟨rfl, Da', h1', f1⟩
       obtain ⟨h2', hab'⟩ := h2.apart f1 h1'.fin (not_sym hab)
       obtain ⟨h3', hac'⟩ := h3.apart f1 h1'.fin (not_sym hac)
       simp [go_sem, h1'.fin, peekR]
       refine callK_abs (Nq.Try.Pop_q ltN_key Try.ltN_lt h2') ?_
       rintro rr bx7 ⟨rfl, Db', h2'', f2⟩
       obtain ⟨h1'', hab''⟩ := h1'.apart f2 h2''.fin (not_sym hab')
       obtain ⟨h3'', hbc''⟩ := h3'.apart f2 h2''.fin (not_sym hbc)
       simp [go_sem, h2''.fin, Nq.peekR]
       intro b0 hb0
       rw [show upd bx7 b0 none = bx7 from by
         funext c
         by_cases e : c = b0
         · subst e; rw [upd_eq, hb0]
         · rw [upd_ne _ _ e]]
       refine callK_abs (Try.Pop_q ltL_key hltL h3'') ?_
       rintro rr bx8 ⟨rfl, Dc', h3c, f3⟩
       obtain ⟨h1c, hacc⟩ := h1''.apart f3 h3c.fin (not_sym hac')
       obtain ⟨h2c, hbcc⟩ := h2''.apart f3 h3c.fin (not_sym hbc'')
       simp [go_sem, h3c.fin, peekR, hw]
       exact hN _ bx8 ⟨_, _, _, h1c, h2c, h3c, hab'', hacc, hbcc⟩ (cov_look (by simp [go_sem]))
     · obtain ⟨Da, Db, Dc, h1, h2, h3, hab, hac, hbc⟩ := hP.ex
       have e1 : I.drop d.length = [] := List.drop_eq_nil_of_le (by omega)
       have e2 : its.drop d.length = [] := List.drop_eq_nil_of_le (by omega)
       rw [e1] at h1 h3
       rw [e2] at h2
       have hnf : ¬ (5000 ≤ ([] : List (Int × Int)).length ∨ 1000000000000000 ≤ (d.length : Int) + 1) := by simp; omega
       simp [go_sem, Try.L7_3, h1.fin]
       refine callK_abs (Try.Push_q hkA hltA h1 1) ?_
       rintro rr bx6 ⟨rfl, Da', h1', f1⟩
       obtain ⟨h2', hab'⟩ := h2.apart f1 h1'.fin (not_sym hab)
       obtain ⟨h3', hac'⟩ := h3.apart f1 h1'.fin (not_sym hac)
       unfold pushR
       rw [if_neg hnf]
       simp [go_sem, h1'.fin]
       refine callK_abs (Try.Push_q ltL_key hltL h3' 1) ?_
       rintro rr bx7 ⟨rfl, Dc', h3'', f3⟩
       obtain ⟨h2'', hbc''⟩ := h2'.apart f3 h3''.fin hbc
       unfold pushR
       rw [if_neg hnf]
       simp [go_sem, h3''.fin]
       refine gK_pure (Nq.Try.Len_q h2'') (by simp) (by simp [go_sem]) ?_
       simp [go_sem, h3''.fin]
       refine gK_cases (fun _ => ⟨trivial, by simp [go_sem], ?_⟩) (fun e => by cases e)
       refine callK_abs (Try.awake_c bx7) ?_
       rintro r bx8 ⟨rfl, he⟩
       simp [go_sem]
       exact ret_pure (by simp [go_sem]) (by simp [go_sem])
end Go.Proofs

set_option linter.unusedVariables false
set_option linter.unusedSimpArgs false
set_option maxRecDepth 100000
namespace Go.Proofs.Ytbonmihbgcofpaa
open Go Go.Pl Go.Proofs
theorem hasU8b {n : Nat} {xs : List V} (h : HasL Try.prog (n + 1) 34 xs) : ∃ l : List Int, xs = [.sl 1 (l.map (.int .u8))] ∧ ∀ x, x ∈ l → 0 ≤ x ∧ x < 256 := by
 obtain ⟨l, h, hl⟩ := HasL.slice (α := {x : Int // 0 ≤ x ∧ x < 256}) (r := fun x => .int .u8 x.1) Try.knd34 h fun ys hy => by
   obtain ⟨i, hi, rfl⟩ := hasU8 hy
   exact ⟨⟨i, hi⟩, by simp [elV, Try.tagg5]⟩
 rw [Try.tsz5] at h
 refine ⟨l.map (·.1), by rw [h, List.map_map]; rfl, fun x hx => ?_⟩
 obtain ⟨y, _, rfl⟩ := List.mem_map.1 hx
 exact y.2
end Go.Proofs.Ytbonmihbgcofpaa
