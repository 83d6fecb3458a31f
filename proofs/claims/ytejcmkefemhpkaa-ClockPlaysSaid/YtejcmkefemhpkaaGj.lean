/- Texts of the proof, put together: CXg, CXk, CZa, CZb, CZc, CZd, CZe, CZf, CZg, CV, CXi, CXj, CZh, CZi, CZk. -/
import Derived.Test.YtejcmkefemhpkaaGi
import Derived.Test.YtejcmkefemhpkaaGh

set_option linter.unusedSimpArgs false
set_option linter.unusedVariables false
set_option maxRecDepth 100000
namespace Go.Ck
open Go Go.Pl
theorem gdl {l : List Sc} {k : Nat} (hk : k < l.length) : l.getD k default = l[k] := by simp [hk]
theorem mem_dd {h x : Int} {ms : List Int} : h ∈ ddAdd ms x ↔ h ∈ ms ∨ h = x := by
 unfold ddAdd
 split
 · constructor
   · exact .inl
   · rintro (h | rfl)
     · exact h
     · assumption
 · simp
theorem mem_unK {l : List Sc} {top h : Int} : ∀ {k : Nat}, h ∈ unK l top k ↔ h = top ∨ ∃ j, j < k ∧ unB l top j = true ∧ (l.getD j default).id = h
 | 0 => by simp [unK]
 | k + 1 => by
   have ih := mem_unK (l := l) (top := top) (h := h) (k := k)
   have hb : unB l top k = true ↔ ((l.getD k default).id = top ∨ (l.getD k default).parent ∈ unK l top k) := by
     unfold unB; rw [Bool.or_eq_true, decide_eq_true_eq, decide_eq_true_eq]
   by_cases c : unB l top k = true
   · have e : unK l top (k + 1) = ddAdd (unK l top k) (l.getD k default).id := by
       conv => lhs; unfold unK
       rw [if_pos (hb.1 c)]
     rw [e, mem_dd, ih]
     constructor
     · rintro ((h1 | ⟨j, h1, h2, h3⟩) | h1)
       · exact .inl h1
       · exact .inr ⟨j, by omega, h2, h3⟩
       · exact .inr ⟨k, by omega, c, h1.symm⟩
     · rintro (h1 | ⟨j, h1, h2, h3⟩)
       · exact .inl (.inl h1)
       · by_cases e : j = k
         · subst e; exact .inr h3.symm
         · exact .inl (.inr ⟨j, by omega, h2, h3⟩)
   · have e : unK l top (k + 1) = unK l top k := by
       conv => lhs; unfold unK
       rw [if_neg (fun q => c (hb.2 q))]
     rw [e, ih]
     constructor
     · rintro (h1 | ⟨j, h1, h2, h3⟩)
       · exact .inl h1
       · exact .inr ⟨j, by omega, h2, h3⟩
     · rintro (h1 | ⟨j, h1, h2, h3⟩)
       · exact .inl h1
       · by_cases e : j = k
         · subst e; exact absurd h2 c
         · exact .inr ⟨j, by omega, h2, h3⟩
theorem unB_iff {l : List Sc} {top : Int} {i : Nat} : unB l top i = true ↔ (l.getD i default).id = top ∨ (l.getD i default).parent = top ∨ ∃ j, j < i ∧ unB l top j = true ∧ (l.getD j default).id = (l.getD i default).parent := by
 conv => lhs; unfold unB
 rw [Bool.or_eq_true, decide_eq_true_eq, decide_eq_true_eq, mem_unK]
theorem Ok.inj {s : Ck} (h : Ok s) {i j : Nat} (hi : i < s.scs.length) (hj : j < s.scs.length) (e : s.scs[i].id = s.scs[j].id) : i = j := by
 rcases Nat.lt_trichotomy i j with q | q | q
 · have := List.pairwise_iff_getElem.1 h.incr i j (by simpa using hi) (by simpa using hj) q
   simp at this; omega
 · exact q
 · have := List.pairwise_iff_getElem.1 h.incr j i (by simpa using hj) (by simpa using hi) q
   simp at this; omega
theorem Ok.par {s : Ck} (h : Ok s) {i : Nat} (hi : i < s.scs.length) : s.scs[i].parent = 0 ∨ ∃ j, ∃ hj : j < i, (s.scs[j]'(by omega)).id = s.scs[i].parent ∧ s.scs[i].dl ≤ (s.scs[j]'(by omega)).dl ∧ (s.scs[i].why = 0 → (s.scs[j]'(by omega)).why = 0) := by
 have h3 := (h.form i hi).2.2
 rw [gdl hi] at h3
 rcases h3 with h3 | ⟨p, p1, p2, p3, p4⟩
 · exact .inl h3
 · right
   rw [List.mem_take_iff_getElem] at p1
   obtain ⟨j, hj, rfl⟩ := p1
   exact ⟨j, by omega, p2, p3, p4⟩
theorem Ok.pos {s : Ck} (h : Ok s) {i : Nat} (hi : i < s.scs.length) : 0 < s.scs[i].id := by
 have := (h.rng.2.2.2 _ (List.getElem_mem hi)).1.1
 omega
theorem Ok.un_ge {s : Ck} (h : Ok s) {k : Nat} (hk : k < s.scs.length) : ∀ {i : Nat}, i < s.scs.length → unB s.scs s.scs[k].id i = true → k ≤ i := by
 intro i
 induction i using Nat.strongRecOn with
 | ind i ih =>
   intro hi hu
   rw [unB_iff, gdl hi] at hu
   have hp := h.pos hk
   rcases hu with hu | hu | ⟨j, h1, h2, h3⟩
   · have := h.inj hi hk hu; omega
   · rcases h.par hi with q | ⟨j, hj, q1, _⟩
     · omega
     · have := h.inj (by omega) hk (q1.trans hu); omega
   · have := ih j h1 (by omega) h2; omega
theorem Ok.un_cons {s : Ck} (h : Ok s) {k : Nat} (hk : k < s.scs.length) : ∃ tl, unI s.scs s.scs[k].id s.scs.length = k :: tl ∧ ∀ i, i ∈ tl ↔ (i < s.scs.length ∧ unB s.scs s.scs[k].id i = true ∧ i ≠ k) := by
 have hm := unI_mem hk rfl
 have hp : (unI s.scs s.scs[k].id s.scs.length).Pairwise (· < ·) := by
   unfold unI; exact List.pairwise_lt_range.filter _
 have hiff : ∀ i, i ∈ unI s.scs s.scs[k].id s.scs.length ↔ (i < s.scs.length ∧ unB s.scs s.scs[k].id i = true) := fun i => by
   unfold unI; rw [List.mem_filter, List.mem_range]
 generalize unI s.scs s.scs[k].id s.scs.length = is at *
 rcases is with _ | ⟨a, tl⟩
 · cases hm
 rw [List.pairwise_cons] at hp
 have ha := (hiff a).1 (by simp)
 have hak := h.un_ge hk ha.1 ha.2
 have hka : a = k := by
   rcases List.mem_cons.1 hm with q | q
   · exact q.symm
   · have := hp.1 k q; omega
 subst hka
 refine ⟨tl, rfl, fun i => ⟨fun hi => ?_, fun hi => ?_⟩⟩
 · have h1 := (hiff i).1 (List.mem_cons_of_mem _ hi)
   have h2 := hp.1 i hi
   exact ⟨h1.1, h1.2, by omega⟩
 · rcases List.mem_cons.1 ((hiff i).2 ⟨hi.1, hi.2.1⟩) with q | q
   · exact absurd q hi.2.2
   · exact q
theorem canS_id (x : Sc) : (canS x).id = x.id ∧ (canS x).parent = x.parent ∧ (canS x).dl = x.dl ∧ (canS x).why = if x.why = 0 then 1 else x.why := by
 unfold canS; split <;> simp_all
theorem canL_in {l : List Sc} {j : Nat} (hj : j < l.length) : ∀ {is : List Nat}, is.Nodup → j ∈ is → (canL l is).getD j default = canS (l.getD j default) := fun {is} => by
 unfold canL
 induction is generalizing l with
 | nil => intro _ h; cases h
 | cons i is ih =>
   intro hn h
   rw [List.nodup_cons] at hn
   rw [List.foldl_cons]
   by_cases e : j = i
   · subst e
     have h2 := canL_other (l.set j (canS (l.getD j default))) is hn.1
     unfold canL at h2
     rw [h2]
     simp [hj]
   · have h3 : j ∈ is := by rcases List.mem_cons.1 h with q | q; exact absurd q e; exact q
     rw [ih (by simpa using hj) hn.2 h3]
     congr 1
     simp only [List.getD_eq_getElem?_getD]
     rw [List.getElem?_set_ne (Ne.symm e)]
theorem can_at {l : List Sc} {top : Int} {i : Nat} (hi : i < l.length) : (canL l (unI l top l.length)).getD i default = if unB l top i = true then canS (l.getD i default) else l.getD i default := by
 by_cases c : unB l top i = true
 · rw [if_pos c]
   exact canL_in hi (unI_nodup _ _ _) (by unfold unI; exact List.mem_filter.2 ⟨by simpa using hi, c⟩)
 · rw [if_neg c]
   exact canL_other _ _ fun q => c (by unfold unI at q; exact (List.mem_filter.1 q).2)
theorem form_same {now now' : Int} {l l' : List Sc} (h : FormS now l) (hl : l'.length = l.length) (hs : ∀ i, i < l.length → (l'.getD i default).id = (l.getD i default).id ∧ (l'.getD i default).parent = (l.getD i default).parent ∧ (l'.getD i default).dl = (l.getD i default).dl)
   (ho : ∀ i, i < l.length → okS now' (l'.getD i default)) (hp : ∀ i j, i < l.length → j < i → (l.getD j default).id = (l.getD i default).parent → (l'.getD i default).why = 0 → ((l.getD i default).why = 0 → (l.getD j default).why = 0) → (l'.getD j default).why = 0) : FormS now' l' := by
 intro i hi
 rw [hl] at hi
 obtain ⟨f1, f2, f3⟩ := h i hi
 obtain ⟨s1, s2, s3⟩ := hs i hi
 refine ⟨?_, ho i hi, ?_⟩
 · have : lastId l' i = lastId l i := by
     unfold lastId
     split
     · rfl
     · exact (hs (i - 1) (by omega)).1
   rw [this, s1]; exact f1
 · rw [s2, s3]
   rcases f3 with f3 | ⟨p, p1, p2, p3, p4⟩
   · exact .inl f3
   · right
     rw [List.mem_take_iff_getElem] at p1
     obtain ⟨j, hj, rfl⟩ := p1
     have hjl : j < l.length := by omega
     have hji : j < i := by omega
     obtain ⟨t1, t2, t3⟩ := hs j hjl
     rw [gdl hjl] at t1 t3
     have hjl' : j < l'.length := by omega
     refine ⟨l'.getD j default, ?_, by rw [t1]; exact p2, by rw [t3]; exact p3, fun hw => hp i j hi hji (by rw [gdl hjl]; exact p2) hw (by rw [gdl hjl]; exact p4)⟩
     rw [gdl hjl', List.mem_take_iff_getElem]
     exact ⟨j, by omega, rfl⟩
theorem map_id_of {l l' : List Sc} (hl : l'.length = l.length) (hs : ∀ i, i < l.length → (l'.getD i default).id = (l.getD i default).id) : l'.map (·.id) = l.map (·.id) := by
 apply List.ext_getElem (by simpa using hl)
 intro i h1 h2
 simp only [List.length_map] at h1 h2
 have := hs i h2
 rw [gdl h1, gdl h2] at this
 simpa using this
theorem Ok.can {s : Ck} (h : Ok s) {k : Nat} (hk : k < s.scs.length) : Ok (canK s s.scs[k].id) := by
 have hat := fun {i : Nat} (hi : i < s.scs.length) => can_at (top := s.scs[k].id) hi
 have hl : (canL s.scs (unI s.scs s.scs[k].id s.scs.length)).length = s.scs.length := canL_len _ _
 have hK : canK s s.scs[k].id = { s with scs := canL s.scs (unI s.scs s.scs[k].id s.scs.length) } := rfl
 rw [hK]
 generalize canL s.scs (unI s.scs s.scs[k].id s.scs.length) = l' at *
 have hsame : ∀ i, i < s.scs.length → (l'.getD i default).id = (s.scs.getD i default).id ∧ (l'.getD i default).parent = (s.scs.getD i default).parent ∧ (l'.getD i default).dl = (s.scs.getD i default).dl := fun i hi => by
   rw [hat hi]
   obtain ⟨c1, c2, c3, _⟩ := canS_id (s.scs.getD i default)
   split
   · exact ⟨c1, c2, c3⟩
   · exact ⟨rfl, rfl, rfl⟩
 refine ⟨⟨h.len.1, by show l'.length ≤ 500; rw [hl]; exact h.len.2⟩, ⟨h.rng.1, h.rng.2.1, h.rng.2.2.1, fun x hx => ?_⟩, ?_, h.srt, form_same h.form hl hsame (fun i hi => ?_) fun i j hi hj he hw hpw => ?_⟩
 · obtain ⟨i, hi, rfl⟩ := List.getElem_of_mem hx
   have hi' : i < s.scs.length := by rw [← hl]; exact hi
   have h2 := h.rng.2.2.2 _ (List.getElem_mem hi')
   have h3 := hat hi'
   rw [gdl hi'] at h3
   show rngS s.next l'[i]
   rw [← gdl hi, h3]
   obtain ⟨c1, c2, c3, c4⟩ := canS_id s.scs[i]
   unfold rngS at h2 ⊢
   split
   · rw [c1, c3, c4]
     refine ⟨h2.1, h2.2.1, ?_⟩
     split <;> omega
   · exact h2
 · show ((s.ts.map (·.id)) ++ l'.map (·.id)).Nodup
   rw [map_id_of hl fun i hi => (hsame i hi).1]
   exact h.nd
 · have h2 := (h.form i hi).2.1
   rw [hat hi]
   obtain ⟨c1, c2, c3, c4⟩ := canS_id (s.scs.getD i default)
   show okS s.now _
   unfold okS at h2 ⊢
   split
   · rw [c3, c4]
     split <;> omega
   · exact h2
 · have hjl : j < s.scs.length := by omega
   rw [hat hi] at hw
   rw [hat hjl]
   have hii : (s.scs.getD i default).why = 0 ∧ ¬ unB s.scs s.scs[k].id i = true := by
     by_cases c : unB s.scs s.scs[k].id i = true
     · rw [if_pos c, (canS_id _).2.2.2] at hw
       split at hw
       · cases hw
       · exact absurd hw ‹_›
     · rw [if_neg c] at hw; exact ⟨hw, c⟩
   have hnj : ¬ unB s.scs s.scs[k].id j = true := fun q => hii.2 (unB_iff.2 (.inr (.inr ⟨j, hj, q, he⟩)))
   rw [if_neg hnj]
   exact hpw hii.1
theorem scpX_is {s : Ck} (h : Ok s) {p d : Int} (he : scpE s 0 p d = 0) : (0 ≤ d ∧ d ≤ 1000000000001) ∧ s.scs.length < 500 ∧ s.next < 1000000000000000 ∧ (scpX s p d).id = s.next ∧ (scpX s p d).parent = p ∧ (0 ≤ (scpX s p d).dl ∧ (scpX s p d).dl ≤ 1000000000001) ∧ (0 ≤ (scpX s p d).why ∧ (scpX s p d).why ≤ 2) ∧ okS s.now (scpX s p d) ∧ (p = 0 ∨ ∃ q, q ∈ s.scs ∧ q.id = p ∧ (scpX s p d).dl ≤ q.dl ∧ ((scpX s p d).why = 0 → q.why = 0)) := by
 have hl := h.len.2
 have hnx := h.rng.2.1
 have hnow := h.rng.1
 unfold scpE at he
 rw [if_neg (by simp)] at he
 by_cases h1 : d < 0 ∨ 1000000000001 < d
 · rw [if_pos h1] at he; cases he
 rw [if_neg h1] at he
 by_cases h2 : p ≠ 0 ∧ fidx s.scs p = none
 · rw [if_pos h2] at he; cases he
 rw [if_neg h2] at he
 by_cases h3 : s.scs.length = 500 ∨ s.next = 1000000000000000
 · rw [if_pos h3] at he; cases he
 refine ⟨by omega, by omega, by omega, ?_⟩
 obtain ⟨X0, hX0, b1, b2, b3, b4, b5, b6⟩ : ∃ X0, scp0 s p d = X0 ∧ X0.id = s.next ∧ X0.parent = p ∧ (0 ≤ X0.dl ∧ X0.dl ≤ 1000000000001) ∧ (0 ≤ X0.why ∧ X0.why ≤ 2) ∧ (X0.why = 2 → X0.dl ≤ s.now) ∧ (p = 0 ∨ ∃ q, q ∈ s.scs ∧ q.id = p ∧ X0.dl ≤ q.dl ∧ (X0.why = 0 → q.why = 0)) := by
   refine ⟨_, rfl, ?_⟩
   unfold scp0
   by_cases hp : p = 0
   · rw [if_pos hp]
     exact ⟨rfl, rfl, by dsimp only; omega, by dsimp only; omega, (fun q => by cases q), .inl hp⟩
   · rw [if_neg hp]
     cases hx : fidx s.scs p with
     | none => exact absurd ⟨hp, hx⟩ h2
     | some k =>
       obtain ⟨hk, hke⟩ := fidx_some hx
       dsimp only
       rw [gdl hk]
       have hr := h.rng.2.2.2 _ (List.getElem_mem hk)
       have ho := (h.form k hk).2.1
       rw [gdl hk] at ho
       unfold rngS at hr
       unfold okS at ho
       refine ⟨rfl, rfl, by omega, by omega, fun q => by omega, .inr ⟨_, List.getElem_mem hk, hke, by omega, fun q => q⟩⟩
 unfold scpX
 rw [hX0]
 by_cases c : X0.why = 0 ∧ X0.dl ≤ s.now
 · rw [if_pos c]
   refine ⟨b1, b2, b3, by dsimp only; omega, ⟨(fun q => by cases q.1), fun q => by have := q.2; dsimp only at this; omega⟩, ?_⟩
   rcases b6 with b6 | ⟨q, q1, q2, q3, q4⟩
   · exact .inl b6
   · exact .inr ⟨q, q1, q2, q3, fun q => by cases q⟩
 · rw [if_neg c]
   exact ⟨b1, b2, b3, b4, ⟨c, fun q => by have := b5 q.1; omega⟩, b6⟩
theorem Ok.scp {s : Ck} (h : Ok s) {p d : Int} (he : scpE s 0 p d = 0) : Ok (scpS s p d) := by
 obtain ⟨_, c2, c3, c4, c5, c6, c7, c8, c9⟩ := scpX_is h he
 unfold scpS
 generalize scpX s p d = X at *
 have hid : ∀ x, x ∈ s.scs → x.id < s.next := fun x hx => by have := (h.rng.2.2.2 x hx).1.2; omega
 have hgd : ∀ {i}, i < s.scs.length → (s.scs ++ [X]).getD i default = s.scs.getD i default := fun {i} hi => by
   simp only [List.getD_eq_getElem?_getD]
   rw [List.getElem?_append_left hi]
 refine ⟨⟨h.len.1, by simp; omega⟩, ⟨h.rng.1, ⟨by have := h.rng.2.1; dsimp only; omega, by dsimp only; omega⟩, fun t ht => ?_, fun x hx => ?_⟩, ?_, h.srt, fun i hi => ?_⟩
 · obtain ⟨q1, q2⟩ := h.rng.2.2.1 t ht
   exact ⟨⟨q1.1, by dsimp only; omega⟩, q2⟩
 · rcases List.mem_append.1 hx with hx | hx
   · obtain ⟨q1, q2⟩ := h.rng.2.2.2 x hx
     exact ⟨⟨q1.1, by dsimp only; omega⟩, q2⟩
   · simp at hx; subst hx
     have := h.rng.2.1
     exact ⟨⟨by omega, by dsimp only; omega⟩, c6, c7⟩
 · show ((s.ts.map (·.id)) ++ (s.scs ++ [X]).map (·.id)).Nodup
   rw [List.map_append, ← List.append_assoc]
   refine List.nodup_append.2 ⟨h.nd, by simp, fun a ha b hb => ?_⟩
   simp at hb
   subst hb
   intro e
   rw [c4] at e
   rcases List.mem_append.1 ha with ha | ha
   · obtain ⟨x, hx, rfl⟩ := List.mem_map.1 ha
     have := (h.rng.2.2.1 x hx).1.2; omega
   · obtain ⟨x, hx, rfl⟩ := List.mem_map.1 ha
     have := hid x hx; omega
 · show FormAt s.now (s.scs ++ [X]) i
   by_cases hi2 : i < s.scs.length
   · obtain ⟨f1, f2, f3⟩ := h.form i hi2
     refine ⟨?_, by rw [hgd hi2]; exact f2, ?_⟩
     · rw [hgd hi2]
       have : lastId (s.scs ++ [X]) i = lastId s.scs i := by
         unfold lastId
         split
         · rfl
         · rw [hgd (by omega)]
       rw [this]; exact f1
     · rw [hgd hi2, List.take_append_of_le_length (by omega)]
       exact f3
   · have hi3 : i = s.scs.length := by simp at hi; omega
     subst hi3
     have hg : (s.scs ++ [X]).getD s.scs.length default = X := by simp
     refine ⟨?_, by rw [hg]; exact c8, ?_⟩
     · rw [hg, c4]
       unfold lastId
       split
       · have := h.rng.2.1; omega
       · rw [hgd (by omega), gdl (by omega)]
         exact hid _ (List.getElem_mem _)
     · rw [hg, c5, List.take_append_of_le_length (by omega), List.take_length]
       exact c9
theorem canE_ok {s : Ck} {id : Int} (h : canE s 0 id = 0) : ∃ k, ∃ hk : k < s.scs.length, s.scs[k].id = id ∧ s.scs[k].why = 0 := by
 unfold canE at h
 rw [if_neg (by simp)] at h
 cases hx : fidx s.scs id with
 | none => rw [hx] at h; cases h
 | some k =>
   rw [hx] at h
   obtain ⟨hk, hke⟩ := fidx_some hx
   dsimp only at h
   rw [gdl hk] at h
   refine ⟨k, hk, hke, ?_⟩
   by_cases c : s.scs[k].why = 0
   · exact c
   · rw [if_pos c] at h; cases h
theorem tikE_ok {s : Ck} {to : Int} (h : tikE s 0 to = 0) : s.now ≤ to ∧ to ≤ 1000000000000 := by
 unfold tikE at h
 rw [if_neg (by simp)] at h
 split at h
 · cases h
 · omega
end Go.Ck

set_option linter.unusedSimpArgs false
set_option linter.unusedVariables false
set_option maxRecDepth 100000
namespace Go.Ck
open Go Go.Pl
theorem aftE_ok {s : Ck} {a k o : Int} (h : aftE s 0 a k o = 0) : ((0 ≤ a ∧ a ≤ 1000000000000) ∧ (0 ≤ k ∧ k ≤ 1000) ∧ (0 ≤ o ∧ o ≤ 1000000000000000)) ∧ s.ts.length ≠ 2000 ∧ s.next ≠ 1000000000000000 := by
 unfold aftE at h
 rw [if_neg (by simp)] at h
 split at h
 · cases h
 · split at h
   · cases h
   · rename_i h1 h2
     exact ⟨Classical.not_not.1 h1, fun q => h2 (.inl q), fun q => h2 (.inr q)⟩
theorem insT_perm (l : List Tm) (t : Tm) : (insT l t).Perm (t :: l) := by
 unfold insT
 have := List.perm_middle (a := t) (l₁ := l.take (insI l t)) (l₂ := l.drop (insI l t))
 rwa [List.take_append_drop] at this
theorem Ok.aft {s : Ck} (h : Ok s) {a k o : Int} (he : aftE s 0 a k o = 0) : Ok (aftS s a k o) := by
 obtain ⟨c1, c2, c3⟩ := aftE_ok he
 have hnx := h.rng.2.1
 have hlt := h.len.1
 obtain ⟨t, ht⟩ : ∃ t, aftT s a k o = t := ⟨_, rfl⟩
 have hti : t.id = s.next ∧ t.at_ = a ∧ t.kind = k ∧ t.owner = o := by rw [← ht]; exact ⟨rfl, rfl, rfl, rfl⟩
 have hS : aftS s a k o = { s with next := s.next + 1, ts := insT s.ts t } := by unfold aftS; rw [ht]
 rw [hS]
 have hp := insT_perm s.ts t
 have hid : ∀ x, x ∈ s.ts → x.id < s.next := fun x hx => by have := (h.rng.2.2.1 x hx).1.2; omega
 have hids : ∀ x, x ∈ s.scs → x.id < s.next := fun x hx => by have := (h.rng.2.2.2 x hx).1.2; omega
 have hpw : (insT s.ts t).Pairwise Bf := by
   have h0 := h.pw
   unfold insT
   rw [List.pairwise_append]
   refine ⟨h0.sublist (List.take_sublist _ _), ?_, ?_⟩
   · rw [List.pairwise_cons]
     refine ⟨fun x hx => ?_, h0.sublist (List.drop_sublist _ _)⟩
     obtain ⟨j, hj, rfl⟩ := List.getElem_of_mem hx
     rw [List.getElem_drop]
     rw [List.length_drop] at hj
     have h1 := insI_hi (t := t) h.srt (q := insI s.ts t + j) (by omega) (by omega)
     rw [Go.Proofs.ord_lt] at h1
     have := hid _ (List.getElem_mem (show insI s.ts t + j < s.ts.length by omega))
     unfold Bf; omega
   · intro x hx y hy
     obtain ⟨i, hi, rfl⟩ := List.getElem_of_mem hx
     rw [List.length_take] at hi
     rw [List.getElem_take]
     have h1 := insI_lo (t := t) (q := i) (l := s.ts) (by omega) (by omega)
     rw [Go.Proofs.ord_lt] at h1
     rcases List.mem_cons.1 hy with rfl | hy
     · exact h1
     · obtain ⟨j, hj, rfl⟩ := List.getElem_of_mem hy
       rw [List.getElem_drop]
       rw [List.length_drop] at hj
       exact List.pairwise_iff_getElem.1 h0 i (insI s.ts t + j) (by omega) (by omega) (by omega)
 refine ⟨⟨by show (insT s.ts t).length ≤ 2000; rw [hp.length_eq]; simp; omega, h.len.2⟩, ⟨h.rng.1, ⟨by dsimp only; omega, by dsimp only; omega⟩, fun x hx => ?_, fun x hx => ?_⟩, ?_, srt_pw hpw, h.form⟩
 · rcases List.mem_cons.1 (hp.mem_iff.1 hx) with rfl | hx
   · obtain ⟨q1, q2, q3, q4⟩ := hti
     unfold rngT
     rw [q1, q2, q3, q4]
     exact ⟨⟨by omega, by dsimp only; omega⟩, c1⟩
   · obtain ⟨q1, q2⟩ := h.rng.2.2.1 x hx
     exact ⟨⟨q1.1, by dsimp only; omega⟩, q2⟩
 · obtain ⟨q1, q2⟩ := h.rng.2.2.2 x hx
   exact ⟨⟨q1.1, by dsimp only; omega⟩, q2⟩
 · show ((insT s.ts t).map (·.id) ++ s.scs.map (·.id)).Nodup
   have hp2 : ((insT s.ts t).map (·.id) ++ s.scs.map (·.id)).Perm (t.id :: (s.ts.map (·.id) ++ s.scs.map (·.id))) := (hp.map _).append_right _
   rw [hp2.nodup_iff, List.nodup_cons]
   refine ⟨fun q => ?_, h.nd⟩
   rw [hti.1] at q
   rcases List.mem_append.1 q with q | q
   · obtain ⟨x, hx, e⟩ := List.mem_map.1 q
     have := hid x hx; omega
   · obtain ⟨x, hx, e⟩ := List.mem_map.1 q
     have := hids x hx; omega
end Go.Ck

set_option linter.unusedSimpArgs false
set_option linter.unusedVariables false
set_option maxRecDepth 100000
namespace Go.Ck
open Go Go.Pl
def knE (s : Ck) (e h : Int) : Int := if e ≠ 0 then e else if fidx s.scs h = none then 4 else 0
theorem knE_ne {s : Ck} {e h : Int} (h0 : e ≠ 0) : knE s e h = e := by unfold knE; rw [if_pos h0]
theorem knE_no {s : Ck} {h : Int} (hx : fidx s.scs h = none) : knE s 0 h = 4 := by unfold knE; rw [if_neg (by simp), if_pos hx]
theorem knE_ok {s : Ck} {h : Int} {k : Nat} (hx : fidx s.scs h = some k) : knE s 0 h = 0 := by unfold knE; rw [if_neg (by simp), if_neg (by rw [hx]; simp)]
end Go.Ck
namespace Go.Proofs
open Go Go.Pl Go.Ck
theorem Try.rNew_c (now : Int) (bx : Boxes) : PureCall Try.prog 28 [.int .i64 now] bx (if 0 ≤ now ∧ now ≤ 1000000000000 then .tup [ckV ⟨now, 1, [], []⟩, .int .i64 0] else .tup [ckV ⟨0, 0, [], []⟩, .int .i64 7]) := by
 refine PureCall.wk (Try.ctr28 fun hf => ?_)
 simp [go_sem, Try.C28, hf]
 intro b1 hb1
 refine callK_pure (Try.btw_c _ _ _ _) ?_
 simp [go_sem, hf]
 have wN : ∀ a b : Int, ∀ k : Int, Wk (.tup [.agg [.int .i64 a, .int .i64 b, .nils, .nils], .int .i64 k]) (.tup [ckV ⟨a, b, [], []⟩, .int .i64 k]) := fun a b k =>
   wk_tup2 (wk_agg4 (Wk.refl _) (Wk.refl _) (wk_nils 4) (wk_nils 4)) (Wk.refl _)
 refine ⟨fun h => ?_, fun h1 h2 => ?_⟩
 · refine ret_drop (by simp [go_sem, upd_eq]) ((Ext.refl _).upd_own hb1 _) ⟨?_, rfl⟩
   rw [if_neg (by omega)]
   simp [go_sem, upd_eq]
   exact wN 0 0 7
 · refine ret_drop (by simp [go_sem, upd_eq]) ((Ext.refl _).upd_own hb1 _) ⟨?_, rfl⟩
   rw [if_pos ⟨h1, h2⟩]
   simp [go_sem, upd_eq]
   exact wN now 1 0
theorem Try.known_c (s : Ck) (e : Int) (he : Chk s e) (h : Int) (bx : Boxes) : PureCall Try.prog 81 [ckV s, .int .i64 h] bx (.int .i64 (knE s e h)) := by
 refine Try.ctr81 fun hf => ?_
 have cC := Try.rCheck_c s e he bx
 simp only [ckV] at cC ⊢
 simp [go_sem, Try.C81, hf]
 refine callK_pure cC ?_
 by_cases h0 : e = 0
 · subst h0
   have cF := Try.rfind_c s h (by have := he.ok.len.2; omega) bx
   unfold rfi at cF
   simp only [ckV] at cF
   cases hx : fidx s.scs h with
   | none =>
     rw [knE_no hx]
     rw [hx] at cF
     simp [go_sem, hf]
     refine gK_pure cF (by simp) (by simp [go_sem]) ?_
     simp [go_sem, hf]
     exact ret_pure (by simp [go_sem]) (by simp [go_sem])
   | some k =>
     rw [knE_ok hx]
     rw [hx] at cF
     have hk0 : ¬ (k : Int) < 0 := by omega
     simp [go_sem, hf]
     refine gK_pure cF (by simp) (by simp [go_sem]) ?_
     simp [go_sem, hf, hk0]
     exact ret_pure (by simp [go_sem]) (by simp [go_sem])
 · rw [knE_ne h0]
   simp [go_sem, hf, h0]
   refine gK_off (.int .i64 0) (by simp [go_sem]) ?_
   simp [go_sem, hf, h0]
   exact ret_pure (by simp [go_sem]) (by simp [go_sem])
theorem Try.rWhy_c (s : Ck) (e h : Int) (he : Chk s e) (bx : Boxes) : PureCall Try.prog 60 [ckV s, .int .i64 h] bx (whyR s e h) := by
 refine Try.ctr60 fun hf => ?_
 have cK := Try.known_c s e he h bx
 simp only [ckV] at cK ⊢
 simp [go_sem, Try.C60, hf]
 refine callK_pure cK ?_
 unfold whyR
 by_cases h0 : e = 0
 · subst h0
   have cF := Try.rfind_c s h (by have := he.ok.len.2; omega) bx
   unfold rfi at cF
   simp only [ckV] at cF
   cases hx : fidx s.scs h with
   | none =>
     rw [knE_no hx]
     simp [go_sem, hf]
     exact ret_pure (by simp [go_sem]) (by simp [go_sem])
   | some k =>
     obtain ⟨hk, hke⟩ := fidx_some hx
     rw [knE_ok hx]
     rw [hx] at cF
     simp [go_sem, hf]
     refine callK_pure cF ?_
     simp [go_sem, hf, hk, scV]
     exact ret_pure (by simp [go_sem]) (by simp [go_sem])
 · rw [knE_ne h0]
   simp [go_sem, hf, h0]
   exact ret_pure (by simp [go_sem]) (by simp [go_sem])
theorem Try.rLeft_c (s : Ck) (e h : Int) (he : Chk s e) (bx : Boxes) : PureCall Try.prog 61 [ckV s, .int .i64 h] bx (leftR s e h) := by
 refine Try.ctr61 fun hf => ?_
 have cK := Try.known_c s e he h bx
 simp only [ckV] at cK ⊢
 simp [go_sem, Try.C61, hf]
 refine callK_pure cK ?_
 unfold leftR
 by_cases h0 : e = 0
 · subst h0
   have cF := Try.rfind_c s h (by have := he.ok.len.2; omega) bx
   unfold rfi at cF
   simp only [ckV] at cF
   cases hx : fidx s.scs h with
   | none =>
     rw [knE_no hx]
     simp [go_sem, hf]
     exact ret_pure (by simp [go_sem]) (by simp [go_sem])
   | some k =>
     obtain ⟨hk, hke⟩ := fidx_some hx
     have hr := (he.ok.rng.2.2.2 _ (List.getElem_mem hk)).2.1
     have hn := he.ok.rng.1
     have hw : IntKind.i64.wrap (s.scs[k].dl - s.now) = s.scs[k].dl - s.now := wr64 (by omega)
     rw [knE_ok hx]
     rw [hx] at cF
     simp [go_sem, hf, fzAt, fzb]
     refine callK_pure cF ?_
     simp [go_sem, hf, hk, scV, fzAt, fzb]
     intro b7 hb7
     refine ⟨fun h2 => ret_drop (by simp [go_sem]) ((Ext.refl _).upd_own hb7 _) ⟨by simp [go_sem, leftN, h2], rfl⟩, fun h2 => ⟨fun h3 => ret_drop (by simp [go_sem]) ((Ext.refl _).upd_own hb7 _) ⟨by simp [go_sem, leftN, h2, h3], rfl⟩, fun h3 => ret_drop (by simp [go_sem]) ((Ext.refl _).upd_own hb7 _) ⟨by simp [go_sem, leftN, h2, h3, hw], rfl⟩⟩⟩
 · rw [knE_ne h0]
   simp [go_sem, hf, h0]
   exact ret_pure (by simp [go_sem]) (by simp [go_sem])
end Go.Proofs

set_option linter.unusedSimpArgs false
set_option linter.unusedVariables false
set_option maxRecDepth 100000
namespace Go.Ck
open Go Go.Pl
def tmn (l : List Tm) (k : Nat) : Int := (l.take k).foldl (fun d t => min d t.at_) 1000000000001
theorem tmn_succ {l : List Tm} {k : Nat} (h : k < l.length) : tmn l (k + 1) = min (tmn l k) l[k].at_ := by
 unfold tmn
 rw [List.take_add_one, List.getElem?_eq_getElem h, List.foldl_append]; rfl
theorem fold_ge : ∀ (l : List Tm) (d : Int), (∀ t, t ∈ l → d ≤ t.at_) → l.foldl (fun d t => min d t.at_) d = d
 | [], _, _ => rfl
 | t :: l, d, h => by
   have h1 := h t (by simp)
   rw [List.foldl_cons, Int.min_eq_left h1]
   exact fold_ge l d fun x hx => h x (List.mem_cons_of_mem _ hx)
theorem tmn_all {s : Ck} (h : Ok s) : tmn s.ts s.ts.length = due0 s := by
 unfold tmn due0
 rw [List.take_length]
 have hp := h.pw
 have hr := h.rng.2.2.1
 cases hts : s.ts with
 | nil => rfl
 | cons t l =>
   rw [hts] at hp hr
   have h1 := (hr t (by simp)).2.1
   rw [List.foldl_cons, Int.min_eq_right (by omega)]
   refine fold_ge l _ fun x hx => ?_
   have := (List.pairwise_cons.1 hp).1 x hx
   unfold Bf at this; omega
theorem Ok.un_par {s : Ck} (h : Ok s) {top : Int} (ht : 0 < top) {j : Nat} (hj : j < s.scs.length) (hne : s.scs[j].id ≠ top) :
   (s.scs[j].parent = 0 ∧ unB s.scs top j = false) ∨ ∃ j', ∃ hj' : j' < j, s.scs[j].parent = (s.scs[j']'(by omega)).id ∧ unB s.scs top j' = unB s.scs top j := by
 rcases h.par hj with h0 | ⟨j', hj', e, _⟩
 · left
   refine ⟨h0, ?_⟩
   cases c : unB s.scs top j with
   | false => rfl
   | true =>
     rw [unB_iff, gdl hj] at c
     rcases c with c | c | ⟨j2, c1, c2, c3⟩
     · exact absurd c hne
     · omega
     · have hj2 : j2 < s.scs.length := by omega
       rw [gdl hj2] at c3
       have := h.pos hj2; omega
 · right
   refine ⟨j', hj', e.symm, ?_⟩
   have hjl : j' < s.scs.length := by omega
   rw [Bool.eq_iff_iff]
   constructor
   · intro c
     rw [unB_iff, gdl hj]
     exact .inr (.inr ⟨j', hj', c, by rw [gdl hjl]; exact e⟩)
   · intro c
     rw [unB_iff, gdl hj] at c
     rcases c with c | c | ⟨j2, c1, c2, c3⟩
     · exact absurd c hne
     · rw [unB_iff, gdl hjl]; left; rw [e]; exact c
     · have hj2 : j2 < s.scs.length := by omega
       rw [gdl hj2] at c3
       have := h.inj hj2 hjl (c3.trans e.symm)
       subst this; exact c2
def blI (l : List Sc) (h : Int) (k : Nat) : List Nat := (List.range k).filter fun i => decide ((l.getD i default).id ≠ h) && unB l h i
theorem blI_succ (l : List Sc) (h : Int) (k : Nat) : blI l h (k + 1) = blI l h k ++ if (l.getD k default).id ≠ h ∧ unB l h k = true then [k] else [] := by
 unfold blI
 rw [List.range_succ, List.filter_append]
 congr 1
 by_cases c : (l.getD k default).id ≠ h ∧ unB l h k = true
 · rw [if_pos c, List.filter_cons_of_pos (by simp only [ne_eq, Bool.and_eq_true, decide_eq_true_eq]; exact c)]; rfl
 · rw [if_neg c, List.filter_cons_of_neg (by simp only [ne_eq, Bool.and_eq_true, decide_eq_true_eq]; exact c)]; rfl
theorem blI_len (l : List Sc) (h : Int) (k : Nat) : (blI l h k).length ≤ k := by
 unfold blI; exact Nat.le_trans (List.length_filter_le _ _) (by simp)
theorem Ok.bl_all {s : Ck} (h : Ok s) {k : Nat} (hk : k < s.scs.length) : (blI s.scs s.scs[k].id s.scs.length).map (fun i => (s.scs.getD i default).id) = (unN s.scs s.scs[k].id).drop 1 := by
 obtain ⟨tl, h1, h2⟩ := h.un_cons hk
 have e : blI s.scs s.scs[k].id s.scs.length = (unI s.scs s.scs[k].id s.scs.length).filter fun i => decide ((s.scs.getD i default).id ≠ s.scs[k].id) := by
   unfold blI unI
   rw [List.filter_filter]
 have hn := unI_nodup s.scs s.scs[k].id s.scs.length
 unfold unN
 rw [e, h1]
 rw [h1, List.nodup_cons] at hn
 rw [List.filter_cons_of_neg (by rw [gdl hk]; simp), List.filter_eq_self.2 (fun i hi => ?_)]
 · simp
 · obtain ⟨q1, q2, q3⟩ := (h2 i).1 hi
   rw [gdl q1]
   simp only [ne_eq, decide_eq_true_eq]
   exact fun e => q3 (h.inj q1 hk e)
end Go.Ck
namespace Go.Proofs
open Go Go.Pl Go.Ck
theorem Try.rDue_c (s : Ck) (e : Int) (he : Chk s e) (bx : Boxes) : PureCall Try.prog 56 [ckV s] bx (dueR s e) := by
 refine Try.ctr56 fun hf => ?_
 have cC := Try.rCheck_c s e he bx
 simp only [ckV] at cC ⊢
 simp [go_sem, Try.C56, hf]
 refine callK_pure cC ?_
 unfold dueR
 by_cases h0 : e = 0
 · subst h0
   have ho := he.ok
   have hlen := ho.len
   have hkn : dueK s s.scs.length = dueN s := by unfold dueK dueN; rw [List.take_length]
   have h00 : dueK s 0 = due0 s := by simp [dueK]
   simp [go_sem, hf]
   refine pw_upto s.ts.length (fun k => ⟨53, slk [(1, .ep (ckV s) 0), (5, .int .i64 (tmn s.ts k)), (6, .int .i64 k)], bx⟩) (cov_look (by simp [go_sem, ckV, tmn])) (fun k hk N hN => ?_) fun N => ?_
   · have hw := wr_succ (k := k) (by omega)
     rw [tmn_succ hk] at hN
     simp [go_sem, Try.L56_0, hf, hk, ckV, tmV]
     exact hN _ (cov_look (by simp [go_sem, hw, ckV, tmV, imin]))
   · rw [tmn_all ho]
     simp [go_sem, Try.L56_0, hf, ckV]
     refine pw_upto s.scs.length (fun k => ⟨53, slk [(1, .ep (ckV s) 0), (5, .int .i64 (dueK s k)), (7, .int .i64 k)], bx⟩) (cov_look (by simp [go_sem, ckV, h00])) (fun k hk N hN => ?_) fun N => ?_
     · have hw := wr_succ (k := k) (by omega)
       rw [dueK_succ hk] at hN
       simp [go_sem, Try.L56_1, hf, hk, scV, ckV]
       refine ⟨fun h7 => ?_, fun h7 => ?_⟩
       · rw [if_pos h7] at hN
         exact hN _ (cov_look (by simp [go_sem, hw, ckV, scV, imin]))
       · rw [if_neg h7] at hN
         exact hN _ (cov_look (by simp [go_sem, hw, ckV, scV]))
     · simp [go_sem, Try.L56_1, hf, ckV, hkn]
       refine ⟨fun h7 => ret_pure (by simp [go_sem]) (by simp [go_sem, h7]), fun h7 => ret_pure (by simp [go_sem]) (by simp [go_sem, h7])⟩
 · simp [go_sem, hf, h0]
   exact ret_pure (by simp [go_sem]) (by simp [go_sem])
theorem Try.rUnder_c (s : Ck) (ho : Ok s) (i : Nat) (hi : i < s.scs.length) (top : Int) (ht : 0 < top) (bx : Boxes) : PureCall Try.prog 82 [ckV s, .int .i64 s.scs[i].id, .int .i64 top] bx (.bool (unB s.scs top i)) := by
 refine Try.ctr82 fun hf => ?_
 have cF := fun h => Try.rfind_c s h (by have := ho.len.2; omega) bx
 simp only [ckV] at cF ⊢
 simp [go_sem, Try.C82, hf]
 refine pw_loop (ι := Int × Nat) (fun p => (∃ j, ∃ hj : j < s.scs.length, p.1 = s.scs[j].id ∧ unB s.scs top j = unB s.scs top i ∧ p.2 = j + 1) ∨ (p.1 = 0 ∧ unB s.scs top i = false ∧ p.2 = 0))
   (fun p => ⟨25, slk [(1, .int .i64 p.1), (2, .int .i64 top), (3, .ep (ckV s) 0)], bx⟩) (fun p => p.2) (s.scs[i].id, i + 1) (.inl ⟨i, hi, rfl, rfl, rfl⟩) (cov_look (by simp [go_sem, ckV])) ?_
 rintro ⟨c, m⟩ hI
 dsimp only at hI ⊢
 rcases hI with ⟨j, hj, rfl, hu, rfl⟩ | ⟨rfl, hu, rfl⟩
 · have hpos := ho.pos hj
   by_cases h1 : s.scs[j].id = top
   · have hub : unB s.scs top i = true := by rw [← hu, unB_iff, gdl hj]; exact .inl h1
     simp [go_sem, Try.L82_0, hf, h1, ckV]
     exact ret_pure (by simp [go_sem]) (by simp [go_sem, hub])
   · have h2 : ¬ s.scs[j].id = 0 := by omega
     have cF2 := cF s.scs[j].id
     unfold rfi at cF2
     rw [fidx_of hj rfl ho.incr] at cF2
     simp [go_sem, Try.L82_0, hf, h1, h2, ckV]
     refine callK_pure cF2 ?_
     simp [go_sem, hf, hj, scV]
     rcases ho.un_par ht hj h1 with ⟨q1, q2⟩ | ⟨j', hj', q1, q2⟩
     · exact ⟨(0, 0), .inr ⟨rfl, by rw [← hu]; exact q2, rfl⟩, cov_look (by simp [go_sem, q1, ckV, scV]), by dsimp only; omega⟩
     · have hjl : j' < s.scs.length := by omega
       refine ⟨((s.scs[j']'hjl).id, j' + 1), Or.inl ⟨j', ⟨hjl, rfl⟩, q2.trans hu, rfl⟩, cov_look ?_, ?_⟩
       · simp [go_sem, q1, ckV, scV]
       · dsimp only; omega
 · have h1 : ¬ (0 : Int) = top := by omega
   simp [go_sem, Try.L82_0, hf, h1, ckV]
   exact ret_pure (by simp [go_sem]) (by simp [go_sem, hu])
theorem Try.rBelow_c (s : Ck) (e : Int) (he : Chk s e) (h : Int) (bx : Boxes) : PureCall Try.prog 62 [ckV s, .int .i64 h] bx (belR s e h) := by
 refine PureCall.wk (Try.ctr62 fun hf => ?_)
 have cK := Try.known_c s e he h bx
 simp only [ckV] at cK ⊢
 simp [go_sem, Try.C62, hf]
 refine callK_pure cK ?_
 unfold belR
 by_cases h0 : e = 0
 · subst h0
   have ho := he.ok
   have hsl := ho.len.2
   cases hx : fidx s.scs h with
   | none =>
     rw [knE_no hx]
     simp [go_sem, hf]
     exact ret_drop (by simp [go_sem]) (Ext.refl _) ⟨by simp [go_sem]; exact wk_tup2 (wk_nils 1) (Wk.refl _), rfl⟩
   | some k =>
     obtain ⟨hk, rfl⟩ := fidx_some hx
     have hpos := ho.pos hk
     rw [knE_ok hx]
     simp [go_sem, hf]
     refine pw_for (ι := Boxes × V) s.scs.length (fun m p => Acc bx 2 1 ((blI s.scs s.scs[k].id m).map fun i => V.int .i64 (s.scs.getD i default).id) p.2 p.1)
       (fun m p => ⟨51, slk [(1, .int .i64 s.scs[k].id), (2, .ep (ckV s) 0), (7, p.2), (8, .int .i64 m)], p.1⟩)
       (bx, .nils) (acc_nil hf _ _) (cov_look (by simp [go_sem, ckV])) (fun m p hm hJ N hN => ?_) (fun p hJ N => ?_)
     · obtain ⟨bxk, v⟩ := p
       dsimp only at hJ hN ⊢
       have hw := wr_succ (k := m) (by omega)
       have hbl := blI_len s.scs s.scs[k].id m
       have cU := Try.rUnder_c s ho m hm s.scs[k].id hpos bxk
       simp only [ckV] at cU
       rw [blI_succ, gdl hm] at hN
       have lv := hJ.live
       have ls := hJ.strip
       have lc := hJ.cells
       have lo := hJ.okV
       by_cases c1 : s.scs[m].id = s.scs[k].id
       · rw [if_neg (fun q => q.1 c1), List.append_nil] at hN
         simp [go_sem, Try.L62_0, hJ.fin, hm, c1, ckV, scV, lv, ls, lc, lo]
         refine gK_off (.bool false) (by simp [go_sem]) ?_
         simp [go_sem, hJ.fin, lv, ls, lc, lo]
         exact hN _ (bxk, v) hJ (cov_look (by simp [go_sem, hw, ckV, scV]))
       · simp [go_sem, Try.L62_0, hJ.fin, hm, c1, ckV, scV, lv, ls, lc, lo]
         refine gK_pure cU (by simp) (by simp [go_sem]) ?_
         by_cases c2 : unB s.scs s.scs[k].id m = true
         · rw [if_pos ⟨c1, c2⟩, List.map_append] at hN
           simp only [List.map_cons, List.map_nil, gdl hm] at hN
           simp [go_sem, hJ.fin, hm, c2, scV, lv, ls, lc, lo]
           refine acc_append (.int .i64 0) hJ (Ext.refl _) hJ.fin Try.knd29 Try.tsz2 (by simp [srcEls]; rfl) Try.tzero2 (by simp [go_sem]) (by decide) (by simp [Try.tby2]; omega) (by simp; omega) (by simp [go_sem]) fun v' bx3 ha => ?_
           simp [go_sem, ha.live, ha.strip, ha.cells, ha.okV]
           exact hN _ (bx3, v') ha (cov_look (by simp [go_sem, hw, ckV, scV]))
         · have c2' : unB s.scs s.scs[k].id m = false := by simpa using c2
           rw [if_neg (fun q => c2 q.2), List.append_nil] at hN
           simp [go_sem, hJ.fin, c2', lv, ls, lc, lo]
           exact hN _ (bxk, v) hJ (cov_look (by simp [go_sem, hw, ckV, scV]))
     · obtain ⟨bxk, v⟩ := p
       dsimp only at hJ ⊢
       have hall := ho.bl_all hk
       obtain ⟨B, hS, hn⟩ := hJ.sl
       simp [go_sem, Try.L62_0, hJ.fin, hJ.live, hJ.strip, hJ.cells, hJ.okV, ckV]
       refine ret_frz 3 (by simp [go_sem, hJ.live]) hJ.ext ⟨?_, rfl⟩
       simp [go_sem, hJ.strip]
       refine wk_tup2 ?_ (Wk.refl _)
       have := sl_frz (bx' := bx) ⟨bxk, Ext.refl _, hS⟩ hn (by decide) 1 (fun y hy => by obtain ⟨q, _, rfl⟩ := List.mem_map.1 hy; simp [go_sem])
       rw [show (blI s.scs s.scs[k].id s.scs.length).map (fun i => V.int .i64 (s.scs.getD i default).id) = ((blI s.scs s.scs[k].id s.scs.length).map (fun i => (s.scs.getD i default).id)).map (.int .i64) from by simp, hall] at this
       rw [← List.map_tail, ← List.drop_one]
       exact this
 · rw [knE_ne h0]
   simp [go_sem, hf, h0]
   exact ret_drop (by simp [go_sem]) (Ext.refl _) ⟨by simp [go_sem]; exact wk_tup2 (wk_nils 1) (Wk.refl _), rfl⟩
end Go.Proofs

set_option linter.unusedSimpArgs false
set_option linter.unusedVariables false
set_option maxRecDepth 100000
namespace Go.Proofs
open Go Go.Pl Go.Ck
theorem Try.copied_c (s : Ck) (hs : s.scs.length ≤ 100000) {bx : Boxes} (hf0 : FinB bx) : AbsCall Try.prog 79 [ckV s] bx fun r bx' => ∃ v, r = .agg [.int .i64 s.now, .int .i64 s.next, .sl 4 (s.ts.map tmV), v] ∧ Acc bx 51 4 (s.scs.map scV) v bx' := by
 refine Try.ctr79 fun hf => ?_
 simp only [ckV]
 simp [go_sem, Try.C79, hf]
 intro b1 hb1 b2 hb2
 have n12 : b1 ≠ b2 := fun e => by rw [e, upd_eq] at hb2; cases hb2
 have hb2' : bx b2 = none := by rw [upd_ne _ _ n12.symm] at hb2; exact hb2
 generalize hbx : upd (upd bx b1 _) b2 _ = bxx
 have x1 : bxx b1 = some (.row 25 4 [.agg [.int .i64 s.now, .int .i64 s.next, .sl 4 (s.ts.map tmV), .sl 4 (s.scs.map scV)]]) := by rw [← hbx, upd_ne _ _ n12, upd_eq]
 have x2 : bxx b2 = some (.row 25 4 [.agg [.int .i64 0, .int .i64 0, .nils, .nils]]) := by rw [← hbx, upd_eq]
 have hxe : Ext bx bxx := by rw [← hbx]; exact ((Ext.refl bx).upd_own hb1 _).upd_own hb2' _
 have hxf : FinB bxx := by rw [← hbx]; exact (finB_upd _ _ _).2 ((finB_upd _ _ _).2 hf)
 clear hbx hb2
 intro b3 hb3
 have n31 : b1 ≠ b3 := fun e => by rw [← e, x1] at hb3; cases hb3
 simp [go_sem, hxf, x1, upd_ne, n31]
 refine acc_append (.agg #[.int .i64 0, .int .i64 0, .int .i64 0, .int .i64 0]) (acc_new hb3 hxf 51 4 [] 0 rfl) (Ext.refl _) ((finB_upd _ _ _).2 hxf) Try.knd23 Try.tsz51 (news := s.scs.map scV) (by simp [srcEls]) Try.tzero51 (by simp [go_sem]) (by decide) (by simp [Try.tby51]; omega) (by simp; omega) (by simp [go_sem]) fun v bx3 ha => ?_
 rw [List.nil_append] at ha
 have y1 := (ha.ext b1 (by rw [x1]; simp)).trans x1
 have y2 := (ha.ext b2 (by rw [x2]; simp)).trans x2
 simp [go_sem, ha.fin, y1, y2, ha.live, ha.strip, ha.cells, ha.okV, upd_eq, upd_ne, n12, n12.symm]
 obtain ⟨B, hS, hn⟩ := ha.sl
 rcases ha.is with ⟨q1, rfl⟩ | ⟨c, q1, rfl, q3⟩
 · refine ret_drop (by simp [go_sem, upd_eq]) (((hxe.trans ha.ext).upd_own hb1 _).upd_own hb2' _) ⟨.nils, by simp [go_sem, upd_eq], by rw [q1]; exact acc_nil hf0 _ _⟩
 · have c1 : c ≠ b1 := fun e => by rw [e, x1] at q1; cases q1
   have c2 : c ≠ b2 := fun e => by rw [e, x2] at q1; cases q1
   refine ret_drop (bx := upd bx c (some (.row 51 4 (s.scs.map scV)))) (by simp [go_sem, upd_eq]) (fun d hd => ?_) ⟨.own c 4 0 (s.scs.map scV).length, by simp [go_sem, upd_eq], ?_⟩
   · by_cases e : d = c
     · rw [e]
       show upd (upd bx3 b1 _) b2 _ c = _
       rw [upd_ne _ _ c2, upd_ne _ _ c1, upd_eq]; exact q3
     · rw [upd_ne _ _ e] at hd ⊢
       exact (((hxe.trans ha.ext).upd_own hb1 _).upd_own hb2' _) d hd
   · exact ⟨(Ext.refl bx).upd_own (hxe.none q1) _, (finB_upd _ _ _).2 hf0, .inr ⟨c, hxe.none q1, rfl, upd_eq _ _ _⟩⟩
set_option maxHeartbeats 2000000 in
theorem Try.rCancel_c (s : Ck) (e : Int) (he : Chk s e) (h : Int) (bx : Boxes) : PureCall Try.prog 59 [ckV s, .int .i64 h] bx (canR s e h) := by
 refine PureCall.wk (Try.ctr59 fun hf => ?_)
 have bad : ∀ q, canE s e h = q → q ≠ 0 → ∀ sv, sv = ckV s → Wk (.tup [sv, .nils, .int .i64 q]) (canR s e h) := fun q h1 h2 sv hsv => by
   unfold canR; rw [h1, if_neg h2, hsv]
   exact wk_tup3 (Wk.refl _) (wk_nils 1) (Wk.refl _)
 have cK := fun bx => Try.known_c s e he h bx
 simp only [ckV] at cK ⊢
 simp [go_sem, Try.C59, hf]
 intro b4 hb4
 generalize hbx : upd bx b4 _ = bxx
 have x4 : bxx b4 = some (.row 25 4 [.agg [.int .i64 0, .int .i64 0, .nils, .nils]]) := by rw [← hbx, upd_eq]
 have hxe : Ext bx bxx := by rw [← hbx]; exact (Ext.refl bx).upd_own hb4 _
 have hxf : FinB bxx := by rw [← hbx]; exact (finB_upd _ _ _).2 hf
 clear hbx
 refine callK_pure (cK _) ?_
 by_cases h0 : e = 0
 rotate_left
 · rw [knE_ne h0]
   simp [go_sem, hxf, h0, x4, upd_eq]
   refine ret_drop (by simp [go_sem, upd_eq]) (hxe.upd_own hb4 _) ⟨?_, rfl⟩
   simp [go_sem, upd_eq]
   exact bad e (by unfold canE; rw [if_pos h0]) h0 _ rfl
 subst h0
 have ho := he.ok
 have hscl := ho.len.2
 have cF := fun bx => Try.rfind_c s h (by omega) bx
 unfold rfi at cF
 simp only [ckV] at cF
 cases hx : fidx s.scs h with
 | none =>
   rw [knE_no hx]
   simp [go_sem, hxf, x4, upd_eq]
   refine ret_drop (by simp [go_sem, upd_eq]) (hxe.upd_own hb4 _) ⟨?_, rfl⟩
   simp [go_sem, upd_eq]
   exact bad 4 (by unfold canE; rw [if_neg (by simp), hx]) (by decide) _ rfl
 | some k =>
   obtain ⟨hk, rfl⟩ := fidx_some hx
   have hpos := ho.pos hk
   rw [hx] at cF
   rw [knE_ok hx]
   simp [go_sem, hxf]
   refine callK_pure (cF _) ?_
   by_cases hw0 : s.scs[k].why = 0
   rotate_left
   · simp [go_sem, hxf, hk, scV, hw0, x4, upd_eq]
     refine ret_drop (by simp [go_sem, upd_eq]) (hxe.upd_own hb4 _) ⟨?_, rfl⟩
     simp [go_sem, upd_eq]
     refine bad 9 (by unfold canE; rw [if_neg (by simp), hx]; simp [hk, hw0]) (by decide) _ ?_
     simp [ckV]
   have hE : canE s 0 s.scs[k].id = 0 := by unfold canE; rw [if_neg (by simp), hx]; simp [hk, hw0]
   have hR0 : canR s 0 s.scs[k].id = .tup [ckV (canK s s.scs[k].id), .sl 1 ((canI s.scs (unI s.scs s.scs[k].id s.scs.length)).map (.int .i64)), .int .i64 0] := by unfold canR; rw [if_pos hE]
   have hK0 : ckV (canK s s.scs[k].id) = .agg [.int .i64 s.now, .int .i64 s.next, .sl 4 (s.ts.map tmV), .sl 4 ((canL s.scs (unI s.scs s.scs[k].id s.scs.length)).map scV)] := rfl
   rw [hR0, hK0]
   clear hR0 hK0 bad hE cK cF
   have cP := Try.copied_c s (by omega) (bx := bxx) hxf
   simp only [ckV] at cP
   simp [go_sem, hxf, hk, scV, hw0]
   refine callK_abs cP ?_
   rintro r bx1 ⟨v, rfl, ha⟩
   obtain ⟨bS, hbS, rfl, hrS⟩ := ha.row (by intro e; rw [List.map_eq_nil_iff] at e; rw [e] at hk; simp at hk)
   have y4 := (ha.ext b4 (by rw [x4]; simp)).trans x4
   have nS4 : bS ≠ b4 := fun e => by rw [e, x4] at hbS; cases hbS
   simp [go_sem, ha.fin]
   intro b8 hb8
   rw [upd_self hb8]
   obtain ⟨R, hR⟩ : ∃ R : Boxes, R = upd (fun _ => none) b4 (some (.row 25 4 [.agg [.int .i64 0, .int .i64 0, .nils, .nils]])) := ⟨_, rfl⟩
   have hR4 : R b4 = some (.row 25 4 [.agg [.int .i64 0, .int .i64 0, .nils, .nils]]) := by rw [hR]; simp [upd_eq]
   have hRn : ∀ c, R c ≠ none → c = b4 := fun c hc => by
     by_cases e4 : c = b4
     · exact e4
     · rw [hR, upd_ne _ _ e4] at hc; exact absurd rfl hc
   clear hR
   refine pw_for (ι := Boxes × V) s.scs.length (fun m p => ∃ B2, Tw bx p.1 R 51 4 ((canL s.scs (unI s.scs s.scs[k].id m)).map scV) (.own bS 4 0 s.scs.length) (some bS) 2 1 ((canI s.scs (unI s.scs s.scs[k].id m)).map (.int .i64)) p.2 B2)
     (fun m p => ⟨71, slk [(1, .int .i64 s.scs[k].id), (2, .ep (ckV s) 0), (4, .ptr b4 4 0 0), (8, .ep (.agg [.int .i64 s.now, .int .i64 s.next, .sl 4 (s.ts.map tmV), .own bS 4 0 s.scs.length]) 0), (9, p.2), (10, .int .i64 m)], p.1⟩)
     (bx1, .nils) ⟨none, Tw.mk' (hxe.trans ha.ext) (fun c hc => ?_) ha.fin (fun c hc => ?_) ⟨bx1, Ext.refl _, .inr ⟨bS, by simp [canL, unI], by simpa [canL, unI] using hrS, rfl⟩⟩ ⟨fun _ => none, fun c hc => absurd rfl hc, by simpa [canI, unI] using Sl.nil⟩ (fun b hb => by injection hb with hb; rw [← hb]; exact hxe.none hbS) (fun b hb => by cases hb) (fun c hc => ⟨?_, by simp⟩) (fun b hb => by simp)⟩ (cov_look (by simp [go_sem, ckV])) (fun m p hm hJ N hN => ?_) (fun p hJ N => ?_)
   · obtain rfl := hRn c hc
     show bx1 c = _
     rw [y4, hR4]
   · obtain rfl := hRn c hc
     exact hb4
   · obtain rfl := hRn c hc
     intro e; injection e with e; exact nS4 e
   · obtain ⟨bxk, v⟩ := p
     dsimp only at hJ hN ⊢
     obtain ⟨B2, hT⟩ := hJ
     have hw := wr_succ (k := m) (by omega)
     have hnm : m ∉ unI s.scs s.scs[k].id m := fun q => by have := unI_lt q; omega
     have c1 := canL_snoc s.scs (unI s.scs s.scs[k].id m) m
     have c2 := canI_snoc s.scs (unI s.scs s.scs[k].id m) m
     have c3 := canL_other s.scs (unI s.scs s.scs[k].id m) hnm
     have c4 := canL_len s.scs (unI s.scs s.scs[k].id m)
     rw [c3, gdl hm] at c1
     rw [gdl hm] at c2 c3
     have cEl : (canI s.scs (unI s.scs s.scs[k].id m)).length ≤ 500 := by
       have := unI_len s.scs s.scs[k].id m
       unfold canI; rw [List.length_map]; exact Nat.le_trans (List.length_filter_le _ _) (by omega)
     have hkL : m < (canL s.scs (unI s.scs s.scs[k].id m)).length := by omega
     have m1 : (canL s.scs (unI s.scs s.scs[k].id m))[m] = s.scs[m] := by rw [← c3]; simp [hkL]
     rw [unI_succ] at hN
     have cU := Try.rUnder_c s ho m hm s.scs[k].id hpos bxk
     simp only [ckV] at cU
     obtain ⟨lv, ls, lc, lo⟩ := hT.l2
     have r4 := hT.at hR4
     have rS := (hT.at1 rfl).2
     by_cases cw : s.scs[m].why = 0
     · have hs2 : canS s.scs[m] = { s.scs[m] with why := 1 } := by unfold canS; rw [if_pos cw]
       rw [if_pos cw] at c2
       rw [hs2] at c1
       by_cases cu : unB s.scs s.scs[k].id m = true
       · rw [if_pos cu, c1, c2] at hN
         generalize canL s.scs (unI s.scs s.scs[k].id m) = L at *
         generalize canI s.scs (unI s.scs s.scs[k].id m) = E at *
         simp [go_sem, Try.L59_0, hT.fin, rS, c4, hm, hkL, m1, cw, lv, ls, lc, lo, scV, ckV]
         refine gK_pure cU (by simp) (by simp [go_sem]) ?_
         simp [go_sem, hT.fin, rS, c4, hm, hkL, m1, cw, cu, lv, ls, lc, lo, scV, ckV]
         have g0 := hT.put1 rfl (E' := (L.map scV).set m (.agg [.int .i64 s.scs[m].id, .int .i64 s.scs[m].parent, .int .i64 s.scs[m].dl, .int .i64 1])) (by simp)
         refine g0.app2 (.int .i64 0) Try.knd29 Try.tsz2 (news := [.int .i64 s.scs[m].id]) (by simp [srcEls]) Try.tzero2 (by simp [go_sem]) (by decide) (by simp [Try.tby2]; omega) (by simp; omega) (by simp [go_sem]) fun v' B' bx3 g1 => ?_
         obtain ⟨lv, ls, lc, lo⟩ := g1.l2
         simp [go_sem, g1.fin, lv, ls, lc, lo]
         refine hN _ (bx3, v') ⟨B', ?_⟩ (cov_look (by simp [go_sem, hw, ckV]))
         rw [List.map_set, List.map_append]
         exact g1
       · have cu' : unB s.scs s.scs[k].id m = false := by simpa using cu
         rw [if_neg cu, List.append_nil] at hN
         generalize canL s.scs (unI s.scs s.scs[k].id m) = L at *
         generalize canI s.scs (unI s.scs s.scs[k].id m) = E at *
         simp [go_sem, Try.L59_0, hT.fin, rS, c4, hm, hkL, m1, cw, lv, ls, lc, lo, scV, ckV]
         refine gK_pure cU (by simp) (by simp [go_sem]) ?_
         simp [go_sem, hT.fin, rS, c4, hm, hkL, m1, cw, cu', lv, ls, lc, lo, scV, ckV]
         exact hN _ (bxk, v) ⟨B2, hT⟩ (cov_look (by simp [go_sem, hw, ckV]))
     · have hs2 : canS s.scs[m] = s.scs[m] := by unfold canS; rw [if_neg cw]
       rw [if_neg cw, List.append_nil] at c2
       rw [hs2] at c1
       have hN2 : ∀ st : St, Cov st ⟨71, slk [(1, .int .i64 s.scs[k].id), (2, .ep (ckV s) 0), (4, .ptr b4 4 0 0), (8, .ep (.agg [.int .i64 s.now, .int .i64 s.next, .sl 4 (s.ts.map tmV), .own bS 4 0 s.scs.length]) 0), (9, v), (10, .int .i64 (m + 1 : Nat))], bxk⟩ → N st := fun st hst => hN st (bxk, v) (by
         by_cases cu : unB s.scs s.scs[k].id m = true
         · rw [if_pos cu, c1, c2, show (canL s.scs (unI s.scs s.scs[k].id m)).set m s.scs[m] = canL s.scs (unI s.scs s.scs[k].id m) by rw [← m1]; exact List.set_getElem_self hkL]
           exact ⟨B2, hT⟩
         · rw [if_neg cu, List.append_nil]
           exact ⟨B2, hT⟩) hst
       clear hN c1 c2
       generalize canL s.scs (unI s.scs s.scs[k].id m) = L at *
       generalize canI s.scs (unI s.scs s.scs[k].id m) = E at *
       simp [go_sem, Try.L59_0, hT.fin, rS, c4, hm, hkL, m1, cw, lv, ls, lc, lo, scV, ckV]
       refine gK_off (.bool false) (by simp [go_sem]) ?_
       simp [go_sem, hT.fin, lv, ls, lc, lo]
       exact hN2 _ (cov_look (by simp [go_sem, hw, ckV]))
   · obtain ⟨bxk, v⟩ := p
     dsimp only at hJ ⊢
     obtain ⟨B2, hT⟩ := hJ
     obtain ⟨lv, ls, lc, lo⟩ := hT.l2
     have r4 := hT.at hR4
     simp [go_sem, Try.L59_0, hT.fin, (hT.at1 rfl).2, r4, lv, ls, lc, lo, ckV]
     have hx9 : Ext bx (upd bxk b4 (some (.row 25 4 [.agg [.int .i64 s.now, .int .i64 s.next, .sl 4 (s.ts.map tmV), .own bS 4 0 s.scs.length]]))) := hT.eb.upd_own hb4 _
     obtain ⟨q1, q2⟩ := hT.dR b4 (by rw [hR4]; simp)
     have f1 := sl_frz (bx' := bx) (sl_self (bx' := upd bxk b4 (some (.row 25 4 [.agg [.int .i64 s.now, .int .i64 s.next, .sl 4 (s.ts.map tmV), .own bS 4 0 s.scs.length]]))) (pr := bx) hT.s1 fun b hB => upd_ne _ _ fun e => q1 (by rw [← e]; exact hB)) hT.n1 (by decide) 0 fun y _ => frz_0 _ _ _
     have f2 := sl_frz (bx' := bx) (sl_self (bx' := upd bxk b4 (some (.row 25 4 [.agg [.int .i64 s.now, .int .i64 s.next, .sl 4 (s.ts.map tmV), .own bS 4 0 s.scs.length]]))) (pr := bx) hT.s2 fun b hB => upd_ne _ _ fun e => q2 (by rw [← e]; exact hB)) hT.n2 (by decide) 1 fun y hy => by
       obtain ⟨q, _, rfl⟩ := List.mem_map.1 hy
       simp [go_sem]
     refine ret_frz 3 (by simp [go_sem, upd_eq]) hx9 ⟨?_, rfl⟩
     simp [go_sem, upd_eq]
     exact wk_tup3 (wk_agg4 (Wk.refl _) (Wk.refl _) (Wk.refl _) f1) f2 (Wk.refl _)
end Go.Proofs

set_option linter.unusedSimpArgs false
set_option linter.unusedVariables false
set_option maxRecDepth 100000
namespace Go.Pl
open Go
theorem app_view {P : Program} {n : Nat} {sl : Nat → V} {bx : Boxes} {b sz k : Nat} {e : TypeId} {es news : List V} {t : TypeId} {dst : Option Tmp} {K : St → Prop} {x : V} (z : Value) (hb : bx b = some (.row e sz es)) (hf : FinB bx) (hk : knd P t = .slice e) (hsz : tsz P e = sz) (src : srcEls ⟨n, sl, bx⟩ sz x = some news)
   (hz : tzero P e = some z) (hst : storable P e (ofValue z)) (hpos : 0 < sz) (hkl : k ≤ es.length) (hby : (k + news.length) * tby P e ≤ 140737488355328) (hlen : k + news.length ≤ 9223372036854775807) (hd : dstOk ⟨n, sl, bx⟩ dst)
   (hK : ∀ b', upd bx b none b' = none → K (St.put ⟨n, sl, upd (upd bx b none) b' (some (.row e sz (es.take k ++ news)))⟩ dst (.own b' sz 0 (k + news.length)))) : appendA P ⟨n, sl, bx⟩ dst t (.own b sz 0 k) x K := by
 subst hsz
 unfold appendA
 simp only [hk, src, hz, hb]
 exact ⟨hst, hpos, hd, hf, trivial, trivial, trivial, hkl, hby, hlen, hK⟩
end Go.Pl
namespace Go.Ck
theorem gdl' {l : List Tm} {k : Nat} (hk : k < l.length) : l.getD k default = l[k] := by simp [hk]
end Go.Ck
namespace Go.Proofs
open Go Go.Pl Go.Ck
set_option maxHeartbeats 2000000 in
theorem Try.rForget_c (s : Ck) (e : Int) (he : Chk s e) (h : Int) (bx : Boxes) : PureCall Try.prog 63 [ckV s, .int .i64 h] bx (forR s e h) := by
 refine PureCall.wk (Try.ctr63 fun hf => ?_)
 have bad : ∀ q, forE s e h = q → q ≠ 0 → forR s e h = .tup [ckV s, .int .i64 q] := fun q h1 h2 => by
   unfold forR; rw [h1, if_neg h2]
 have cB := fun bx => Try.rBelow_c s e he h bx
 simp only [ckV] at cB ⊢
 simp [go_sem, Try.C63, hf]
 intro b4 hb4
 generalize hbx : upd bx b4 _ = bxx
 have x4 : bxx b4 = some (.row 25 4 [.agg [.int .i64 0, .int .i64 0, .nils, .nils]]) := by rw [← hbx, upd_eq]
 have hxe : Ext bx bxx := by rw [← hbx]; exact (Ext.refl bx).upd_own hb4 _
 have hxf : FinB bxx := by rw [← hbx]; exact (finB_upd _ _ _).2 hf
 clear hbx
 refine callK_pure (cB _) ?_
 unfold belR
 by_cases h0 : e = 0
 rotate_left
 · rw [bad e (by unfold forE; rw [if_pos h0]) h0]
   simp [go_sem, hxf, h0, x4, upd_eq]
   refine ret_drop (by simp [go_sem, upd_eq]) (hxe.upd_own hb4 _) ⟨?_, rfl⟩
   simp [go_sem, upd_eq, ckV]
   exact Wk.refl _
 subst h0
 have ho := he.ok
 have hscl := ho.len.2
 have cF := fun bx => Try.rfind_c s h (by omega) bx
 unfold rfi at cF
 simp only [ckV] at cF
 cases hx : fidx s.scs h with
 | none =>
   rw [bad 4 (by unfold forE; rw [if_neg (by simp), hx]) (by decide)]
   simp [go_sem, hxf, x4, upd_eq]
   refine ret_drop (by simp [go_sem, upd_eq]) (hxe.upd_own hb4 _) ⟨?_, rfl⟩
   simp [go_sem, upd_eq, ckV]
   exact Wk.refl _
 | some k =>
   obtain ⟨hk, rfl⟩ := fidx_some hx
   rw [hx] at cF
   have hul := unI_len s.scs s.scs[k].id s.scs.length
   have hE : forE s 0 s.scs[k].id = if s.scs[k].why = 0 ∨ 1 < (unI s.scs s.scs[k].id s.scs.length).length then 9 else 0 := by unfold forE; rw [if_neg (by simp), hx]; simp only [gdl hk]
   have hll : ((unN s.scs s.scs[k].id).drop 1).length = (unI s.scs s.scs[k].id s.scs.length).length - 1 := by simp [unN]
   generalize hdl : (unN s.scs s.scs[k].id).drop 1 = dl at *
   generalize unI s.scs s.scs[k].id s.scs.length = is at *
   simp [go_sem, hxf]
   refine callK_pure (cF _) ?_
   by_cases hw0 : s.scs[k].why = 0
   · rw [bad 9 (by rw [hE, if_pos (.inl hw0)]) (by decide)]
     simp [go_sem, hxf, hk, scV, hw0, x4, upd_eq]
     refine ret_drop (by simp [go_sem, upd_eq]) (hxe.upd_own hb4 _) ⟨?_, rfl⟩
     simp [go_sem, upd_eq, ckV]
     exact Wk.refl _
   by_cases h1 : 1 < is.length
   · have h1' : (0 : Int) < dl.length := by omega
     have h1'' : 0 < dl.length := by omega
     rw [bad 9 (by rw [hE, if_pos (.inr h1)]) (by decide)]
     simp [go_sem, hxf, hk, scV, hw0, h1', h1'', x4, upd_eq]
     refine ret_drop (by simp [go_sem, upd_eq]) (hxe.upd_own hb4 _) ⟨?_, rfl⟩
     simp [go_sem, upd_eq, ckV]
     exact Wk.refl _
   have h1' : dl = [] := List.eq_nil_of_length_eq_zero (by omega)
   have hE0 : forE s 0 s.scs[k].id = 0 := by rw [hE, if_neg (by rintro (q | q) <;> contradiction)]
   have hR : forR s 0 s.scs[k].id = .tup [.agg [.int .i64 s.now, .int .i64 s.next, .sl 4 (s.ts.map tmV), .sl 4 ((s.scs.map scV).take k ++ (s.scs.map scV).drop (k + 1))], .int .i64 0] := by
     unfold forR forS
     rw [if_pos hE0, hx]
     simp [ckV, List.map_take, List.map_drop]
   rw [hR]
   have hwk : IntKind.i64.wrap ((k : Int) + 1) = (k : Int) + 1 := wr64 (by omega)
   have cP := Try.copied_c s (by omega) (bx := bxx) hxf
   simp only [ckV] at cP
   simp [go_sem, hxf, hk, scV, hw0, h1']
   refine callK_abs cP ?_
   rintro r bx1 ⟨v, rfl, ha⟩
   obtain ⟨bS, hbS, rfl, hrS⟩ := ha.row (by intro e; rw [List.map_eq_nil_iff] at e; rw [e] at hk; simp at hk)
   have y4 := (ha.ext b4 (by rw [x4]; simp)).trans x4
   have nS4 : bS ≠ b4 := fun e => by rw [e, x4] at hbS; cases hbS
   simp [go_sem, ha.fin]
   intro b9 hb9
   have n49 : b4 ≠ b9 := fun e => by rw [← e, y4] at hb9; cases hb9
   have nS9 : bS ≠ b9 := fun e => by rw [← e, hrS] at hb9; cases hb9
   have hk1 : (k : Int) + 1 ≤ s.scs.length := by omega
   have hk2 : ((k : Int) + 1).toNat = k + 1 := by omega
   have hk3 : (0 : Int) ≤ (k : Int) + 1 := by omega
   have hk4 : (k : Int) ≤ s.scs.length := by omega
   have htk : (s.scs.map scV).take s.scs.length = s.scs.map scV := List.take_of_length_le (by simp)
   simp [go_sem, ha.fin, upd_eq, upd_ne, n49, n49.symm, nS9, nS9.symm, hwk, hk1, hk2, hk3, hk4, htk, hrS]
   refine ⟨by omega, app_view (.agg #[.int .i64 0, .int .i64 0, .int .i64 0, .int .i64 0]) (by rw [upd_ne _ _ nS9]; exact hrS) ((finB_upd _ _ _).2 ha.fin) Try.knd23 Try.tsz51 (news := (s.scs.map scV).drop (k + 1)) (by simp [srcEls]) Try.tzero51 (by simp [go_sem]) (by decide) (by simp; omega) (by simp [Try.tby51]; omega) (by simp; omega) (by simp [go_sem]) fun b' hb' => ?_⟩
   have hbb : bx bS = none := hxe.none hbS
   have nb9 : b9 ≠ b' := fun e => by rw [← e, upd_ne _ _ nS9.symm, upd_eq] at hb'; cases hb'
   have nb4 : b4 ≠ b' := fun e => by rw [← e, upd_ne _ _ nS4.symm, upd_ne _ _ n49, y4] at hb'; cases hb'
   have hb'0 : bx b' = none := by
     by_cases e : b' = bS
     · rw [e]; exact hbb
     · rw [upd_ne _ _ e, upd_ne _ _ nb9.symm] at hb'
       exact (hxe.trans ha.ext).none hb'
   have hb90 : bx b9 = none := (hxe.trans ha.ext).none hb9
   generalize hbq : upd (upd (upd bx1 b9 _) bS none) b' _ = bxq
   have z9 : bxq b9 = some (.row 25 4 [.agg [.int .i64 s.now, .int .i64 s.next, .sl 4 (s.ts.map tmV), .own bS 4 0 s.scs.length]]) := by rw [← hbq, upd_ne _ _ nb9, upd_ne _ _ nS9.symm, upd_eq]
   have z4 : bxq b4 = some (.row 25 4 [.agg [.int .i64 0, .int .i64 0, .nils, .nils]]) := by rw [← hbq, upd_ne _ _ nb4, upd_ne _ _ nS4.symm, upd_ne _ _ n49]; exact y4
   have zb : bxq b' = some (.row 51 4 ((s.scs.map scV).take k ++ (s.scs.map scV).drop (k + 1))) := by rw [← hbq, upd_eq]
   have zf : FinB bxq := by rw [← hbq]; exact (finB_upd _ _ _).2 ((finB_upd _ _ _).2 ((finB_upd _ _ _).2 ha.fin))
   have zx : Ext bx bxq := by rw [← hbq]; exact (((hxe.trans ha.ext).upd_own hb90 _).upd_own hbb _).upd_own hb'0 _
   clear hbq
   simp [go_sem, zf, z9, z4, upd_eq, upd_ne, n49, n49.symm]
   generalize hbr : upd (upd bxq b9 _) b4 _ = bxr
   have r4 : bxr b4 = some (.row 25 4 [.agg [.int .i64 s.now, .int .i64 s.next, .sl 4 (s.ts.map tmV), .own b' 4 0 (k + (s.scs.length - (k + 1)))]]) := by rw [← hbr, upd_eq]
   have rb : bxr b' = some (.row 51 4 ((s.scs.map scV).take k ++ (s.scs.map scV).drop (k + 1))) := by rw [← hbr, upd_ne _ _ nb4.symm, upd_ne _ _ nb9.symm]; exact zb
   have rx : Ext bx bxr := by rw [← hbr]; exact (zx.upd_own hb90 _).upd_own hb4 _
   clear hbr
   refine ret_frz 3 (by simp [go_sem, r4]) rx ⟨?_, rfl⟩
   simp [go_sem, r4]
   rw [frz_own1 rb hb'0 (by decide) (by simp; omega)]
   exact Wk.refl _
set_option maxHeartbeats 2000000 in
theorem Try.rStop_c (s : Ck) (e : Int) (he : Chk s e) (h : Int) (bx : Boxes) : PureCall Try.prog 55 [ckV s, .int .i64 h] bx (stpR s e h) := by
 refine PureCall.wk (Try.ctr55 fun hf => ?_)
 have cC := fun bx => Try.rCheck_c s e he bx
 have bad : ∀ q, stpE s e h = q → q ≠ 0 → stpR s e h = .tup [ckV s, tmV ⟨0, 0, 0, 0⟩, .int .i64 q] := fun q h1 h2 => by
   unfold stpR; rw [h1, if_neg h2]
 simp only [ckV] at cC ⊢
 simp [go_sem, Try.C55, hf]
 intro b2 hb2 b4 hb4 b5 hb5
 have n24 : b2 ≠ b4 := fun e => by rw [e, upd_eq] at hb4; cases hb4
 have n45 : b4 ≠ b5 := fun e => by rw [e, upd_eq] at hb5; cases hb5
 have n25 : b2 ≠ b5 := fun e => by rw [← e, upd_ne _ _ n24, upd_eq] at hb5; cases hb5
 have hb4' : bx b4 = none := by rw [upd_ne _ _ n24.symm] at hb4; exact hb4
 have hb5' : bx b5 = none := by rw [upd_ne _ _ n45.symm, upd_ne _ _ n25.symm] at hb5; exact hb5
 generalize hbx : upd (upd (upd bx b2 _) b4 _) b5 _ = bxx
 have x5 : bxx b5 = some (.row 35 4 [.agg [.int .i64 0, .int .i64 0, .int .i64 0, .int .i64 0]]) := by rw [← hbx, upd_eq]
 have x4 : bxx b4 = some (.row 25 4 [.agg [.int .i64 0, .int .i64 0, .nils, .nils]]) := by rw [← hbx, upd_ne _ _ n45, upd_eq]
 have x2 : bxx b2 = some (.row 25 4 [.agg [.int .i64 s.now, .int .i64 s.next, .sl 4 (s.ts.map tmV), .sl 4 (s.scs.map scV)]]) := by rw [← hbx, upd_ne _ _ n25, upd_ne _ _ n24, upd_eq]
 have hxe : Ext bx bxx := by rw [← hbx]; exact (((Ext.refl bx).upd_own hb2 _).upd_own hb4' _).upd_own hb5' _
 have hxf : FinB bxx := by rw [← hbx]; simp [go_sem, hf]
 clear hbx hb4 hb5
 simp [go_sem, hxf, x2]
 refine callK_pure (cC _) ?_
 by_cases h0 : e = 0
 rotate_left
 · rw [bad e (by unfold stpE; rw [if_pos h0]) h0]
   simp [go_sem, hxf, h0, x2, x4, x5, upd_eq, upd_ne, n24, n24.symm, n25, n25.symm, n45, n45.symm]
   refine ret_drop (by simp [go_sem, upd_eq, upd_ne, n45, n45.symm]) ((hxe.upd_own hb4' _).upd_own hb5' _) ⟨?_, rfl⟩
   simp [go_sem, upd_eq, upd_ne, n45, n45.symm, ckV, tmV]
   exact Wk.refl _
 subst h0
 have ho := he.ok
 have htl := ho.len.1
 simp [go_sem, hxf, x2]
 refine pw_find s.ts.length (fun i => decide ((s.ts.getD i default).id = h)) (fun i => ⟨54, slk [(1, .int .i64 h), (2, .ptr b2 4 0 0), (4, .ptr b4 4 0 0), (5, .ptr b5 4 0 0), (8, .int .i64 i)], bxx⟩) (cov_look (by simp [go_sem])) (fun k hk hJ N hN => ?_) (fun hJ N => ?_)
 · have hw := wr_succ (k := k) (by omega)
   rw [gdl' hk] at hN
   by_cases c : s.ts[k].id = h
   · have hx : tidx s.ts h = some k := tidx_of hk c fun j hj => by simpa using hJ j hj
     have hR : stpR s 0 h = .tup [.agg [.int .i64 s.now, .int .i64 s.next, .sl 4 ((s.ts.map tmV).take k ++ (s.ts.map tmV).drop (k + 1)), .sl 4 (s.scs.map scV)], tmV s.ts[k], .int .i64 0] := by
       have hE : stpE s 0 h = 0 := by unfold stpE; rw [if_neg (by simp), hx]
       unfold stpR stpS stpT
       rw [if_pos hE, hx]
       simp [ckV, List.map_take, List.map_drop, hk]
     rw [hR]
     have hwk : IntKind.i64.wrap ((k : Int) + 1) = (k : Int) + 1 := wr64 (by omega)
     have hk1 : (k : Int) + 1 ≤ s.ts.length := by omega
     have hk2 : ((k : Int) + 1).toNat = k + 1 := by omega
     have hk3 : (0 : Int) ≤ (k : Int) + 1 := by omega
     have hk4 : (k : Int) ≤ s.ts.length := by omega
     have hk5 : k ≤ s.ts.length := by omega
     have htk : (s.ts.map tmV).take s.ts.length = s.ts.map tmV := List.take_of_length_le (by simp)
     simp [go_sem, Try.L55_0, hxf, x2, hk, c, tmV]
     intro b9 hb9
     rw [upd_self hb9]
     intro b10 hb10
     have n2a : b2 ≠ b10 := fun e => by rw [← e, x2] at hb10; cases hb10
     simp [go_sem, hxf, x2, upd_ne, n2a, hk, hk1, hk2, hk3, hk4, hk5, hwk, htk, tmV, fzAt, fzb]
     refine acc_append (.agg #[.int .i64 0, .int .i64 0, .int .i64 0, .int .i64 0]) (acc_new hb10 hxf 35 4 [] 0 rfl) (Ext.refl _) ((finB_upd _ _ _).2 hxf) Try.knd22 Try.tsz35 (news := (s.ts.map tmV).take k) (by simp [srcEls]) Try.tzero35 (by simp [go_sem]) (by decide) (by simp [Try.tby35]; omega) (by simp; omega) (by simp [go_sem]) fun v bx3 ha => ?_
     rw [List.nil_append] at ha
     have y2 := (ha.ext b2 (by rw [x2]; simp)).trans x2
     simp [go_sem, ha.fin, y2, ha.live, ha.strip, ha.cells, ha.okV, hk, hk1, hk2, hk3, hk4, hk5, hwk, htk, tmV, fzAt, fzb]
     refine acc_append (.agg #[.int .i64 0, .int .i64 0, .int .i64 0, .int .i64 0]) ha (Ext.refl _) ha.fin Try.knd22 Try.tsz35 (news := (s.ts.map tmV).drop (k + 1)) (by simp [srcEls]) Try.tzero35 (by simp [go_sem]) (by decide) (by simp [Try.tby35]; omega) (by simp; omega) (by simp [go_sem]) fun v2 bx4 hb => ?_
     have z2 := (hb.ext b2 (by rw [x2]; simp)).trans x2
     have z4 := (hb.ext b4 (by rw [x4]; simp)).trans x4
     have z5 := (hb.ext b5 (by rw [x5]; simp)).trans x5
     obtain ⟨B, hS, hn⟩ := hb.sl
     have nB2 : B ≠ some b2 := fun e => by have := hn b2 e; rw [x2] at this; cases this
     have nB4 : B ≠ some b4 := fun e => by have := hn b4 e; rw [x4] at this; cases this
     have nB5 : B ≠ some b5 := fun e => by have := hn b5 e; rw [x5] at this; cases this
     simp [go_sem, hb.fin, z2, z4, z5, hb.live, hb.strip, hb.cells, hb.okV, upd_eq, upd_ne, n24, n24.symm, n25, n25.symm, n45, n45.symm, fzAt, fzb, tmV]
     generalize hbz : upd (upd (upd bx4 b2 _) b4 _) b5 _ = bxz
     have q4 : bxz b4 = some (.row 25 4 [.agg [.int .i64 s.now, .int .i64 s.next, v2, .sl 4 (s.scs.map scV)]]) := by rw [← hbz, upd_ne _ _ n45, upd_eq]
     have q5 : bxz b5 = some (.row 35 4 [.agg [.int .i64 h, .int .i64 s.ts[k].at_, .int .i64 s.ts[k].kind, .int .i64 s.ts[k].owner]]) := by rw [← hbz, upd_eq]
     have hx9 : Ext bx bxz := by rw [← hbz]; exact (((hxe.trans hb.ext).upd_own hb2 _).upd_own hb4' _).upd_own hb5' _
     have f1 := sl_frz (bx' := bx) (sl_self (bx' := bxz) (pr := bx) ⟨bx4, Ext.refl _, hS⟩ fun b hB => by
       rw [← hbz, upd_ne _ _ fun e => nB5 (by rw [← e]; exact hB), upd_ne _ _ fun e => nB4 (by rw [← e]; exact hB), upd_ne _ _ fun e => nB2 (by rw [← e]; exact hB)]) (fun b hb => hxe.none (hn b hb)) (by decide) 0 fun y _ => frz_0 _ _ _
     clear hbz
     refine ret_frz 3 (by simp [go_sem, q4, q5]) hx9 ⟨?_, rfl⟩
     simp [go_sem, q4, q5, hb.strip]
     exact wk_tup3 (wk_agg4 (Wk.refl _) (Wk.refl _) (by simpa using f1) (Wk.refl _)) (Wk.refl _) (Wk.refl _)
   · simp [go_sem, Try.L55_0, hxf, x2, hk, c, tmV]
     exact hN _ (by simpa using c) (cov_look (by simp [go_sem, hw, tmV]))
 · have hx : tidx s.ts h = none := tidx_no fun j hj => by simpa using hJ j hj
   rw [bad 4 (by unfold stpE; rw [if_neg (by simp), hx]) (by decide)]
   simp [go_sem, Try.L55_0, hxf, x2, x4, x5, upd_eq, upd_ne, n24, n24.symm, n25, n25.symm, n45, n45.symm]
   refine ret_drop (by simp [go_sem, upd_eq, upd_ne, n45, n45.symm]) ((hxe.upd_own hb4' _).upd_own hb5' _) ⟨?_, rfl⟩
   simp [go_sem, upd_eq, upd_ne, n45, n45.symm, ckV, tmV]
   exact Wk.refl _
end Go.Proofs

set_option linter.unusedSimpArgs false
set_option linter.unusedVariables false
set_option maxRecDepth 100000
namespace Go.Pl
open Go
theorem acc_beside {bx bx' : Boxes} {e sz : Nat} {es : List V} {v : V} (h : Acc bx e sz es v bx') {b : Nat} (hb : bx' b = none) (y : Box) : Acc (upd bx b (some y)) e sz es v (upd bx' b (some y)) := by
 refine ⟨fun c hc => ?_, (finB_upd _ _ _).2 h.fin, ?_⟩
 · by_cases q : c = b
   · rw [q, upd_eq, upd_eq]
   · rw [upd_ne _ _ q] at hc ⊢; rw [upd_ne _ _ q]; exact h.ext c hc
 · rcases h.is with q | ⟨c, q1, q2, q3⟩
   · exact .inl q
   · have n : c ≠ b := fun q => by rw [q, hb] at q3; cases q3
     exact .inr ⟨c, by rw [upd_ne _ _ n]; exact q1, q2, by rw [upd_ne _ _ n]; exact q3⟩
end Go.Pl
namespace Go.Proofs
open Go Go.Pl Go.Ck
set_option maxHeartbeats 4000000 in
theorem Try.rScope_c (s : Ck) (e : Int) (he : Chk s e) (p d : Int) (bx : Boxes) : PureCall Try.prog 58 [ckV s, .int .i64 p, .int .i64 d] bx (scpR s e p d) := by
 refine PureCall.wk (Try.ctr58 fun hf => ?_)
 have bad : ∀ k, scpE s e p d = k → k ≠ 0 → scpR s e p d = .tup [ckV s, .int .i64 0, .int .i64 k] := fun k h1 h2 => by unfold scpR; rw [h1, if_neg h2]
 have cC := fun bx => Try.rCheck_c s e he bx
 simp only [ckV] at cC ⊢
 simp [go_sem, Try.C58, hf]
 intro b6 hb6
 generalize hbx : upd bx b6 _ = bxx
 have x6 : bxx b6 = some (.row 25 4 [.agg [.int .i64 0, .int .i64 0, .nils, .nils]]) := by rw [← hbx, upd_eq]
 have hxe : Ext bx bxx := by rw [← hbx]; exact (Ext.refl bx).upd_own hb6 _
 have hxf : FinB bxx := by rw [← hbx]; exact (finB_upd _ _ _).2 hf
 clear hbx
 refine callK_pure (cC _) ?_
 by_cases h0 : e = 0
 rotate_left
 · rw [bad e (by unfold scpE; rw [if_pos h0]) h0]
   simp [go_sem, hxf, h0, x6, upd_eq]
   refine ret_drop (by simp [go_sem, upd_eq]) (hxe.upd_own hb6 _) ⟨?_, rfl⟩
   simp [go_sem, upd_eq, ckV]
   exact Wk.refl _
 subst h0
 have ho := he.ok
 have hscl := ho.len.2
 have hnx := ho.rng.2.1
 simp [go_sem, hxf]
 refine callK_pure (Try.btw_c _ _ _ _) ?_
 by_cases hd : 0 ≤ d ∧ d ≤ 1000000000001
 rotate_left
 · have hd' : (decide (0 ≤ d) && decide (d ≤ 1000000000001)) = false := by simpa using hd
   rw [bad 7 (by unfold scpE; rw [if_neg (by simp), if_pos (by omega)]) (by decide), hd']
   simp [go_sem, hxf, x6, upd_eq]
   refine ret_drop (by simp [go_sem, upd_eq]) (hxe.upd_own hb6 _) ⟨?_, rfl⟩
   simp [go_sem, upd_eq, ckV]
   exact Wk.refl _
 have hd' : (decide (0 ≤ d) && decide (d ≤ 1000000000001)) = true := by simpa using hd
 rw [hd']
 have cF := fun bx => Try.rfind_c s p (by omega) bx
 unfold rfi at cF
 simp only [ckV] at cF
 have hf0 : fidx s.scs 0 = none := by
   cases hx : fidx s.scs 0 with
   | none => rfl
   | some k =>
     obtain ⟨hk, hke⟩ := fidx_some hx
     have := ho.pos hk; omega
 simp [go_sem, hxf]
 refine callK_pure (cF _) ?_
 by_cases hpn : p ≠ 0 ∧ fidx s.scs p = none
 · rw [bad 4 (by unfold scpE; rw [if_neg (by simp), if_neg (by omega), if_pos hpn]) (by decide), hpn.2]
   have hp0 := hpn.1
   simp [go_sem, hxf, hp0, x6, upd_eq]
   refine ret_drop (by simp [go_sem, upd_eq]) (hxe.upd_own hb6 _) ⟨?_, rfl⟩
   simp [go_sem, upd_eq, ckV]
   exact Wk.refl _
 have hEf : ∀ q, (s.scs.length = 500 ∨ s.next = 1000000000000000 → q = 5) → (¬ (s.scs.length = 500 ∨ s.next = 1000000000000000) → q = 0) → scpE s 0 p d = q := fun q q1 q2 => by
   unfold scpE
   rw [if_neg (by simp), if_neg (by omega), if_neg hpn]
   by_cases c : s.scs.length = 500 ∨ s.next = 1000000000000000
   · rw [if_pos c, q1 c]
   · rw [if_neg c, q2 c]
 have hkk : (p = 0 ∧ fidx s.scs p = none) ∨ ∃ k, fidx s.scs p = some k ∧ p ≠ 0 := by
   cases hx : fidx s.scs p with
   | none =>
     left
     by_cases hp : p = 0
     · exact ⟨hp, rfl⟩
     · exact absurd ⟨hp, hx⟩ hpn
   | some k => exact .inr ⟨k, rfl, fun q => by rw [q, hf0] at hx; cases hx⟩
 have hwn : IntKind.i64.wrap (s.next + 1) = s.next + 1 := wr64 (by omega)
 have cP := fun bx hxf => Try.copied_c s (by omega) (bx := bx) hxf
 simp only [ckV] at cP
 rcases hkk with ⟨rfl, hx⟩ | ⟨k, hx, hp0⟩
 · rw [hx]
   by_cases c1 : s.scs.length = 500 ∨ s.next = 1000000000000000
   · rw [bad 5 (hEf 5 (fun _ => rfl) (fun h => absurd c1 h)) (by decide)]
     by_cases c2 : s.scs.length = 500
     · have c2' : ¬ s.scs.length < 500 := by omega
       have c3 : (500 : Int) ≤ s.scs.length := by omega
       simp [go_sem, hxf, x6, upd_eq, c2, c3]
       refine ret_drop (by simp [go_sem, upd_eq]) (hxe.upd_own hb6 _) ⟨?_, rfl⟩
       simp [go_sem, upd_eq, ckV]
       exact Wk.refl _
     · have c3 : ¬ (500 : Int) ≤ s.scs.length := by omega
       have c4 : (1000000000000000 : Int) ≤ s.next := by omega
       simp [go_sem, hxf, x6, upd_eq, c2, c3, c4]
       refine ret_drop (by simp [go_sem, upd_eq]) (hxe.upd_own hb6 _) ⟨?_, rfl⟩
       simp [go_sem, upd_eq, ckV]
       exact Wk.refl _
   have c3 : ¬ (500 : Int) ≤ s.scs.length := by omega
   have c4 : ¬ (1000000000000000 : Int) ≤ s.next := by omega
   have hE := hEf 0 (fun h => absurd h c1) (fun _ => rfl)
   have hx0 : scp0 s 0 d = ⟨s.next, 0, d, 0⟩ := by unfold scp0; rw [if_pos rfl]
   by_cases c5 : d ≤ s.now
   · have hX : scpX s 0 d = ⟨s.next, 0, d, 2⟩ := by unfold scpX; rw [hx0, if_pos ⟨rfl, c5⟩]
     simp [go_sem, hxf, c3, c4, c5]
     intro b11 hb11
     have n6 : b6 ≠ b11 := fun e => by rw [← e, x6] at hb11; cases hb11
     have hb11' : bx b11 = none := hxe.none hb11
     obtain ⟨X, hXd⟩ : ∃ X, X = scpX s 0 d := ⟨_, rfl⟩
     have hXX : scpX s 0 d = X := hXd.symm
     have hR : scpR s 0 0 d = .tup [.agg [.int .i64 s.now, .int .i64 (s.next + 1), .sl 4 (s.ts.map tmV), .sl 4 (s.scs.map scV ++ [scV X])], .int .i64 s.next, .int .i64 0] := by
       unfold scpR scpS; rw [if_pos hE, hXX]; simp [ckV]
     rw [hR]
     generalize hbq : upd bxx b11 _ = bxq
     have y11 : bxq b11 = some (.row 51 4 [scV X]) := by rw [← hbq, upd_eq, hXd, hX]; rfl
     have y6 : bxq b6 = some (.row 25 4 [.agg [.int .i64 0, .int .i64 0, .nils, .nils]]) := by rw [← hbq, upd_ne _ _ n6]; exact x6
     have hqe : Ext bx bxq := by rw [← hbq]; exact hxe.upd_own hb11' _
     have hqf : FinB bxq := by rw [← hbq]; exact (finB_upd _ _ _).2 hxf
     have hXi : X.id = s.next := by rw [hXd, hX]
     clear hbq hXd hXX hR
     simp only [scV] at y11
     refine callK_abs (cP bxq hqf) ?_
     rintro r bx1 ⟨v, rfl, ha⟩
     have z11 := (ha.ext b11 (by rw [y11]; simp)).trans y11
     have z6 := (ha.ext b6 (by rw [y6]; simp)).trans y6
     simp [go_sem, ha.fin]
     intro b12 hb12
     have n12 : b11 ≠ b12 := fun e => by rw [← e, z11] at hb12; cases hb12
     have n62 : b6 ≠ b12 := fun e => by rw [← e, z6] at hb12; cases hb12
     have ha2 := acc_beside ha hb12 (.row 25 4 [.agg [.int .i64 s.now, .int .i64 s.next, .sl 4 (s.ts.map tmV), v]])
     have hb120 : bxq b12 = none := ha.ext.none hb12
     simp [go_sem, ha.fin, upd_eq, upd_ne, n12, n12.symm, z11, ha.live, ha.strip, ha.cells, ha.okV]
     refine acc_append (.agg #[.int .i64 0, .int .i64 0, .int .i64 0, .int .i64 0]) ha2 (Ext.refl _) ha2.fin Try.knd23 Try.tsz51 (news := [scV X]) (by simp [srcEls, scV]) Try.tzero51 (by simp [go_sem]) (by decide) (by simp [Try.tby51]; omega) (by simp; omega) (by simp [go_sem]) fun v2 bx4 hb => ?_
     have w12 := hb.at
     have w11 : bx4 b11 = _ := (hb.ext b11 (by rw [upd_ne _ _ n12, y11]; simp)).trans ((upd_ne _ _ n12).trans y11)
     have w6 : bx4 b6 = _ := (hb.ext b6 (by rw [upd_ne _ _ n62, y6]; simp)).trans ((upd_ne _ _ n62).trans y6)
     obtain ⟨Bs, hS, hn⟩ := hb.sl
     have hnb : ∀ b, Bs = some b → b ≠ b12 ∧ bxq b = none := fun b q => by
       have := hn b q
       have n : b ≠ b12 := fun q => by rw [q, upd_eq] at this; cases this
       rw [upd_ne _ _ n] at this
       exact ⟨n, this⟩
     have hne6 : ∀ b, Bs = some b → b ≠ b6 := fun b q q2 => by have := (hnb b q).2; rw [q2, y6] at this; cases this
     have hne11 : ∀ b, Bs = some b → b ≠ b11 := fun b q q2 => by have := (hnb b q).2; rw [q2, y11] at this; cases this
     have hbx : Ext bx bx4 := fun c hc => by
       have q1 := hqe c hc
       have q2 : c ≠ b12 := fun q => by rw [q, ] at hc; exact hc (hqe.none hb120)
       have q3 := hb.ext c (by rw [upd_ne _ _ q2, q1]; exact hc)
       rw [q3, upd_ne _ _ q2, q1]
     simp [go_sem, hb.fin, w12, w11, w6, hb.live, hb.strip, hb.cells, hb.okV, upd_eq, upd_ne, upd_upd, n12, n12.symm, n62, n62.symm, n6, n6.symm, hwn, fzAt, fzb]
     generalize hbz : upd (upd (upd bx4 b12 _) b11 none) b6 _ = bxz
     have q6 : bxz b6 = some (.row 25 4 [.agg [.int .i64 s.now, .int .i64 (s.next + 1), .sl 4 (s.ts.map tmV), v2]]) := by rw [← hbz, upd_eq]
     have hx9 : Ext bx bxz := by rw [← hbz]; exact ((hbx.upd_own (hqe.none hb120) _).upd_own hb11' _).upd_own hb6 _
     have f1 := sl_frz (bx' := bx) (sl_self (bx' := bxz) (pr := bx) ⟨bx4, Ext.refl _, hS⟩ fun b hB => by
       rw [← hbz, upd_ne _ _ (hne6 b hB), upd_ne _ _ (hne11 b hB), upd_ne _ _ (hnb b hB).1]) (fun b hb => hqe.none (hnb b hb).2) (by decide) 0 fun y _ => frz_0 _ _ _
     clear hbz
     refine ret_frz 3 (by simp [go_sem, q6]) hx9 ⟨?_, rfl⟩
     simp [go_sem, q6, hb.strip, hXi]
     exact wk_tup3 (wk_agg4 (Wk.refl _) (Wk.refl _) (Wk.refl _) (by simpa using f1)) (Wk.refl _) (Wk.refl _)
   · have hX : scpX s 0 d = ⟨s.next, 0, d, 0⟩ := by unfold scpX; rw [hx0, if_neg (fun q => c5 q.2)]
     simp [go_sem, hxf, c3, c4, c5]
     intro b11 hb11
     have n6 : b6 ≠ b11 := fun e => by rw [← e, x6] at hb11; cases hb11
     have hb11' : bx b11 = none := hxe.none hb11
     obtain ⟨X, hXd⟩ : ∃ X, X = scpX s 0 d := ⟨_, rfl⟩
     have hXX : scpX s 0 d = X := hXd.symm
     have hR : scpR s 0 0 d = .tup [.agg [.int .i64 s.now, .int .i64 (s.next + 1), .sl 4 (s.ts.map tmV), .sl 4 (s.scs.map scV ++ [scV X])], .int .i64 s.next, .int .i64 0] := by
       unfold scpR scpS; rw [if_pos hE, hXX]; simp [ckV]
     rw [hR]
     generalize hbq : upd bxx b11 _ = bxq
     have y11 : bxq b11 = some (.row 51 4 [scV X]) := by rw [← hbq, upd_eq, hXd, hX]; rfl
     have y6 : bxq b6 = some (.row 25 4 [.agg [.int .i64 0, .int .i64 0, .nils, .nils]]) := by rw [← hbq, upd_ne _ _ n6]; exact x6
     have hqe : Ext bx bxq := by rw [← hbq]; exact hxe.upd_own hb11' _
     have hqf : FinB bxq := by rw [← hbq]; exact (finB_upd _ _ _).2 hxf
     have hXi : X.id = s.next := by rw [hXd, hX]
     clear hbq hXd hXX hR
     simp only [scV] at y11
     refine callK_abs (cP bxq hqf) ?_
     rintro r bx1 ⟨v, rfl, ha⟩
     have z11 := (ha.ext b11 (by rw [y11]; simp)).trans y11
     have z6 := (ha.ext b6 (by rw [y6]; simp)).trans y6
     simp [go_sem, ha.fin]
     intro b12 hb12
     have n12 : b11 ≠ b12 := fun e => by rw [← e, z11] at hb12; cases hb12
     have n62 : b6 ≠ b12 := fun e => by rw [← e, z6] at hb12; cases hb12
     have ha2 := acc_beside ha hb12 (.row 25 4 [.agg [.int .i64 s.now, .int .i64 s.next, .sl 4 (s.ts.map tmV), v]])
     have hb120 : bxq b12 = none := ha.ext.none hb12
     simp [go_sem, ha.fin, upd_eq, upd_ne, n12, n12.symm, z11, ha.live, ha.strip, ha.cells, ha.okV]
     refine acc_append (.agg #[.int .i64 0, .int .i64 0, .int .i64 0, .int .i64 0]) ha2 (Ext.refl _) ha2.fin Try.knd23 Try.tsz51 (news := [scV X]) (by simp [srcEls, scV]) Try.tzero51 (by simp [go_sem]) (by decide) (by simp [Try.tby51]; omega) (by simp; omega) (by simp [go_sem]) fun v2 bx4 hb => ?_
     have w12 := hb.at
     have w11 : bx4 b11 = _ := (hb.ext b11 (by rw [upd_ne _ _ n12, y11]; simp)).trans ((upd_ne _ _ n12).trans y11)
     have w6 : bx4 b6 = _ := (hb.ext b6 (by rw [upd_ne _ _ n62, y6]; simp)).trans ((upd_ne _ _ n62).trans y6)
     obtain ⟨Bs, hS, hn⟩ := hb.sl
     have hnb : ∀ b, Bs = some b → b ≠ b12 ∧ bxq b = none := fun b q => by
       have := hn b q
       have n : b ≠ b12 := fun q => by rw [q, upd_eq] at this; cases this
       rw [upd_ne _ _ n] at this
       exact ⟨n, this⟩
     have hne6 : ∀ b, Bs = some b → b ≠ b6 := fun b q q2 => by have := (hnb b q).2; rw [q2, y6] at this; cases this
     have hne11 : ∀ b, Bs = some b → b ≠ b11 := fun b q q2 => by have := (hnb b q).2; rw [q2, y11] at this; cases this
     have hbx : Ext bx bx4 := fun c hc => by
       have q1 := hqe c hc
       have q2 : c ≠ b12 := fun q => by rw [q, ] at hc; exact hc (hqe.none hb120)
       have q3 := hb.ext c (by rw [upd_ne _ _ q2, q1]; exact hc)
       rw [q3, upd_ne _ _ q2, q1]
     simp [go_sem, hb.fin, w12, w11, w6, hb.live, hb.strip, hb.cells, hb.okV, upd_eq, upd_ne, upd_upd, n12, n12.symm, n62, n62.symm, n6, n6.symm, hwn, fzAt, fzb]
     generalize hbz : upd (upd (upd bx4 b12 _) b11 none) b6 _ = bxz
     have q6 : bxz b6 = some (.row 25 4 [.agg [.int .i64 s.now, .int .i64 (s.next + 1), .sl 4 (s.ts.map tmV), v2]]) := by rw [← hbz, upd_eq]
     have hx9 : Ext bx bxz := by rw [← hbz]; exact ((hbx.upd_own (hqe.none hb120) _).upd_own hb11' _).upd_own hb6 _
     have f1 := sl_frz (bx' := bx) (sl_self (bx' := bxz) (pr := bx) ⟨bx4, Ext.refl _, hS⟩ fun b hB => by
       rw [← hbz, upd_ne _ _ (hne6 b hB), upd_ne _ _ (hne11 b hB), upd_ne _ _ (hnb b hB).1]) (fun b hb => hqe.none (hnb b hb).2) (by decide) 0 fun y _ => frz_0 _ _ _
     clear hbz
     refine ret_frz 3 (by simp [go_sem, q6]) hx9 ⟨?_, rfl⟩
     simp [go_sem, q6, hb.strip, hXi]
     exact wk_tup3 (wk_agg4 (Wk.refl _) (Wk.refl _) (Wk.refl _) (by simpa using f1)) (Wk.refl _) (Wk.refl _)
 · rw [hx]
   obtain ⟨hk, hke⟩ := fidx_some hx
   have hk0 : ¬ (k : Int) < 0 := by omega
   have hk1 : (0 : Int) ≤ k := by omega
   by_cases c1 : s.scs.length = 500 ∨ s.next = 1000000000000000
   · rw [bad 5 (hEf 5 (fun _ => rfl) (fun h => absurd c1 h)) (by decide)]
     by_cases c2 : s.scs.length = 500
     · have c2' : ¬ s.scs.length < 500 := by omega
       have c3 : (500 : Int) ≤ s.scs.length := by omega
       simp [go_sem, hxf, hp0, hk0, x6, upd_eq, c2, c3]
       refine ret_drop (by simp [go_sem, upd_eq]) (hxe.upd_own hb6 _) ⟨?_, rfl⟩
       simp [go_sem, upd_eq, ckV]
       exact Wk.refl _
     · have c3 : ¬ (500 : Int) ≤ s.scs.length := by omega
       have c4 : (1000000000000000 : Int) ≤ s.next := by omega
       simp [go_sem, hxf, hp0, hk0, x6, upd_eq, c2, c3, c4]
       refine ret_drop (by simp [go_sem, upd_eq]) (hxe.upd_own hb6 _) ⟨?_, rfl⟩
       simp [go_sem, upd_eq, ckV]
       exact Wk.refl _
   have c3 : ¬ (500 : Int) ≤ s.scs.length := by omega
   have c4 : ¬ (1000000000000000 : Int) ≤ s.next := by omega
   have hE := hEf 0 (fun h => absurd h c1) (fun _ => rfl)
   have hx0 : scp0 s p d = ⟨s.next, p, min d s.scs[k].dl, s.scs[k].why⟩ := by unfold scp0; rw [if_neg hp0, hx]; simp only [gdl hk]
   by_cases c5 : s.scs[k].why = 0 ∧ min d s.scs[k].dl ≤ s.now
   · have hX : scpX s p d = ⟨s.next, p, min d s.scs[k].dl, 2⟩ := by unfold scpX; rw [hx0, if_pos c5]
     obtain ⟨c6, c7⟩ := c5
     simp [go_sem, hxf, hp0, hk0, hk1, c3, c4, hk, scV, imin, upd_eq, upd_upd, c6, c7]
     intro b11 hb11
     have n6 : b6 ≠ b11 := fun e => by rw [← e, x6] at hb11; cases hb11
     have hb11' : bx b11 = none := hxe.none hb11
     obtain ⟨X, hXd⟩ : ∃ X, X = scpX s p d := ⟨_, rfl⟩
     have hXX : scpX s p d = X := hXd.symm
     have hR : scpR s 0 p d = .tup [.agg [.int .i64 s.now, .int .i64 (s.next + 1), .sl 4 (s.ts.map tmV), .sl 4 (s.scs.map scV ++ [scV X])], .int .i64 s.next, .int .i64 0] := by
       unfold scpR scpS; rw [if_pos hE, hXX]; simp [ckV]
     rw [hR]
     generalize hbq : upd bxx b11 _ = bxq
     have y11 : bxq b11 = some (.row 51 4 [scV X]) := by rw [← hbq, upd_eq, hXd, hX]; rfl
     have y6 : bxq b6 = some (.row 25 4 [.agg [.int .i64 0, .int .i64 0, .nils, .nils]]) := by rw [← hbq, upd_ne _ _ n6]; exact x6
     have hqe : Ext bx bxq := by rw [← hbq]; exact hxe.upd_own hb11' _
     have hqf : FinB bxq := by rw [← hbq]; exact (finB_upd _ _ _).2 hxf
     have hXi : X.id = s.next := by rw [hXd, hX]
     clear hbq hXd hXX hR
     simp only [scV] at y11
     refine callK_abs (cP bxq hqf) ?_
     rintro r bx1 ⟨v, rfl, ha⟩
     have z11 := (ha.ext b11 (by rw [y11]; simp)).trans y11
     have z6 := (ha.ext b6 (by rw [y6]; simp)).trans y6
     simp [go_sem, ha.fin]
     intro b12 hb12
     have n12 : b11 ≠ b12 := fun e => by rw [← e, z11] at hb12; cases hb12
     have n62 : b6 ≠ b12 := fun e => by rw [← e, z6] at hb12; cases hb12
     have ha2 := acc_beside ha hb12 (.row 25 4 [.agg [.int .i64 s.now, .int .i64 s.next, .sl 4 (s.ts.map tmV), v]])
     have hb120 : bxq b12 = none := ha.ext.none hb12
     simp [go_sem, ha.fin, upd_eq, upd_ne, n12, n12.symm, z11, ha.live, ha.strip, ha.cells, ha.okV]
     refine acc_append (.agg #[.int .i64 0, .int .i64 0, .int .i64 0, .int .i64 0]) ha2 (Ext.refl _) ha2.fin Try.knd23 Try.tsz51 (news := [scV X]) (by simp [srcEls, scV]) Try.tzero51 (by simp [go_sem]) (by decide) (by simp [Try.tby51]; omega) (by simp; omega) (by simp [go_sem]) fun v2 bx4 hb => ?_
     have w12 := hb.at
     have w11 : bx4 b11 = _ := (hb.ext b11 (by rw [upd_ne _ _ n12, y11]; simp)).trans ((upd_ne _ _ n12).trans y11)
     have w6 : bx4 b6 = _ := (hb.ext b6 (by rw [upd_ne _ _ n62, y6]; simp)).trans ((upd_ne _ _ n62).trans y6)
     obtain ⟨Bs, hS, hn⟩ := hb.sl
     have hnb : ∀ b, Bs = some b → b ≠ b12 ∧ bxq b = none := fun b q => by
       have := hn b q
       have n : b ≠ b12 := fun q => by rw [q, upd_eq] at this; cases this
       rw [upd_ne _ _ n] at this
       exact ⟨n, this⟩
     have hne6 : ∀ b, Bs = some b → b ≠ b6 := fun b q q2 => by have := (hnb b q).2; rw [q2, y6] at this; cases this
     have hne11 : ∀ b, Bs = some b → b ≠ b11 := fun b q q2 => by have := (hnb b q).2; rw [q2, y11] at this; cases this
     have hbx : Ext bx bx4 := fun c hc => by
       have q1 := hqe c hc
       have q2 : c ≠ b12 := fun q => by rw [q, ] at hc; exact hc (hqe.none hb120)
       have q3 := hb.ext c (by rw [upd_ne _ _ q2, q1]; exact hc)
       rw [q3, upd_ne _ _ q2, q1]
     simp [go_sem, hb.fin, w12, w11, w6, hb.live, hb.strip, hb.cells, hb.okV, upd_eq, upd_ne, upd_upd, n12, n12.symm, n62, n62.symm, n6, n6.symm, hwn, fzAt, fzb]
     generalize hbz : upd (upd (upd bx4 b12 _) b11 none) b6 _ = bxz
     have q6 : bxz b6 = some (.row 25 4 [.agg [.int .i64 s.now, .int .i64 (s.next + 1), .sl 4 (s.ts.map tmV), v2]]) := by rw [← hbz, upd_eq]
     have hx9 : Ext bx bxz := by rw [← hbz]; exact ((hbx.upd_own (hqe.none hb120) _).upd_own hb11' _).upd_own hb6 _
     have f1 := sl_frz (bx' := bx) (sl_self (bx' := bxz) (pr := bx) ⟨bx4, Ext.refl _, hS⟩ fun b hB => by
       rw [← hbz, upd_ne _ _ (hne6 b hB), upd_ne _ _ (hne11 b hB), upd_ne _ _ (hnb b hB).1]) (fun b hb => hqe.none (hnb b hb).2) (by decide) 0 fun y _ => frz_0 _ _ _
     clear hbz
     refine ret_frz 3 (by simp [go_sem, q6]) hx9 ⟨?_, rfl⟩
     simp [go_sem, q6, hb.strip, hXi]
     exact wk_tup3 (wk_agg4 (Wk.refl _) (Wk.refl _) (Wk.refl _) (by simpa using f1)) (Wk.refl _) (Wk.refl _)
   · have hX : scpX s p d = ⟨s.next, p, min d s.scs[k].dl, s.scs[k].why⟩ := by unfold scpX; rw [hx0, if_neg c5]
     by_cases c6 : s.scs[k].why = 0
     · have c7 : ¬ min d s.scs[k].dl ≤ s.now := fun q => c5 ⟨c6, q⟩
       have hX0 : scpX s p d = ⟨s.next, p, min d s.scs[k].dl, 0⟩ := by rw [hX, c6]
       simp [go_sem, hxf, hp0, hk0, hk1, c3, c4, hk, scV, imin, upd_eq, upd_upd, c6, c7]
       intro b11 hb11
       have n6 : b6 ≠ b11 := fun e => by rw [← e, x6] at hb11; cases hb11
       have hb11' : bx b11 = none := hxe.none hb11
       obtain ⟨X, hXd⟩ : ∃ X, X = scpX s p d := ⟨_, rfl⟩
       have hXX : scpX s p d = X := hXd.symm
       have hR : scpR s 0 p d = .tup [.agg [.int .i64 s.now, .int .i64 (s.next + 1), .sl 4 (s.ts.map tmV), .sl 4 (s.scs.map scV ++ [scV X])], .int .i64 s.next, .int .i64 0] := by
         unfold scpR scpS; rw [if_pos hE, hXX]; simp [ckV]
       rw [hR]
       generalize hbq : upd bxx b11 _ = bxq
       have y11 : bxq b11 = some (.row 51 4 [scV X]) := by rw [← hbq, upd_eq, hXd, hX0]; rfl
       have y6 : bxq b6 = some (.row 25 4 [.agg [.int .i64 0, .int .i64 0, .nils, .nils]]) := by rw [← hbq, upd_ne _ _ n6]; exact x6
       have hqe : Ext bx bxq := by rw [← hbq]; exact hxe.upd_own hb11' _
       have hqf : FinB bxq := by rw [← hbq]; exact (finB_upd _ _ _).2 hxf
       have hXi : X.id = s.next := by rw [hXd, hX0]
       clear hbq hXd hXX hR
       simp only [scV] at y11
       refine callK_abs (cP bxq hqf) ?_
       rintro r bx1 ⟨v, rfl, ha⟩
       have z11 := (ha.ext b11 (by rw [y11]; simp)).trans y11
       have z6 := (ha.ext b6 (by rw [y6]; simp)).trans y6
       simp [go_sem, ha.fin]
       intro b12 hb12
       have n12 : b11 ≠ b12 := fun e => by rw [← e, z11] at hb12; cases hb12
       have n62 : b6 ≠ b12 := fun e => by rw [← e, z6] at hb12; cases hb12
       have ha2 := acc_beside ha hb12 (.row 25 4 [.agg [.int .i64 s.now, .int .i64 s.next, .sl 4 (s.ts.map tmV), v]])
       have hb120 : bxq b12 = none := ha.ext.none hb12
       simp [go_sem, ha.fin, upd_eq, upd_ne, n12, n12.symm, z11, ha.live, ha.strip, ha.cells, ha.okV]
       refine acc_append (.agg #[.int .i64 0, .int .i64 0, .int .i64 0, .int .i64 0]) ha2 (Ext.refl _) ha2.fin Try.knd23 Try.tsz51 (news := [scV X]) (by simp [srcEls, scV]) Try.tzero51 (by simp [go_sem]) (by decide) (by simp [Try.tby51]; omega) (by simp; omega) (by simp [go_sem]) fun v2 bx4 hb => ?_
       have w12 := hb.at
       have w11 : bx4 b11 = _ := (hb.ext b11 (by rw [upd_ne _ _ n12, y11]; simp)).trans ((upd_ne _ _ n12).trans y11)
       have w6 : bx4 b6 = _ := (hb.ext b6 (by rw [upd_ne _ _ n62, y6]; simp)).trans ((upd_ne _ _ n62).trans y6)
       obtain ⟨Bs, hS, hn⟩ := hb.sl
       have hnb : ∀ b, Bs = some b → b ≠ b12 ∧ bxq b = none := fun b q => by
         have := hn b q
         have n : b ≠ b12 := fun q => by rw [q, upd_eq] at this; cases this
         rw [upd_ne _ _ n] at this
         exact ⟨n, this⟩
       have hne6 : ∀ b, Bs = some b → b ≠ b6 := fun b q q2 => by have := (hnb b q).2; rw [q2, y6] at this; cases this
       have hne11 : ∀ b, Bs = some b → b ≠ b11 := fun b q q2 => by have := (hnb b q).2; rw [q2, y11] at this; cases this
       have hbx : Ext bx bx4 := fun c hc => by
         have q1 := hqe c hc
         have q2 : c ≠ b12 := fun q => by rw [q, ] at hc; exact hc (hqe.none hb120)
         have q3 := hb.ext c (by rw [upd_ne _ _ q2, q1]; exact hc)
         rw [q3, upd_ne _ _ q2, q1]
       simp [go_sem, hb.fin, w12, w11, w6, hb.live, hb.strip, hb.cells, hb.okV, upd_eq, upd_ne, upd_upd, n12, n12.symm, n62, n62.symm, n6, n6.symm, hwn, fzAt, fzb]
       generalize hbz : upd (upd (upd bx4 b12 _) b11 none) b6 _ = bxz
       have q6 : bxz b6 = some (.row 25 4 [.agg [.int .i64 s.now, .int .i64 (s.next + 1), .sl 4 (s.ts.map tmV), v2]]) := by rw [← hbz, upd_eq]
       have hx9 : Ext bx bxz := by rw [← hbz]; exact ((hbx.upd_own (hqe.none hb120) _).upd_own hb11' _).upd_own hb6 _
       have f1 := sl_frz (bx' := bx) (sl_self (bx' := bxz) (pr := bx) ⟨bx4, Ext.refl _, hS⟩ fun b hB => by
         rw [← hbz, upd_ne _ _ (hne6 b hB), upd_ne _ _ (hne11 b hB), upd_ne _ _ (hnb b hB).1]) (fun b hb => hqe.none (hnb b hb).2) (by decide) 0 fun y _ => frz_0 _ _ _
       clear hbz
       refine ret_frz 3 (by simp [go_sem, q6]) hx9 ⟨?_, rfl⟩
       simp [go_sem, q6, hb.strip, hXi]
       exact wk_tup3 (wk_agg4 (Wk.refl _) (Wk.refl _) (Wk.refl _) (by simpa using f1)) (Wk.refl _) (Wk.refl _)
     · simp [go_sem, hxf, hp0, hk0, hk1, c3, c4, hk, scV, imin, upd_eq, upd_upd, c6]
       intro b11 hb11
       have n6 : b6 ≠ b11 := fun e => by rw [← e, x6] at hb11; cases hb11
       have hb11' : bx b11 = none := hxe.none hb11
       obtain ⟨X, hXd⟩ : ∃ X, X = scpX s p d := ⟨_, rfl⟩
       have hXX : scpX s p d = X := hXd.symm
       have hR : scpR s 0 p d = .tup [.agg [.int .i64 s.now, .int .i64 (s.next + 1), .sl 4 (s.ts.map tmV), .sl 4 (s.scs.map scV ++ [scV X])], .int .i64 s.next, .int .i64 0] := by
         unfold scpR scpS; rw [if_pos hE, hXX]; simp [ckV]
       rw [hR]
       generalize hbq : upd bxx b11 _ = bxq
       have y11 : bxq b11 = some (.row 51 4 [scV X]) := by rw [← hbq, upd_eq, hXd, hX]; rfl
       have y6 : bxq b6 = some (.row 25 4 [.agg [.int .i64 0, .int .i64 0, .nils, .nils]]) := by rw [← hbq, upd_ne _ _ n6]; exact x6
       have hqe : Ext bx bxq := by rw [← hbq]; exact hxe.upd_own hb11' _
       have hqf : FinB bxq := by rw [← hbq]; exact (finB_upd _ _ _).2 hxf
       have hXi : X.id = s.next := by rw [hXd, hX]
       clear hbq hXd hXX hR
       simp only [scV] at y11
       refine callK_abs (cP bxq hqf) ?_
       rintro r bx1 ⟨v, rfl, ha⟩
       have z11 := (ha.ext b11 (by rw [y11]; simp)).trans y11
       have z6 := (ha.ext b6 (by rw [y6]; simp)).trans y6
       simp [go_sem, ha.fin]
       intro b12 hb12
       have n12 : b11 ≠ b12 := fun e => by rw [← e, z11] at hb12; cases hb12
       have n62 : b6 ≠ b12 := fun e => by rw [← e, z6] at hb12; cases hb12
       have ha2 := acc_beside ha hb12 (.row 25 4 [.agg [.int .i64 s.now, .int .i64 s.next, .sl 4 (s.ts.map tmV), v]])
       have hb120 : bxq b12 = none := ha.ext.none hb12
       simp [go_sem, ha.fin, upd_eq, upd_ne, n12, n12.symm, z11, ha.live, ha.strip, ha.cells, ha.okV]
       refine acc_append (.agg #[.int .i64 0, .int .i64 0, .int .i64 0, .int .i64 0]) ha2 (Ext.refl _) ha2.fin Try.knd23 Try.tsz51 (news := [scV X]) (by simp [srcEls, scV]) Try.tzero51 (by simp [go_sem]) (by decide) (by simp [Try.tby51]; omega) (by simp; omega) (by simp [go_sem]) fun v2 bx4 hb => ?_
       have w12 := hb.at
       have w11 : bx4 b11 = _ := (hb.ext b11 (by rw [upd_ne _ _ n12, y11]; simp)).trans ((upd_ne _ _ n12).trans y11)
       have w6 : bx4 b6 = _ := (hb.ext b6 (by rw [upd_ne _ _ n62, y6]; simp)).trans ((upd_ne _ _ n62).trans y6)
       obtain ⟨Bs, hS, hn⟩ := hb.sl
       have hnb : ∀ b, Bs = some b → b ≠ b12 ∧ bxq b = none := fun b q => by
         have := hn b q
         have n : b ≠ b12 := fun q => by rw [q, upd_eq] at this; cases this
         rw [upd_ne _ _ n] at this
         exact ⟨n, this⟩
       have hne6 : ∀ b, Bs = some b → b ≠ b6 := fun b q q2 => by have := (hnb b q).2; rw [q2, y6] at this; cases this
       have hne11 : ∀ b, Bs = some b → b ≠ b11 := fun b q q2 => by have := (hnb b q).2; rw [q2, y11] at this; cases this
       have hbx : Ext bx bx4 := fun c hc => by
         have q1 := hqe c hc
         have q2 : c ≠ b12 := fun q => by rw [q, ] at hc; exact hc (hqe.none hb120)
         have q3 := hb.ext c (by rw [upd_ne _ _ q2, q1]; exact hc)
         rw [q3, upd_ne _ _ q2, q1]
       simp [go_sem, hb.fin, w12, w11, w6, hb.live, hb.strip, hb.cells, hb.okV, upd_eq, upd_ne, upd_upd, n12, n12.symm, n62, n62.symm, n6, n6.symm, hwn, fzAt, fzb]
       generalize hbz : upd (upd (upd bx4 b12 _) b11 none) b6 _ = bxz
       have q6 : bxz b6 = some (.row 25 4 [.agg [.int .i64 s.now, .int .i64 (s.next + 1), .sl 4 (s.ts.map tmV), v2]]) := by rw [← hbz, upd_eq]
       have hx9 : Ext bx bxz := by rw [← hbz]; exact ((hbx.upd_own (hqe.none hb120) _).upd_own hb11' _).upd_own hb6 _
       have f1 := sl_frz (bx' := bx) (sl_self (bx' := bxz) (pr := bx) ⟨bx4, Ext.refl _, hS⟩ fun b hB => by
         rw [← hbz, upd_ne _ _ (hne6 b hB), upd_ne _ _ (hne11 b hB), upd_ne _ _ (hnb b hB).1]) (fun b hb => hqe.none (hnb b hb).2) (by decide) 0 fun y _ => frz_0 _ _ _
       clear hbz
       refine ret_frz 3 (by simp [go_sem, q6]) hx9 ⟨?_, rfl⟩
       simp [go_sem, q6, hb.strip, hXi]
       exact wk_tup3 (wk_agg4 (Wk.refl _) (Wk.refl _) (Wk.refl _) (by simpa using f1)) (Wk.refl _) (Wk.refl _)
end Go.Proofs

set_option linter.unusedSimpArgs false
set_option linter.unusedVariables false
set_option maxRecDepth 100000
namespace Go.Proofs
open Go Go.Pl Go.Ck
set_option maxHeartbeats 4000000 in
theorem Try.rAfter_c (s : Ck) (e : Int) (he : Chk s e) (a k o : Int) (bx : Boxes) : PureCall Try.prog 54 [ckV s, .int .i64 a, .int .i64 k, .int .i64 o] bx (aftR s e a k o) := by
 refine PureCall.wk (Try.ctr54 fun hf => ?_)
 have bad : ∀ q, aftE s e a k o = q → q ≠ 0 → aftR s e a k o = .tup [ckV s, .int .i64 0, .int .i64 q] := fun q h1 h2 => by unfold aftR; rw [h1, if_neg h2]
 have cC := fun bx => Try.rCheck_c s e he bx
 simp only [ckV] at cC ⊢
 simp [go_sem, Try.C54, hf]
 intro b4 hb4 b8 hb8
 have n48 : b4 ≠ b8 := fun e => by rw [e, upd_eq] at hb8; cases hb8
 have hb8' : bx b8 = none := by rw [upd_ne _ _ n48.symm] at hb8; exact hb8
 generalize hbx : upd (upd bx b4 _) b8 _ = bxx
 have x8 : bxx b8 = some (.row 25 4 [.agg [.int .i64 0, .int .i64 0, .nils, .nils]]) := by rw [← hbx, upd_eq]
 have x4 : bxx b4 = some (.row 25 4 [.agg [.int .i64 s.now, .int .i64 s.next, .sl 4 (s.ts.map tmV), .sl 4 (s.scs.map scV)]]) := by rw [← hbx, upd_ne _ _ n48, upd_eq]
 have hxe : Ext bx bxx := by rw [← hbx]; exact ((Ext.refl bx).upd_own hb4 _).upd_own hb8' _
 have hxf : FinB bxx := by rw [← hbx]; exact (finB_upd _ _ _).2 ((finB_upd _ _ _).2 hf)
 clear hbx hb8
 simp [go_sem, hxf, x4]
 refine callK_pure (cC _) ?_
 by_cases h0 : e = 0
 rotate_left
 · rw [bad e (by unfold aftE; rw [if_pos h0]) h0]
   simp [go_sem, hxf, h0, x4, x8, upd_eq, upd_ne, n48, n48.symm]
   refine ret_drop (by simp [go_sem, upd_eq]) (hxe.upd_own hb8' _) ⟨?_, rfl⟩
   simp [go_sem, upd_eq, ckV]
   exact Wk.refl _
 subst h0
 have ho := he.ok
 have htl := ho.len.1
 have hnx := ho.rng.2.1
 simp [go_sem, hxf]
 refine callK_pure (Try.btw_c _ _ _ _) ?_
 have b7 : ¬ ((0 ≤ a ∧ a ≤ 1000000000000) ∧ (0 ≤ k ∧ k ≤ 1000) ∧ (0 ≤ o ∧ o ≤ 1000000000000000)) → aftR s 0 a k o = .tup [ckV s, .int .i64 0, .int .i64 7] := fun h => bad 7 (by unfold aftE; rw [if_neg (by simp), if_pos h]) (by decide)
 by_cases ha : 0 ≤ a ∧ a ≤ 1000000000000
 rotate_left
 · have ha' : (decide (0 ≤ a) && decide (a ≤ 1000000000000)) = false := by simpa using ha
   rw [b7 (fun h => ha h.1), ha']
   simp [go_sem, hxf]
   refine gK_off (.bool false) (by simp [go_sem]) ?_
   simp [go_sem, hxf]
   refine gK_off (.bool false) (by simp [go_sem]) ?_
   simp [go_sem, hxf, x4, x8, upd_eq, upd_ne, n48, n48.symm]
   refine ret_drop (by simp [go_sem, upd_eq]) (hxe.upd_own hb8' _) ⟨?_, rfl⟩
   simp [go_sem, upd_eq, ckV]
   exact Wk.refl _
 have ha' : (decide (0 ≤ a) && decide (a ≤ 1000000000000)) = true := by simpa using ha
 rw [ha']
 simp [go_sem, hxf]
 refine gK_pure (Try.btw_c _ _ _ _) (by simp) (by simp [go_sem]) ?_
 by_cases hk : 0 ≤ k ∧ k ≤ 1000
 rotate_left
 · have hk' : (decide (0 ≤ k) && decide (k ≤ 1000)) = false := by simpa using hk
   rw [b7 (fun h => hk h.2.1), hk']
   simp [go_sem, hxf]
   refine gK_off (.bool false) (by simp [go_sem]) ?_
   simp [go_sem, hxf, x4, x8, upd_eq, upd_ne, n48, n48.symm]
   refine ret_drop (by simp [go_sem, upd_eq]) (hxe.upd_own hb8' _) ⟨?_, rfl⟩
   simp [go_sem, upd_eq, ckV]
   exact Wk.refl _
 have hk' : (decide (0 ≤ k) && decide (k ≤ 1000)) = true := by simpa using hk
 rw [hk']
 simp [go_sem, hxf]
 refine gK_pure (Try.btw_c _ _ _ _) (by simp) (by simp [go_sem]) ?_
 by_cases hoo : 0 ≤ o ∧ o ≤ 1000000000000000
 rotate_left
 · have ho' : (decide (0 ≤ o) && decide (o ≤ 1000000000000000)) = false := by simpa using hoo
   rw [b7 (fun h => hoo h.2.2), ho']
   simp [go_sem, hxf, x4, x8, upd_eq, upd_ne, n48, n48.symm]
   refine ret_drop (by simp [go_sem, upd_eq]) (hxe.upd_own hb8' _) ⟨?_, rfl⟩
   simp [go_sem, upd_eq, ckV]
   exact Wk.refl _
 have ho' : (decide (0 ≤ o) && decide (o ≤ 1000000000000000)) = true := by simpa using hoo
 rw [ho']
 have hEf : ∀ q, (s.ts.length = 2000 ∨ s.next = 1000000000000000 → q = 5) → (¬ (s.ts.length = 2000 ∨ s.next = 1000000000000000) → q = 0) → aftE s 0 a k o = q := fun q q1 q2 => by
   unfold aftE
   rw [if_neg (by simp), if_neg (fun h => h ⟨ha, hk, hoo⟩)]
   by_cases c : s.ts.length = 2000 ∨ s.next = 1000000000000000
   · rw [if_pos c, q1 c]
   · rw [if_neg c, q2 c]
 by_cases c1 : s.ts.length = 2000 ∨ s.next = 1000000000000000
 · rw [bad 5 (hEf 5 (fun _ => rfl) (fun h => absurd c1 h)) (by decide)]
   by_cases c2 : s.ts.length = 2000
   · have c3 : (2000 : Int) ≤ s.ts.length := by omega
     simp [go_sem, hxf, x4, x8, upd_eq, upd_ne, n48, n48.symm, c3]
     refine ret_drop (by simp [go_sem, upd_eq]) (hxe.upd_own hb8' _) ⟨?_, rfl⟩
     simp [go_sem, upd_eq, ckV]
     exact Wk.refl _
   · have c3 : ¬ (2000 : Int) ≤ s.ts.length := by omega
     have c4 : (1000000000000000 : Int) ≤ s.next := by omega
     simp [go_sem, hxf, x4, x8, upd_eq, upd_ne, n48, n48.symm, c3, c4]
     refine ret_drop (by simp [go_sem, upd_eq]) (hxe.upd_own hb8' _) ⟨?_, rfl⟩
     simp [go_sem, upd_eq, ckV]
     exact Wk.refl _
 have c3 : ¬ (2000 : Int) ≤ s.ts.length := by omega
 have c4 : ¬ (1000000000000000 : Int) ≤ s.next := by omega
 have hE := hEf 0 (fun h => absurd h c1) (fun _ => rfl)
 obtain ⟨t, ht⟩ : ∃ t, aftT s a k o = t := ⟨_, rfl⟩
 have hti : tmV t = .agg [.int .i64 s.next, .int .i64 a, .int .i64 k, .int .i64 o] := by rw [← ht]; rfl
 have hti2 : t.id = s.next := by rw [← ht]; rfl
 have hR : aftR s 0 a k o = .tup [.agg [.int .i64 s.now, .int .i64 (s.next + 1), .sl 4 ((s.ts.map tmV).take (insI s.ts t) ++ [tmV t] ++ (s.ts.map tmV).drop (insI s.ts t)), .sl 4 (s.scs.map scV)], .int .i64 s.next, .int .i64 0] := by
   unfold aftR aftS insT; rw [if_pos hE, ht]; simp [ckV, List.map_take, List.map_drop]
 rw [hR]
 have hile := insI_le s.ts t
 have hilo := fun q (hq : q < s.ts.length) h => insI_lo (t := t) hq h
 have hihi := fun q (hq : q < s.ts.length) h => insI_hi ho.srt (t := t) hq h
 have hwn : IntKind.i64.wrap (s.next + 1) = s.next + 1 := wr64 (by omega)
 clear hR bad b7 hE hEf cC
 generalize insI s.ts t = j at *
 simp [go_sem, hxf, x4, c3, c4]
 intro b12 hb12
 rw [upd_self hb12]
 have cB := fun m (hm : m < s.ts.length) => Try.bfr_c s.ts[m] t bxx
 rw [hti] at cB
 simp only [tmV] at cB
 have hj1 : (j : Int) ≤ s.ts.length := by omega
 have hj2 : j ≤ s.ts.length := by omega
 have hj3 : (0 : Int) ≤ j := by omega
 have htk : (s.ts.map tmV).take s.ts.length = s.ts.map tmV := List.take_of_length_le (by simp)
 refine pw_upto j (fun m => ⟨88, slk [(4, .ptr b4 4 0 0), (8, .ptr b8 4 0 0), (12, .ep (.agg [.int .i64 s.next, .int .i64 a, .int .i64 k, .int .i64 o]) 0), (13, .int .i64 m)], bxx⟩) (cov_look (by simp [go_sem])) (fun m hm N hN => ?_) (fun N => ?_)
 · have hml : m < s.ts.length := by omega
   have hw := wr_succ (k := m) (by omega)
   have hlt := hilo m hml hm
   simp [go_sem, Try.L54_0, hxf, x4, hml, tmV]
   refine gK_pure (cB m hml) (by simp) (by simp [go_sem]) ?_
   simp [go_sem, hxf, hlt]
   exact hN _ (cov_look (by simp [go_sem, hw]))
 · by_cases hjl : j < s.ts.length
   · have hlt := hihi j hjl (Nat.le_refl _)
     simp [go_sem, Try.L54_0, hxf, x4, hjl, tmV]
     refine gK_pure (cB j hjl) (by simp) (by simp [go_sem]) ?_
     simp [go_sem, hxf, hlt, fzAt, fzb]
     intro b10 hb10
     have n4a : b4 ≠ b10 := fun e => by rw [← e, x4] at hb10; cases hb10
     have n8a : b8 ≠ b10 := fun e => by rw [← e, x8] at hb10; cases hb10
     simp [go_sem, hxf, x4, upd_ne, n4a, hj1, hj2, hj3, fzAt, fzb]
     refine acc_append (.agg #[.int .i64 0, .int .i64 0, .int .i64 0, .int .i64 0]) (acc_new hb10 hxf 35 4 [] 0 rfl) (Ext.refl _) ((finB_upd _ _ _).2 hxf) Try.knd22 Try.tsz35 (news := (s.ts.map tmV).take j) (by simp [srcEls]) Try.tzero35 (by simp [go_sem]) (by decide) (by simp [Try.tby35]; omega) (by simp; omega) (by simp [go_sem]) fun v bx3 hA => ?_
     rw [List.nil_append] at hA
     have y4 := (hA.ext b4 (by rw [x4]; simp)).trans x4
     simp [go_sem, hA.fin, y4, hA.live, hA.strip, hA.cells, hA.okV, hj1, hj2, hj3, fzAt, fzb]
     refine acc_append (.agg #[.int .i64 0, .int .i64 0, .int .i64 0, .int .i64 0]) hA (Ext.refl _) hA.fin Try.knd22 Try.tsz35 (news := [.agg [.int .i64 s.next, .int .i64 a, .int .i64 k, .int .i64 o]]) (by simp [srcEls]) Try.tzero35 (by simp [go_sem]) (by decide) (by simp [Try.tby35]; omega) (by simp; omega) (by simp [go_sem]) fun v2 bx4 hB => ?_
     have z4 := (hB.ext b4 (by rw [x4]; simp)).trans x4
     simp [go_sem, hB.fin, z4, hB.live, hB.strip, hB.cells, hB.okV, hj1, hj2, hj3, htk, fzAt, fzb]
     refine acc_append (.agg #[.int .i64 0, .int .i64 0, .int .i64 0, .int .i64 0]) hB (Ext.refl _) hB.fin Try.knd22 Try.tsz35 (news := (s.ts.map tmV).drop j) (by simp [srcEls]) Try.tzero35 (by simp [go_sem]) (by decide) (by simp [Try.tby35]; omega) (by simp; omega) (by simp [go_sem]) fun v3 bx5 hC => ?_
     have w4 := (hC.ext b4 (by rw [x4]; simp)).trans x4
     have w8 := (hC.ext b8 (by rw [x8]; simp)).trans x8
     obtain ⟨B, hS, hn⟩ := hC.sl
     have nB4 : B ≠ some b4 := fun e => by have := hn b4 e; rw [x4] at this; cases this
     have nB8 : B ≠ some b8 := fun e => by have := hn b8 e; rw [x8] at this; cases this
     simp [go_sem, hC.fin, w4, w8, hC.live, hC.strip, hC.cells, hC.okV, upd_eq, upd_ne, upd_upd, n48, n48.symm, hwn, fzAt, fzb]
     generalize hbz : upd (upd bx5 b4 _) b8 _ = bxz
     have q8 : bxz b8 = some (.row 25 4 [.agg [.int .i64 s.now, .int .i64 (s.next + 1), v3, .sl 4 (s.scs.map scV)]]) := by rw [← hbz, upd_eq]
     have hx9 : Ext bx bxz := by rw [← hbz]; exact ((hxe.trans hC.ext).upd_own hb4 _).upd_own hb8' _
     have f1 := sl_frz (bx' := bx) (sl_self (bx' := bxz) (pr := bx) ⟨bx5, Ext.refl _, hS⟩ fun b hB => by
       rw [← hbz, upd_ne _ _ fun e => nB8 (by rw [← e]; exact hB), upd_ne _ _ fun e => nB4 (by rw [← e]; exact hB)]) (fun b hb => hxe.none (hn b hb)) (by decide) 0 fun y _ => frz_0 _ _ _
     clear hbz
     have f2 : Wk (frz bxz bx 1 v3) (.sl 4 ((s.ts.map tmV).take j ++ [tmV t] ++ (s.ts.map tmV).drop j)) := by rw [hti]; exact f1
     refine ret_frz 3 (by simp [go_sem, q8]) hx9 ⟨?_, rfl⟩
     simp [go_sem, q8, hC.strip]
     refine wk_tup3 (wk_agg4 (Wk.refl _) (Wk.refl _) ?_ (Wk.refl _)) (Wk.refl _) (Wk.refl _)
     have f3 : Wk (frz bxz bx 1 v3) (.sl 4 ((s.ts.map tmV).take j ++ tmV t :: (s.ts.map tmV).drop j)) := by simpa using f2
     exact f3
   · have hjl' : ¬ (j : Int) < s.ts.length := by omega
     simp [go_sem, Try.L54_0, hxf, x4, hjl, hjl', tmV]
     refine gK_off (.bool false) (by simp [go_sem]) ?_
     simp [go_sem, hxf, fzAt, fzb]
     intro b10 hb10
     have n4a : b4 ≠ b10 := fun e => by rw [← e, x4] at hb10; cases hb10
     have n8a : b8 ≠ b10 := fun e => by rw [← e, x8] at hb10; cases hb10
     simp [go_sem, hxf, x4, upd_ne, n4a, hj1, hj2, hj3, fzAt, fzb]
     refine acc_append (.agg #[.int .i64 0, .int .i64 0, .int .i64 0, .int .i64 0]) (acc_new hb10 hxf 35 4 [] 0 rfl) (Ext.refl _) ((finB_upd _ _ _).2 hxf) Try.knd22 Try.tsz35 (news := (s.ts.map tmV).take j) (by simp [srcEls]) Try.tzero35 (by simp [go_sem]) (by decide) (by simp [Try.tby35]; omega) (by simp; omega) (by simp [go_sem]) fun v bx3 hA => ?_
     rw [List.nil_append] at hA
     have y4 := (hA.ext b4 (by rw [x4]; simp)).trans x4
     simp [go_sem, hA.fin, y4, hA.live, hA.strip, hA.cells, hA.okV, hj1, hj2, hj3, fzAt, fzb]
     refine acc_append (.agg #[.int .i64 0, .int .i64 0, .int .i64 0, .int .i64 0]) hA (Ext.refl _) hA.fin Try.knd22 Try.tsz35 (news := [.agg [.int .i64 s.next, .int .i64 a, .int .i64 k, .int .i64 o]]) (by simp [srcEls]) Try.tzero35 (by simp [go_sem]) (by decide) (by simp [Try.tby35]; omega) (by simp; omega) (by simp [go_sem]) fun v2 bx4 hB => ?_
     have z4 := (hB.ext b4 (by rw [x4]; simp)).trans x4
     simp [go_sem, hB.fin, z4, hB.live, hB.strip, hB.cells, hB.okV, hj1, hj2, hj3, htk, fzAt, fzb]
     refine acc_append (.agg #[.int .i64 0, .int .i64 0, .int .i64 0, .int .i64 0]) hB (Ext.refl _) hB.fin Try.knd22 Try.tsz35 (news := (s.ts.map tmV).drop j) (by simp [srcEls]) Try.tzero35 (by simp [go_sem]) (by decide) (by simp [Try.tby35]; omega) (by simp; omega) (by simp [go_sem]) fun v3 bx5 hC => ?_
     have w4 := (hC.ext b4 (by rw [x4]; simp)).trans x4
     have w8 := (hC.ext b8 (by rw [x8]; simp)).trans x8
     obtain ⟨B, hS, hn⟩ := hC.sl
     have nB4 : B ≠ some b4 := fun e => by have := hn b4 e; rw [x4] at this; cases this
     have nB8 : B ≠ some b8 := fun e => by have := hn b8 e; rw [x8] at this; cases this
     simp [go_sem, hC.fin, w4, w8, hC.live, hC.strip, hC.cells, hC.okV, upd_eq, upd_ne, upd_upd, n48, n48.symm, hwn, fzAt, fzb]
     generalize hbz : upd (upd bx5 b4 _) b8 _ = bxz
     have q8 : bxz b8 = some (.row 25 4 [.agg [.int .i64 s.now, .int .i64 (s.next + 1), v3, .sl 4 (s.scs.map scV)]]) := by rw [← hbz, upd_eq]
     have hx9 : Ext bx bxz := by rw [← hbz]; exact ((hxe.trans hC.ext).upd_own hb4 _).upd_own hb8' _
     have f1 := sl_frz (bx' := bx) (sl_self (bx' := bxz) (pr := bx) ⟨bx5, Ext.refl _, hS⟩ fun b hB => by
       rw [← hbz, upd_ne _ _ fun e => nB8 (by rw [← e]; exact hB), upd_ne _ _ fun e => nB4 (by rw [← e]; exact hB)]) (fun b hb => hxe.none (hn b hb)) (by decide) 0 fun y _ => frz_0 _ _ _
     clear hbz
     have f2 : Wk (frz bxz bx 1 v3) (.sl 4 ((s.ts.map tmV).take j ++ [tmV t] ++ (s.ts.map tmV).drop j)) := by rw [hti]; exact f1
     refine ret_frz 3 (by simp [go_sem, q8]) hx9 ⟨?_, rfl⟩
     simp [go_sem, q8, hC.strip]
     refine wk_tup3 (wk_agg4 (Wk.refl _) (Wk.refl _) ?_ (Wk.refl _)) (Wk.refl _) (Wk.refl _)
     have f3 : Wk (frz bxz bx 1 v3) (.sl 4 ((s.ts.map tmV).take j ++ tmV t :: (s.ts.map tmV).drop j)) := by simpa using f2
     exact f3
end Go.Proofs

set_option linter.unusedSimpArgs false
set_option linter.unusedVariables false
set_option maxRecDepth 100000
namespace Go.Proofs
open Go Go.Pl Go.Ck
section
variable {bx pr bxk : Boxes} {b4 b9 : Nat} {a b : V} {S T F E : List V} {vS vT vF vE : V} {BS BT BF BE : Option Nat}
theorem TkC.appT (h : TkC bx pr bxk b4 b9 a b S vS BS T vT BT F vF BF E vE BE) {P : Program} {x y : V} {t : TypeId} {dst : Option Tmp} {n : Nat} {sl : Nat → V} {K : St → Prop} (z : Value) (hk : knd P t = .slice 35) (hsz : tsz P 35 = 4) (src : srcEls ⟨n, sl, bxk⟩ 4 x = some [y]) (hz : tzero P 35 = some z) (hst : storable P 35 (ofValue z))
   (hby : (T.length + 1) * tby P 35 ≤ 140737488355328) (hlen : T.length + 1 ≤ 9223372036854775807) (hd : dstOk ⟨n, sl, bxk⟩ dst)
   (hK : ∀ b' bx3, FinB bx3 → bx3 b9 = some (.row 25 4 [.agg [a, b, vT, vS]]) → (∃ pr', TkC bx pr' (upd bx3 b9 (some (.row 25 4 [.agg [a, b, .own b' 4 0 (T.length + 1), vS]]))) b4 b9 a b S vS BS (T ++ [y]) (.own b' 4 0 (T.length + 1)) (some b') F vF BF E vE BE) → K (St.put ⟨n, sl, bx3⟩ dst (.own b' 4 0 (T.length + 1)))) : appendA P ⟨n, sl, bxk⟩ dst t vT x K := by
 refine app_pr2 z h.e2 h.fin h.sT hk hsz src hz hst (by decide) hby hlen hd fun b' bx3 pr' g1 g2 g3 g4 g5 g6 g7 => ?_
 have k9 := g4 b9 (by rw [h.h9]; simp) (h.sT.ne h.h9 (by decide))
 have k4 := g4 b4 (by rw [h.h4]; simp) (h.sT.ne h.h4 (by decide))
 refine hK b' bx3 g2 ((g1 b9 (by rw [k9.1, h.h9]; simp)).trans (k9.1.trans h.h9)) ⟨upd pr' b9 (some (.row 25 4 [.agg [a, b, .own b' 4 0 (T.length + 1), vS]])), ?_⟩
 have hd9 : ∀ {e sz : Nat} {es : List V} {v : V} {B : Option Nat}, Sl pr e sz es v B → 25 ≠ e → ∀ d, B = some d → d ≠ b9 := fun hs hne d hd e => hs.ne h.h9 hne (by rw [← e]; exact hd)
 exact { h with
   e1 := fun d hd => by
     have hp : pr d ≠ none := by rw [h.e1 d hd]; exact hd
     have n9 : d ≠ b9 := fun e => hd (by rw [e]; exact h.n9)
     rw [upd_ne _ _ n9, (g4 d hp fun e => hd (h.nT d e)).1]; exact h.e1 d hd
   e2 := fun d hd => by
     by_cases q : d = b9
     · rw [q, upd_eq, upd_eq]
     · rw [upd_ne _ _ q] at hd ⊢; rw [upd_ne _ _ q]; exact g1 d hd
   fin := (finB_upd _ _ _).2 g2
   h4 := by rw [upd_ne _ _ h.d49, k4.1]; exact h.h4
   h9 := upd_eq _ _ _
   sS := h.sS.ext fun d hd => by rw [upd_ne _ _ (hd9 h.sS (by decide) d hd)]; exact (g4 d (by rw [(h.sS.at hd).2]; simp) (h.sS.ne2 h.sT (by decide) hd)).1
   sT := .inr ⟨b', by simp, by rw [upd_ne _ _ k9.2.symm]; exact g3, rfl⟩
   sF := h.sF.ext fun d hd => by rw [upd_ne _ _ (hd9 h.sF (by decide) d hd)]; exact (g4 d (by rw [(h.sF.at hd).2]; simp) (fun e => h.dTF d e hd)).1
   sE := h.sE.ext fun d hd => by rw [upd_ne _ _ (hd9 h.sE (by decide) d hd)]; exact (g4 d (by rw [(h.sE.at hd).2]; simp) (h.sE.ne2 h.sT (by decide) hd)).1
   nT := fun d hd => by
     injection hd with hd
     subst hd
     rcases g6 with g | g
     · exact (h.e1.trans h.e2).none g
     · exact h.nT _ g
   dTF := fun d hd e => by
     injection hd with hd
     exact (g4 d (by rw [(h.sF.at e).2]; simp) (fun q => h.dTF d q e)).2 hd.symm }
end
section
variable {bx bxk : Boxes} {b4 b9 : Nat} {a b : V} {S T F E : List V} {vS vT vF vE : V} {BS : Option Nat}
theorem Tk2.appF (h : Tk2 bx bxk b4 b9 a b S vS BS T vT F vF E vE) {P : Program} {x y : V} {t : TypeId} {dst : Option Tmp} {n : Nat} {sl : Nat → V} {K : St → Prop} (z : Value) (hk : knd P t = .slice 35) (hsz : tsz P 35 = 4) (src : srcEls ⟨n, sl, bxk⟩ 4 x = some [y]) (hz : tzero P 35 = some z) (hst : storable P 35 (ofValue z))
   (hby : (F.length + 1) * tby P 35 ≤ 140737488355328) (hlen : F.length + 1 ≤ 9223372036854775807) (hd : dstOk ⟨n, sl, bxk⟩ dst)
   (hK : ∀ b' bx3, Tk2 bx bx3 b4 b9 a b S vS BS T vT (F ++ [y]) (.own b' 4 0 (F.length + 1)) E vE → K (St.put ⟨n, sl, bx3⟩ dst (.own b' 4 0 (F.length + 1)))) : appendA P ⟨n, sl, bxk⟩ dst t vF x K := by
 obtain ⟨pr, BT, BF, BE, h1⟩ := h.ex
 exact h1.appF z hk hsz src hz hst hby hlen hd fun b' bx3 pr' g1 _ _ _ => hK b' bx3 ⟨pr', BT, some b', BE, g1⟩
theorem Tk2.appT (h : Tk2 bx bxk b4 b9 a b S vS BS T vT F vF E vE) {P : Program} {x y : V} {t : TypeId} {dst : Option Tmp} {n : Nat} {sl : Nat → V} {K : St → Prop} (z : Value) (hk : knd P t = .slice 35) (hsz : tsz P 35 = 4) (src : srcEls ⟨n, sl, bxk⟩ 4 x = some [y]) (hz : tzero P 35 = some z) (hst : storable P 35 (ofValue z))
   (hby : (T.length + 1) * tby P 35 ≤ 140737488355328) (hlen : T.length + 1 ≤ 9223372036854775807) (hd : dstOk ⟨n, sl, bxk⟩ dst)
   (hK : ∀ b' bx3, FinB bx3 → bx3 b9 = some (.row 25 4 [.agg [a, b, vT, vS]]) → Tk2 bx (upd bx3 b9 (some (.row 25 4 [.agg [a, b, .own b' 4 0 (T.length + 1), vS]]))) b4 b9 a b S vS BS (T ++ [y]) (.own b' 4 0 (T.length + 1)) F vF E vE → K (St.put ⟨n, sl, bx3⟩ dst (.own b' 4 0 (T.length + 1)))) : appendA P ⟨n, sl, bxk⟩ dst t vT x K := by
 obtain ⟨pr, BT, BF, BE, h1⟩ := h.ex
 exact h1.appT z hk hsz src hz hst hby hlen hd fun b' bx3 g1 g2 ⟨pr', g3⟩ => hK b' bx3 g1 g2 ⟨pr', some b', BF, BE, g3⟩
theorem Tk2.start (eb : Ext bx bxk) (hf : FinB bxk) (h4 : bxk b4 = some (.row 25 4 [.agg [.int .i64 0, .int .i64 0, .nils, .nils]])) (h9 : bxk b9 = some (.row 25 4 [.agg [a, b, .nils, vS]])) (hS : Sl bxk 51 4 S vS BS) (n4 : bx b4 = none) (n9 : bx b9 = none) (nS : ∀ c, BS = some c → bx c = none) (d : b4 ≠ b9) : Tk2 bx bxk b4 b9 a b S vS BS [] .nils [] .nils [] .nils := by
 refine ⟨fun c => if c = b4 ∨ c = b9 ∨ BS = some c then bxk c else bx c, none, none, none, ⟨fun c hc => ?_, fun c hc => ?_, hf, ?_, ?_, hS.ext fun c hc => ?_, Sl.nil, Sl.nil, Sl.nil, nS, (fun b h => by cases h), (fun b h => by cases h), (fun b h => by cases h), n4, n9, d, fun b _ => by simp⟩⟩
 · have q4 : c ≠ b4 := fun e => hc (by rw [e]; exact n4)
   have q9 : c ≠ b9 := fun e => hc (by rw [e]; exact n9)
   have qS : BS ≠ some c := fun e => hc (nS c e)
   simp [q4, q9, qS]
 · by_cases q : c = b4 ∨ c = b9 ∨ BS = some c
   · simp [q]
   · simp only [q, if_false] at hc ⊢; exact eb c hc
 · simp [h4]
 · simp [h9]
 · simp [hc]
end
set_option maxHeartbeats 4000000 in
theorem Try.rTick_c (s : Ck) (e : Int) (he : Chk s e) (to : Int) (bx : Boxes) : PureCall Try.prog 57 [ckV s, .int .i64 to] bx (tikR s e to) := by
 refine PureCall.wk (Try.ctr57 fun hf => ?_)
 have cC := fun bx => Try.rCheck_c s e he bx
 simp only [ckV] at cC ⊢
 simp [go_sem, Try.C57, hf]
 intro b4 hb4
 generalize hbx : upd bx b4 _ = bxx
 have x4 : bxx b4 = some (.row 25 4 [.agg [.int .i64 0, .int .i64 0, .nils, .nils]]) := by rw [← hbx, upd_eq]
 have hxe : Ext bx bxx := by rw [← hbx]; exact (Ext.refl bx).upd_own hb4 _
 have hxf : FinB bxx := by rw [← hbx]; exact (finB_upd _ _ _).2 hf
 clear hbx
 refine callK_pure (cC _) ?_
 have bad : ∀ q, tikE s e to = q → q ≠ 0 → ∀ sv, sv = ckV s → Wk (.tup [sv, .nils, .nils, .int .i64 q]) (tikR s e to) := fun q h1 h2 sv hsv => by
   unfold tikR; rw [h1, if_neg h2, hsv]
   exact wk_tup4 (Wk.refl _) (wk_nils 4) (wk_nils 1) (Wk.refl _)
 by_cases h0 : e = 0
 rotate_left
 · simp [go_sem, hxf, h0]
   refine gK_off (.bool false) (by simp [go_sem]) ?_
   simp [go_sem, hxf, h0, x4, upd_eq]
   refine ret_drop (by simp [go_sem, upd_eq]) (hxe.upd_own hb4 _) ⟨?_, rfl⟩
   simp [go_sem, upd_eq]
   exact bad e (by unfold tikE; rw [if_pos h0]) h0 _ (by simp [ckV])
 subst h0
 have ho := he.ok
 simp [go_sem, hxf]
 refine gK_pure (Try.btw_c _ _ _ _) (by simp) (by simp [go_sem]) ?_
 by_cases hto : s.now ≤ to ∧ to ≤ 1000000000000
 rotate_left
 · have hto' : (decide (s.now ≤ to) && decide (to ≤ 1000000000000)) = false := by simpa using hto
   rw [hto']
   simp [go_sem, hxf, x4, upd_eq]
   refine ret_drop (by simp [go_sem, upd_eq]) (hxe.upd_own hb4 _) ⟨?_, rfl⟩
   simp [go_sem, upd_eq]
   exact bad 7 (by unfold tikE; rw [if_neg (by simp), if_pos (by omega)]) (by decide) _ (by simp [ckV])
 have hto' : (decide (s.now ≤ to) && decide (to ≤ 1000000000000)) = true := by simpa using hto
 rw [hto']
 have hscl := ho.len.2
 have htl := ho.len.1
 have cP := Try.copied_c s (by omega) (bx := bxx) hxf
 simp only [ckV] at cP
 simp [go_sem, hxf]
 refine callK_abs cP ?_
 rintro r bx1 ⟨vS, rfl, ha⟩
 have y4 := (ha.ext b4 (by rw [x4]; simp)).trans x4
 obtain ⟨BS, hS, hSn⟩ := ha.sl
 simp [go_sem, ha.fin]
 intro b9 hb9
 have n49 : b4 ≠ b9 := fun e => by rw [← e, y4] at hb9; cases hb9
 have hxx : Ext bx bx1 := hxe.trans ha.ext
 have n9 : bx b9 = none := hxx.none hb9
 have hBS : ∀ c, BS = some c → bx c = none := fun c hc => hxe.none (hSn c hc)
 have nS9 : ∀ c, BS = some c → c ≠ b9 := fun c hc e => by have := (hS.at hc).2; rw [e, hb9] at this; cases this
 have hT0 : Tk2 bx (upd bx1 b9 (some (.row 25 4 [.agg [.int .i64 to, .int .i64 s.next, .nils, vS]]))) b4 b9 (.int .i64 to) (.int .i64 s.next) (s.scs.map scV) vS BS [] .nils [] .nils [] .nils :=
   Tk2.start (hxx.upd_own n9 _) ((finB_upd _ _ _).2 ha.fin) (by rw [upd_ne _ _ n49]; exact y4) (upd_eq _ _ _) (hS.ext fun c hc => upd_ne _ _ (nS9 c hc)) hb4 n9 hBS n49
 refine pw_for (ι := Boxes × V × V) s.ts.length (fun k p => Tk2 bx p.1 b4 b9 (.int .i64 to) (.int .i64 s.next) (s.scs.map scV) vS BS ((kepT to (s.ts.take k)).map tmV) p.2.1 ((firT to (s.ts.take k)).map tmV) p.2.2 [] .nils)
   (fun k p => ⟨108, slk [(1, .int .i64 to), (2, .ep (ckV s) 0), (4, .ptr b4 4 0 0), (9, .ptr b9 4 0 0), (10, p.2.2), (11, .int .i64 k)], p.1⟩) (_, .nils, .nils) hT0 (cov_look (by simp [go_sem, ckV])) (fun k p hk hJ N hN => ?_) (fun p hJ N => ?_)
 · obtain ⟨bxk, vT, vF⟩ := p
   dsimp only at hJ hN ⊢
   have hw := wr_succ (k := k) (by omega)
   have e1 : kepT to (s.ts.take (k + 1)) = kepT to (s.ts.take k) ++ if to < s.ts[k].at_ then [s.ts[k]] else [] := by
     unfold kepT; rw [filt_succ hk]; simp
   have e2 : firT to (s.ts.take (k + 1)) = firT to (s.ts.take k) ++ if s.ts[k].at_ ≤ to then [s.ts[k]] else [] := by
     unfold firT; rw [filt_succ hk]; simp
   have hkl : (kepT to (s.ts.take k)).length ≤ 2000 := by
     unfold kepT; exact Nat.le_trans (List.length_filter_le _ _) (by simp; omega)
   have hfl : (firT to (s.ts.take k)).length ≤ 2000 := by
     unfold firT; exact Nat.le_trans (List.length_filter_le _ _) (by simp; omega)
   obtain ⟨kf, k9, k4, _, _, kS, kR⟩ := hJ.known
   obtain ⟨⟨tl1, tl2, tl3, tl4⟩, ⟨sl1, sl2, sl3, sl4⟩, ⟨fl1, fl2, fl3, fl4⟩⟩ := hJ.live
   by_cases c : s.ts[k].at_ ≤ to
   · rw [if_neg (by omega), List.append_nil] at e1
     rw [if_pos c] at e2
     rw [e1, e2] at hN
     simp only [List.map_append, List.map_cons, List.map_nil] at hN
     simp [go_sem, Try.L57_0, kf, k9, hk, c, ckV, tmV, tl1, tl2, tl3, tl4, fl1, fl2, fl3, fl4]
     refine hJ.appF (.agg #[.int .i64 0, .int .i64 0, .int .i64 0, .int .i64 0]) Try.knd22 Try.tsz35 (by simp [srcEls]; rfl) Try.tzero35 (by simp [go_sem]) (by simp [Try.tby35]; omega) (by simp; omega) (by simp [go_sem]) fun b' bx3 g1 => ?_
     obtain ⟨_, _, ⟨fl1, fl2, fl3, fl4⟩⟩ := g1.live
     simp [go_sem, g1.known.1]
     simp only [List.length_map] at g1
     exact hN _ (_, _, _) g1 (cov_look (by simp [go_sem, hw, ckV, tmV]))
   · rw [if_pos (by omega)] at e1
     rw [if_neg c, List.append_nil] at e2
     rw [e1, e2] at hN
     simp only [List.map_append, List.map_cons, List.map_nil] at hN
     simp [go_sem, Try.L57_0, kf, k9, hk, c, ckV, tmV, tl1, tl2, tl3, tl4, fl1, fl2, fl3, fl4, fzAt, fzb]
     refine hJ.appT (.agg #[.int .i64 0, .int .i64 0, .int .i64 0, .int .i64 0]) Try.knd22 Try.tsz35 (by simp [srcEls]; rfl) Try.tzero35 (by simp [go_sem]) (by simp [Try.tby35]; omega) (by simp; omega) (by simp [go_sem]) fun b' bx3 g1 g2 g3 => ?_
     simp only [List.length_map] at g3
     simp [go_sem, g1, g2, fl1, fl2, fl3, fl4, sl1, sl2, sl3, sl4, tl1, tl2, tl3, tl4, upd_eq, fzAt, fzb]
     exact hN _ (_, _, _) g3 (cov_look (by simp [go_sem, hw, ckV, tmV]))
 · obtain ⟨bxk, vT, vF⟩ := p
   dsimp only at hJ ⊢
   rw [List.take_length] at hJ
   obtain ⟨kf, k9, k4, d49, _, kS, kR⟩ := hJ.known
   obtain ⟨⟨tl1, tl2, tl3, tl4⟩, ⟨sl1, sl2, sl3, sl4⟩, ⟨fl1, fl2, fl3, fl4⟩⟩ := hJ.live
   simp [go_sem, Try.L57_0, kf, ckV, fl1, fl2, fl3, fl4]
   have hFb : ∀ y, y ∈ (firT to s.ts).map tmV → ∃ t, y = tmV t := fun y hy => by obtain ⟨q, _, rfl⟩ := List.mem_map.1 hy; exact ⟨q, rfl⟩
   rcases kS with ⟨q1, rfl, rfl⟩ | ⟨bS, rfl, rfl⟩
   · have q2 : s.scs = [] := by simpa using q1
     refine pw_unroll 1 ?_
     have hQ5 : Tk2 bx bxk b4 b9 (.int .i64 to) (.int .i64 s.next) ((s.scs.map (endS to)).map scV) .nils none ((kepT to s.ts).map tmV) vT ((firT to s.ts).map tmV) vF ((endI to s.scs).map (.int .i64)) .nils := by
       rw [q2] at hJ ⊢
       exact hJ
     simp [go_sem, Try.L57_1, kf, k9, k4, d49, d49.symm, upd_eq, upd_ne, tl1, tl2, tl3, tl4, fl1, fl2, fl3, fl4]
     obtain ⟨f1, _, f3, _, f5⟩ := hQ5.frz hFb (fun y hy => by obtain ⟨q, _, rfl⟩ := List.mem_map.1 hy; exact ⟨q, rfl⟩) (some (.row 25 4 [.agg [.int .i64 to, .int .i64 s.next, vT, .nils]]))
     refine ret_frz 3 (by simp [go_sem, upd_eq]) f5 ⟨?_, rfl⟩
     have hR : tikR s 0 to = .tup [ckV (tikS s to), .sl 4 ((firT to s.ts).map tmV), .sl 1 ((endI to s.scs).map (.int .i64)), .int .i64 0] := by
       unfold tikR tikE
       rw [if_pos (by rw [if_neg (by simp), if_neg (by omega)])]
     rw [hR]
     simp [go_sem, upd_eq]
     exact wk_tup4 (wk_agg4 (Wk.refl _) (Wk.refl _) f1 (by show Wk _ (.sl 4 ((s.scs.map (endS to)).map scV)); rw [q2]; exact wk_nils 4)) f3 (by rw [q2]; exact wk_nils 1) (Wk.refl _)
   · refine pw_for (ι := Boxes × V) s.scs.length (fun k p => Tk2 bx p.1 b4 b9 (.int .i64 to) (.int .i64 s.next) (((s.scs.take k).map (endS to) ++ s.scs.drop k).map scV) (.own bS 4 0 (s.scs.map scV).length) (some bS) ((kepT to s.ts).map tmV) vT ((firT to s.ts).map tmV) vF ((endI to (s.scs.take k)).map (.int .i64)) p.2)
       (fun k p => ⟨108, slk [(1, .int .i64 to), (4, .ptr b4 4 0 0), (9, .ptr b9 4 0 0), (10, vF), (12, p.2), (13, .int .i64 k)], p.1⟩) (bxk, .nils) (by simpa [endI] using hJ) (cov_look (by simp [go_sem])) (fun k p hk hJ N hN => ?_) (fun p hJ N => ?_)
     · obtain ⟨bxk2, vE⟩ := p
       dsimp only at hJ hN ⊢
       have hw := wr_succ (k := k) (by omega)
       have m1 := mapat (endS to) hk
       have m2 := mapset (endS to) hk
       have m3 := endI_succ to hk
       have mlen : (((s.scs.take k).map (endS to) ++ s.scs.drop k).map scV).length = s.scs.length := by simp; omega
       have hEl : (endI to (s.scs.take k)).length ≤ 500 := by
         unfold endI
         rw [List.length_map]
         exact Nat.le_trans (List.length_filter_le _ _) (by simp; omega)
       rw [m3, ← m2] at hN
       obtain ⟨kf, k9, k4, d49, kE, _, kR⟩ := hJ.known
       have kR := kR _ rfl
       have n9S : bS ≠ b9 := fun e => by rw [e, k9] at kR; injection kR with q; injection q with q; exact absurd q (by decide)
       have hkL : k < (((s.scs.take k).map (endS to) ++ s.scs.drop k).map scV).length := by rw [mlen]; exact hk
       obtain ⟨L, hL⟩ : ∃ L, ((s.scs.take k).map (endS to) ++ s.scs.drop k).map scV = L := ⟨_, rfl⟩
       rw [hL] at m1 mlen kR hkL hJ hN
       have ms : L[k] = scV s.scs[k] := (List.getElem?_eq_some_iff.1 m1).2
       have m1 := ms
       simp only [scV] at m1
       clear m2 m3
       by_cases c1 : s.scs[k].why = 0
       · by_cases c2 : s.scs[k].dl ≤ to
         · rw [if_pos ⟨c1, c2⟩] at hN
           have hs2 : endS to s.scs[k] = { s.scs[k] with why := 2 } := by unfold endS; rw [if_pos ⟨c1, c2⟩]
           rw [hs2] at hN
           simp only [List.map_append, List.map_cons, List.map_nil, scV] at hN
           simp [go_sem, Try.L57_1, kf, k9, kR, hk, hkL, m1, c1, c2, kE, upd_eq, upd_ne, n9S, n9S.symm]
           have g0 := hJ.putS rfl (S' := L.set k (.agg [.int .i64 s.scs[k].id, .int .i64 s.scs[k].parent, .int .i64 s.scs[k].dl, .int .i64 2])) (by simp)
           refine g0.app (.int .i64 0) Try.knd29 Try.tsz2 (by simp [srcEls]; rfl) Try.tzero2 (by simp [go_sem]) (by simp [Try.tby2]; omega) (by simp; omega) (by simp [go_sem]) fun b' bx3 g1 => ?_
           simp only [List.length_map] at g1 hN
           simp [go_sem]
           exact hN _ (_, _) g1 (cov_look (by simp [go_sem, hw]))
         · have c' : ¬ (s.scs[k].why = 0 ∧ s.scs[k].dl ≤ to) := fun q => c2 q.2
           rw [if_neg c', List.append_nil] at hN
           have hs2 : endS to s.scs[k] = s.scs[k] := by unfold endS; rw [if_neg c']
           rw [hs2] at hN
           simp [go_sem, Try.L57_1, kf, k9, kR, hk, hkL, m1, c1, c2, kE]
           rw [show L.set k (scV s.scs[k]) = L by rw [← ms]; exact List.set_getElem_self hkL] at hN
           exact hN _ (_, _) hJ (cov_look (by simp [go_sem, hw]))
       · have c' : ¬ (s.scs[k].why = 0 ∧ s.scs[k].dl ≤ to) := fun q => c1 q.1
         rw [if_neg c', List.append_nil] at hN
         have hs2 : endS to s.scs[k] = s.scs[k] := by unfold endS; rw [if_neg c']
         rw [hs2] at hN
         simp [go_sem, Try.L57_1, kf, k9, kR, hk, hkL, m1, c1, kE]
         rw [show L.set k (scV s.scs[k]) = L by rw [← ms]; exact List.set_getElem_self hkL] at hN
         exact hN _ (_, _) hJ (cov_look (by simp [go_sem, hw]))
     · obtain ⟨bxk2, vE⟩ := p
       dsimp only at hJ ⊢
       have hQ5 := hJ
       rw [List.take_length, List.drop_length, List.append_nil] at hQ5
       obtain ⟨kf, k9, k4, d49, kE, kS, kR⟩ := hQ5.known
       obtain ⟨lT, lS, lF⟩ := hQ5.live
       simp [go_sem, Try.L57_1, kf, k9, k4, d49, d49.symm, upd_eq, upd_ne, lT, lF, kE]
       obtain ⟨f1, f2, f3, f4, f5⟩ := hQ5.frz hFb (fun y hy => by obtain ⟨q, _, rfl⟩ := List.mem_map.1 hy; exact ⟨q, rfl⟩) (some (.row 25 4 [.agg [.int .i64 to, .int .i64 s.next, vT, .own bS 4 0 s.scs.length]]))
       rw [List.length_map] at f2
       refine ret_frz 3 (by simp [go_sem, upd_eq]) f5 ⟨?_, rfl⟩
       have hR : tikR s 0 to = .tup [ckV (tikS s to), .sl 4 ((firT to s.ts).map tmV), .sl 1 ((endI to s.scs).map (.int .i64)), .int .i64 0] := by
         unfold tikR tikE
         rw [if_pos (by rw [if_neg (by simp), if_neg (by omega)])]
       rw [hR]
       simp [go_sem, upd_eq]
       exact wk_tup4 (wk_agg4 (Wk.refl _) (Wk.refl _) f1 f2) f3 f4 (Wk.refl _)
end Go.Proofs

set_option linter.unusedSimpArgs false
set_option linter.unusedVariables false
set_option maxRecDepth 100000
namespace Go.Ck
open Go Go.Pl
end Go.Ck
namespace Go.Proofs
open Go Go.Pl Go.Ck
end Go.Proofs

set_option linter.unusedSimpArgs false
set_option linter.unusedVariables false
set_option maxRecDepth 100000
namespace Go.Ck
open Go Go.Pl
structure Cl where
 what : Int
 id : Int
 at_ : Int
 kind : Int
 deriving DecidableEq, Inhabited
def clV (x : Cl) : V := .agg [.int .u8 x.what, .int .i64 x.id, .int .i64 x.at_, .int .i64 x.kind]
theorem Ok.why {s : Ck} (h : Ok s) {k : Nat} (hk : k < s.scs.length) : whyR s 0 s.scs[k].id = .tup [.int .i64 s.scs[k].why, .int .i64 0] := by
 unfold whyR
 rw [if_neg (by simp), fidx_of hk rfl h.incr]
 simp only [gdl hk]
end Go.Ck
namespace Go.Proofs
open Go Go.Pl Go.Ck
end Go.Proofs

set_option linter.unusedVariables false
set_option linter.unusedSimpArgs false
set_option maxRecDepth 100000
namespace Go.Proofs.Ytejcmkefemhpkaa
open Go Go.Pl Go.Proofs Go.Ck
open Go.ChangeShapes Go.WideShapes Go.ChangeAt Go.RowKit
theorem hasU8 {n : Nat} {xs : List V} (h : HasL Try.prog n 5 xs) : ∃ i : Int, xs = [.int .u8 i] ∧ 0 ≤ i ∧ i ≤ 255 := by
 obtain ⟨i, rfl, hw⟩ := h.int Try.knd5
 simp [Lit.wf, IntKind.min, IntKind.max, IntKind.signed, IntKind.bits] at hw
 exact ⟨i, rfl, by omega⟩
theorem hasCl {n : Nat} {ys : List V} (hy : HasL Try.prog (n + 1) 44 ys) : ∃ x : Cl, .agg ys = clV x ∧ 0 ≤ x.what ∧ x.what ≤ 255 := by
 obtain ⟨x, y, z, w, rfl⟩ := len4 (hy.len.trans Try.tsz44)
 have h0 := hy.fld Try.knd44 Try.fld44_0
 rw [Try.tsz5] at h0
 have h1 := hy.fld Try.knd44 Try.fld44_1
 rw [Try.tsz2] at h1
 have h2 := hy.fld Try.knd44 Try.fld44_2
 rw [Try.tsz2] at h2
 have h3 := hy.fld Try.knd44 Try.fld44_3
 rw [Try.tsz3] at h3
 obtain ⟨a, ha, hb8⟩ := hasU8 h0
 obtain ⟨b, hb, _⟩ := hasInt64 h1
 obtain ⟨c, hc, _⟩ := hasInt64 h2
 obtain ⟨d, hd, _⟩ := hasIntB h3
 simp at ha hb hc hd
 subst ha hb hc hd
 exact ⟨⟨a, b, c, d⟩, rfl, hb8⟩
theorem hasCls {n : Nat} {xs : List V} (h : HasL Try.prog (n + 2) 42 xs) : ∃ l : List Cl, xs = [.sl 4 (l.map clV)] ∧ ∀ x, x ∈ l → 0 ≤ x.what ∧ x.what ≤ 255 := by
 obtain ⟨l, h, hl⟩ := HasL.slice (r := fun x : {x : Cl // 0 ≤ x.what ∧ x.what ≤ 255} => clV x.1) Try.knd42 h fun ys hy => by
   obtain ⟨x, h1, h2⟩ := hasCl hy
   exact ⟨⟨x, h2⟩, by rw [elV_agg Try.tagg44]; exact h1⟩
 rw [Try.tsz44] at h
 refine ⟨l.map (·.1), by rw [h, List.map_map]; rfl, fun x hx => ?_⟩
 obtain ⟨y, _, rfl⟩ := List.mem_map.1 hx
 exact y.2
end Go.Proofs.Ytejcmkefemhpkaa

set_option linter.unusedSimpArgs false
set_option linter.unusedVariables false
set_option maxRecDepth 100000
namespace Go.Ck
open Go Go.Pl
theorem form_of {now : Int} {l : List Sc} (hi : (l.map (·.id)).Pairwise (· < ·)) (hp : ∀ x, x ∈ l → 0 < x.id) (h : ∀ x, x ∈ l → okS now x ∧ (x.parent = 0 ∨ ∃ p, p ∈ l ∧ p.id = x.parent ∧ p.id < x.id ∧ x.dl ≤ p.dl ∧ (x.why = 0 → p.why = 0))) : FormS now l := by
 have hlt : ∀ i j (hi' : i < l.length) (hj : j < l.length), i < j → l[i].id < l[j].id := fun i j hi' hj hij => by
   have := List.pairwise_iff_getElem.1 hi i j (by simpa using hi') (by simpa using hj) hij
   simpa using this
 intro i hi2
 obtain ⟨h1, h2⟩ := h l[i] (List.getElem_mem hi2)
 have hg : l.getD i default = l[i] := gdl hi2
 refine ⟨?_, by rw [hg]; exact h1, ?_⟩
 · rw [hg]
   unfold lastId
   split
   · exact hp _ (List.getElem_mem hi2)
   · rw [gdl (by omega)]
     exact hlt (i - 1) i (by omega) hi2 (by omega)
 · rw [hg]
   rcases h2 with h2 | ⟨p, p1, p2, p3, p4, p5⟩
   · exact .inl h2
   · right
     obtain ⟨j, hj, rfl⟩ := List.getElem_of_mem p1
     refine ⟨l[j], ?_, p2, p4, p5⟩
     rw [List.mem_take_iff_getElem]
     refine ⟨j, ?_, rfl⟩
     rcases Nat.lt_or_ge j i with q | q
     · omega
     · rcases Nat.lt_or_ge i j with q2 | q2
       · have := hlt i j hi2 hj q2; omega
       · have : i = j := by omega
         subst this; omega
theorem del_sub {α : Type} (l : List α) (k : Nat) : (l.take k ++ l.drop (k + 1)).Sublist l := by
 have h : (l.take k ++ l.drop (k + 1)).Sublist (l.take k ++ l.drop k) := by
   refine List.Sublist.append (List.Sublist.refl _) ?_
   rw [← List.tail_drop]
   exact List.tail_sublist _
 rwa [List.take_append_drop] at h
theorem Ok.stp {s : Ck} (h : Ok s) (id : Int) : Ok (stpS s id) := by
 unfold stpS
 split
 · rename_i k hx
   have hs := del_sub s.ts k
   refine ⟨⟨Nat.le_trans hs.length_le h.len.1, h.len.2⟩, ⟨h.rng.1, h.rng.2.1, fun t ht => h.rng.2.2.1 t (hs.subset ht), h.rng.2.2.2⟩, ?_, srt_pw (h.pw.sublist hs), h.form⟩
   exact h.nd.sublist (List.Sublist.append (hs.map _) (List.Sublist.refl _))
 · exact h
theorem mem_del {l : List Sc} {k : Nat} (hk : k < l.length) {x : Sc} (hx : x ∈ l) (hne : x ≠ l[k]) : x ∈ l.take k ++ l.drop (k + 1) := by
 obtain ⟨j, hj, rfl⟩ := List.getElem_of_mem hx
 rcases Nat.lt_trichotomy j k with q | q | q
 · exact List.mem_append.2 (.inl (List.mem_take_iff_getElem.2 ⟨j, by omega, rfl⟩))
 · subst q; exact absurd rfl hne
 · refine List.mem_append.2 (.inr ?_)
   rw [List.mem_drop_iff_getElem]
   exact ⟨j - (k + 1), by omega, by congr 1; omega⟩
theorem Ok.fgt {s : Ck} (h : Ok s) {id : Int} (he : forE s 0 id = 0) : Ok (forS s id) := by
 unfold forE at he
 rw [if_neg (by simp)] at he
 unfold forS
 cases hx : fidx s.scs id with
 | none => rw [hx] at he; cases he
 | some k =>
   rw [hx] at he
   dsimp only at he
   obtain ⟨hk, rfl⟩ := fidx_some hx
   have hu : ¬ 1 < (unI s.scs s.scs[k].id s.scs.length).length := fun q => by rw [if_pos (.inr q)] at he; cases he
   have hs := del_sub s.scs k
   have hpos := h.pos hk
   refine ⟨⟨h.len.1, Nat.le_trans hs.length_le h.len.2⟩, ⟨h.rng.1, h.rng.2.1, h.rng.2.2.1, fun x hx => h.rng.2.2.2 x (hs.subset hx)⟩, ?_, h.srt, ?_⟩
   · exact h.nd.sublist (List.Sublist.append (List.Sublist.refl _) (hs.map _))
   · refine form_of (h.incr.sublist (hs.map _)) (fun x hx => ?_) fun x hx => ?_
     · have := (h.rng.2.2.2 x (hs.subset hx)).1.1; omega
     · obtain ⟨i, hi, rfl⟩ := List.getElem_of_mem (hs.subset hx)
       have ho := (h.form i hi).2.1
       rw [gdl hi] at ho
       refine ⟨ho, ?_⟩
       rcases h.par hi with q | ⟨j, hj, q1, q2, q3⟩
       · exact .inl q
       · right
         have hjl : j < s.scs.length := by omega
         have hlt : s.scs[j].id < s.scs[i].id := by
           have := List.pairwise_iff_getElem.1 h.incr j i (by simpa using hjl) (by simpa using hi) hj
           simpa using this
         refine ⟨s.scs[j], mem_del hk (List.getElem_mem hjl) fun e => hu ?_, q1, hlt, q2, q3⟩
         have hjk : j = k := h.inj hjl hk (by rw [e])
         subst hjk
         have m1 := unI_mem hjl rfl
         have m2 : i ∈ unI s.scs s.scs[j].id s.scs.length := by
           unfold unI
           refine List.mem_filter.2 ⟨by simpa using hi, ?_⟩
           rw [unB_iff, gdl hi]
           exact .inr (.inl q1.symm)
         have hn := unI_nodup s.scs s.scs[j].id s.scs.length
         generalize unI s.scs s.scs[j].id s.scs.length = is at *
         rcases is with _ | ⟨a, _ | ⟨b, r⟩⟩
         · cases m1
         · simp at m1 m2; omega
         · simp
def Lim (s : Ck) : Prop := s.ts.length ≤ 100000 ∧ s.scs.length ≤ 100000
theorem Ok.lim {s : Ck} (h : Ok s) : Lim s := ⟨by have := h.len.1; omega, by have := h.len.2; omega⟩
section
variable {s : Ck} {e : Int}
theorem aft_ex (he : Chk s e) (hl : Lim s) (a k o : Int) : ∃ u i e', aftR s e a k o = .tup [ckV u, .int .i64 i, .int .i64 e'] ∧ Lim u ∧ (e = 0 → Ok u) := by
 unfold aftR
 by_cases c : aftE s e a k o = 0
 · have h0 : e = 0 := by
     by_cases q : e = 0
     · exact q
     · unfold aftE at c; rw [if_pos q] at c; exact absurd c q
   subst h0
   rw [if_pos c]
   exact ⟨_, _, _, rfl, (he.ok.aft c).lim, fun _ => he.ok.aft c⟩
 · rw [if_neg c]
   exact ⟨_, _, _, rfl, hl, fun q => by subst q; exact he.ok⟩
theorem stp_ex (he : Chk s e) (hl : Lim s) (h : Int) : ∃ u t e', stpR s e h = .tup [ckV u, tmV t, .int .i64 e'] ∧ Lim u ∧ (e = 0 → Ok u) := by
 unfold stpR
 by_cases c : stpE s e h = 0
 · have h0 : e = 0 := by
     by_cases q : e = 0
     · exact q
     · unfold stpE at c; rw [if_pos q] at c; exact absurd c q
   subst h0
   rw [if_pos c]
   exact ⟨_, _, _, rfl, (he.ok.stp h).lim, fun _ => he.ok.stp h⟩
 · rw [if_neg c]
   exact ⟨_, _, _, rfl, hl, fun q => by subst q; exact he.ok⟩
theorem due_ex (s : Ck) (e : Int) : ∃ a e', dueR s e = .tup [.int .i64 a, .int .i64 e'] := by
 unfold dueR; split
 · exact ⟨_, _, rfl⟩
 · split
   · exact ⟨_, _, rfl⟩
   · exact ⟨_, _, rfl⟩
theorem tik_ex (he : Chk s e) (hl : Lim s) (to : Int) : ∃ (u : Ck) (A : List Tm) (B : List Int) (e' : Int), tikR s e to = .tup [ckV u, .sl 4 (A.map tmV), .sl 1 (B.map (.int .i64)), .int .i64 e'] ∧ Lim u ∧ A.length ≤ 100000 ∧ B.length ≤ 100000 ∧ (e = 0 → Ok u) := by
 unfold tikR
 by_cases c : tikE s e to = 0
 · have h0 : e = 0 := by
     by_cases q : e = 0
     · exact q
     · unfold tikE at c; rw [if_pos q] at c; exact absurd c q
   subst h0
   rw [if_pos c]
   obtain ⟨t1, t2⟩ := tikE_ok c
   refine ⟨_, _, _, _, rfl, (he.ok.tik t1 t2).lim, Nat.le_trans (List.length_filter_le _ _) hl.1, ?_, fun _ => he.ok.tik t1 t2⟩
   unfold endI; rw [List.length_map]; exact Nat.le_trans (List.length_filter_le _ _) hl.2
 · rw [if_neg c]
   exact ⟨_, [], [], _, rfl, hl, by simp, by simp, fun q => by subst q; exact he.ok⟩
theorem scp_ex (he : Chk s e) (hl : Lim s) (p d : Int) : ∃ u i e', scpR s e p d = .tup [ckV u, .int .i64 i, .int .i64 e'] ∧ Lim u ∧ (e = 0 → Ok u) := by
 unfold scpR
 by_cases c : scpE s e p d = 0
 · have h0 : e = 0 := by
     by_cases q : e = 0
     · exact q
     · unfold scpE at c; rw [if_pos q] at c; exact absurd c q
   subst h0
   rw [if_pos c]
   exact ⟨_, _, _, rfl, (he.ok.scp c).lim, fun _ => he.ok.scp c⟩
 · rw [if_neg c]
   exact ⟨_, _, _, rfl, hl, fun q => by subst q; exact he.ok⟩
theorem can_ex (he : Chk s e) (hl : Lim s) (h : Int) : ∃ (u : Ck) (B : List Int) (e' : Int), canR s e h = .tup [ckV u, .sl 1 (B.map (.int .i64)), .int .i64 e'] ∧ Lim u ∧ B.length ≤ 100000 ∧ (e = 0 → Ok u) := by
 unfold canR
 by_cases c : canE s e h = 0
 · have h0 : e = 0 := by
     by_cases q : e = 0
     · exact q
     · unfold canE at c; rw [if_pos q] at c; exact absurd c q
   subst h0
   rw [if_pos c]
   obtain ⟨k, hk, rfl, _⟩ := canE_ok c
   refine ⟨_, _, _, rfl, (he.ok.can hk).lim, ?_, fun _ => he.ok.can hk⟩
   unfold canI; rw [List.length_map]
   exact Nat.le_trans (List.length_filter_le _ _) (Nat.le_trans (unI_len _ _ _) hl.2)
 · rw [if_neg c]
   exact ⟨_, [], _, rfl, hl, by simp, fun q => by subst q; exact he.ok⟩
theorem why_ex (s : Ck) (e h : Int) : ∃ a e', whyR s e h = .tup [.int .i64 a, .int .i64 e'] := by
 unfold whyR; split
 · exact ⟨_, _, rfl⟩
 · split <;> exact ⟨_, _, rfl⟩
theorem left_ex (s : Ck) (e h : Int) : ∃ a e', leftR s e h = .tup [.int .i64 a, .int .i64 e'] := by
 unfold leftR; split
 · exact ⟨_, _, rfl⟩
 · split <;> exact ⟨_, _, rfl⟩
theorem bel_ex (hl : Lim s) (e h : Int) : ∃ (B : List Int) (e' : Int), belR s e h = .tup [.sl 1 (B.map (.int .i64)), .int .i64 e'] ∧ B.length ≤ 100000 := by
 unfold belR; split
 · exact ⟨[], _, rfl, by simp⟩
 · split
   · refine ⟨_, _, rfl, ?_⟩
     have := unI_len s.scs h s.scs.length
     have := hl.2
     simp [unN]; omega
   · exact ⟨[], _, rfl, by simp⟩
theorem for_ex (he : Chk s e) (hl : Lim s) (h : Int) : ∃ u e', forR s e h = .tup [ckV u, .int .i64 e'] ∧ Lim u ∧ (e = 0 → Ok u) := by
 unfold forR
 by_cases c : forE s e h = 0
 · have h0 : e = 0 := by
     by_cases q : e = 0
     · exact q
     · unfold forE at c; rw [if_pos q] at c; exact absurd c q
   subst h0
   rw [if_pos c]
   exact ⟨_, _, rfl, (he.ok.fgt c).lim, fun _ => he.ok.fgt c⟩
 · rw [if_neg c]
   exact ⟨_, _, rfl, hl, fun q => by subst q; exact he.ok⟩
end
end Go.Ck

set_option linter.unusedSimpArgs false
set_option linter.unusedVariables false
set_option maxRecDepth 100000
namespace Go.Proofs
open Go Go.Pl Go.Ck
set_option maxHeartbeats 8000000 in
theorem Try.do_c (s : Ck) (e : Int) (he : Chk s e) (hl : Lim s) (x : Cl) (hx : 0 ≤ x.what ∧ x.what ≤ 255) (bx : Boxes) : ∃ u, Lim u ∧ (e = 0 → Ok u) ∧ PureCall Try.prog 29 [ckV s, clV x] bx (.tup [ckV u, .bool true]) := by
 have cS : ∀ u : Ck, Lim u → ∀ bx, PureCall Try.prog 14 [ckV u, ckV u] bx (.bool true) := fun u hu bx => by
   have := Try.same_c u u ⟨by have := hu.1; omega, by have := hu.2; omega⟩ bx
   rwa [decide_eq_true rfl] at this
 have cN : ∀ B : List Int, B.length ≤ 100000 → ∀ bx, PureCall Try.prog 23 [.sl 1 (B.map (.int .i64)), .sl 1 (B.map (.int .i64))] bx (.bool true) := fun B hB bx => by
   have := Try.sameN_c B B (by omega) bx
   rwa [decide_eq_true rfl] at this
 have cM : ∀ B : List Tm, B.length ≤ 100000 → ∀ bx, PureCall Try.prog 13 [.sl 4 (B.map tmV), .sl 4 (B.map tmV)] bx (.bool true) := fun B hB bx => by
   have := Try.sameT_c B B (by omega) bx
   rwa [decide_eq_true rfl] at this
 obtain ⟨w, hw9, hwx⟩ : ∃ w : Nat, w < 9 ∧ x.what.tmod 9 = (w : Int) := by
   refine ⟨(x.what.tmod 9).toNat, ?_, ?_⟩
   · rw [Int.tmod_eq_emod_of_nonneg hx.1]; omega
   · rw [Int.tmod_eq_emod_of_nonneg hx.1]; omega
 have hxe : ∀ b4 (r : Option Box), bx b4 = none → Ext bx (upd bx b4 r) := fun b4 r h => (Ext.refl bx).upd_own h r
 rcases w with _ | _ | _ | _ | _ | _ | _ | _ | _ | w
 · have hwx' : x.what.tmod 9 = 0 := hwx
   obtain ⟨u, i, e', hR, hu, ho⟩ := aft_ex he hl x.at_ x.kind x.id
   have c1 := fun bx => Try.After_c s e he x.at_ x.kind x.id bx
   have c2 := fun bx => Try.rAfter_c s e he x.at_ x.kind x.id bx
   rw [hR] at c1 c2
   refine ⟨u, hu, ho, ?_⟩
   have cS1 := cS _ hu
   refine PureCall.wk (Try.ctr29 fun hf => ?_)
   simp only [ckV, tmV] at c1 c2 cS1 ⊢
   simp [go_sem, Try.C29, hf, clV, hwx']
   intro b4 hb4
   have hx4 := fun r => hxe b4 r hb4
   refine callK_pure (c1 _) ?_
   simp [go_sem, hf]
   intro c1b hc1b
   rw [upd_self hc1b]
   refine callK_pure (c2 _) ?_
   simp [go_sem, hf]
   intro c2b hc2b
   rw [upd_self hc2b]
   refine gK_pure (cS1 _) (by simp) (by simp [go_sem]) ?_
   simp [go_sem, hf, upd_eq, upd_upd]
   refine ret_drop (by simp [go_sem, upd_eq]) (hx4 _) ⟨?_, rfl⟩
   simp [go_sem, upd_eq]
   exact Wk.refl _
 · have hwx' : x.what.tmod 9 = 1 := hwx
   obtain ⟨u, t, e', hR, hu, ho⟩ := stp_ex he hl x.id
   have c1 := fun bx => Try.Stop_c s e he x.id bx
   have c2 := fun bx => Try.rStop_c s e he x.id bx
   rw [hR] at c1 c2
   refine ⟨u, hu, ho, ?_⟩
   have cS1 := cS _ hu
   refine PureCall.wk (Try.ctr29 fun hf => ?_)
   simp only [ckV, tmV] at c1 c2 cS1 ⊢
   simp [go_sem, Try.C29, hf, clV, hwx']
   intro b4 hb4
   have hx4 := fun r => hxe b4 r hb4
   refine callK_pure (c1 _) ?_
   simp [go_sem, hf]
   generalize hXd : upd bx b4 _ = X
   have hXf : FinB X := by rw [← hXd]; exact (finB_upd _ _ _).2 hf
   have hX4 : X b4 = some (.row 25 4 [.agg [.int .i64 0, .int .i64 0, .nils, .nils]]) := by rw [← hXd, upd_eq]
   have hXe : Ext bx X := by rw [← hXd]; exact hx4 _
   clear hXd
   intro b12 hb12 b13 hb13
   have nb12 : b12 ≠ b13 := fun e => by rw [e, upd_eq] at hb13; cases hb13
   have e1b12 : ∀ r q r', upd (upd (upd X b12 r) b13 q) b12 r' = upd (upd X b12 r') b13 q := fun r q r' => by rw [upd_comm nb12.symm, upd_upd]
   have e3b12 : ∀ r, upd (upd X b12 r) b13 none = upd X b12 r := fun r => upd_self (by rw [upd_ne _ _ nb12.symm] at hb13 ⊢; exact hb13)
   have e4b12 : upd X b12 none = X := upd_self hb12
   simp [go_sem, hXf, upd_eq, upd_ne, upd_upd, nb12, nb12.symm, e1b12, e3b12, e4b12]
   refine callK_pure (c2 _) ?_
   simp [go_sem, hXf]
   intro b15 hb15 b16 hb16
   have nb15 : b15 ≠ b16 := fun e => by rw [e, upd_eq] at hb16; cases hb16
   have e1b15 : ∀ r q r', upd (upd (upd X b15 r) b16 q) b15 r' = upd (upd X b15 r') b16 q := fun r q r' => by rw [upd_comm nb15.symm, upd_upd]
   have e3b15 : ∀ r, upd (upd X b15 r) b16 none = upd X b15 r := fun r => upd_self (by rw [upd_ne _ _ nb15.symm] at hb16 ⊢; exact hb16)
   have e4b15 : upd X b15 none = X := upd_self hb15
   simp [go_sem, hXf, upd_eq, upd_ne, upd_upd, nb15, nb15.symm, e1b15, e3b15, e4b15]
   refine gK_pure (cS1 _) (by simp) (by simp [go_sem]) ?_
   simp [go_sem, hXf, hX4, upd_eq, upd_upd]
   refine ret_drop (by simp [go_sem, upd_eq]) (hXe.upd_own hb4 _) ⟨?_, rfl⟩
   simp [go_sem, upd_eq]
   exact Wk.refl _
 · have hwx' : x.what.tmod 9 = 2 := hwx
   obtain ⟨a, e', hR⟩ := due_ex s e
   have c1 := fun bx => Try.Due_c s e he bx
   have c2 := fun bx => Try.rDue_c s e he bx
   rw [hR] at c1 c2
   refine ⟨s, hl, fun h0 => by subst h0; exact he.ok, ?_⟩
   have cS1 := cS _ hl
   refine PureCall.wk (Try.ctr29 fun hf => ?_)
   simp only [ckV, tmV] at c1 c2 cS1 ⊢
   simp [go_sem, Try.C29, hf, clV, hwx']
   intro b4 hb4
   have hx4 := fun r => hxe b4 r hb4
   refine callK_pure (c1 _) ?_
   simp [go_sem, hf]
   refine callK_pure (c2 _) ?_
   simp [go_sem, hf]
   refine ret_drop (by simp [go_sem, upd_eq]) (hx4 _) ⟨?_, rfl⟩
   simp [go_sem, upd_eq]
   exact Wk.refl _
 · have hwx' : x.what.tmod 9 = 3 := hwx
   obtain ⟨u, A, B, e', hR, hu, hA, hB, ho⟩ := tik_ex he hl x.at_
   have c1 := fun bx => Try.Tick_c s e he x.at_ bx
   have c2 := fun bx => Try.rTick_c s e he x.at_ bx
   rw [hR] at c1 c2
   refine ⟨u, hu, ho, ?_⟩
   have cS1 := cS _ hu
   refine PureCall.wk (Try.ctr29 fun hf => ?_)
   simp only [ckV, tmV] at c1 c2 cS1 ⊢
   simp [go_sem, Try.C29, hf, clV, hwx']
   intro b4 hb4
   have hx4 := fun r => hxe b4 r hb4
   refine callK_pure (c1 _) ?_
   simp [go_sem, hf]
   intro c1b hc1b
   rw [upd_self hc1b]
   refine callK_pure (c2 _) ?_
   simp [go_sem, hf]
   intro c2b hc2b
   rw [upd_self hc2b]
   refine callK_pure (cM A hA _) ?_
   simp [go_sem, hf]
   refine gK_pure (cN B hB _) (by simp) (by simp [go_sem]) ?_
   simp [go_sem, hf]
   refine gK_pure (cS1 _) (by simp) (by simp [go_sem]) ?_
   simp [go_sem, hf, upd_eq, upd_upd]
   refine ret_drop (by simp [go_sem, upd_eq]) (hx4 _) ⟨?_, rfl⟩
   simp [go_sem, upd_eq]
   exact Wk.refl _
 · have hwx' : x.what.tmod 9 = 4 := hwx
   obtain ⟨u, i, e', hR, hu, ho⟩ := scp_ex he hl x.id x.at_
   have c1 := fun bx => Try.Scope_c s e he x.id x.at_ bx
   have c2 := fun bx => Try.rScope_c s e he x.id x.at_ bx
   rw [hR] at c1 c2
   refine ⟨u, hu, ho, ?_⟩
   have cS1 := cS _ hu
   refine PureCall.wk (Try.ctr29 fun hf => ?_)
   simp only [ckV, tmV] at c1 c2 cS1 ⊢
   simp [go_sem, Try.C29, hf, clV, hwx']
   intro b4 hb4
   have hx4 := fun r => hxe b4 r hb4
   refine callK_pure (c1 _) ?_
   simp [go_sem, hf]
   intro c1b hc1b
   rw [upd_self hc1b]
   refine callK_pure (c2 _) ?_
   simp [go_sem, hf]
   intro c2b hc2b
   rw [upd_self hc2b]
   refine gK_pure (cS1 _) (by simp) (by simp [go_sem]) ?_
   simp [go_sem, hf, upd_eq, upd_upd]
   refine ret_drop (by simp [go_sem, upd_eq]) (hx4 _) ⟨?_, rfl⟩
   simp [go_sem, upd_eq]
   exact Wk.refl _
 · have hwx' : x.what.tmod 9 = 5 := hwx
   obtain ⟨u, B, e', hR, hu, hB, ho⟩ := can_ex he hl x.id
   have c1 := fun bx => Try.Cancel_c s e he x.id bx
   have c2 := fun bx => Try.rCancel_c s e he x.id bx
   rw [hR] at c1 c2
   refine ⟨u, hu, ho, ?_⟩
   have cS1 := cS _ hu
   refine PureCall.wk (Try.ctr29 fun hf => ?_)
   simp only [ckV, tmV] at c1 c2 cS1 ⊢
   simp [go_sem, Try.C29, hf, clV, hwx']
   intro b4 hb4
   have hx4 := fun r => hxe b4 r hb4
   refine callK_pure (c1 _) ?_
   simp [go_sem, hf]
   intro c1b hc1b
   rw [upd_self hc1b]
   refine callK_pure (c2 _) ?_
   simp [go_sem, hf]
   intro c2b hc2b
   rw [upd_self hc2b]
   refine callK_pure (cN B hB _) ?_
   simp [go_sem, hf]
   refine gK_pure (cS1 _) (by simp) (by simp [go_sem]) ?_
   simp [go_sem, hf, upd_eq, upd_upd]
   refine ret_drop (by simp [go_sem, upd_eq]) (hx4 _) ⟨?_, rfl⟩
   simp [go_sem, upd_eq]
   exact Wk.refl _
 · have hwx' : x.what.tmod 9 = 6 := hwx
   obtain ⟨a, e', hR⟩ := why_ex s e x.id
   have c1 := fun bx => Try.Why_c s e x.id he bx
   have c2 := fun bx => Try.rWhy_c s e x.id he bx
   rw [hR] at c1 c2
   refine ⟨s, hl, fun h0 => by subst h0; exact he.ok, ?_⟩
   have cS1 := cS _ hl
   refine PureCall.wk (Try.ctr29 fun hf => ?_)
   simp only [ckV, tmV] at c1 c2 cS1 ⊢
   simp [go_sem, Try.C29, hf, clV, hwx']
   intro b4 hb4
   have hx4 := fun r => hxe b4 r hb4
   refine callK_pure (c1 _) ?_
   simp [go_sem, hf]
   have c3 := fun bx => Try.Left_c s e x.id he bx
   have c4 := fun bx => Try.rLeft_c s e x.id he bx
   obtain ⟨a2, e2, hR2⟩ := left_ex s e x.id
   rw [hR2] at c3 c4
   simp only [ckV] at c3 c4
   refine callK_pure (c2 _) ?_
   simp [go_sem, hf]
   refine callK_pure (c3 _) ?_
   simp [go_sem, hf]
   refine callK_pure (c4 _) ?_
   simp [go_sem, hf, upd_eq]
   refine ret_drop (by simp [go_sem, upd_eq]) (hx4 _) ⟨?_, rfl⟩
   simp [go_sem, upd_eq]
   exact Wk.refl _
 · have hwx' : x.what.tmod 9 = 7 := hwx
   obtain ⟨B, e', hR, hB⟩ := bel_ex hl e x.id
   have c1 := fun bx => Try.Below_c s e he x.id bx
   have c2 := fun bx => Try.rBelow_c s e he x.id bx
   rw [hR] at c1 c2
   refine ⟨s, hl, fun h0 => by subst h0; exact he.ok, ?_⟩
   have cS1 := cS _ hl
   refine PureCall.wk (Try.ctr29 fun hf => ?_)
   simp only [ckV, tmV] at c1 c2 cS1 ⊢
   simp [go_sem, Try.C29, hf, clV, hwx']
   intro b4 hb4
   have hx4 := fun r => hxe b4 r hb4
   refine callK_pure (c1 _) ?_
   simp [go_sem, hf]
   refine callK_pure (c2 _) ?_
   simp [go_sem, hf]
   refine callK_pure (cN B hB _) ?_
   simp [go_sem, hf, upd_eq]
   refine ret_drop (by simp [go_sem, upd_eq]) (hx4 _) ⟨?_, rfl⟩
   simp [go_sem, upd_eq]
   exact Wk.refl _
 · have hwx' : x.what.tmod 9 = 8 := hwx
   obtain ⟨u, e', hR, hu, ho⟩ := for_ex he hl x.id
   have c1 := fun bx => Try.Forget_c s e he x.id bx
   have c2 := fun bx => Try.rForget_c s e he x.id bx
   rw [hR] at c1 c2
   refine ⟨u, hu, ho, ?_⟩
   have cS1 := cS _ hu
   refine PureCall.wk (Try.ctr29 fun hf => ?_)
   simp only [ckV, tmV] at c1 c2 cS1 ⊢
   simp [go_sem, Try.C29, hf, clV, hwx']
   intro b4 hb4
   have hx4 := fun r => hxe b4 r hb4
   refine callK_pure (c1 _) ?_
   simp [go_sem, hf]
   intro c1b hc1b
   rw [upd_self hc1b]
   refine callK_pure (c2 _) ?_
   simp [go_sem, hf]
   intro c2b hc2b
   rw [upd_self hc2b]
   refine gK_pure (cS1 _) (by simp) (by simp [go_sem]) ?_
   simp [go_sem, hf, upd_eq, upd_upd]
   refine ret_drop (by simp [go_sem, upd_eq]) (hx4 _) ⟨?_, rfl⟩
   simp [go_sem, upd_eq]
   exact Wk.refl _
 · omega
end Go.Proofs

set_option linter.unusedSimpArgs false
set_option linter.unusedVariables false
set_option maxRecDepth 100000
namespace Go.Proofs
open Go Go.Pl Go.Ck
set_option maxHeartbeats 2000000 in
theorem Try.clockPlays_c (now : Int) (l : List Cl) (hl : ∀ x, x ∈ l → 0 ≤ x.what ∧ x.what ≤ 255) (bx : Boxes) : PureCall Try.prog 8 [.int .i64 now, .sl 4 (l.map clV)] bx (.bool true) := by
 refine Try.ctr8 fun hf => ?_
 have cA := fun bx => Try.awake_c bx
 by_cases hlen : l.length ≤ 80
 rotate_left
 · have h2 : 80 < (l.length : Int) := by omega
   simp [go_sem, Try.C8, hf, h2]
   refine callK_pure (cA _) ?_
   simp [go_sem]
   exact ret_pure (by simp [go_sem]) (by simp [go_sem])
 have h2 : ¬ 80 < (l.length : Int) := by omega
 have cN := fun bx => Try.New_c now bx
 have cR := fun bx => Try.rNew_c now bx
 have cS : ∀ u : Ck, Lim u → ∀ bx, PureCall Try.prog 14 [ckV u, ckV u] bx (.bool true) := fun u hu bx => by
   have := Try.same_c u u ⟨by have := hu.1; omega, by have := hu.2; omega⟩ bx
   rwa [decide_eq_true rfl] at this
 by_cases hn : 0 ≤ now ∧ now ≤ 1000000000000
 rotate_left
 · rw [if_neg hn] at cN cR
   have cS1 := cS ⟨0, 0, [], []⟩ (by constructor <;> simp)
   simp only [ckV] at cN cR cS1
   simp [go_sem, Try.C8, hf, h2]
   refine callK_pure (cN _) ?_
   simp [go_sem, hf]
   intro b5 hb5
   have hx5 := fun r => (Ext.refl bx).upd_own hb5 r
   refine callK_pure (cR _) ?_
   simp [go_sem, hf]
   intro b7 hb7
   rw [upd_self hb7]
   simp [go_sem, hf, upd_eq]
   refine gK_pure (cS1 _) (by simp) (by simp [go_sem]) ?_
   simp [go_sem, hf, upd_eq]
   refine callK_pure (cA _) ?_
   simp [go_sem]
   exact ret_drop (by simp [go_sem]) (hx5 _) ⟨by simp [go_sem], rfl⟩
 rw [if_pos hn] at cN cR
 have ho0 : Ok (⟨now, 1, [], []⟩ : Ck) := ⟨by constructor <;> simp, ⟨hn, by constructor <;> simp, by simp, by simp⟩, by simp [ids], fun i hi => by simp at hi, fun i hi => by simp at hi⟩
 have cS1 := cS ⟨now, 1, [], []⟩ ho0.lim
 have hcast : ckV (⟨now, 1, [], []⟩ : Ck) = .agg [.int .i64 now, .int .i64 1, .sl 4 [], .sl 4 []] := rfl
 simp only [hcast] at cN cR cS1
 simp [go_sem, Try.C8, hf, h2]
 refine callK_pure (cN _) ?_
 simp [go_sem, hf]
 intro b5 hb5
 have hx5 := fun r => (Ext.refl bx).upd_own hb5 r
 refine callK_pure (cR _) ?_
 simp [go_sem, hf]
 intro b7 hb7
 rw [upd_self hb7]
 simp [go_sem, hf, upd_eq]
 refine gK_pure (cS1 _) (by simp) (by simp [go_sem]) ?_
 simp [go_sem, hf, upd_eq]
 refine pw_for (ι := Boxes × Ck) l.length (fun i p => Ok p.2 ∧ FinB p.1 ∧ Ext bx p.1 ∧ p.1 b5 = some (.row 25 4 [ckV p.2]))
   (fun i p => ⟨62, slk [(1, .sl 4 (l.map clV)), (5, .ptr b5 4 0 0), (9, .int .i64 i)], p.1⟩)
   (upd bx b5 (some (.row 25 4 [ckV ⟨now, 1, [], []⟩])), ⟨now, 1, [], []⟩) ⟨ho0, (finB_upd _ _ _).2 hf, hx5 _, upd_eq _ _ _⟩ (cov_look (by simp [go_sem])) (fun i p hi hJ N hN => ?_) (fun p hJ N => ?_)
 · obtain ⟨bxk, s⟩ := p
   dsimp only at hJ hN ⊢
   obtain ⟨ho, hxf, hxe, x5⟩ := hJ
   have hw := wr_succ (k := i) (by omega)
   have hx := hl _ (List.getElem_mem hi)
   obtain ⟨u, hu, hou, cD⟩ := Try.do_c s 0 ho.chk ho.lim l[i] hx bxk
   have hou := hou rfl
   have cC := fun bx => Try.Check_c u 0 hou.chk bx
   simp only [ckV, clV] at x5 cD cC
   simp [go_sem, Try.L8_0, hxf, x5, hi, clV, fzAt, fzb]
   refine callK_pure cD ?_
   simp [go_sem, hxf]
   intro b10 hb10
   have hne : b5 ≠ b10 := fun e => by subst e; rw [x5] at hb10; cases hb10
   refine gK_pure (cC _) (by simp) (by simp [go_sem]) ?_
   simp [go_sem, hxf, upd_eq, upd_ne, hne, x5]
   rw [hw]
   exact hN _ (upd (upd bxk b10 (some (.row 25 4 [ckV u]))) b5 (some (.row 25 4 [ckV u])), u) ⟨hou, (finB_upd _ _ _).2 ((finB_upd _ _ _).2 hxf), (hxe.new hb10 _).upd_own hb5 _, upd_eq _ _ _⟩ (cov_look (by simp [go_sem]))
 · obtain ⟨bxk, s⟩ := p
   dsimp only at hJ ⊢
   obtain ⟨ho, hxf, hxe, x5⟩ := hJ
   simp [go_sem, Try.L8_0, hxf]
   refine callK_pure (cA _) ?_
   simp [go_sem]
   exact ret_drop (by simp [go_sem]) hxe ⟨by simp [go_sem], rfl⟩
end Go.Proofs
