/- Texts of the proof, put together: CXg, CV, CXi, CXj. -/
import Derived.Test.YtejcmkefemhpkaaGi
import Derived.Test.YtejcmkefemhpkaaGh

/- The plain law of scopes. -/
set_option linter.unusedSimpArgs false
set_option linter.unusedVariables false
set_option maxRecDepth 100000
namespace Go.Ck
open Go Go.Pl
theorem gdl {l : List Sc} {k : Nat} (hk : k < l.length) : l.getD k default = l[k] := by simp [hk]
theorem mem_dd {h x : Int} {ms : List Int} : h ∈ ddAdd ms x ↔ h ∈ ms ∨ h = x := by
  unfold ddAdd
  split
  · constructor
    · exact .inl
    · rintro (h | rfl)
      · exact h
      · assumption
  · simp
theorem mem_unK {l : List Sc} {top h : Int} : ∀ {k : Nat}, h ∈ unK l top k ↔ h = top ∨ ∃ j, j < k ∧ unB l top j = true ∧ (l.getD j default).id = h
  | 0 => by simp [unK]
  | k + 1 => by
    have ih := mem_unK (l := l) (top := top) (h := h) (k := k)
    have hb : unB l top k = true ↔ ((l.getD k default).id = top ∨ (l.getD k default).parent ∈ unK l top k) := by
      unfold unB; rw [Bool.or_eq_true, decide_eq_true_eq, decide_eq_true_eq]
    by_cases c : unB l top k = true
    · have e : unK l top (k + 1) = ddAdd (unK l top k) (l.getD k default).id := by
        conv => lhs; unfold unK
        rw [if_pos (hb.1 c)]
      rw [e, mem_dd, ih]
      constructor
      · rintro ((h1 | ⟨j, h1, h2, h3⟩) | h1)
        · exact .inl h1
        · exact .inr ⟨j, by omega, h2, h3⟩
        · exact .inr ⟨k, by omega, c, h1.symm⟩
      · rintro (h1 | ⟨j, h1, h2, h3⟩)
        · exact .inl (.inl h1)
        · by_cases e : j = k
          · subst e; exact .inr h3.symm
          · exact .inl (.inr ⟨j, by omega, h2, h3⟩)
    · have e : unK l top (k + 1) = unK l top k := by
        conv => lhs; unfold unK
        rw [if_neg (fun q => c (hb.2 q))]
      rw [e, ih]
      constructor
      · rintro (h1 | ⟨j, h1, h2, h3⟩)
        · exact .inl h1
        · exact .inr ⟨j, by omega, h2, h3⟩
      · rintro (h1 | ⟨j, h1, h2, h3⟩)
        · exact .inl h1
        · by_cases e : j = k
          · subst e; exact absurd h2 c
          · exact .inr ⟨j, by omega, h2, h3⟩
theorem unB_iff {l : List Sc} {top : Int} {i : Nat} : unB l top i = true ↔ (l.getD i default).id = top ∨ (l.getD i default).parent = top ∨ ∃ j, j < i ∧ unB l top j = true ∧ (l.getD j default).id = (l.getD i default).parent := by
  conv => lhs; unfold unB
  rw [Bool.or_eq_true, decide_eq_true_eq, decide_eq_true_eq, mem_unK]
theorem Ok.inj {s : Ck} (h : Ok s) {i j : Nat} (hi : i < s.scs.length) (hj : j < s.scs.length) (e : s.scs[i].id = s.scs[j].id) : i = j := by
  rcases Nat.lt_trichotomy i j with q | q | q
  · have := List.pairwise_iff_getElem.1 h.incr i j (by simpa using hi) (by simpa using hj) q
    simp at this; omega
  · exact q
  · have := List.pairwise_iff_getElem.1 h.incr j i (by simpa using hj) (by simpa using hi) q
    simp at this; omega
/-- The parent of a scope. -/
theorem Ok.par {s : Ck} (h : Ok s) {i : Nat} (hi : i < s.scs.length) : s.scs[i].parent = 0 ∨ ∃ j, ∃ hj : j < i, (s.scs[j]'(by omega)).id = s.scs[i].parent ∧ s.scs[i].dl ≤ (s.scs[j]'(by omega)).dl ∧ (s.scs[i].why = 0 → (s.scs[j]'(by omega)).why = 0) := by
  have h3 := (h.form i hi).2.2
  rw [gdl hi] at h3
  rcases h3 with h3 | ⟨p, p1, p2, p3, p4⟩
  · exact .inl h3
  · right
    rw [List.mem_take_iff_getElem] at p1
    obtain ⟨j, hj, rfl⟩ := p1
    exact ⟨j, by omega, p2, p3, p4⟩
theorem Ok.pos {s : Ck} (h : Ok s) {i : Nat} (hi : i < s.scs.length) : 0 < s.scs[i].id := by
  have := (h.rng.2.2.2 _ (List.getElem_mem hi)).1.1
  omega
/-- What is under a scope stands behind it. -/
theorem Ok.un_ge {s : Ck} (h : Ok s) {k : Nat} (hk : k < s.scs.length) : ∀ {i : Nat}, i < s.scs.length → unB s.scs s.scs[k].id i = true → k ≤ i := by
  intro i
  induction i using Nat.strongRecOn with
  | ind i ih =>
    intro hi hu
    rw [unB_iff, gdl hi] at hu
    have hp := h.pos hk
    rcases hu with hu | hu | ⟨j, h1, h2, h3⟩
    · have := h.inj hi hk hu; omega
    · rcases h.par hi with q | ⟨j, hj, q1, _⟩
      · omega
      · have := h.inj (by omega) hk (q1.trans hu); omega
    · have := ih j h1 (by omega) h2; omega
/-- What is under a scope is live if the scope is. -/
theorem Ok.un_live {s : Ck} (h : Ok s) {k : Nat} (hk : k < s.scs.length) : ∀ {i : Nat} (hi : i < s.scs.length), unB s.scs s.scs[k].id i = true → s.scs[i].why = 0 → s.scs[k].why = 0 := by
  intro i
  induction i using Nat.strongRecOn with
  | ind i ih =>
    intro hi hu hw
    rw [unB_iff, gdl hi] at hu
    have hp := h.pos hk
    rcases hu with hu | hu | ⟨j, h1, h2, h3⟩
    · have := h.inj hi hk hu; subst this; exact hw
    · rcases h.par hi with q | ⟨j, hj, q1, _, q3⟩
      · omega
      · have := h.inj (by omega) hk (q1.trans hu); subst this; exact q3 hw
    · have hjl : j < s.scs.length := by omega
      rw [gdl hjl] at h3
      rcases h.par hi with q | ⟨j', hj, q1, _, q3⟩
      · have := h.pos hjl; omega
      · have := h.inj (by omega) hjl (q1.trans h3.symm); subst this
        exact ih j' h1 hjl h2 (q3 hw)
/-- The first one under a scope is the scope itself. -/
theorem Ok.un_cons {s : Ck} (h : Ok s) {k : Nat} (hk : k < s.scs.length) : ∃ tl, unI s.scs s.scs[k].id s.scs.length = k :: tl ∧ ∀ i, i ∈ tl ↔ (i < s.scs.length ∧ unB s.scs s.scs[k].id i = true ∧ i ≠ k) := by
  have hm := unI_mem hk rfl
  have hp : (unI s.scs s.scs[k].id s.scs.length).Pairwise (· < ·) := by
    unfold unI; exact List.pairwise_lt_range.filter _
  have hiff : ∀ i, i ∈ unI s.scs s.scs[k].id s.scs.length ↔ (i < s.scs.length ∧ unB s.scs s.scs[k].id i = true) := fun i => by
    unfold unI; rw [List.mem_filter, List.mem_range]
  generalize unI s.scs s.scs[k].id s.scs.length = is at *
  rcases is with _ | ⟨a, tl⟩
  · cases hm
  rw [List.pairwise_cons] at hp
  have ha := (hiff a).1 (by simp)
  have hak := h.un_ge hk ha.1 ha.2
  have hka : a = k := by
    rcases List.mem_cons.1 hm with q | q
    · exact q.symm
    · have := hp.1 k q; omega
  subst hka
  refine ⟨tl, rfl, fun i => ⟨fun hi => ?_, fun hi => ?_⟩⟩
  · have h1 := (hiff i).1 (List.mem_cons_of_mem _ hi)
    have h2 := hp.1 i hi
    exact ⟨h1.1, h1.2, by omega⟩
  · rcases List.mem_cons.1 ((hiff i).2 ⟨hi.1, hi.2.1⟩) with q | q
    · exact absurd q hi.2.2
    · exact q
theorem Ok.below {s : Ck} (h : Ok s) {k i : Nat} (hk : k < s.scs.length) (hi : i < s.scs.length) : (s.scs[k].id = s.scs[i].id ∨ s.scs[i].id ∈ (unN s.scs s.scs[k].id).drop 1) ↔ unB s.scs s.scs[k].id i = true := by
  obtain ⟨tl, h1, h2⟩ := h.un_cons hk
  unfold unN
  rw [h1]
  simp only [List.map_cons, List.drop_succ_cons, List.drop_zero]
  constructor
  · rintro (q | q)
    · have := h.inj hk hi q; subst this
      rw [unB_iff]; left; rw [gdl hk]
    · obtain ⟨j, hj, he⟩ := List.mem_map.1 q
      obtain ⟨q1, q2, _⟩ := (h2 j).1 hj
      rw [gdl q1] at he
      have := h.inj q1 hi he; subst this; exact q2
  · intro hu
    by_cases e : i = k
    · subst e; exact .inl rfl
    · right
      exact List.mem_map.2 ⟨i, (h2 i).2 ⟨hi, hu, e⟩, by rw [gdl hi]⟩
theorem canS_id (x : Sc) : (canS x).id = x.id ∧ (canS x).parent = x.parent ∧ (canS x).dl = x.dl ∧ (canS x).why = if x.why = 0 then 1 else x.why := by
  unfold canS; split <;> simp_all
theorem canL_in {l : List Sc} {j : Nat} (hj : j < l.length) : ∀ {is : List Nat}, is.Nodup → j ∈ is → (canL l is).getD j default = canS (l.getD j default) := fun {is} => by
  unfold canL
  induction is generalizing l with
  | nil => intro _ h; cases h
  | cons i is ih =>
    intro hn h
    rw [List.nodup_cons] at hn
    rw [List.foldl_cons]
    by_cases e : j = i
    · subst e
      have h2 := canL_other (l.set j (canS (l.getD j default))) is hn.1
      unfold canL at h2
      rw [h2]
      simp [hj]
    · have h3 : j ∈ is := by rcases List.mem_cons.1 h with q | q; exact absurd q e; exact q
      rw [ih (by simpa using hj) hn.2 h3]
      congr 1
      simp only [List.getD_eq_getElem?_getD]
      rw [List.getElem?_set_ne (Ne.symm e)]
/-- A scope after a cancelling. -/
theorem can_at {l : List Sc} {top : Int} {i : Nat} (hi : i < l.length) : (canL l (unI l top l.length)).getD i default = if unB l top i = true then canS (l.getD i default) else l.getD i default := by
  by_cases c : unB l top i = true
  · rw [if_pos c]
    exact canL_in hi (unI_nodup _ _ _) (by unfold unI; exact List.mem_filter.2 ⟨by simpa using hi, c⟩)
  · rw [if_neg c]
    exact canL_other _ _ fun q => c (by unfold unI at q; exact (List.mem_filter.1 q).2)
/-- Scopes that keep all but why they ended. -/
theorem form_same {now now' : Int} {l l' : List Sc} (h : FormS now l) (hl : l'.length = l.length) (hs : ∀ i, i < l.length → (l'.getD i default).id = (l.getD i default).id ∧ (l'.getD i default).parent = (l.getD i default).parent ∧ (l'.getD i default).dl = (l.getD i default).dl)
    (ho : ∀ i, i < l.length → okS now' (l'.getD i default)) (hp : ∀ i j, i < l.length → j < i → (l.getD j default).id = (l.getD i default).parent → (l'.getD i default).why = 0 → ((l.getD i default).why = 0 → (l.getD j default).why = 0) → (l'.getD j default).why = 0) : FormS now' l' := by
  intro i hi
  rw [hl] at hi
  obtain ⟨f1, f2, f3⟩ := h i hi
  obtain ⟨s1, s2, s3⟩ := hs i hi
  refine ⟨?_, ho i hi, ?_⟩
  · have : lastId l' i = lastId l i := by
      unfold lastId
      split
      · rfl
      · exact (hs (i - 1) (by omega)).1
    rw [this, s1]; exact f1
  · rw [s2, s3]
    rcases f3 with f3 | ⟨p, p1, p2, p3, p4⟩
    · exact .inl f3
    · right
      rw [List.mem_take_iff_getElem] at p1
      obtain ⟨j, hj, rfl⟩ := p1
      have hjl : j < l.length := by omega
      have hji : j < i := by omega
      obtain ⟨t1, t2, t3⟩ := hs j hjl
      rw [gdl hjl] at t1 t3
      have hjl' : j < l'.length := by omega
      refine ⟨l'.getD j default, ?_, by rw [t1]; exact p2, by rw [t3]; exact p3, fun hw => hp i j hi hji (by rw [gdl hjl]; exact p2) hw (by rw [gdl hjl]; exact p4)⟩
      rw [gdl hjl', List.mem_take_iff_getElem]
      exact ⟨j, by omega, rfl⟩
theorem map_id_of {l l' : List Sc} (hl : l'.length = l.length) (hs : ∀ i, i < l.length → (l'.getD i default).id = (l.getD i default).id) : l'.map (·.id) = l.map (·.id) := by
  apply List.ext_getElem (by simpa using hl)
  intro i h1 h2
  simp only [List.length_map] at h1 h2
  have := hs i h2
  rw [gdl h1, gdl h2] at this
  simpa using this
theorem Ok.can {s : Ck} (h : Ok s) {k : Nat} (hk : k < s.scs.length) : Ok (canK s s.scs[k].id) := by
  have hat := fun {i : Nat} (hi : i < s.scs.length) => can_at (top := s.scs[k].id) hi
  have hl : (canL s.scs (unI s.scs s.scs[k].id s.scs.length)).length = s.scs.length := canL_len _ _
  have hK : canK s s.scs[k].id = { s with scs := canL s.scs (unI s.scs s.scs[k].id s.scs.length) } := rfl
  rw [hK]
  generalize canL s.scs (unI s.scs s.scs[k].id s.scs.length) = l' at *
  have hsame : ∀ i, i < s.scs.length → (l'.getD i default).id = (s.scs.getD i default).id ∧ (l'.getD i default).parent = (s.scs.getD i default).parent ∧ (l'.getD i default).dl = (s.scs.getD i default).dl := fun i hi => by
    rw [hat hi]
    obtain ⟨c1, c2, c3, _⟩ := canS_id (s.scs.getD i default)
    split
    · exact ⟨c1, c2, c3⟩
    · exact ⟨rfl, rfl, rfl⟩
  refine ⟨⟨h.len.1, by show l'.length ≤ 500; rw [hl]; exact h.len.2⟩, ⟨h.rng.1, h.rng.2.1, h.rng.2.2.1, fun x hx => ?_⟩, ?_, h.srt, form_same h.form hl hsame (fun i hi => ?_) fun i j hi hj he hw hpw => ?_⟩
  · obtain ⟨i, hi, rfl⟩ := List.getElem_of_mem hx
    have hi' : i < s.scs.length := by rw [← hl]; exact hi
    have h2 := h.rng.2.2.2 _ (List.getElem_mem hi')
    have h3 := hat hi'
    rw [gdl hi'] at h3
    show rngS s.next l'[i]
    rw [← gdl hi, h3]
    obtain ⟨c1, c2, c3, c4⟩ := canS_id s.scs[i]
    unfold rngS at h2 ⊢
    split
    · rw [c1, c3, c4]
      refine ⟨h2.1, h2.2.1, ?_⟩
      split <;> omega
    · exact h2
  · show ((s.ts.map (·.id)) ++ l'.map (·.id)).Nodup
    rw [map_id_of hl fun i hi => (hsame i hi).1]
    exact h.nd
  · have h2 := (h.form i hi).2.1
    rw [hat hi]
    obtain ⟨c1, c2, c3, c4⟩ := canS_id (s.scs.getD i default)
    show okS s.now _
    unfold okS at h2 ⊢
    split
    · rw [c3, c4]
      split <;> omega
    · exact h2
  · have hjl : j < s.scs.length := by omega
    rw [hat hi] at hw
    rw [hat hjl]
    have hii : (s.scs.getD i default).why = 0 ∧ ¬ unB s.scs s.scs[k].id i = true := by
      by_cases c : unB s.scs s.scs[k].id i = true
      · rw [if_pos c, (canS_id _).2.2.2] at hw
        split at hw
        · cases hw
        · exact absurd hw ‹_›
      · rw [if_neg c] at hw; exact ⟨hw, c⟩
    have hnj : ¬ unB s.scs s.scs[k].id j = true := fun q => hii.2 (unB_iff.2 (.inr (.inr ⟨j, hj, q, he⟩)))
    rw [if_neg hnj]
    exact hpw hii.1
theorem scpX_is {s : Ck} (h : Ok s) {p d : Int} (he : scpE s 0 p d = 0) : (0 ≤ d ∧ d ≤ 1000000000001) ∧ s.scs.length < 500 ∧ s.next < 1000000000000000 ∧ (scpX s p d).id = s.next ∧ (scpX s p d).parent = p ∧ (0 ≤ (scpX s p d).dl ∧ (scpX s p d).dl ≤ 1000000000001) ∧ (0 ≤ (scpX s p d).why ∧ (scpX s p d).why ≤ 2) ∧ okS s.now (scpX s p d) ∧ (p = 0 ∨ ∃ q, q ∈ s.scs ∧ q.id = p ∧ (scpX s p d).dl ≤ q.dl ∧ ((scpX s p d).why = 0 → q.why = 0)) := by
  have hl := h.len.2
  have hnx := h.rng.2.1
  have hnow := h.rng.1
  unfold scpE at he
  rw [if_neg (by simp)] at he
  by_cases h1 : d < 0 ∨ 1000000000001 < d
  · rw [if_pos h1] at he; cases he
  rw [if_neg h1] at he
  by_cases h2 : p ≠ 0 ∧ fidx s.scs p = none
  · rw [if_pos h2] at he; cases he
  rw [if_neg h2] at he
  by_cases h3 : s.scs.length = 500 ∨ s.next = 1000000000000000
  · rw [if_pos h3] at he; cases he
  refine ⟨by omega, by omega, by omega, ?_⟩
  obtain ⟨X0, hX0, b1, b2, b3, b4, b5, b6⟩ : ∃ X0, scp0 s p d = X0 ∧ X0.id = s.next ∧ X0.parent = p ∧ (0 ≤ X0.dl ∧ X0.dl ≤ 1000000000001) ∧ (0 ≤ X0.why ∧ X0.why ≤ 2) ∧ (X0.why = 2 → X0.dl ≤ s.now) ∧ (p = 0 ∨ ∃ q, q ∈ s.scs ∧ q.id = p ∧ X0.dl ≤ q.dl ∧ (X0.why = 0 → q.why = 0)) := by
    refine ⟨_, rfl, ?_⟩
    unfold scp0
    by_cases hp : p = 0
    · rw [if_pos hp]
      exact ⟨rfl, rfl, by dsimp only; omega, by dsimp only; omega, (fun q => by cases q), .inl hp⟩
    · rw [if_neg hp]
      cases hx : fidx s.scs p with
      | none => exact absurd ⟨hp, hx⟩ h2
      | some k =>
        obtain ⟨hk, hke⟩ := fidx_some hx
        dsimp only
        rw [gdl hk]
        have hr := h.rng.2.2.2 _ (List.getElem_mem hk)
        have ho := (h.form k hk).2.1
        rw [gdl hk] at ho
        unfold rngS at hr
        unfold okS at ho
        refine ⟨rfl, rfl, by omega, by omega, fun q => by omega, .inr ⟨_, List.getElem_mem hk, hke, by omega, fun q => q⟩⟩
  unfold scpX
  rw [hX0]
  by_cases c : X0.why = 0 ∧ X0.dl ≤ s.now
  · rw [if_pos c]
    refine ⟨b1, b2, b3, by dsimp only; omega, ⟨(fun q => by cases q.1), fun q => by have := q.2; dsimp only at this; omega⟩, ?_⟩
    rcases b6 with b6 | ⟨q, q1, q2, q3, q4⟩
    · exact .inl b6
    · exact .inr ⟨q, q1, q2, q3, fun q => by cases q⟩
  · rw [if_neg c]
    exact ⟨b1, b2, b3, b4, ⟨c, fun q => by have := b5 q.1; omega⟩, b6⟩
theorem Ok.scp {s : Ck} (h : Ok s) {p d : Int} (he : scpE s 0 p d = 0) : Ok (scpS s p d) := by
  obtain ⟨_, c2, c3, c4, c5, c6, c7, c8, c9⟩ := scpX_is h he
  unfold scpS
  generalize scpX s p d = X at *
  have hid : ∀ x, x ∈ s.scs → x.id < s.next := fun x hx => by have := (h.rng.2.2.2 x hx).1.2; omega
  have hgd : ∀ {i}, i < s.scs.length → (s.scs ++ [X]).getD i default = s.scs.getD i default := fun {i} hi => by
    simp only [List.getD_eq_getElem?_getD]
    rw [List.getElem?_append_left hi]
  refine ⟨⟨h.len.1, by simp; omega⟩, ⟨h.rng.1, ⟨by have := h.rng.2.1; dsimp only; omega, by dsimp only; omega⟩, fun t ht => ?_, fun x hx => ?_⟩, ?_, h.srt, fun i hi => ?_⟩
  · obtain ⟨q1, q2⟩ := h.rng.2.2.1 t ht
    exact ⟨⟨q1.1, by dsimp only; omega⟩, q2⟩
  · rcases List.mem_append.1 hx with hx | hx
    · obtain ⟨q1, q2⟩ := h.rng.2.2.2 x hx
      exact ⟨⟨q1.1, by dsimp only; omega⟩, q2⟩
    · simp at hx; subst hx
      have := h.rng.2.1
      exact ⟨⟨by omega, by dsimp only; omega⟩, c6, c7⟩
  · show ((s.ts.map (·.id)) ++ (s.scs ++ [X]).map (·.id)).Nodup
    rw [List.map_append, ← List.append_assoc]
    refine List.nodup_append.2 ⟨h.nd, by simp, fun a ha b hb => ?_⟩
    simp at hb
    subst hb
    intro e
    rw [c4] at e
    rcases List.mem_append.1 ha with ha | ha
    · obtain ⟨x, hx, rfl⟩ := List.mem_map.1 ha
      have := (h.rng.2.2.1 x hx).1.2; omega
    · obtain ⟨x, hx, rfl⟩ := List.mem_map.1 ha
      have := hid x hx; omega
  · show FormAt s.now (s.scs ++ [X]) i
    by_cases hi2 : i < s.scs.length
    · obtain ⟨f1, f2, f3⟩ := h.form i hi2
      refine ⟨?_, by rw [hgd hi2]; exact f2, ?_⟩
      · rw [hgd hi2]
        have : lastId (s.scs ++ [X]) i = lastId s.scs i := by
          unfold lastId
          split
          · rfl
          · rw [hgd (by omega)]
        rw [this]; exact f1
      · rw [hgd hi2, List.take_append_of_le_length (by omega)]
        exact f3
    · have hi3 : i = s.scs.length := by simp at hi; omega
      subst hi3
      have hg : (s.scs ++ [X]).getD s.scs.length default = X := by simp
      refine ⟨?_, by rw [hg]; exact c8, ?_⟩
      · rw [hg, c4]
        unfold lastId
        split
        · have := h.rng.2.1; omega
        · rw [hgd (by omega), gdl (by omega)]
          exact hid _ (List.getElem_mem _)
      · rw [hg, c5, List.take_append_of_le_length (by omega), List.take_length]
        exact c9
/-- What a call of ClockScopes does. -/
def stpK (s : Ck) (w : Nat) (id at_ : Int) : Ck :=
  if w = 0 then (if tikE s 0 at_ = 0 then tikS s at_ else s) else if w = 1 then (if scpE s 0 id at_ = 0 then scpS s id at_ else s) else if canE s 0 id = 0 then canK s id else s
def belB (s : Ck) (id h : Int) : Bool := decide (id = h) || (decide (fidx s.scs id ≠ none) && decide (h ∈ (unN s.scs id).drop 1))
/-- Why a scope has ended afterwards. -/
def wantW (now : Int) (w : Nat) (x : Sc) (below : Bool) : Int :=
  if x.why = 0 then (if x.dl ≤ now then 2 else if w = 2 ∧ below = true then 1 else 0) else x.why
theorem canE_ok {s : Ck} {id : Int} (h : canE s 0 id = 0) : ∃ k, ∃ hk : k < s.scs.length, s.scs[k].id = id ∧ s.scs[k].why = 0 := by
  unfold canE at h
  rw [if_neg (by simp)] at h
  cases hx : fidx s.scs id with
  | none => rw [hx] at h; cases h
  | some k =>
    rw [hx] at h
    obtain ⟨hk, hke⟩ := fidx_some hx
    dsimp only at h
    rw [gdl hk] at h
    refine ⟨k, hk, hke, ?_⟩
    by_cases c : s.scs[k].why = 0
    · exact c
    · rw [if_pos c] at h; cases h
theorem tikE_ok {s : Ck} {to : Int} (h : tikE s 0 to = 0) : s.now ≤ to ∧ to ≤ 1000000000000 := by
  unfold tikE at h
  rw [if_neg (by simp)] at h
  split at h
  · cases h
  · omega
theorem stp_ok {s : Ck} (h : Ok s) (w : Nat) (id at_ : Int) : Ok (stpK s w id at_) := by
  unfold stpK
  split
  · split
    · obtain ⟨h1, h2⟩ := tikE_ok ‹_›
      exact h.tik h1 h2
    · exact h
  · split
    · split
      · exact h.scp ‹_›
      · exact h
    · split
      · obtain ⟨k, hk, rfl, _⟩ := canE_ok ‹_›
        exact h.can hk
      · exact h
theorem stp_why {s : Ck} (h : Ok s) (w : Nat) (hw : w < 3) (id at_ : Int) {i : Nat} (hi : i < s.scs.length) : ∃ hi' : i < (stpK s w id at_).scs.length, (stpK s w id at_).scs[i].id = s.scs[i].id ∧ (stpK s w id at_).scs[i].why = wantW (stpK s w id at_).now w s.scs[i] (belB s id s.scs[i].id) := by
  have ho := (h.form i hi).2.1
  rw [gdl hi] at ho
  unfold okS at ho
  have same : ∀ v, v ≠ 2 ∨ belB s id s.scs[i].id = false ∨ s.scs[i].why ≠ 0 → s.scs[i].why = wantW s.now v s.scs[i] (belB s id s.scs[i].id) := fun v hv => by
    unfold wantW
    by_cases c : s.scs[i].why = 0
    · rw [if_pos c, if_neg (by omega), if_neg (by rintro ⟨q1, q2⟩; rcases hv with q | q | q; exact q q1; rw [q] at q2; cases q2; exact q c)]
      exact c
    · rw [if_neg c]
  unfold stpK
  split
  · subst w
    split
    · refine ⟨by simp [tikS, hi], by simp [tikS, (endS_id at_ s.scs[i]).1], ?_⟩
      show ((s.scs.map (endS at_))[i]'(by simp [hi])).why = wantW at_ 0 s.scs[i] _
      rw [List.getElem_map, endS_why]
      unfold wantW
      by_cases c : s.scs[i].why = 0
      · by_cases c2 : s.scs[i].dl ≤ at_
        · rw [if_pos ⟨c, c2⟩, if_pos c, if_pos c2]
        · rw [if_neg (fun q => c2 q.2), if_pos c, if_neg c2, if_neg (by simp)]; exact c
      · rw [if_neg (fun q => c q.1), if_neg c]
    · exact ⟨hi, rfl, same 0 (.inl (by decide))⟩
  · split
    · subst w
      split
      · refine ⟨by simp [scpS]; omega, ?_, ?_⟩
        · show ((s.scs ++ [scpX s id at_])[i]'(by simp; omega)).id = _
          rw [List.getElem_append_left hi]
        · show ((s.scs ++ [scpX s id at_])[i]'(by simp; omega)).why = _
          rw [List.getElem_append_left hi]
          exact same 1 (.inl (by decide))
      · exact ⟨hi, rfl, same 1 (.inl (by decide))⟩
    · obtain rfl : w = 2 := by omega
      split
      · obtain ⟨k, hk, rfl, hkw⟩ := canE_ok ‹_›
        have hl : (canK s s.scs[k].id).scs.length = s.scs.length := canL_len _ _
        have hat := can_at (top := s.scs[k].id) hi
        have hbel : belB s s.scs[k].id s.scs[i].id = unB s.scs s.scs[k].id i := by
          have h1 := h.below hk hi
          have hf : fidx s.scs s.scs[k].id ≠ none := by rw [fidx_of hk rfl h.incr]; simp
          unfold belB
          rw [decide_eq_true hf, Bool.true_and, Bool.eq_iff_iff, Bool.or_eq_true, decide_eq_true_eq, decide_eq_true_eq]
          exact h1
        have hi' : i < (canK s s.scs[k].id).scs.length := by rw [hl]; exact hi
        have hv : (canK s s.scs[k].id).scs[i] = if unB s.scs s.scs[k].id i = true then canS s.scs[i] else s.scs[i] := by
          rw [← gdl hi', ← gdl hi]; exact hat
        refine ⟨hi', ?_, ?_⟩
        · rw [hv]; split
          · exact (canS_id _).1
          · rfl
        · rw [hv, hbel]
          show _ = wantW s.now 2 s.scs[i] _
          unfold wantW
          by_cases c : unB s.scs s.scs[k].id i = true
          · rw [if_pos c, (canS_id _).2.2.2]
            by_cases c2 : s.scs[i].why = 0
            · rw [if_pos c2, if_pos c2, if_neg (by omega), if_pos ⟨rfl, c⟩]
            · rw [if_neg c2, if_neg c2]
          · rw [if_neg c]
            by_cases c2 : s.scs[i].why = 0
            · rw [if_pos c2, if_neg (by omega), if_neg (fun q => c q.2)]; exact c2
            · rw [if_neg c2]
      · rename_i hne
        refine ⟨hi, rfl, same 2 ?_⟩
        by_cases c2 : s.scs[i].why = 0
        · right; left
          unfold canE at hne
          rw [if_neg (by simp)] at hne
          cases hx : fidx s.scs id with
          | none =>
            unfold belB
            rw [hx]
            have := fidx_none hx s.scs[i] (List.getElem_mem hi)
            simp [Ne.symm this]
          | some k =>
            rw [hx] at hne
            obtain ⟨hk, rfl⟩ := fidx_some hx
            dsimp only at hne
            rw [gdl hk] at hne
            have hkw : s.scs[k].why ≠ 0 := fun q => by rw [if_neg (fun z => z q)] at hne; exact hne rfl
            have h1 := h.below hk hi
            unfold belB
            rw [hx]
            have h2 : ¬ unB s.scs s.scs[k].id i = true := fun q => hkw (h.un_live hk hi q c2)
            have h3 : ¬ (s.scs[k].id = s.scs[i].id) := fun q => h2 (h1.1 (.inl q))
            have h4 : ¬ (s.scs[i].id ∈ (unN s.scs s.scs[k].id).drop 1) := fun q => h2 (h1.1 (.inr q))
            rw [decide_eq_false h3, decide_eq_false h4]
            simp
        · exact .inr (.inr c2)
end Go.Ck

/- Contracts: ClockDue. -/
set_option linter.unusedSimpArgs false
set_option linter.unusedVariables false
set_option maxRecDepth 100000
namespace Go.Ck
open Go Go.Pl
theorem fold_min : ∀ (l : List Sc) (d0 : Int), l.foldl (fun d x => if x.why = 0 then min d x.dl else d) d0 ≤ d0 ∧ (∀ x, x ∈ l → x.why = 0 → l.foldl (fun d x => if x.why = 0 then min d x.dl else d) d0 ≤ x.dl) ∧ (l.foldl (fun d x => if x.why = 0 then min d x.dl else d) d0 = d0 ∨ ∃ x, x ∈ l ∧ x.why = 0 ∧ x.dl = l.foldl (fun d x => if x.why = 0 then min d x.dl else d) d0)
  | [], d0 => ⟨Int.le_refl _, (fun x h => by cases h), .inl rfl⟩
  | y :: l, d0 => by
    obtain ⟨h1, h2, h3⟩ := fold_min l (if y.why = 0 then min d0 y.dl else d0)
    rw [List.foldl_cons]
    generalize List.foldl (fun d x => if x.why = 0 then min d x.dl else d) (if y.why = 0 then min d0 y.dl else d0) l = r at *
    by_cases hy : y.why = 0
    · rw [if_pos hy] at h1 h3
      refine ⟨by omega, fun x hx hw => ?_, ?_⟩
      · rcases List.mem_cons.1 hx with rfl | hx
        · omega
        · exact h2 x hx hw
      · rcases h3 with h3 | ⟨x, g1, g2, g3⟩
        · by_cases hm : d0 ≤ y.dl
          · left; omega
          · right; exact ⟨y, by simp, hy, by omega⟩
        · exact .inr ⟨x, by simp [g1], g2, g3⟩
    · rw [if_neg hy] at h1 h3
      refine ⟨h1, fun x hx hw => ?_, ?_⟩
      · rcases List.mem_cons.1 hx with rfl | hx
        · exact absurd hw hy
        · exact h2 x hx hw
      · rcases h3 with h3 | ⟨x, g1, g2, g3⟩
        · exact .inl h3
        · exact .inr ⟨x, by simp [g1], g2, g3⟩
theorem due_lo {s : Ck} (h : Ok s) : dueN s ≤ 1000000000001 ∧ (∀ t, t ∈ s.ts → dueN s ≤ t.at_) ∧ ∀ x, x ∈ s.scs → x.why = 0 → dueN s ≤ x.dl := by
  obtain ⟨h1, h2, _⟩ := fold_min s.scs (due0 s)
  refine ⟨?_, fun t ht => ?_, h2⟩
  · refine Int.le_trans h1 ?_
    unfold due0
    split
    · omega
    · rename_i t l e
      have := (h.rng.2.2.1 t (by rw [e]; simp)).2.1
      omega
  · refine Int.le_trans h1 ?_
    obtain ⟨j, hj, rfl⟩ := List.getElem_of_mem ht
    have h3 := ord_mono h.srt hj (Nat.zero_le j)
    have h4 : due0 s = (s.ts[0]).at_ := by
      unfold due0
      split
      · rename_i e; rw [e] at hj; simp at hj
      · rename_i t l e; simp [e]
    rw [h4]
    rw [Go.Proofs.ord_lt] at h3
    omega
theorem due_hi {s : Ck} (h : dueN s ≠ 1000000000001) : (∃ t, t ∈ s.ts ∧ t.at_ = dueN s) ∨ ∃ x, x ∈ s.scs ∧ x.why = 0 ∧ x.dl = dueN s := by
  obtain ⟨_, _, h3⟩ := fold_min s.scs (due0 s)
  rcases h3 with h3 | h3
  · left
    have h4 : dueN s = due0 s := h3
    rw [h4] at h ⊢
    unfold due0 at h ⊢
    split at h
    · exact absurd rfl h
    · rename_i t l e
      rw [e]
      exact ⟨t, by simp, rfl⟩
  · exact .inr h3
theorem tick_none {s : Ck} (h : Ok s) {to : Int} (hto : to < dueN s) : firT to s.ts = [] ∧ endI to s.scs = [] ∧ kepT to s.ts = s.ts := by
  obtain ⟨_, h1, h2⟩ := due_lo h
  refine ⟨?_, ?_, ?_⟩
  · unfold firT
    rw [List.filter_eq_nil_iff]
    intro t ht
    have := h1 t ht
    simp only [decide_eq_true_eq]; omega
  · unfold endI
    rw [List.map_eq_nil_iff, List.filter_eq_nil_iff]
    intro x hx
    simp only [Bool.and_eq_true, decide_eq_true_eq]
    rintro ⟨q1, q2⟩
    have := h2 x hx q1
    omega
  · unfold kepT
    rw [List.filter_eq_self]
    intro t ht
    have := h1 t ht
    simp only [decide_eq_true_eq]; omega
theorem tick_some {s : Ck} {to : Int} (h : dueN s ≠ 1000000000001) (hto : dueN s ≤ to) : 0 < (firT to s.ts).length + (endI to s.scs).length := by
  rcases due_hi h with ⟨t, h1, h2⟩ | ⟨x, h1, h2, h3⟩
  · have : t ∈ firT to s.ts := by unfold firT; rw [List.mem_filter]; exact ⟨h1, by simp only [decide_eq_true_eq]; omega⟩
    have := List.length_pos_of_mem this
    omega
  · have : x.id ∈ endI to s.scs := by
      unfold endI
      refine List.mem_map.2 ⟨x, List.mem_filter.2 ⟨h1, ?_⟩, rfl⟩
      simp only [Bool.and_eq_true, decide_eq_true_eq]; omega
    have := List.length_pos_of_mem this
    omega
end Go.Ck
namespace Go.Proofs
open Go Go.Pl Go.Ck
theorem Try.clockDue_c (s : Ck) (to : Int) (bx : Boxes) : PureCall Try.prog 4 [ckV s, .int .i64 to] bx (.bool true) := by
  refine Try.ctr4 fun hf => ?_
  obtain ⟨e, he⟩ := chk_ex s
  have cS := Try.small_c s e he bx
  have cA := Try.awake_c bx
  have cD := Try.Due_c s e he bx
  have cT := fun to => Try.Tick_c s e he to bx
  by_cases hs : s.ts.length ≤ 100 ∧ s.scs.length ≤ 100 ∧ e = 0
  rotate_left
  · have hb : (decide (s.ts.length ≤ 100) && (decide (s.scs.length ≤ 100) && decide (e = 0))) = false := by
      simp only [Bool.and_eq_false_iff, decide_eq_false_iff_not]
      by_cases h1 : s.ts.length ≤ 100
      · by_cases h2 : s.scs.length ≤ 100
        · right; right; exact fun h3 => hs ⟨h1, h2, h3⟩
        · right; left; exact h2
      · left; exact h1
    rw [hb] at cS
    simp only [ckV] at cS ⊢
    simp [go_sem, Try.C4, hf]
    refine callK_pure cS ?_
    simp [go_sem, hf]
    refine callK_pure cA ?_
    simp [go_sem]
    exact ret_pure (by simp [go_sem]) (by simp [go_sem])
  obtain ⟨hl1, hl2, rfl⟩ := hs
  have ho := he.ok
  have hb : (decide (s.ts.length ≤ 100) && (decide (s.scs.length ≤ 100) && decide ((0 : Int) = 0))) = true := by simp [hl1, hl2]
  rw [hb] at cS
  have cM := fun t => Try.same_c t s
  simp only [ckV] at cS cD cT ⊢
  simp [go_sem, Try.C4, hf]
  refine callK_pure cS ?_
  simp [go_sem, hf]
  have hDle := (due_lo ho).1
  by_cases hD : dueN s = 1000000000001
  · have hdR : dueR s 0 = .tup [.int .i64 0, .int .i64 4] := by unfold dueR; rw [if_neg (by simp), if_pos hD]
    rw [hdR] at cD
    refine callK_pure cD ?_
    simp [go_sem, hf]
    by_cases hin : s.now ≤ to ∧ to ≤ 1000000000000
    · have hR : tikR s 0 to = .tup [ckV (tikS s to), .sl 4 ((firT to s.ts).map tmV), .sl 1 ((endI to s.scs).map (.int .i64)), .int .i64 0] := by
        unfold tikR tikE
        rw [if_pos (by rw [if_neg (by simp), if_neg (by omega)])]
      refine callK_pure (cT to) ?_
      rw [hR]
      by_cases hlt : to < dueN s
      · obtain ⟨g1, g2, g3⟩ := tick_none ho hlt
        unfold tikS
        rw [g1, g2, g3]
        simp [go_sem, hf, ckV, hlt, hD]
        intro b7 hb7
        rw [upd_self hb7]
        refine gK_off (.bool false) (by simp [go_sem]) ?_
        simp [go_sem, hf, hD]
        refine callK_pure cA ?_
        simp [go_sem]
        exact ret_pure (by simp [go_sem]) (by simp [go_sem])
      · have hlt2 := hlt
        rw [hD] at hlt2
        simp [go_sem, hf, ckV, hlt, hlt2, hD]
        intro b7 hb7
        rw [upd_self hb7]
        refine gK_off (.bool false) (by simp [go_sem]) ?_
        simp [go_sem, hf, hD]
        refine callK_pure cA ?_
        simp [go_sem]
        exact ret_pure (by simp [go_sem]) (by simp [go_sem])
    · have hR : tikR s 0 to = .tup [ckV s, .sl 4 [], .sl 1 [], .int .i64 7] := by
        have : tikE s 0 to = 7 := by unfold tikE; rw [if_neg (by simp), if_pos (by omega)]
        unfold tikR
        rw [this, if_neg (by decide)]
      refine callK_pure (cT to) ?_
      rw [hR]
      have hin1 : ¬ (s.now ≤ to ∧ to ≤ 1000000000000) := hin
      have hb2 : (!decide (s.now ≤ to) || !decide (to ≤ 1000000000000)) = true := by
        simp only [Bool.or_eq_true, Bool.not_eq_true', decide_eq_false_iff_not]
        omega
      have cSS := Try.same_c s s ⟨by omega, by omega⟩ bx
      simp only [ckV, decide_true] at cSS
      simp [go_sem, hf, ckV, hD]
      intro b7 hb7
      rw [upd_self hb7, hb2]
      refine gK_pure cSS (fun _ => by omega) (by simp [go_sem]) ?_
      simp [go_sem, hf, hb2, hD]
      refine ⟨fun q1 q2 => absurd ⟨q1, q2⟩ hin, fun _ => ?_⟩
      refine callK_pure cA ?_
      simp [go_sem]
      exact ret_pure (by simp [go_sem]) (by simp [go_sem])
  · have hdR : dueR s 0 = .tup [.int .i64 (dueN s), .int .i64 0] := by unfold dueR; rw [if_neg (by simp), if_neg hD]
    rw [hdR] at cD
    refine callK_pure cD ?_
    simp [go_sem, hf]
    have hDm : ¬ 1000000000000 < dueN s := by omega
    have hnow := ho.rng.1
    obtain ⟨m, hmm⟩ : ∃ m, max (dueN s) s.now = m := ⟨_, rfl⟩
    have hm : tikR s 0 m = .tup [ckV (tikS s m), .sl 4 ((firT m s.ts).map tmV), .sl 1 ((endI m s.scs).map (.int .i64)), .int .i64 0] := by
      unfold tikR tikE
      rw [if_pos (by rw [if_neg (by simp), if_neg (by omega)])]
    have hpos0 := tick_some (s := s) (to := m) hD (by omega)
    have hfl : (firT m s.ts).length ≤ 100 := by unfold firT; exact Nat.le_trans (List.length_filter_le _ _) hl1
    have hel : (endI m s.scs).length ≤ 100 := by unfold endI; rw [List.length_map]; exact Nat.le_trans (List.length_filter_le _ _) hl2
    have hwl : IntKind.i64.wrap (((firT m s.ts).length : Int) + (endI m s.scs).length) = ((firT m s.ts).length : Int) + (endI m s.scs).length := wr64 (by omega)
    have hpos : (0 : Int) < ((firT m s.ts).length : Int) + (endI m s.scs).length := by omega
    have imx : (if s.now < dueN s then dueN s else s.now) = m := by rw [← hmm]; omega
    have imx2 : (if dueN s < s.now then s.now else dueN s) = m := by rw [← hmm]; omega
    by_cases hin : s.now ≤ to ∧ to ≤ 1000000000000
    · have hR : tikR s 0 to = .tup [ckV (tikS s to), .sl 4 ((firT to s.ts).map tmV), .sl 1 ((endI to s.scs).map (.int .i64)), .int .i64 0] := by
        unfold tikR tikE
        rw [if_pos (by rw [if_neg (by simp), if_neg (by omega)])]
      refine callK_pure (cT to) ?_
      rw [hR]
      by_cases hlt : to < dueN s
      · obtain ⟨g1, g2, g3⟩ := tick_none ho hlt
        unfold tikS
        rw [g1, g2, g3]
        simp [go_sem, hf, ckV, hlt, hDm, imx, imx2]
        intro b7 hb7
        rw [upd_self hb7]
        refine gK_off (.bool false) (by simp [go_sem]) ?_
        simp [go_sem, hf, hDm, imx, imx2]
        refine callK_pure (cT m) ?_
        rw [hm]
        simp [go_sem, hf, hpos, hwl]
        refine gK_pure cA (by simp) (by simp [go_sem]) ?_
        simp [go_sem]
        exact ret_pure (by simp [go_sem]) (by simp [go_sem])
      · have hlt2 := hlt
        simp [go_sem, hf, ckV, hlt, hlt2, hDm, imx, imx2]
        intro b7 hb7
        rw [upd_self hb7]
        refine gK_off (.bool false) (by simp [go_sem]) ?_
        simp [go_sem, hf, hDm, imx, imx2]
        refine callK_pure (cT m) ?_
        rw [hm]
        simp [go_sem, hf, hpos, hwl]
        refine gK_pure cA (by simp) (by simp [go_sem]) ?_
        simp [go_sem]
        exact ret_pure (by simp [go_sem]) (by simp [go_sem])
    · have hR : tikR s 0 to = .tup [ckV s, .sl 4 [], .sl 1 [], .int .i64 7] := by
        have : tikE s 0 to = 7 := by unfold tikE; rw [if_neg (by simp), if_pos (by omega)]
        unfold tikR
        rw [this, if_neg (by decide)]
      refine callK_pure (cT to) ?_
      rw [hR]
      have hin1 : ¬ (s.now ≤ to ∧ to ≤ 1000000000000) := hin
      have hb2 : (!decide (s.now ≤ to) || !decide (to ≤ 1000000000000)) = true := by
        simp only [Bool.or_eq_true, Bool.not_eq_true', decide_eq_false_iff_not]
        omega
      have cSS := Try.same_c s s ⟨by omega, by omega⟩ bx
      simp only [ckV, decide_true] at cSS
      simp [go_sem, hf, ckV, hDm, imx, imx2]
      intro b7 hb7
      rw [upd_self hb7, hb2]
      refine gK_pure cSS (fun _ => by omega) (by simp [go_sem]) ?_
      simp [go_sem, hf, hb2, hDm, imx, imx2]
      refine ⟨fun q1 q2 => absurd ⟨q1, q2⟩ hin, fun _ => ?_⟩
      refine callK_pure (cT m) ?_
      rw [hm]
      simp [go_sem, hf, hpos, hwl]
      refine gK_pure cA (by simp) (by simp [go_sem]) ?_
      simp [go_sem]
      exact ret_pure (by simp [go_sem]) (by simp [go_sem])
end Go.Proofs

/- Contracts: ClockScopes. -/
set_option linter.unusedSimpArgs false
set_option linter.unusedVariables false
set_option maxRecDepth 100000
namespace Go.Ck
open Go Go.Pl
structure Cl where
  what : Int
  id : Int
  at_ : Int
  kind : Int
  deriving DecidableEq, Inhabited
def clV (x : Cl) : V := .agg [.int .u8 x.what, .int .i64 x.id, .int .i64 x.at_, .int .i64 x.kind]
def topL (s : Ck) (id : Int) : List Int := if fidx s.scs id = none then [] else (unN s.scs id).drop 1
def topE (s : Ck) (id : Int) : Int := if fidx s.scs id = none then 4 else 0
theorem bel_top (s : Ck) (id : Int) : belR s 0 id = .tup [.sl 1 ((topL s id).map (.int .i64)), .int .i64 (topE s id)] := by
  unfold belR topL topE
  rw [if_neg (by simp)]
  cases hx : fidx s.scs id with
  | none => simp
  | some k => simp
theorem topE_0 {s : Ck} {id : Int} (h : 0 < (topL s id).length) : topE s id = 0 := by
  unfold topL at h; unfold topE
  split
  · rename_i q; rw [if_pos q] at h; simp at h
  · rfl
theorem belB_top (s : Ck) (id h : Int) : (decide (id = h) || decide (h ∈ topL s id)) = belB s id h := by
  unfold belB topL
  cases hx : fidx s.scs id with
  | none => simp
  | some k => simp
theorem tik_stp (s : Ck) (id to : Int) : ∃ A B E, tikR s 0 to = .tup [ckV (stpK s 0 id to), .sl 4 A, .sl 1 B, .int .i64 E] := by
  unfold tikR stpK
  by_cases c : tikE s 0 to = 0
  · rw [if_pos c, if_pos rfl, if_pos c]; exact ⟨_, _, _, rfl⟩
  · rw [if_neg c, if_pos rfl, if_neg c]; exact ⟨_, _, _, rfl⟩
theorem scp_stp (s : Ck) (id at_ : Int) : ∃ A E : Int, scpR s 0 id at_ = .tup [ckV (stpK s 1 id at_), .int .i64 A, .int .i64 E] := by
  unfold scpR stpK
  by_cases c : scpE s 0 id at_ = 0
  · rw [if_pos c, if_neg (by decide), if_pos rfl, if_pos c]; exact ⟨_, _, rfl⟩
  · rw [if_neg c, if_neg (by decide), if_pos rfl, if_neg c]; exact ⟨_, _, rfl⟩
theorem can_stp (s : Ck) (id at_ : Int) : ∃ A E, canR s 0 id = .tup [ckV (stpK s 2 id at_), .sl 1 A, .int .i64 E] := by
  unfold canR stpK
  by_cases c : canE s 0 id = 0
  · rw [if_pos c, if_neg (by decide), if_neg (by decide), if_pos c]; exact ⟨_, _, rfl⟩
  · rw [if_neg c, if_neg (by decide), if_neg (by decide), if_neg c]; exact ⟨_, _, rfl⟩
theorem Ok.why {s : Ck} (h : Ok s) {k : Nat} (hk : k < s.scs.length) : whyR s 0 s.scs[k].id = .tup [.int .i64 s.scs[k].why, .int .i64 0] := by
  unfold whyR
  rw [if_neg (by simp), fidx_of hk rfl h.incr]
  simp only [gdl hk]
end Go.Ck
namespace Go.Proofs
open Go Go.Pl Go.Ck
set_option maxHeartbeats 4000000 in
theorem Try.scopes_in (was s : Ck) (ho : Ok was) (ho' : Ok s) (l : List Cl) (x : Cl) (i : Nat) (hi : i < l.length) (hxl : l[i] = x) (w : Nat) (hwx : x.what.tmod 3 = (w : Int)) (b2 : Nat) (bx : Boxes) (hf : FinB bx) (hb : bx b2 = some (.row 25 4 [ckV s]))
    (hst : ∀ k (hk : k < was.scs.length), ∃ hk' : k < s.scs.length, s.scs[k].id = was.scs[k].id ∧ s.scs[k].why = wantW s.now w was.scs[k] (belB was x.id was.scs[k].id)) {Q : Exit → St → Prop}
    (hQ : Q (.exit 3) ⟨225, slk [(1, .sl 4 (l.map clV)), (2, .ptr b2 4 0 0), (5, .int .i64 i), (6, .ep (ckV was) 0), (7, .int .i64 was.scs.length), (90, .bool false)], bx⟩) :
    pw Try.prog (.loop Try.L5_1) Q ⟨225, slk [(1, .sl 4 (l.map clV)), (2, .ptr b2 4 0 0), (5, .int .i64 i), (6, .ep (ckV was) 0), (7, .int .i64 0)], bx⟩ := by
  simp only [ckV] at hb hQ ⊢
  have hwl := ho.len.2
  refine pw_upto was.scs.length (fun k => ⟨225, slk [(1, .sl 4 (l.map clV)), (2, .ptr b2 4 0 0), (5, .int .i64 i), (6, .ep (ckV was) 0), (7, .int .i64 k)], bx⟩) (cov_look (by simp [go_sem, ckV])) (fun k hk N hN => ?_) (fun N => ?_)
  · have hw := wr_succ (k := k) (by omega)
    obtain ⟨hk', e1, e2⟩ := hst k hk
    have cW := Try.Why_c s 0 was.scs[k].id ho'.chk bx
    rw [← e1, ho'.why hk', e1, e2] at cW
    have cB := Try.Below_c was 0 ho.chk x.id bx
    rw [bel_top] at cB
    have htl : (topL was x.id).length ≤ 500 := by
      unfold topL
      split
      · simp
      · have := unI_len was.scs x.id was.scs.length
        simp [unN]; omega
    obtain ⟨y, hy⟩ : ∃ y, was.scs[k] = y := ⟨_, rfl⟩
    rw [hy] at cW e1 e2
    have hyk : was.scs[k]? = some y := by rw [← hy]; simp [hk]
    have hxi : l[i]? = some x := by rw [← hxl]; simp [hi]
    have hyw : (wantW s.now w y (belB was x.id y.id) ≠ y.why) → y.why = 0 := fun h => by
      unfold wantW at h
      split at h
      · assumption
      · exact absurd rfl h
    simp only [ckV] at cW cB
    simp [go_sem, Try.L5_1, hf, hb, hk, hyk, hy, ckV, scV]
    intro b8 hb8
    rw [upd_self hb8]
    simp [go_sem, hf, hb]
    refine callK_pure cW ?_
    by_cases c0 : y.why = 0
    · have hwwr : True := trivial
      simp [go_sem, hf, hb, c0, hi, hxi, hxl, clV]
      refine callK_pure cB ?_
      simp [go_sem, hf, hb, hi, hxi, hxl, clV, scV]
      refine pw_upto (topL was x.id).length (fun n => ⟨225, slk [(1, .sl 4 (l.map clV)), (2, .ptr b2 4 0 0), (5, .int .i64 i), (6, .ep (ckV was) 0), (7, .int .i64 k), (8, .ep (scV y) 0), (9, .int .i64 (wantW s.now w y (belB was x.id y.id))), (10, .int .i64 (topE was x.id)), (11, .sl 1 ((topL was x.id).map (.int .i64))), (12, .bool (decide (x.id = y.id) || decide (y.id ∈ (topL was x.id).take n))), (13, .int .i64 n)], bx⟩) (cov_look (by simp [go_sem, ckV, scV, hwwr, c0])) (fun n hn N2 hN2 => ?_) (fun N2 => ?_)
      · have hw2 := wr_succ (k := n) (by omega)
        have hE := topE_0 (s := was) (id := x.id) (by omega)
        have hmem : (y.id ∈ (topL was x.id).take (n + 1)) ↔ (y.id ∈ (topL was x.id).take n ∨ (topL was x.id)[n] = y.id) := by
          rw [List.take_succ_eq_append_getElem hn, List.mem_append, List.mem_singleton]
          constructor
          · rintro (q | q); exact .inl q; exact .inr q.symm
          · rintro (q | q); exact .inl q; exact .inr q.symm
        have hdec : (decide (x.id = y.id) || decide (y.id ∈ (topL was x.id).take (n + 1))) = ((decide (x.id = y.id) || decide (y.id ∈ (topL was x.id).take n)) || decide ((topL was x.id)[n] = y.id)) := by
          rw [Bool.or_assoc]; congr 1; rw [Bool.eq_iff_iff]; simp [hmem]
        rw [hdec] at hN2
        generalize (decide (x.id = y.id) || decide (y.id ∈ (topL was x.id).take n)) = bb at *
        simp [go_sem, Try.L5_0, hf, hE, hn, scV]
        exact hN2 _ (cov_look (by simp [go_sem, ckV, scV, hw2, hE]))
      · rw [List.take_length, belB_top]
        generalize belB was x.id y.id = bb at *
        simp [go_sem, Try.L5_0, hf, hb, c0, scV, ckV, hi, hxi, hxl, clV, hwx]
        have hW : wantW s.now w y bb = if y.dl ≤ s.now then 2 else if w = 2 ∧ bb = true then 1 else 0 := by unfold wantW; rw [if_pos c0]
        have hfin : ∀ (hN3 : True), True := fun h => h
        refine ⟨fun d1 => ?_, fun d1 => ⟨fun d2 d3 => ?_, ?_⟩⟩
        · rw [if_pos d1] at hW
          exact ⟨fun q => absurd hW q, fun _ => hN _ (cov_look (by simp [go_sem, ckV, hw]))⟩
        · rw [if_neg (by omega), if_pos ⟨by omega, d3⟩] at hW
          exact ⟨fun q => absurd hW q, fun _ => hN _ (cov_look (by simp [go_sem, ckV, hw]))⟩
        · intro d2
          rw [if_neg (by omega), if_neg (by rintro ⟨q1, q2⟩; rw [d2 (by omega)] at q2; cases q2)] at hW
          exact ⟨fun q => absurd hW q, fun _ => hN _ (cov_look (by simp [go_sem, ckV, hw]))⟩
    · have hww : wantW s.now w y (belB was x.id y.id) = y.why := by
        by_cases q : wantW s.now w y (belB was x.id y.id) = y.why
        · exact q
        · exact absurd (hyw q) c0
      have hwwr := hww
      simp [go_sem, hf, hb, c0, hww, hi, hxi, hxl, clV]
      refine callK_pure cB ?_
      simp [go_sem, hf, hb, hi, hxi, hxl, clV, scV]
      refine pw_upto (topL was x.id).length (fun n => ⟨225, slk [(1, .sl 4 (l.map clV)), (2, .ptr b2 4 0 0), (5, .int .i64 i), (6, .ep (ckV was) 0), (7, .int .i64 k), (8, .ep (scV y) 0), (9, .int .i64 (wantW s.now w y (belB was x.id y.id))), (10, .int .i64 (topE was x.id)), (11, .sl 1 ((topL was x.id).map (.int .i64))), (12, .bool (decide (x.id = y.id) || decide (y.id ∈ (topL was x.id).take n))), (13, .int .i64 n)], bx⟩) (cov_look (by simp [go_sem, ckV, scV, hwwr, c0])) (fun n hn N2 hN2 => ?_) (fun N2 => ?_)
      · have hw2 := wr_succ (k := n) (by omega)
        have hE := topE_0 (s := was) (id := x.id) (by omega)
        have hmem : (y.id ∈ (topL was x.id).take (n + 1)) ↔ (y.id ∈ (topL was x.id).take n ∨ (topL was x.id)[n] = y.id) := by
          rw [List.take_succ_eq_append_getElem hn, List.mem_append, List.mem_singleton]
          constructor
          · rintro (q | q); exact .inl q; exact .inr q.symm
          · rintro (q | q); exact .inl q; exact .inr q.symm
        have hdec : (decide (x.id = y.id) || decide (y.id ∈ (topL was x.id).take (n + 1))) = ((decide (x.id = y.id) || decide (y.id ∈ (topL was x.id).take n)) || decide ((topL was x.id)[n] = y.id)) := by
          rw [Bool.or_assoc]; congr 1; rw [Bool.eq_iff_iff]; simp [hmem]
        rw [hdec] at hN2
        generalize (decide (x.id = y.id) || decide (y.id ∈ (topL was x.id).take n)) = bb at *
        simp [go_sem, Try.L5_0, hf, hE, hn, scV]
        exact hN2 _ (cov_look (by simp [go_sem, ckV, scV, hw2, hE]))
      · rw [List.take_length, belB_top]
        generalize belB was x.id y.id = bb at *
        simp [go_sem, Try.L5_0, hf, hb, c0, scV, ckV, hi, hxi, hxl, clV, hwx]
        exact ⟨fun q => absurd hww q, fun _ => hN _ (cov_look (by simp [go_sem, ckV, hw]))⟩
  · simp [go_sem, Try.L5_1, hf, hb, ckV]
    exact hQ
set_option maxHeartbeats 4000000 in
theorem Try.clockScopes_c (s : Ck) (l : List Cl) (hl : ∀ x, x ∈ l → 0 ≤ x.what ∧ x.what ≤ 255) (bx : Boxes) : PureCall Try.prog 5 [ckV s, .sl 4 (l.map clV)] bx (.bool true) := by
  refine Try.ctr5 fun hf => ?_
  obtain ⟨e, he⟩ := chk_ex s
  have cS := fun bx => Try.small_c s e he bx
  have cA := fun bx => Try.awake_c bx
  simp only [ckV] at cS ⊢
  simp [go_sem, Try.C5, hf]
  intro b2 hb2
  generalize hbx : upd bx b2 _ = bxx
  have x2 : bxx b2 = some (.row 25 4 [.agg [.int .i64 s.now, .int .i64 s.next, .sl 4 (s.ts.map tmV), .sl 4 (s.scs.map scV)]]) := by rw [← hbx, upd_eq]
  have hxe : Ext bx bxx := by rw [← hbx]; exact (Ext.refl bx).upd_own hb2 _
  have hxf : FinB bxx := by rw [← hbx]; exact (finB_upd _ _ _).2 hf
  refine callK_pure (cS _) ?_
  by_cases hs : s.ts.length ≤ 100 ∧ s.scs.length ≤ 100 ∧ e = 0
  rotate_left
  · have hb : (decide (s.ts.length ≤ 100) && (decide (s.scs.length ≤ 100) && decide (e = 0))) = false := by
      simp only [Bool.and_eq_false_iff, decide_eq_false_iff_not]
      by_cases h1 : s.ts.length ≤ 100
      · by_cases h2 : s.scs.length ≤ 100
        · right; right; exact fun h3 => hs ⟨h1, h2, h3⟩
        · right; left; exact h2
      · left; exact h1
    rw [hb]
    simp [go_sem, hxf]
    refine callK_pure (cA _) ?_
    simp [go_sem]
    exact ret_drop (by simp [go_sem]) hxe ⟨by simp [go_sem], rfl⟩
  obtain ⟨hl1, hl2, rfl⟩ := hs
  have ho := he.ok
  have hb : (decide (s.ts.length ≤ 100) && (decide (s.scs.length ≤ 100) && decide ((0 : Int) = 0))) = true := by simp [hl1, hl2]
  rw [hb]
  by_cases hlen : l.length ≤ 40
  rotate_left
  · have hlen2 : 40 < (l.length : Int) := by omega
    simp [go_sem, hxf, hlen2]
    refine callK_pure (cA _) ?_
    simp [go_sem]
    exact ret_drop (by simp [go_sem]) hxe ⟨by simp [go_sem], rfl⟩
  have hlen' : ¬ 40 < (l.length : Int) := by omega
  simp [go_sem, hxf, hlen']
  refine pw_for (ι := Boxes × Ck) l.length (fun i p => Ok p.2 ∧ FinB p.1 ∧ Ext bx p.1 ∧ p.1 b2 = some (.row 25 4 [ckV p.2]))
    (fun i p => ⟨225, slk [(1, .sl 4 (l.map clV)), (2, .ptr b2 4 0 0), (5, .int .i64 i)], p.1⟩)
    (bxx, s) ⟨ho, hxf, hxe, x2⟩ (cov_look (by simp [go_sem])) (fun i p hi hJ N hN => ?_) (fun p hJ N => ?_)
  · obtain ⟨bxk, s⟩ := p
    dsimp only at hJ hN ⊢
    clear cS x2 hxe hxf hl1 hl2 ho hb he hbx
    obtain ⟨ho, hxf, hxe, x2⟩ := hJ
    simp only [ckV] at x2
    have hw := wr_succ (k := i) (by omega)
    have hx := hl _ (List.getElem_mem hi)
    simp [go_sem, Try.L5_2, hxf, x2, hi]
    intro b6 hb6
    rw [upd_self hb6]
    obtain ⟨x, hxe2⟩ : ∃ x, l[i] = x := ⟨_, rfl⟩
    rw [hxe2] at hx
    obtain ⟨w, hw3, hwx⟩ : ∃ w : Nat, w < 3 ∧ x.what.tmod 3 = (w : Int) := by
      refine ⟨(x.what.tmod 3).toNat, ?_, ?_⟩
      · rw [Int.tmod_eq_emod_of_nonneg hx.1]; omega
      · rw [Int.tmod_eq_emod_of_nonneg hx.1]; omega
    have hli : l[i]? = some x := by rw [← hxe2]; simp [hi]
    obtain ⟨ho', hst⟩ : Ok (stpK s w x.id x.at_) ∧ ∀ k (hk : k < s.scs.length), _ := ⟨stp_ok ho w x.id x.at_, fun k hk => stp_why ho w hw3 x.id x.at_ hk⟩
    obtain ⟨A, B, E, r0⟩ := tik_stp s x.id x.at_
    obtain ⟨A1, E1, r1⟩ := scp_stp s x.id x.at_
    obtain ⟨A2, E2, r2⟩ := can_stp s x.id x.at_
    have c0 := fun bx => Try.Tick_c s 0 ho.chk x.at_ bx
    have c1 := fun bx => Try.Scope_c s 0 ho.chk x.id x.at_ bx
    have c2 := fun bx => Try.Cancel_c s 0 ho.chk x.id bx
    rw [r0] at c0
    rw [r1] at c1
    rw [r2] at c2
    obtain ⟨s', hs'⟩ : ∃ s', s' = stpK s w x.id x.at_ := ⟨_, rfl⟩
    rw [← hs'] at ho' hst
    have cC := fun bx => Try.Check_c s' 0 ho'.chk bx
    simp only [ckV] at c0 c1 c2 cC
    have hput : ∀ y, Ext bx (upd bxk b2 y) := fun y => hxe.upd_own hb2 y
    -- what follows once the call is made
    have rest : ∀ K : St → Prop, True := fun _ => trivial
    have hwx0 := hwx
    rcases w with _ | _ | _ | w
    · rw [← hs'] at c0
      simp only [Int.natCast_zero] at hwx
      simp [go_sem, hxf, x2, hi, hxe2, clV, hwx]
      refine callK_pure (c0 _) ?_
      simp [go_sem, hxf, x2]
      refine callK_pure (cC _) ?_
      simp [go_sem, hxf, x2]
      refine Try.scopes_in s s' ho ho' l x i hi hxe2 0 hwx0 b2 _ ((finB_upd _ _ _).2 hxf) (upd_eq _ _ _) hst ?_
      simp [go_sem, hxf, x2, ckV]
      exact hN _ (upd bxk b2 (some (.row 25 4 [ckV s'])), s') ⟨ho', (finB_upd _ _ _).2 hxf, hput _, upd_eq _ _ _⟩ (cov_look (by simp [go_sem, hw]))
    · rw [← hs'] at c1
      simp only [Int.natCast_one, Nat.zero_add] at hwx
      simp [go_sem, hxf, x2, hi, hxe2, clV, hwx]
      refine callK_pure (c1 _) ?_
      simp [go_sem, hxf, x2]
      refine callK_pure (cC _) ?_
      simp [go_sem, hxf, x2]
      refine Try.scopes_in s s' ho ho' l x i hi hxe2 (0 + 1) hwx0 b2 _ ((finB_upd _ _ _).2 hxf) (upd_eq _ _ _) hst ?_
      simp [go_sem, hxf, x2, ckV]
      exact hN _ (upd bxk b2 (some (.row 25 4 [ckV s'])), s') ⟨ho', (finB_upd _ _ _).2 hxf, hput _, upd_eq _ _ _⟩ (cov_look (by simp [go_sem, hw]))
    · rw [← hs'] at c2
      simp only [Nat.reduceAdd] at hwx
      simp [go_sem, hxf, x2, hi, hxe2, clV, hwx]
      refine callK_pure (c2 _) ?_
      simp [go_sem, hxf, x2]
      refine callK_pure (cC _) ?_
      simp [go_sem, hxf, x2]
      refine Try.scopes_in s s' ho ho' l x i hi hxe2 (0 + 1 + 1) hwx0 b2 _ ((finB_upd _ _ _).2 hxf) (upd_eq _ _ _) hst ?_
      simp [go_sem, hxf, x2, ckV]
      exact hN _ (upd bxk b2 (some (.row 25 4 [ckV s'])), s') ⟨ho', (finB_upd _ _ _).2 hxf, hput _, upd_eq _ _ _⟩ (cov_look (by simp [go_sem, hw]))
    · omega
  · obtain ⟨bxk, s⟩ := p
    dsimp only at hJ ⊢
    clear cS x2 hxe hxf hl1 hl2 ho hb he hbx
    obtain ⟨ho, hxf, hxe, x2⟩ := hJ
    simp only [ckV] at x2
    simp [go_sem, Try.L5_2, hxf, x2]
    have hsl := ho.len.2
    refine pw_upto s.scs.length (fun k => ⟨225, slk [(2, .ptr b2 4 0 0), (15, .int .i64 k)], bxk⟩) (cov_look (by simp [go_sem])) (fun k hk N2 hN2 => ?_) (fun N2 => ?_)
    · have hw2 := wr_succ (k := k) (by omega)
      rcases ho.par hk with h0 | ⟨j, hj, q1, q2, q3⟩
      · simp [go_sem, Try.L5_3, hxf, x2, hk, scV, h0]
        exact hN2 _ (cov_look (by simp [go_sem, hw2]))
      · have hjl : j < s.scs.length := by omega
        have cW := Try.Why_c s 0 s.scs[j].id ho.chk bxk
        rw [ho.why hjl, q1] at cW
        simp only [ckV] at cW
        have hp0 : ¬ s.scs[k].parent = 0 := by
          have := ho.pos hjl; omega
        simp [go_sem, Try.L5_3, hxf, x2, hk, scV, hp0]
        refine callK_pure cW ?_
        by_cases c : s.scs[k].why = 0
        · have := q3 c
          simp [go_sem, hxf, x2, hk, scV, c, this]
          exact hN2 _ (cov_look (by simp [go_sem, hw2]))
        · simp [go_sem, hxf, x2, hk, scV, c]
          exact hN2 _ (cov_look (by simp [go_sem, hw2]))
    · simp [go_sem, Try.L5_3, hxf, x2]
      refine callK_pure (cA _) ?_
      simp [go_sem]
      exact ret_drop (by simp [go_sem]) hxe ⟨by simp [go_sem], rfl⟩
end Go.Proofs

/- What the arguments are: calls. -/
set_option linter.unusedVariables false
set_option linter.unusedSimpArgs false
set_option maxRecDepth 100000
namespace Go.Proofs.Ytejcmkefemhpkaa
open Go Go.Pl Go.Proofs Go.Ck
open Go.ChangeShapes Go.WideShapes Go.ChangeAt Go.RowKit
theorem hasU8 {n : Nat} {xs : List V} (h : HasL Try.prog n 5 xs) : ∃ i : Int, xs = [.int .u8 i] ∧ 0 ≤ i ∧ i ≤ 255 := by
  obtain ⟨i, rfl, hw⟩ := h.int Try.knd5
  simp [Lit.wf, IntKind.min, IntKind.max, IntKind.signed, IntKind.bits] at hw
  exact ⟨i, rfl, by omega⟩
theorem hasCl {n : Nat} {ys : List V} (hy : HasL Try.prog (n + 1) 44 ys) : ∃ x : Cl, .agg ys = clV x ∧ 0 ≤ x.what ∧ x.what ≤ 255 := by
  obtain ⟨x, y, z, w, rfl⟩ := len4 (hy.len.trans Try.tsz44)
  have h0 := hy.fld Try.knd44 Try.fld44_0
  rw [Try.tsz5] at h0
  have h1 := hy.fld Try.knd44 Try.fld44_1
  rw [Try.tsz2] at h1
  have h2 := hy.fld Try.knd44 Try.fld44_2
  rw [Try.tsz2] at h2
  have h3 := hy.fld Try.knd44 Try.fld44_3
  rw [Try.tsz3] at h3
  obtain ⟨a, ha, hb8⟩ := hasU8 h0
  obtain ⟨b, hb, _⟩ := hasInt64 h1
  obtain ⟨c, hc, _⟩ := hasInt64 h2
  obtain ⟨d, hd, _⟩ := hasIntB h3
  simp at ha hb hc hd
  subst ha hb hc hd
  exact ⟨⟨a, b, c, d⟩, rfl, hb8⟩
theorem hasCls {n : Nat} {xs : List V} (h : HasL Try.prog (n + 2) 42 xs) : ∃ l : List Cl, xs = [.sl 4 (l.map clV)] ∧ ∀ x, x ∈ l → 0 ≤ x.what ∧ x.what ≤ 255 := by
  obtain ⟨l, h, hl⟩ := HasL.slice (r := fun x : {x : Cl // 0 ≤ x.what ∧ x.what ≤ 255} => clV x.1) Try.knd42 h fun ys hy => by
    obtain ⟨x, h1, h2⟩ := hasCl hy
    exact ⟨⟨x, h2⟩, by rw [elV_agg Try.tagg44]; exact h1⟩
  rw [Try.tsz44] at h
  refine ⟨l.map (·.1), by rw [h, List.map_map]; rfl, fun x hx => ?_⟩
  obtain ⟨y, _, rfl⟩ := List.mem_map.1 hx
  exact y.2
end Go.Proofs.Ytejcmkefemhpkaa
