/- Texts of the proof, put together: CXg, CXk, CV, CXi, CXj, CXl. -/
import Derived.Test.YtejcmkefemhpkaaGi
import Derived.Test.YtejcmkefemhpkaaGh

/- The plain law of scopes. -/
set_option linter.unusedSimpArgs false
set_option linter.unusedVariables false
set_option maxRecDepth 100000
namespace Go.Ck
open Go Go.Pl
theorem gdl {l : List Sc} {k : Nat} (hk : k < l.length) : l.getD k default = l[k] := by simp [hk]
theorem mem_dd {h x : Int} {ms : List Int} : h ∈ ddAdd ms x ↔ h ∈ ms ∨ h = x := by
  unfold ddAdd
  split
  · constructor
    · exact .inl
    · rintro (h | rfl)
      · exact h
      · assumption
  · simp
theorem mem_unK {l : List Sc} {top h : Int} : ∀ {k : Nat}, h ∈ unK l top k ↔ h = top ∨ ∃ j, j < k ∧ unB l top j = true ∧ (l.getD j default).id = h
  | 0 => by simp [unK]
  | k + 1 => by
    have ih := mem_unK (l := l) (top := top) (h := h) (k := k)
    have hb : unB l top k = true ↔ ((l.getD k default).id = top ∨ (l.getD k default).parent ∈ unK l top k) := by
      unfold unB; rw [Bool.or_eq_true, decide_eq_true_eq, decide_eq_true_eq]
    by_cases c : unB l top k = true
    · have e : unK l top (k + 1) = ddAdd (unK l top k) (l.getD k default).id := by
        conv => lhs; unfold unK
        rw [if_pos (hb.1 c)]
      rw [e, mem_dd, ih]
      constructor
      · rintro ((h1 | ⟨j, h1, h2, h3⟩) | h1)
        · exact .inl h1
        · exact .inr ⟨j, by omega, h2, h3⟩
        · exact .inr ⟨k, by omega, c, h1.symm⟩
      · rintro (h1 | ⟨j, h1, h2, h3⟩)
        · exact .inl (.inl h1)
        · by_cases e : j = k
          · subst e; exact .inr h3.symm
          · exact .inl (.inr ⟨j, by omega, h2, h3⟩)
    · have e : unK l top (k + 1) = unK l top k := by
        conv => lhs; unfold unK
        rw [if_neg (fun q => c (hb.2 q))]
      rw [e, ih]
      constructor
      · rintro (h1 | ⟨j, h1, h2, h3⟩)
        · exact .inl h1
        · exact .inr ⟨j, by omega, h2, h3⟩
      · rintro (h1 | ⟨j, h1, h2, h3⟩)
        · exact .inl h1
        · by_cases e : j = k
          · subst e; exact absurd h2 c
          · exact .inr ⟨j, by omega, h2, h3⟩
theorem unB_iff {l : List Sc} {top : Int} {i : Nat} : unB l top i = true ↔ (l.getD i default).id = top ∨ (l.getD i default).parent = top ∨ ∃ j, j < i ∧ unB l top j = true ∧ (l.getD j default).id = (l.getD i default).parent := by
  conv => lhs; unfold unB
  rw [Bool.or_eq_true, decide_eq_true_eq, decide_eq_true_eq, mem_unK]
theorem Ok.inj {s : Ck} (h : Ok s) {i j : Nat} (hi : i < s.scs.length) (hj : j < s.scs.length) (e : s.scs[i].id = s.scs[j].id) : i = j := by
  rcases Nat.lt_trichotomy i j with q | q | q
  · have := List.pairwise_iff_getElem.1 h.incr i j (by simpa using hi) (by simpa using hj) q
    simp at this; omega
  · exact q
  · have := List.pairwise_iff_getElem.1 h.incr j i (by simpa using hj) (by simpa using hi) q
    simp at this; omega
/-- The parent of a scope. -/
theorem Ok.par {s : Ck} (h : Ok s) {i : Nat} (hi : i < s.scs.length) : s.scs[i].parent = 0 ∨ ∃ j, ∃ hj : j < i, (s.scs[j]'(by omega)).id = s.scs[i].parent ∧ s.scs[i].dl ≤ (s.scs[j]'(by omega)).dl ∧ (s.scs[i].why = 0 → (s.scs[j]'(by omega)).why = 0) := by
  have h3 := (h.form i hi).2.2
  rw [gdl hi] at h3
  rcases h3 with h3 | ⟨p, p1, p2, p3, p4⟩
  · exact .inl h3
  · right
    rw [List.mem_take_iff_getElem] at p1
    obtain ⟨j, hj, rfl⟩ := p1
    exact ⟨j, by omega, p2, p3, p4⟩
theorem Ok.pos {s : Ck} (h : Ok s) {i : Nat} (hi : i < s.scs.length) : 0 < s.scs[i].id := by
  have := (h.rng.2.2.2 _ (List.getElem_mem hi)).1.1
  omega
/-- What is under a scope stands behind it. -/
theorem Ok.un_ge {s : Ck} (h : Ok s) {k : Nat} (hk : k < s.scs.length) : ∀ {i : Nat}, i < s.scs.length → unB s.scs s.scs[k].id i = true → k ≤ i := by
  intro i
  induction i using Nat.strongRecOn with
  | ind i ih =>
    intro hi hu
    rw [unB_iff, gdl hi] at hu
    have hp := h.pos hk
    rcases hu with hu | hu | ⟨j, h1, h2, h3⟩
    · have := h.inj hi hk hu; omega
    · rcases h.par hi with q | ⟨j, hj, q1, _⟩
      · omega
      · have := h.inj (by omega) hk (q1.trans hu); omega
    · have := ih j h1 (by omega) h2; omega
/-- The first one under a scope is the scope itself. -/
theorem Ok.un_cons {s : Ck} (h : Ok s) {k : Nat} (hk : k < s.scs.length) : ∃ tl, unI s.scs s.scs[k].id s.scs.length = k :: tl ∧ ∀ i, i ∈ tl ↔ (i < s.scs.length ∧ unB s.scs s.scs[k].id i = true ∧ i ≠ k) := by
  have hm := unI_mem hk rfl
  have hp : (unI s.scs s.scs[k].id s.scs.length).Pairwise (· < ·) := by
    unfold unI; exact List.pairwise_lt_range.filter _
  have hiff : ∀ i, i ∈ unI s.scs s.scs[k].id s.scs.length ↔ (i < s.scs.length ∧ unB s.scs s.scs[k].id i = true) := fun i => by
    unfold unI; rw [List.mem_filter, List.mem_range]
  generalize unI s.scs s.scs[k].id s.scs.length = is at *
  rcases is with _ | ⟨a, tl⟩
  · cases hm
  rw [List.pairwise_cons] at hp
  have ha := (hiff a).1 (by simp)
  have hak := h.un_ge hk ha.1 ha.2
  have hka : a = k := by
    rcases List.mem_cons.1 hm with q | q
    · exact q.symm
    · have := hp.1 k q; omega
  subst hka
  refine ⟨tl, rfl, fun i => ⟨fun hi => ?_, fun hi => ?_⟩⟩
  · have h1 := (hiff i).1 (List.mem_cons_of_mem _ hi)
    have h2 := hp.1 i hi
    exact ⟨h1.1, h1.2, by omega⟩
  · rcases List.mem_cons.1 ((hiff i).2 ⟨hi.1, hi.2.1⟩) with q | q
    · exact absurd q hi.2.2
    · exact q
theorem Ok.below {s : Ck} (h : Ok s) {k i : Nat} (hk : k < s.scs.length) (hi : i < s.scs.length) : (s.scs[k].id = s.scs[i].id ∨ s.scs[i].id ∈ (unN s.scs s.scs[k].id).drop 1) ↔ unB s.scs s.scs[k].id i = true := by
  obtain ⟨tl, h1, h2⟩ := h.un_cons hk
  unfold unN
  rw [h1]
  simp only [List.map_cons, List.drop_succ_cons, List.drop_zero]
  constructor
  · rintro (q | q)
    · have := h.inj hk hi q; subst this
      rw [unB_iff]; left; rw [gdl hk]
    · obtain ⟨j, hj, he⟩ := List.mem_map.1 q
      obtain ⟨q1, q2, _⟩ := (h2 j).1 hj
      rw [gdl q1] at he
      have := h.inj q1 hi he; subst this; exact q2
  · intro hu
    by_cases e : i = k
    · subst e; exact .inl rfl
    · right
      exact List.mem_map.2 ⟨i, (h2 i).2 ⟨hi, hu, e⟩, by rw [gdl hi]⟩
theorem canS_id (x : Sc) : (canS x).id = x.id ∧ (canS x).parent = x.parent ∧ (canS x).dl = x.dl ∧ (canS x).why = if x.why = 0 then 1 else x.why := by
  unfold canS; split <;> simp_all
theorem canL_in {l : List Sc} {j : Nat} (hj : j < l.length) : ∀ {is : List Nat}, is.Nodup → j ∈ is → (canL l is).getD j default = canS (l.getD j default) := fun {is} => by
  unfold canL
  induction is generalizing l with
  | nil => intro _ h; cases h
  | cons i is ih =>
    intro hn h
    rw [List.nodup_cons] at hn
    rw [List.foldl_cons]
    by_cases e : j = i
    · subst e
      have h2 := canL_other (l.set j (canS (l.getD j default))) is hn.1
      unfold canL at h2
      rw [h2]
      simp [hj]
    · have h3 : j ∈ is := by rcases List.mem_cons.1 h with q | q; exact absurd q e; exact q
      rw [ih (by simpa using hj) hn.2 h3]
      congr 1
      simp only [List.getD_eq_getElem?_getD]
      rw [List.getElem?_set_ne (Ne.symm e)]
/-- A scope after a cancelling. -/
theorem can_at {l : List Sc} {top : Int} {i : Nat} (hi : i < l.length) : (canL l (unI l top l.length)).getD i default = if unB l top i = true then canS (l.getD i default) else l.getD i default := by
  by_cases c : unB l top i = true
  · rw [if_pos c]
    exact canL_in hi (unI_nodup _ _ _) (by unfold unI; exact List.mem_filter.2 ⟨by simpa using hi, c⟩)
  · rw [if_neg c]
    exact canL_other _ _ fun q => c (by unfold unI at q; exact (List.mem_filter.1 q).2)
/-- Scopes that keep all but why they ended. -/
theorem form_same {now now' : Int} {l l' : List Sc} (h : FormS now l) (hl : l'.length = l.length) (hs : ∀ i, i < l.length → (l'.getD i default).id = (l.getD i default).id ∧ (l'.getD i default).parent = (l.getD i default).parent ∧ (l'.getD i default).dl = (l.getD i default).dl)
    (ho : ∀ i, i < l.length → okS now' (l'.getD i default)) (hp : ∀ i j, i < l.length → j < i → (l.getD j default).id = (l.getD i default).parent → (l'.getD i default).why = 0 → ((l.getD i default).why = 0 → (l.getD j default).why = 0) → (l'.getD j default).why = 0) : FormS now' l' := by
  intro i hi
  rw [hl] at hi
  obtain ⟨f1, f2, f3⟩ := h i hi
  obtain ⟨s1, s2, s3⟩ := hs i hi
  refine ⟨?_, ho i hi, ?_⟩
  · have : lastId l' i = lastId l i := by
      unfold lastId
      split
      · rfl
      · exact (hs (i - 1) (by omega)).1
    rw [this, s1]; exact f1
  · rw [s2, s3]
    rcases f3 with f3 | ⟨p, p1, p2, p3, p4⟩
    · exact .inl f3
    · right
      rw [List.mem_take_iff_getElem] at p1
      obtain ⟨j, hj, rfl⟩ := p1
      have hjl : j < l.length := by omega
      have hji : j < i := by omega
      obtain ⟨t1, t2, t3⟩ := hs j hjl
      rw [gdl hjl] at t1 t3
      have hjl' : j < l'.length := by omega
      refine ⟨l'.getD j default, ?_, by rw [t1]; exact p2, by rw [t3]; exact p3, fun hw => hp i j hi hji (by rw [gdl hjl]; exact p2) hw (by rw [gdl hjl]; exact p4)⟩
      rw [gdl hjl', List.mem_take_iff_getElem]
      exact ⟨j, by omega, rfl⟩
theorem map_id_of {l l' : List Sc} (hl : l'.length = l.length) (hs : ∀ i, i < l.length → (l'.getD i default).id = (l.getD i default).id) : l'.map (·.id) = l.map (·.id) := by
  apply List.ext_getElem (by simpa using hl)
  intro i h1 h2
  simp only [List.length_map] at h1 h2
  have := hs i h2
  rw [gdl h1, gdl h2] at this
  simpa using this
theorem Ok.can {s : Ck} (h : Ok s) {k : Nat} (hk : k < s.scs.length) : Ok (canK s s.scs[k].id) := by
  have hat := fun {i : Nat} (hi : i < s.scs.length) => can_at (top := s.scs[k].id) hi
  have hl : (canL s.scs (unI s.scs s.scs[k].id s.scs.length)).length = s.scs.length := canL_len _ _
  have hK : canK s s.scs[k].id = { s with scs := canL s.scs (unI s.scs s.scs[k].id s.scs.length) } := rfl
  rw [hK]
  generalize canL s.scs (unI s.scs s.scs[k].id s.scs.length) = l' at *
  have hsame : ∀ i, i < s.scs.length → (l'.getD i default).id = (s.scs.getD i default).id ∧ (l'.getD i default).parent = (s.scs.getD i default).parent ∧ (l'.getD i default).dl = (s.scs.getD i default).dl := fun i hi => by
    rw [hat hi]
    obtain ⟨c1, c2, c3, _⟩ := canS_id (s.scs.getD i default)
    split
    · exact ⟨c1, c2, c3⟩
    · exact ⟨rfl, rfl, rfl⟩
  refine ⟨⟨h.len.1, by show l'.length ≤ 500; rw [hl]; exact h.len.2⟩, ⟨h.rng.1, h.rng.2.1, h.rng.2.2.1, fun x hx => ?_⟩, ?_, h.srt, form_same h.form hl hsame (fun i hi => ?_) fun i j hi hj he hw hpw => ?_⟩
  · obtain ⟨i, hi, rfl⟩ := List.getElem_of_mem hx
    have hi' : i < s.scs.length := by rw [← hl]; exact hi
    have h2 := h.rng.2.2.2 _ (List.getElem_mem hi')
    have h3 := hat hi'
    rw [gdl hi'] at h3
    show rngS s.next l'[i]
    rw [← gdl hi, h3]
    obtain ⟨c1, c2, c3, c4⟩ := canS_id s.scs[i]
    unfold rngS at h2 ⊢
    split
    · rw [c1, c3, c4]
      refine ⟨h2.1, h2.2.1, ?_⟩
      split <;> omega
    · exact h2
  · show ((s.ts.map (·.id)) ++ l'.map (·.id)).Nodup
    rw [map_id_of hl fun i hi => (hsame i hi).1]
    exact h.nd
  · have h2 := (h.form i hi).2.1
    rw [hat hi]
    obtain ⟨c1, c2, c3, c4⟩ := canS_id (s.scs.getD i default)
    show okS s.now _
    unfold okS at h2 ⊢
    split
    · rw [c3, c4]
      split <;> omega
    · exact h2
  · have hjl : j < s.scs.length := by omega
    rw [hat hi] at hw
    rw [hat hjl]
    have hii : (s.scs.getD i default).why = 0 ∧ ¬ unB s.scs s.scs[k].id i = true := by
      by_cases c : unB s.scs s.scs[k].id i = true
      · rw [if_pos c, (canS_id _).2.2.2] at hw
        split at hw
        · cases hw
        · exact absurd hw ‹_›
      · rw [if_neg c] at hw; exact ⟨hw, c⟩
    have hnj : ¬ unB s.scs s.scs[k].id j = true := fun q => hii.2 (unB_iff.2 (.inr (.inr ⟨j, hj, q, he⟩)))
    rw [if_neg hnj]
    exact hpw hii.1
theorem scpX_is {s : Ck} (h : Ok s) {p d : Int} (he : scpE s 0 p d = 0) : (0 ≤ d ∧ d ≤ 1000000000001) ∧ s.scs.length < 500 ∧ s.next < 1000000000000000 ∧ (scpX s p d).id = s.next ∧ (scpX s p d).parent = p ∧ (0 ≤ (scpX s p d).dl ∧ (scpX s p d).dl ≤ 1000000000001) ∧ (0 ≤ (scpX s p d).why ∧ (scpX s p d).why ≤ 2) ∧ okS s.now (scpX s p d) ∧ (p = 0 ∨ ∃ q, q ∈ s.scs ∧ q.id = p ∧ (scpX s p d).dl ≤ q.dl ∧ ((scpX s p d).why = 0 → q.why = 0)) := by
  have hl := h.len.2
  have hnx := h.rng.2.1
  have hnow := h.rng.1
  unfold scpE at he
  rw [if_neg (by simp)] at he
  by_cases h1 : d < 0 ∨ 1000000000001 < d
  · rw [if_pos h1] at he; cases he
  rw [if_neg h1] at he
  by_cases h2 : p ≠ 0 ∧ fidx s.scs p = none
  · rw [if_pos h2] at he; cases he
  rw [if_neg h2] at he
  by_cases h3 : s.scs.length = 500 ∨ s.next = 1000000000000000
  · rw [if_pos h3] at he; cases he
  refine ⟨by omega, by omega, by omega, ?_⟩
  obtain ⟨X0, hX0, b1, b2, b3, b4, b5, b6⟩ : ∃ X0, scp0 s p d = X0 ∧ X0.id = s.next ∧ X0.parent = p ∧ (0 ≤ X0.dl ∧ X0.dl ≤ 1000000000001) ∧ (0 ≤ X0.why ∧ X0.why ≤ 2) ∧ (X0.why = 2 → X0.dl ≤ s.now) ∧ (p = 0 ∨ ∃ q, q ∈ s.scs ∧ q.id = p ∧ X0.dl ≤ q.dl ∧ (X0.why = 0 → q.why = 0)) := by
    refine ⟨_, rfl, ?_⟩
    unfold scp0
    by_cases hp : p = 0
    · rw [if_pos hp]
      exact ⟨rfl, rfl, by dsimp only; omega, by dsimp only; omega, (fun q => by cases q), .inl hp⟩
    · rw [if_neg hp]
      cases hx : fidx s.scs p with
      | none => exact absurd ⟨hp, hx⟩ h2
      | some k =>
        obtain ⟨hk, hke⟩ := fidx_some hx
        dsimp only
        rw [gdl hk]
        have hr := h.rng.2.2.2 _ (List.getElem_mem hk)
        have ho := (h.form k hk).2.1
        rw [gdl hk] at ho
        unfold rngS at hr
        unfold okS at ho
        refine ⟨rfl, rfl, by omega, by omega, fun q => by omega, .inr ⟨_, List.getElem_mem hk, hke, by omega, fun q => q⟩⟩
  unfold scpX
  rw [hX0]
  by_cases c : X0.why = 0 ∧ X0.dl ≤ s.now
  · rw [if_pos c]
    refine ⟨b1, b2, b3, by dsimp only; omega, ⟨(fun q => by cases q.1), fun q => by have := q.2; dsimp only at this; omega⟩, ?_⟩
    rcases b6 with b6 | ⟨q, q1, q2, q3, q4⟩
    · exact .inl b6
    · exact .inr ⟨q, q1, q2, q3, fun q => by cases q⟩
  · rw [if_neg c]
    exact ⟨b1, b2, b3, b4, ⟨c, fun q => by have := b5 q.1; omega⟩, b6⟩
theorem Ok.scp {s : Ck} (h : Ok s) {p d : Int} (he : scpE s 0 p d = 0) : Ok (scpS s p d) := by
  obtain ⟨_, c2, c3, c4, c5, c6, c7, c8, c9⟩ := scpX_is h he
  unfold scpS
  generalize scpX s p d = X at *
  have hid : ∀ x, x ∈ s.scs → x.id < s.next := fun x hx => by have := (h.rng.2.2.2 x hx).1.2; omega
  have hgd : ∀ {i}, i < s.scs.length → (s.scs ++ [X]).getD i default = s.scs.getD i default := fun {i} hi => by
    simp only [List.getD_eq_getElem?_getD]
    rw [List.getElem?_append_left hi]
  refine ⟨⟨h.len.1, by simp; omega⟩, ⟨h.rng.1, ⟨by have := h.rng.2.1; dsimp only; omega, by dsimp only; omega⟩, fun t ht => ?_, fun x hx => ?_⟩, ?_, h.srt, fun i hi => ?_⟩
  · obtain ⟨q1, q2⟩ := h.rng.2.2.1 t ht
    exact ⟨⟨q1.1, by dsimp only; omega⟩, q2⟩
  · rcases List.mem_append.1 hx with hx | hx
    · obtain ⟨q1, q2⟩ := h.rng.2.2.2 x hx
      exact ⟨⟨q1.1, by dsimp only; omega⟩, q2⟩
    · simp at hx; subst hx
      have := h.rng.2.1
      exact ⟨⟨by omega, by dsimp only; omega⟩, c6, c7⟩
  · show ((s.ts.map (·.id)) ++ (s.scs ++ [X]).map (·.id)).Nodup
    rw [List.map_append, ← List.append_assoc]
    refine List.nodup_append.2 ⟨h.nd, by simp, fun a ha b hb => ?_⟩
    simp at hb
    subst hb
    intro e
    rw [c4] at e
    rcases List.mem_append.1 ha with ha | ha
    · obtain ⟨x, hx, rfl⟩ := List.mem_map.1 ha
      have := (h.rng.2.2.1 x hx).1.2; omega
    · obtain ⟨x, hx, rfl⟩ := List.mem_map.1 ha
      have := hid x hx; omega
  · show FormAt s.now (s.scs ++ [X]) i
    by_cases hi2 : i < s.scs.length
    · obtain ⟨f1, f2, f3⟩ := h.form i hi2
      refine ⟨?_, by rw [hgd hi2]; exact f2, ?_⟩
      · rw [hgd hi2]
        have : lastId (s.scs ++ [X]) i = lastId s.scs i := by
          unfold lastId
          split
          · rfl
          · rw [hgd (by omega)]
        rw [this]; exact f1
      · rw [hgd hi2, List.take_append_of_le_length (by omega)]
        exact f3
    · have hi3 : i = s.scs.length := by simp at hi; omega
      subst hi3
      have hg : (s.scs ++ [X]).getD s.scs.length default = X := by simp
      refine ⟨?_, by rw [hg]; exact c8, ?_⟩
      · rw [hg, c4]
        unfold lastId
        split
        · have := h.rng.2.1; omega
        · rw [hgd (by omega), gdl (by omega)]
          exact hid _ (List.getElem_mem _)
      · rw [hg, c5, List.take_append_of_le_length (by omega), List.take_length]
        exact c9
/-- What a call of ClockScopes does. -/
def stpK (s : Ck) (w : Nat) (id at_ : Int) : Ck :=
  if w = 0 then (if tikE s 0 at_ = 0 then tikS s at_ else s) else if w = 1 then (if scpE s 0 id at_ = 0 then scpS s id at_ else s) else if canE s 0 id = 0 then canK s id else s
def belB (s : Ck) (id h : Int) : Bool := decide (id = h) || (decide (fidx s.scs id ≠ none) && decide (h ∈ (unN s.scs id).drop 1))
/-- Why a scope has ended afterwards. -/
def wantW (now : Int) (w : Nat) (x : Sc) (below : Bool) : Int :=
  if x.why = 0 then (if x.dl ≤ now then 2 else if w = 2 ∧ below = true then 1 else 0) else x.why
end Go.Ck

/- The plain law of what is taken back. -/
set_option linter.unusedSimpArgs false
set_option linter.unusedVariables false
set_option maxRecDepth 100000
namespace Go.Ck
open Go Go.Pl
theorem aftE_ok {s : Ck} {a k o : Int} (h : aftE s 0 a k o = 0) : ((0 ≤ a ∧ a ≤ 1000000000000) ∧ (0 ≤ k ∧ k ≤ 1000) ∧ (0 ≤ o ∧ o ≤ 1000000000000000)) ∧ s.ts.length ≠ 2000 ∧ s.next ≠ 1000000000000000 := by
  unfold aftE at h
  rw [if_neg (by simp)] at h
  split at h
  · cases h
  · split at h
    · cases h
    · rename_i h1 h2
      exact ⟨Classical.not_not.1 h1, fun q => h2 (.inl q), fun q => h2 (.inr q)⟩
theorem insT_perm (l : List Tm) (t : Tm) : (insT l t).Perm (t :: l) := by
  unfold insT
  have := List.perm_middle (a := t) (l₁ := l.take (insI l t)) (l₂ := l.drop (insI l t))
  rwa [List.take_append_drop] at this
theorem Ok.aft {s : Ck} (h : Ok s) {a k o : Int} (he : aftE s 0 a k o = 0) : Ok (aftS s a k o) := by
  obtain ⟨c1, c2, c3⟩ := aftE_ok he
  have hnx := h.rng.2.1
  have hlt := h.len.1
  obtain ⟨t, ht⟩ : ∃ t, aftT s a k o = t := ⟨_, rfl⟩
  have hti : t.id = s.next ∧ t.at_ = a ∧ t.kind = k ∧ t.owner = o := by rw [← ht]; exact ⟨rfl, rfl, rfl, rfl⟩
  have hS : aftS s a k o = { s with next := s.next + 1, ts := insT s.ts t } := by unfold aftS; rw [ht]
  rw [hS]
  have hp := insT_perm s.ts t
  have hid : ∀ x, x ∈ s.ts → x.id < s.next := fun x hx => by have := (h.rng.2.2.1 x hx).1.2; omega
  have hids : ∀ x, x ∈ s.scs → x.id < s.next := fun x hx => by have := (h.rng.2.2.2 x hx).1.2; omega
  have hpw : (insT s.ts t).Pairwise Bf := by
    have h0 := h.pw
    unfold insT
    rw [List.pairwise_append]
    refine ⟨h0.sublist (List.take_sublist _ _), ?_, ?_⟩
    · rw [List.pairwise_cons]
      refine ⟨fun x hx => ?_, h0.sublist (List.drop_sublist _ _)⟩
      obtain ⟨j, hj, rfl⟩ := List.getElem_of_mem hx
      rw [List.getElem_drop]
      rw [List.length_drop] at hj
      have h1 := insI_hi (t := t) h.srt (q := insI s.ts t + j) (by omega) (by omega)
      rw [Go.Proofs.ord_lt] at h1
      have := hid _ (List.getElem_mem (show insI s.ts t + j < s.ts.length by omega))
      unfold Bf; omega
    · intro x hx y hy
      obtain ⟨i, hi, rfl⟩ := List.getElem_of_mem hx
      rw [List.length_take] at hi
      rw [List.getElem_take]
      have h1 := insI_lo (t := t) (q := i) (l := s.ts) (by omega) (by omega)
      rw [Go.Proofs.ord_lt] at h1
      rcases List.mem_cons.1 hy with rfl | hy
      · exact h1
      · obtain ⟨j, hj, rfl⟩ := List.getElem_of_mem hy
        rw [List.getElem_drop]
        rw [List.length_drop] at hj
        exact List.pairwise_iff_getElem.1 h0 i (insI s.ts t + j) (by omega) (by omega) (by omega)
  refine ⟨⟨by show (insT s.ts t).length ≤ 2000; rw [hp.length_eq]; simp; omega, h.len.2⟩, ⟨h.rng.1, ⟨by dsimp only; omega, by dsimp only; omega⟩, fun x hx => ?_, fun x hx => ?_⟩, ?_, srt_pw hpw, h.form⟩
  · rcases List.mem_cons.1 (hp.mem_iff.1 hx) with rfl | hx
    · obtain ⟨q1, q2, q3, q4⟩ := hti
      unfold rngT
      rw [q1, q2, q3, q4]
      exact ⟨⟨by omega, by dsimp only; omega⟩, c1⟩
    · obtain ⟨q1, q2⟩ := h.rng.2.2.1 x hx
      exact ⟨⟨q1.1, by dsimp only; omega⟩, q2⟩
  · obtain ⟨q1, q2⟩ := h.rng.2.2.2 x hx
    exact ⟨⟨q1.1, by dsimp only; omega⟩, q2⟩
  · show ((insT s.ts t).map (·.id) ++ s.scs.map (·.id)).Nodup
    have hp2 : ((insT s.ts t).map (·.id) ++ s.scs.map (·.id)).Perm (t.id :: (s.ts.map (·.id) ++ s.scs.map (·.id))) := (hp.map _).append_right _
    rw [hp2.nodup_iff, List.nodup_cons]
    refine ⟨fun q => ?_, h.nd⟩
    rw [hti.1] at q
    rcases List.mem_append.1 q with q | q
    · obtain ⟨x, hx, e⟩ := List.mem_map.1 q
      have := hid x hx; omega
    · obtain ⟨x, hx, e⟩ := List.mem_map.1 q
      have := hids x hx; omega
/-- A timer that was just set is found where it was put. -/
theorem stop_aft {s : Ck} (h : Ok s) {a k o : Int} (he : aftE s 0 a k o = 0) : stpR (aftS s a k o) 0 s.next = .tup [ckV { s with next := s.next + 1 }, tmV ⟨s.next, a, k, o⟩, .int .i64 0] := by
  have hid : ∀ x, x ∈ s.ts → x.id < s.next := fun x hx => by have := (h.rng.2.2.1 x hx).1.2; omega
  obtain ⟨t, ht⟩ : ∃ t, aftT s a k o = t := ⟨_, rfl⟩
  have hti : t.id = s.next := by rw [← ht]; rfl
  have hle := insI_le s.ts t
  have hts : (aftS s a k o).ts = s.ts.take (insI s.ts t) ++ t :: s.ts.drop (insI s.ts t) := by unfold aftS; rw [ht]; rfl
  have hl0 : (s.ts.take (insI s.ts t)).length = insI s.ts t := by rw [List.length_take]; omega
  have hx : tidx (aftS s a k o).ts s.next = some (insI s.ts t) := by
    rw [hts]
    refine tidx_of (by rw [List.length_append, hl0]; simp) ?_ fun j hj => ?_
    · rw [List.getElem_append_right (by omega)]
      simp only [hl0, Nat.sub_self, List.getElem_cons_zero]; exact hti
    · have hjl : j < s.ts.length := by omega
      have : (s.ts.take (insI s.ts t) ++ t :: s.ts.drop (insI s.ts t)).getD j default = s.ts[j] := by
        simp only [List.getD_eq_getElem?_getD]
        rw [List.getElem?_append_left (by omega), List.getElem?_take_of_lt hj, List.getElem?_eq_getElem hjl]; rfl
      rw [this]
      have := hid _ (List.getElem_mem hjl); omega
  have hE : stpE (aftS s a k o) 0 s.next = 0 := by unfold stpE; rw [if_neg (by simp), hx]
  unfold stpR
  rw [if_pos hE]
  have e1 : stpS (aftS s a k o) s.next = { s with next := s.next + 1 } := by
    unfold stpS
    rw [hx]
    simp only
    rw [hts, List.take_left' hl0, List.drop_append, hl0]
    have : List.drop (insI s.ts t + 1) (s.ts.take (insI s.ts t)) = [] := List.drop_eq_nil_of_le (by omega)
    rw [this, show insI s.ts t + 1 - insI s.ts t = 1 by omega, List.nil_append, List.drop_succ_cons, List.drop_zero, List.take_append_drop]
    rfl
  have e2 : stpT (aftS s a k o) s.next = t := by
    unfold stpT
    rw [hx]
    simp only [List.getD_eq_getElem?_getD]
    rw [hts, List.getElem?_append_right (by omega), hl0]
    simp
  rw [e1, e2, ← ht]
  rfl
/-- A scope that was just begun: it stands alone. -/
theorem scp_last {s : Ck} (h : Ok s) {d : Int} (he : scpE s 0 0 d = 0) : ∃ hk : s.scs.length < (scpS s 0 d).scs.length, (scpS s 0 d).scs[s.scs.length] = ⟨s.next, 0, d, if d ≤ s.now then 2 else 0⟩ ∧ fidx (scpS s 0 d).scs s.next = some s.scs.length ∧ unI (scpS s 0 d).scs s.next (scpS s 0 d).scs.length = [s.scs.length] := by
  have hO := h.scp he
  have hX : scpX s 0 d = ⟨s.next, 0, d, if d ≤ s.now then 2 else 0⟩ := by
    unfold scpX scp0
    rw [if_pos rfl]
    by_cases c : d ≤ s.now
    · rw [if_pos ⟨rfl, c⟩, if_pos c]
    · rw [if_neg (fun q => c q.2), if_neg c]
  have hscs : (scpS s 0 d).scs = s.scs ++ [scpX s 0 d] := rfl
  have hk : s.scs.length < (scpS s 0 d).scs.length := by rw [hscs]; simp
  have hat : (scpS s 0 d).scs[s.scs.length] = ⟨s.next, 0, d, if d ≤ s.now then 2 else 0⟩ := by
    have : (s.scs ++ [scpX s 0 d])[s.scs.length]'(by simp) = scpX s 0 d := by simp
    rw [← hX, ← this]; rfl
  have hid : (scpS s 0 d).scs[s.scs.length].id = s.next := by rw [hat]
  refine ⟨hk, hat, fidx_of hk hid hO.incr, ?_⟩
  obtain ⟨tl, h1, h2⟩ := hO.un_cons hk
  rw [hid] at h1 h2
  rw [h1]
  congr 1
  rcases tl with _ | ⟨i, tl⟩
  · rfl
  · obtain ⟨q1, q2, q3⟩ := (h2 i).1 (by simp)
    have q4 := hO.un_ge hk q1 (by rw [hid]; exact q2)
    rw [hscs] at q1
    simp at q1
    omega
theorem Ok.un_last {u : Ck} (h : Ok u) {n : Nat} (hn : u.scs.length = n + 1) {id : Int} (hid : (u.scs[n]'(by omega)).id = id) : unI u.scs id u.scs.length = [n] := by
  subst hid
  obtain ⟨tl, h1, h2⟩ := h.un_cons (k := n) (by omega)
  rw [h1]
  congr 1
  rcases tl with _ | ⟨i, tl⟩
  · rfl
  · obtain ⟨q1, q2, q3⟩ := (h2 i).1 (by simp)
    have q4 := h.un_ge (k := n) (by omega) q1 q2
    omega
theorem can_lo {s : Ck} (h : Ok s) {d : Int} (he : scpE s 0 0 d = 0) (hd : d ≤ s.now) : canR (scpS s 0 d) 0 s.next = .tup [ckV (scpS s 0 d), .sl 1 [], .int .i64 9] := by
  obtain ⟨hk, hat, hf, hu⟩ := scp_last h he
  have hE : canE (scpS s 0 d) 0 s.next = 9 := by
    unfold canE
    rw [if_neg (by simp), hf]
    simp only [gdl hk, hat]
    rw [if_pos hd, if_pos (by decide)]
  unfold canR
  rw [hE, if_neg (by decide)]
theorem can_hi {s : Ck} (h : Ok s) {d : Int} (he : scpE s 0 0 d = 0) (hd : ¬ d ≤ s.now) : canR (scpS s 0 d) 0 s.next = .tup [ckV { s with next := s.next + 1, scs := s.scs ++ [⟨s.next, 0, d, 1⟩] }, .sl 1 [.int .i64 s.next], .int .i64 0] ∧ Ok { s with next := s.next + 1, scs := s.scs ++ [⟨s.next, 0, d, 1⟩] } := by
  obtain ⟨hk, hat, hf, hu⟩ := scp_last h he
  rw [if_neg hd] at hat
  have hE : canE (scpS s 0 d) 0 s.next = 0 := by
    unfold canE
    rw [if_neg (by simp), hf]
    simp only [gdl hk, hat]
    rw [if_neg (by decide)]
  have hO := (h.scp he).can hk
  rw [hat] at hO
  dsimp only at hO
  have hX : scpX s 0 d = ⟨s.next, 0, d, 0⟩ := by
    rw [← hat]
    have : (s.scs ++ [scpX s 0 d])[s.scs.length]'(by simp) = scpX s 0 d := by simp
    exact this.symm
  have hK : canK (scpS s 0 d) s.next = { s with next := s.next + 1, scs := s.scs ++ [⟨s.next, 0, d, 1⟩] } := by
    unfold canK
    rw [hu]
    show ({ s with next := s.next + 1, scs := canL (s.scs ++ [scpX s 0 d]) [s.scs.length] } : Ck) = _
    rw [hX]
    unfold canL canS
    simp
  rw [hK] at hO
  refine ⟨?_, hO⟩
  unfold canR
  rw [hE, if_pos rfl, hK, hu]
  unfold canI
  rw [List.filter_cons_of_pos (by rw [gdl hk, hat]; rfl)]
  simp only [List.filter_nil, List.map_cons, List.map_nil, gdl hk, hat]
theorem for_last {s : Ck} {d w : Int} (hO : Ok { s with next := s.next + 1, scs := s.scs ++ [⟨s.next, 0, d, w⟩] }) (hw : w ≠ 0) : forR { s with next := s.next + 1, scs := s.scs ++ [⟨s.next, 0, d, w⟩] } 0 s.next = .tup [ckV { s with next := s.next + 1 }, .int .i64 0] := by
  have hlen : ({ s with next := s.next + 1, scs := s.scs ++ [⟨s.next, 0, d, w⟩] } : Ck).scs.length = s.scs.length + 1 := by simp
  have hat : (s.scs ++ [(⟨s.next, 0, d, w⟩ : Sc)])[s.scs.length]'(by simp) = ⟨s.next, 0, d, w⟩ := by simp
  have hu := hO.un_last hlen (id := s.next) (by show ((s.scs ++ [(⟨s.next, 0, d, w⟩ : Sc)])[s.scs.length]'(by simp)).id = s.next; rw [hat])
  have hf : fidx (s.scs ++ [(⟨s.next, 0, d, w⟩ : Sc)]) s.next = some s.scs.length := fidx_of (k := s.scs.length) (by simp) (by rw [hat]) hO.incr
  have hE : forE { s with next := s.next + 1, scs := s.scs ++ [⟨s.next, 0, d, w⟩] } 0 s.next = 0 := by
    unfold forE
    rw [if_neg (by simp)]
    show (match fidx (s.scs ++ [(⟨s.next, 0, d, w⟩ : Sc)]) s.next with | some k => if ((s.scs ++ [(⟨s.next, 0, d, w⟩ : Sc)]).getD k default).why = 0 ∨ 1 < (unI (s.scs ++ [(⟨s.next, 0, d, w⟩ : Sc)]) s.next (s.scs ++ [(⟨s.next, 0, d, w⟩ : Sc)]).length).length then (9 : Int) else 0 | none => 4) = 0
    rw [hf]
    dsimp only at hu ⊢
    rw [hu]
    simp [hw]
  unfold forR
  rw [if_pos hE]
  unfold forS
  show V.tup [ckV { s with next := s.next + 1, scs := match fidx (s.scs ++ [(⟨s.next, 0, d, w⟩ : Sc)]) s.next with | some k => (s.scs ++ [(⟨s.next, 0, d, w⟩ : Sc)]).take k ++ (s.scs ++ [(⟨s.next, 0, d, w⟩ : Sc)]).drop (k + 1) | none => s.scs ++ [(⟨s.next, 0, d, w⟩ : Sc)] }, .int .i64 0] = _
  rw [hf]
  simp
theorem scp_lo {s : Ck} (h : Ok s) {d : Int} (he : scpE s 0 0 d = 0) (hd : d ≤ s.now) : scpS s 0 d = { s with next := s.next + 1, scs := s.scs ++ [⟨s.next, 0, d, 2⟩] } := by
  have hX : scpX s 0 d = ⟨s.next, 0, d, 2⟩ := by
    unfold scpX scp0
    rw [if_pos rfl, if_pos ⟨rfl, hd⟩]
  unfold scpS
  rw [hX]
end Go.Ck

/- Contracts: ClockDue. -/
set_option linter.unusedSimpArgs false
set_option linter.unusedVariables false
set_option maxRecDepth 100000
namespace Go.Ck
open Go Go.Pl
end Go.Ck
namespace Go.Proofs
open Go Go.Pl Go.Ck
end Go.Proofs

/- Contracts: ClockScopes. -/
set_option linter.unusedSimpArgs false
set_option linter.unusedVariables false
set_option maxRecDepth 100000
namespace Go.Ck
open Go Go.Pl
structure Cl where
  what : Int
  id : Int
  at_ : Int
  kind : Int
  deriving DecidableEq, Inhabited
def clV (x : Cl) : V := .agg [.int .u8 x.what, .int .i64 x.id, .int .i64 x.at_, .int .i64 x.kind]
def topL (s : Ck) (id : Int) : List Int := if fidx s.scs id = none then [] else (unN s.scs id).drop 1
def topE (s : Ck) (id : Int) : Int := if fidx s.scs id = none then 4 else 0
theorem Ok.why {s : Ck} (h : Ok s) {k : Nat} (hk : k < s.scs.length) : whyR s 0 s.scs[k].id = .tup [.int .i64 s.scs[k].why, .int .i64 0] := by
  unfold whyR
  rw [if_neg (by simp), fidx_of hk rfl h.incr]
  simp only [gdl hk]
end Go.Ck
namespace Go.Proofs
open Go Go.Pl Go.Ck
end Go.Proofs

/- What the arguments are: calls. -/
set_option linter.unusedVariables false
set_option linter.unusedSimpArgs false
set_option maxRecDepth 100000
namespace Go.Proofs.Ytejcmkefemhpkaa
open Go Go.Pl Go.Proofs Go.Ck
open Go.ChangeShapes Go.WideShapes Go.ChangeAt Go.RowKit
theorem hasU8 {n : Nat} {xs : List V} (h : HasL Try.prog n 5 xs) : ∃ i : Int, xs = [.int .u8 i] ∧ 0 ≤ i ∧ i ≤ 255 := by
  obtain ⟨i, rfl, hw⟩ := h.int Try.knd5
  simp [Lit.wf, IntKind.min, IntKind.max, IntKind.signed, IntKind.bits] at hw
  exact ⟨i, rfl, by omega⟩
theorem hasCl {n : Nat} {ys : List V} (hy : HasL Try.prog (n + 1) 44 ys) : ∃ x : Cl, .agg ys = clV x ∧ 0 ≤ x.what ∧ x.what ≤ 255 := by
  obtain ⟨x, y, z, w, rfl⟩ := len4 (hy.len.trans Try.tsz44)
  have h0 := hy.fld Try.knd44 Try.fld44_0
  rw [Try.tsz5] at h0
  have h1 := hy.fld Try.knd44 Try.fld44_1
  rw [Try.tsz2] at h1
  have h2 := hy.fld Try.knd44 Try.fld44_2
  rw [Try.tsz2] at h2
  have h3 := hy.fld Try.knd44 Try.fld44_3
  rw [Try.tsz3] at h3
  obtain ⟨a, ha, hb8⟩ := hasU8 h0
  obtain ⟨b, hb, _⟩ := hasInt64 h1
  obtain ⟨c, hc, _⟩ := hasInt64 h2
  obtain ⟨d, hd, _⟩ := hasIntB h3
  simp at ha hb hc hd
  subst ha hb hc hd
  exact ⟨⟨a, b, c, d⟩, rfl, hb8⟩
end Go.Proofs.Ytejcmkefemhpkaa

/- Contracts: ClockUndo. -/
set_option linter.unusedSimpArgs false
set_option linter.unusedVariables false
set_option maxRecDepth 100000
namespace Go.Proofs
open Go Go.Pl Go.Ck
set_option maxHeartbeats 4000000 in
theorem Try.clockUndo_c (s : Ck) (x : Cl) (bx : Boxes) : PureCall Try.prog 7 [ckV s, clV x] bx (.bool true) := by
  refine Try.ctr7 fun hf => ?_
  obtain ⟨e, he⟩ := chk_ex s
  have cS := Try.small_c s e he bx
  have cA := fun bx => Try.awake_c bx
  by_cases hs : s.ts.length ≤ 100 ∧ s.scs.length ≤ 100 ∧ e = 0
  rotate_left
  · have hb : (decide (s.ts.length ≤ 100) && (decide (s.scs.length ≤ 100) && decide (e = 0))) = false := by
      simp only [Bool.and_eq_false_iff, decide_eq_false_iff_not]
      by_cases h1 : s.ts.length ≤ 100
      · by_cases h2 : s.scs.length ≤ 100
        · right; right; exact fun h3 => hs ⟨h1, h2, h3⟩
        · right; left; exact h2
      · left; exact h1
    rw [hb] at cS
    simp only [ckV] at cS ⊢
    simp [go_sem, Try.C7, hf, clV]
    refine callK_pure cS ?_
    simp [go_sem, hf]
    refine callK_pure (cA _) ?_
    simp [go_sem]
    exact ret_pure (by simp [go_sem]) (by simp [go_sem])
  obtain ⟨hl1, hl2, rfl⟩ := hs
  have ho := he.ok
  have hb : (decide (s.ts.length ≤ 100) && (decide (s.scs.length ≤ 100) && decide ((0 : Int) = 0))) = true := by simp [hl1, hl2]
  rw [hb] at cS
  simp only [ckV] at cS ⊢
  simp [go_sem, Try.C7, hf, clV]
  refine callK_pure cS ?_
  simp [go_sem, hf, fzAt, fzb]
  intro b1 hb1
  refine acc_append (.agg #[.int .i64 0, .int .i64 0, .int .i64 0, .int .i64 0]) (acc_new hb1 hf 35 4 [] 0 rfl) (Ext.refl _) ((finB_upd _ _ _).2 hf) Try.knd22 Try.tsz35 (news := s.ts.map tmV) (by simp [srcEls]) Try.tzero35 (by simp [go_sem]) (by decide) (by simp [Try.tby35]; omega) (by simp; omega) (by simp [go_sem]) fun v1 bx1 ha => ?_
  rw [List.nil_append] at ha
  simp [go_sem, ha.fin, ha.live, ha.strip, ha.cells, ha.okV, fzAt, fzb]
  intro b3 hb3
  refine acc_append (.agg #[.int .i64 0, .int .i64 0, .int .i64 0, .int .i64 0]) (acc_new hb3 ha.fin 51 4 [] 0 rfl) (Ext.refl _) ((finB_upd _ _ _).2 ha.fin) Try.knd23 Try.tsz51 (news := s.scs.map scV) (by simp [srcEls]) Try.tzero51 (by simp [go_sem]) (by decide) (by simp [Try.tby51]; omega) (by simp; omega) (by simp [go_sem]) fun v2 bx2 ha2 => ?_
  rw [List.nil_append] at ha2
  simp [go_sem, ha2.fin, ha2.live, ha2.strip, ha2.cells, ha2.okV, ha.live, ha.strip, ha.cells, ha.okV, fzAt, fzb]
  intro b5 hb5
  have hx5 : Ext bx (upd bx2 b5 (some (.row 25 4 [.agg [.int .i64 s.now, .int .i64 s.next, v1, v2]]))) := (ha.ext.trans ha2.ext).upd_own ((ha.ext.trans ha2.ext).none hb5) _
  have hbb5 := (ha.ext.trans ha2.ext).none hb5
  obtain ⟨vA, hvA, wA⟩ : ∃ vA, vA = frz (upd bx2 b5 (some (.row 25 4 [.agg [.int .i64 s.now, .int .i64 s.next, v1, v2]]))) bx 1 v1 ∧ (vA.liveB = true ∧ vA.strip = vA ∧ vA.cells = [vA] ∧ Go.Pl.okV vA = true) ∧ Wk vA (.sl 4 (s.ts.map tmV)) := by
    refine ⟨_, rfl, ?_⟩
    rcases ha.is with ⟨q1, rfl⟩ | ⟨c, q1, rfl, q3⟩
    · rw [q1]; exact ⟨⟨rfl, rfl, rfl, rfl⟩, wk_nils 4⟩
    · have n5 : c ≠ b5 := fun e => by
        have := ha2.ext c (by rw [q3]; simp)
        rw [e, hb5, ← e, q3] at this; cases this
      rw [frz_own1 (by rw [upd_ne _ _ n5, ha2.ext c (by rw [q3]; simp)]; exact q3) q1 (by decide) rfl]
      exact ⟨⟨rfl, rfl, rfl, rfl⟩, Wk.refl _⟩
  obtain ⟨vS, hvS, wS⟩ : ∃ vS, vS = frz (upd bx2 b5 (some (.row 25 4 [.agg [.int .i64 s.now, .int .i64 s.next, v1, v2]]))) bx 1 v2 ∧ (vS.liveB = true ∧ vS.strip = vS ∧ vS.cells = [vS] ∧ Go.Pl.okV vS = true) ∧ Wk vS (.sl 4 (s.scs.map scV)) := by
    refine ⟨_, rfl, ?_⟩
    rcases ha2.is with ⟨q1, rfl⟩ | ⟨c, q1, rfl, q3⟩
    · rw [q1]; exact ⟨⟨rfl, rfl, rfl, rfl⟩, wk_nils 4⟩
    · have n5 : c ≠ b5 := fun e => by rw [e, hb5] at q3; cases q3
      rw [frz_own1 (by rw [upd_ne _ _ n5]; exact q3) (ha.ext.none q1) (by decide) rfl]
      exact ⟨⟨rfl, rfl, rfl, rfl⟩, Wk.refl _⟩
  refine pw_wk (st' := ⟨145, slk [(2, .ep (ckV s) 0), (3, .ep (clV x) 0), (5, .ep (.agg [.int .i64 s.now, .int .i64 s.next, vA, vS]) 0)], bx⟩) (cov_frz hx5 ?_) ?_
  · intro q hq
    simp at hq
    rcases hq with rfl | rfl | rfl
    · left; rfl
    · left; rfl
    · right
      refine ⟨3, ?_⟩
      rw [hvA, hvS]
      simp [go_sem, frz, upd_eq, hbb5, slk]
  clear hx5 hvA hvS ha ha2 hb5 hb3 hb1 hbb5
  have cM : ∀ u bx, u = s → PureCall Try.prog 14 [ckV u, .agg [.int .i64 s.now, .int .i64 s.next, vA, vS]] bx (.bool true) := fun u bx hu => by
    have := Try.same_c u s (by rw [hu]; omega) bx
    rw [decide_eq_true hu] at this
    refine AbsCall.args this rfl fun i c c' hc hc' => ?_
    rcases i with _ | _ | i
    · simp at hc hc'; subst hc hc'; exact Wk.refl _
    · simp at hc hc'; subst hc hc'; exact wk_agg4 (Wk.refl _) (Wk.refl _) wA.2 wS.2
    · simp at hc
  obtain ⟨⟨la, sa, ca, oa⟩, _⟩ := wA
  obtain ⟨⟨ls, ss, cs, os⟩, _⟩ := wS
  have cF := Try.After_c s 0 ho.chk x.at_ x.kind x.id bx
  obtain ⟨t, i7, e8, hR, hE⟩ : ∃ (t : Ck) (i7 e8 : Int), aftR s 0 x.at_ x.kind x.id = .tup [ckV t, .int .i64 i7, .int .i64 e8] ∧ (e8 = 0 → aftE s 0 x.at_ x.kind x.id = 0 ∧ t = aftS s x.at_ x.kind x.id ∧ i7 = s.next) := by
    unfold aftR
    by_cases c : aftE s 0 x.at_ x.kind x.id = 0
    · rw [if_pos c]; exact ⟨_, _, _, rfl, fun _ => ⟨c, rfl, rfl⟩⟩
    · rw [if_neg c]; exact ⟨_, _, _, rfl, fun q => absurd q c⟩
  rw [hR] at cF
  have cG : ∀ bx, e8 = 0 → PureCall Try.prog 26 [ckV t, .int .i64 i7] bx (.tup [ckV { s with next := s.next + 1 }, tmV ⟨s.next, x.at_, x.kind, x.id⟩, .int .i64 0]) := fun bx h8 => by
    obtain ⟨q1, rfl, rfl⟩ := hE h8
    have := Try.Stop_c (aftS s x.at_ x.kind x.id) 0 (ho.aft q1).chk s.next bx
    rwa [stop_aft ho q1] at this
  have hi7 : e8 = 0 → i7 = s.next := fun h8 => (hE h8).2.2
  obtain ⟨t2, i8, e9, hR2, hE2⟩ : ∃ (t2 : Ck) (i8 e9 : Int), scpR s 0 0 x.at_ = .tup [ckV t2, .int .i64 i8, .int .i64 e9] ∧ (e9 = 0 → scpE s 0 0 x.at_ = 0 ∧ t2 = scpS s 0 x.at_ ∧ i8 = s.next) := by
    unfold scpR
    by_cases c : scpE s 0 0 x.at_ = 0
    · rw [if_pos c]; exact ⟨_, _, _, rfl, fun _ => ⟨c, rfl, rfl⟩⟩
    · rw [if_neg c]; exact ⟨_, _, _, rfl, fun q => absurd q c⟩
  have cP := fun bx => Try.Scope_c s 0 ho.chk 0 x.at_ bx
  rw [hR2] at cP
  simp only [ckV, tmV] at cF cM cG cP
  simp [go_sem, hf, ckV, clV]
  refine callK_pure cF ?_
  simp [go_sem, hf]
  intro b6 hb6
  generalize hbx : upd bx b6 _ = bx6
  have x6 : bx6 b6 = some (.row 25 4 [.agg [.int .i64 t.now, .int .i64 t.next, .sl 4 (t.ts.map tmV), .sl 4 (t.scs.map scV)]]) := by rw [← hbx, upd_eq]
  have hxe : Ext bx bx6 := by rw [← hbx]; exact (Ext.refl bx).upd_own hb6 _
  have hxf : FinB bx6 := by rw [← hbx]; exact (finB_upd _ _ _).2 hf
  clear hbx
  refine ⟨fun h8 => ?_, fun h8 => ?_⟩
  · refine callK_pure (cG _ h8) ?_
    have h7 := hi7 h8
    subst h7
    simp [go_sem, hxf]
    intro b9 hb9 b10 hb10
    have n90 : b9 ≠ b10 := fun e => by rw [e, upd_eq] at hb10; cases hb10
    have n69 : b6 ≠ b9 := fun e => by rw [← e, x6] at hb9; cases hb9
    have e1 : ∀ r q r', upd (upd (upd bx6 b9 r) b10 q) b9 r' = upd (upd bx6 b9 r') b10 q := fun r q r' => by rw [upd_comm n90.symm, upd_upd]
    have e3 : ∀ r, upd (upd bx6 b9 r) b10 none = upd bx6 b9 r := fun r => upd_self (by rw [upd_ne _ _ n90.symm] at hb10 ⊢; exact hb10)
    simp [go_sem, hxf, upd_eq, upd_ne, n90, n90.symm, n69, n69.symm, upd_upd, e1, e3]
    refine gK_pure (cM _ _ rfl) (by simp) (by simp [go_sem]) ?_
    simp [go_sem, hxf]
    generalize hbq : upd bx6 b9 _ = bxq
    have y6 : bxq b6 = some (.row 25 4 [.agg [.int .i64 t.now, .int .i64 t.next, .sl 4 (t.ts.map tmV), .sl 4 (t.scs.map scV)]]) := by rw [← hbq, upd_ne _ _ n69]; exact x6
    have hqe : Ext bx bxq := by rw [← hbq]; exact hxe.upd_own (hxe.none hb9) _
    have hqf : FinB bxq := by rw [← hbq]; exact (finB_upd _ _ _).2 hxf
    clear hbq e1 e3
    -- the scope that is begun, cancelled and forgotten
    refine callK_pure (cP _) ?_
    simp [go_sem, y6, hqf]
    by_cases h9 : e9 = 0
    · obtain ⟨k1, k2, k3⟩ := hE2 h9
      subst k2 k3 h9
      simp [go_sem, hqf, upd_eq]
      by_cases hd : x.at_ ≤ s.now
      · have cK := Try.Cancel_c (scpS s 0 x.at_) 0 (ho.scp k1).chk s.next (upd bxq b6 (some (.row 25 4 [ckV (scpS s 0 x.at_)])))
        rw [can_lo ho k1 hd] at cK
        have hO2 := ho.scp k1
        have cL := fun bx => Try.Forget_c (scpS s 0 x.at_) 0 hO2.chk s.next bx
        rw [scp_lo ho k1 hd] at hO2
        have hfl := for_last hO2 (by decide)
        rw [← scp_lo ho k1 hd] at hfl
        rw [hfl] at cL
        have hd2 : ¬ s.now < x.at_ := by omega
        simp only [ckV] at cK cL
        refine callK_pure cK ?_
        simp [go_sem, hqf]
        intro b12 hb12
        rw [upd_self hb12]
        simp [go_sem, hqf, hd, hd2]
        refine gK_off (.bool false) (by simp [go_sem]) ?_
        simp [go_sem, hqf]
        refine callK_pure (cL _) ?_
        simp [go_sem, hqf]
        intro b15 hb15
        have n6 : b6 ≠ b15 := fun e => by rw [← e, upd_eq] at hb15; cases hb15
        have hb15' : bxq b15 = none := by rw [upd_ne _ _ n6.symm] at hb15; exact hb15
        refine gK_pure (cM _ _ rfl) (by simp) (by simp [go_sem]) ?_
        simp [go_sem, hqf]
        refine callK_pure (cM _ _ rfl) ?_
        simp [go_sem, hqf]
        refine gK_pure (cA _) (by simp) (by simp [go_sem]) ?_
        simp [go_sem]
        exact ret_drop (by simp [go_sem]) ((hqe.upd_own hb6 _).upd_own (hqe.none hb15') _) ⟨by simp [go_sem], rfl⟩
      · have cK := Try.Cancel_c (scpS s 0 x.at_) 0 (ho.scp k1).chk s.next (upd bxq b6 (some (.row 25 4 [ckV (scpS s 0 x.at_)])))
        obtain ⟨u, hch, hO2, hfl⟩ : ∃ u : Ck, canR (scpS s 0 x.at_) 0 s.next = .tup [ckV u, .sl 1 [.int .i64 s.next], .int .i64 0] ∧ Ok u ∧ forR u 0 s.next = .tup [ckV { s with next := s.next + 1 }, .int .i64 0] := by
          obtain ⟨h1, h2⟩ := can_hi ho k1 hd
          exact ⟨_, h1, h2, for_last h2 (by decide)⟩
        rw [hch] at cK
        have cL := fun bx => Try.Forget_c u 0 hO2.chk s.next bx
        rw [hfl] at cL
        have cN := fun bx => Try.sameN_c [s.next] [s.next] (by simp) bx
        rw [decide_eq_true rfl] at cN
        have hd2 : s.now < x.at_ := by omega
        simp only [ckV, List.map_cons, List.map_nil] at cK cL cN
        refine callK_pure cK ?_
        simp [go_sem, hqf]
        intro b12 hb12
        rw [upd_self hb12]
        simp [go_sem, hqf, hd, hd2]
        refine gK_pure (cN _) (by simp) (by simp [go_sem]) ?_
        simp [go_sem, hqf]
        refine callK_pure (cL _) ?_
        simp [go_sem, hqf]
        intro b15 hb15
        have n6 : b6 ≠ b15 := fun e => by rw [← e, upd_eq] at hb15; cases hb15
        have hb15' : bxq b15 = none := by rw [upd_ne _ _ n6.symm] at hb15; exact hb15
        refine gK_pure (cM _ _ rfl) (by simp) (by simp [go_sem]) ?_
        simp [go_sem, hqf]
        refine callK_pure (cM _ _ rfl) ?_
        simp [go_sem, hqf]
        refine gK_pure (cA _) (by simp) (by simp [go_sem]) ?_
        simp [go_sem]
        exact ret_drop (by simp [go_sem]) ((hqe.upd_own hb6 _).upd_own (hqe.none hb15') _) ⟨by simp [go_sem], rfl⟩
    · simp [go_sem, hqf, h9]
      refine callK_pure (cM _ _ rfl) ?_
      simp [go_sem, hqf]
      refine gK_pure (cA _) (by simp) (by simp [go_sem]) ?_
      simp [go_sem]
      exact ret_drop (by simp [go_sem]) (hqe.upd_own hb6 _) ⟨by simp [go_sem], rfl⟩
  · obtain ⟨bxq, hbq⟩ : ∃ bxq, bxq = bx6 := ⟨_, rfl⟩
    rw [← hbq] at x6 hxe hxf ⊢
    have y6 := x6
    have hqe := hxe
    have hqf := hxf
    -- the scope that is begun, cancelled and forgotten
    refine callK_pure (cP _) ?_
    simp [go_sem, y6, hqf]
    by_cases h9 : e9 = 0
    · obtain ⟨k1, k2, k3⟩ := hE2 h9
      subst k2 k3 h9
      simp [go_sem, hqf, upd_eq]
      by_cases hd : x.at_ ≤ s.now
      · have cK := Try.Cancel_c (scpS s 0 x.at_) 0 (ho.scp k1).chk s.next (upd bxq b6 (some (.row 25 4 [ckV (scpS s 0 x.at_)])))
        rw [can_lo ho k1 hd] at cK
        have hO2 := ho.scp k1
        have cL := fun bx => Try.Forget_c (scpS s 0 x.at_) 0 hO2.chk s.next bx
        rw [scp_lo ho k1 hd] at hO2
        have hfl := for_last hO2 (by decide)
        rw [← scp_lo ho k1 hd] at hfl
        rw [hfl] at cL
        have hd2 : ¬ s.now < x.at_ := by omega
        simp only [ckV] at cK cL
        refine callK_pure cK ?_
        simp [go_sem, hqf]
        intro b12 hb12
        rw [upd_self hb12]
        simp [go_sem, hqf, hd, hd2]
        refine gK_off (.bool false) (by simp [go_sem]) ?_
        simp [go_sem, hqf]
        refine callK_pure (cL _) ?_
        simp [go_sem, hqf]
        intro b15 hb15
        have n6 : b6 ≠ b15 := fun e => by rw [← e, upd_eq] at hb15; cases hb15
        have hb15' : bxq b15 = none := by rw [upd_ne _ _ n6.symm] at hb15; exact hb15
        refine gK_pure (cM _ _ rfl) (by simp) (by simp [go_sem]) ?_
        simp [go_sem, hqf]
        refine callK_pure (cM _ _ rfl) ?_
        simp [go_sem, hqf]
        refine gK_pure (cA _) (by simp) (by simp [go_sem]) ?_
        simp [go_sem]
        exact ret_drop (by simp [go_sem]) ((hqe.upd_own hb6 _).upd_own (hqe.none hb15') _) ⟨by simp [go_sem], rfl⟩
      · have cK := Try.Cancel_c (scpS s 0 x.at_) 0 (ho.scp k1).chk s.next (upd bxq b6 (some (.row 25 4 [ckV (scpS s 0 x.at_)])))
        obtain ⟨u, hch, hO2, hfl⟩ : ∃ u : Ck, canR (scpS s 0 x.at_) 0 s.next = .tup [ckV u, .sl 1 [.int .i64 s.next], .int .i64 0] ∧ Ok u ∧ forR u 0 s.next = .tup [ckV { s with next := s.next + 1 }, .int .i64 0] := by
          obtain ⟨h1, h2⟩ := can_hi ho k1 hd
          exact ⟨_, h1, h2, for_last h2 (by decide)⟩
        rw [hch] at cK
        have cL := fun bx => Try.Forget_c u 0 hO2.chk s.next bx
        rw [hfl] at cL
        have cN := fun bx => Try.sameN_c [s.next] [s.next] (by simp) bx
        rw [decide_eq_true rfl] at cN
        have hd2 : s.now < x.at_ := by omega
        simp only [ckV, List.map_cons, List.map_nil] at cK cL cN
        refine callK_pure cK ?_
        simp [go_sem, hqf]
        intro b12 hb12
        rw [upd_self hb12]
        simp [go_sem, hqf, hd, hd2]
        refine gK_pure (cN _) (by simp) (by simp [go_sem]) ?_
        simp [go_sem, hqf]
        refine callK_pure (cL _) ?_
        simp [go_sem, hqf]
        intro b15 hb15
        have n6 : b6 ≠ b15 := fun e => by rw [← e, upd_eq] at hb15; cases hb15
        have hb15' : bxq b15 = none := by rw [upd_ne _ _ n6.symm] at hb15; exact hb15
        refine gK_pure (cM _ _ rfl) (by simp) (by simp [go_sem]) ?_
        simp [go_sem, hqf]
        refine callK_pure (cM _ _ rfl) ?_
        simp [go_sem, hqf]
        refine gK_pure (cA _) (by simp) (by simp [go_sem]) ?_
        simp [go_sem]
        exact ret_drop (by simp [go_sem]) ((hqe.upd_own hb6 _).upd_own (hqe.none hb15') _) ⟨by simp [go_sem], rfl⟩
    · simp [go_sem, hqf, h9]
      refine callK_pure (cM _ _ rfl) ?_
      simp [go_sem, hqf]
      refine gK_pure (cA _) (by simp) (by simp [go_sem]) ?_
      simp [go_sem]
      exact ret_drop (by simp [go_sem]) (hqe.upd_own hb6 _) ⟨by simp [go_sem], rfl⟩
end Go.Proofs
