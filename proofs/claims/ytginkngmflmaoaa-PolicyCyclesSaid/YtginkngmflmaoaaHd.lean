/- Texts of the proof, put together: PlOut. -/
import Derived.Test.YtginkngmflmaoaaHc
import Derived.ChangeArms
import Derived.OpenShut
import Derived.Carry
import Derived.ChangeSame
import Derived.JoinedCond

/- From what is given to a call to what the logic speaks of, and back. -/
set_option linter.unusedSimpArgs false
set_option linter.unusedVariables false
namespace Go.Pl
open Go Go.ChangeShapes Go.WideShapes Go.ChangeAt Go.RowKit

/-- Parts that lie one behind the other. -/
def contig (P : Program) : List (Nat × TypeId) → Nat → Nat → Bool
  | [], o, m => o == m
  | (o', t) :: ps, o, m => o' == o && contig P ps (o + tsz P t) m

/-- Types of plain data: every cell of a struct belongs to a field. -/
def plainT (P : Program) : Nat → TypeId → Bool
  | 0, _ => false
  | n + 1, t =>
    match P.underlying t with
    | some .bool | some (.int _) | some .string => tsz P t == 1
    | some (.slice e) => tsz P t == 1 && plainT P n e
    | some (.struct fs) => (fs.toList.all fun f => plainT P n f.type) && contig P (fs.toList.map fun f => (f.offset, f.type)) 0 (tsz P t)
    | some (.array m e) => plainT P n e && contig P ((List.range m).map fun i => (i * tsz P e, e)) 0 (tsz P t)
    | _ => false

/-- An element, of its cells. -/
def elV (P : Program) (e : TypeId) (xs : List V) : V := if tagg P e = true then .agg xs else xs.getD 0 .unk

/-- Cells of a type. -/
def HasL (P : Program) : Nat → TypeId → List V → Prop
  | 0, _, _ => False
  | n + 1, t, xs => xs.length = tsz P t ∧
    match knd P t with
    | .bool => ∃ b, xs = [.bool b]
    | .int k => ∃ i, xs = [.int k i] ∧ (Lit.int k i).wf = true
    | .str => ∃ s, xs = [.str s] ∧ s.length ≤ maxLen
    | .slice e => ∃ es, xs = [.sl (tsz P e) es] ∧ es.length ≤ maxLen ∧ ∀ v, v ∈ es → ∃ ys, v = elV P e ys ∧ HasL P n e ys
    | .strct => ∀ f off ty, fld P t f = some (off, ty) → HasL P n ty ((xs.drop off).take (tsz P ty))
    | .arr m e => ∀ i, i < m → HasL P n e ((xs.drop (i * tsz P e)).take (tsz P e))
    | _ => False

section
variable {H : Type} {enc : TypeId × Value → H} {P : Program} {w : World} {spare : Nat → Bool} {held : Bool}

theorem elV_cells {e : TypeId} {xs : List V} (h : xs.length = tsz P e) (h1 : tagg P e = false → ∃ v, xs = [v] ∧ v.cells = [v]) : (elV P e xs).cells = xs := by
  unfold elV
  by_cases ht : tagg P e = true
  · rw [if_pos ht]; rfl
  · rw [if_neg ht]
    obtain ⟨v, rfl, hv⟩ := h1 (by simpa using ht)
    simpa using hv

def FzAll (w : World) (k : Nat) : Prop := k < w.heap.size

theorem cell_block {a : Addr} {u : Value} (h : w.cell? a = some u) : a.block < w.heap.size := by
  unfold World.cell? at h
  cases hh : w.heap[a.block]? with
  | none => simp [hh] at h
  | some o => exact (Array.getElem?_eq_some_iff.1 hh).1

theorem addr_add (a : Addr) (i j : Nat) : (a.add i).add j = a.add (i + j) := by
  unfold Addr.add
  by_cases hi : i = 0 <;> by_cases hj : j = 0 <;> simp [hi, hj, Nat.add_assoc]

/-- Parts put together. -/
theorem assemble {β : Beta} {n : Nat} {cs : List Value} (ih : ∀ (fuel : Nat) (t : TypeId) (cs : List Value) (x : DataW H × List MemPlace), plainT P n t = true → DataW.trod enc P w 0 spare held fuel t cs = some x →
      cs.length = tsz P t ∧ (∀ (j : Nat) (u : Value), cs[j]? = some u → u.oneCell' = true) ∧ ∃ xs : List V, xs.length = cs.length ∧ (∀ (j : Nat) (u : Value) (v : V), cs[j]? = some u → xs[j]? = some v → Rep β w (FzAll w) v u ∧ v.cells = [v]) ∧ HasL P n t xs) :
    ∀ (ps : List (Nat × TypeId)) (o : Nat), contig P ps o cs.length = true → (∀ p, p ∈ ps → plainT P n p.2 = true ∧ ∃ fuel x, DataW.trod enc P w 0 spare held fuel p.2 ((cs.drop p.1).take (tsz P p.2)) = some x) →
      o ≤ cs.length ∧ (∀ (j : Nat) (u : Value), cs[o + j]? = some u → u.oneCell' = true) ∧ ∃ xs : List V, xs.length = cs.length - o ∧ (∀ (j : Nat) (u : Value) (v : V), cs[o + j]? = some u → xs[j]? = some v → Rep β w (FzAll w) v u ∧ v.cells = [v]) ∧
        ∀ p, p ∈ ps → o ≤ p.1 ∧ HasL P n p.2 ((xs.drop (p.1 - o)).take (tsz P p.2))
  | [], o, h, _ => by
    simp only [contig, beq_iff_eq] at h
    subst h
    refine ⟨Nat.le_refl _, ?_, [], by simp, ?_, fun p hp => by cases hp⟩
    · intro j u hu
      rw [List.getElem?_eq_none (by omega)] at hu; cases hu
    · intro j u v hu
      rw [List.getElem?_eq_none (by omega)] at hu; cases hu
  | (o', t) :: ps, o, h, hp => by
    simp only [contig, Bool.and_eq_true, beq_iff_eq] at h
    obtain ⟨rfl, h⟩ := h
    obtain ⟨hpl, fuel, x, hx⟩ := hp (o', t) (by simp)
    dsimp only at hpl hx
    obtain ⟨g1, g2, xs1, g3, g4, g5⟩ := ih fuel t _ x hpl hx
    obtain ⟨k1, k2, xs2, k3, k4, k5⟩ := assemble ih ps (o' + tsz P t) h (fun p hp' => hp p (by simp [hp']))
    have hl1 : xs1.length = tsz P t := by rw [g3, g1]
    have hget : ∀ j, j < tsz P t → ((cs.drop o').take (tsz P t))[j]? = cs[o' + j]? := by
      intro j hj
      rw [List.getElem?_take, if_pos hj, List.getElem?_drop]
    refine ⟨by omega, ?_, xs1 ++ xs2, by simp; omega, ?_, ?_⟩
    · intro j u hu
      by_cases hj : j < tsz P t
      · exact g2 j u (by rw [hget j hj]; exact hu)
      · refine k2 (j - tsz P t) u ?_
        rw [← hu]; congr 1; omega
    · intro j u v hu hv
      by_cases hj : j < tsz P t
      · rw [List.getElem?_append_left (by omega)] at hv
        exact g4 j u v (by rw [hget j hj]; exact hu) hv
      · rw [List.getElem?_append_right (by omega), hl1] at hv
        refine k4 (j - tsz P t) u v ?_ hv
        rw [← hu]; congr 1; omega
    · intro p hp'
      rcases List.mem_cons.1 hp' with rfl | hp'
      · refine ⟨Nat.le_refl _, ?_⟩
        simp only [Nat.sub_self, List.drop_zero]
        rw [List.take_append_of_le_length (by omega), List.take_of_length_le (by omega)]
        exact g5
      · obtain ⟨m1, m2⟩ := k5 p hp'
        refine ⟨by omega, ?_⟩
        have : (xs1 ++ xs2).drop (p.1 - o') = xs2.drop (p.1 - (o' + tsz P t)) := by
          rw [List.drop_append, List.drop_of_length_le (by omega), List.nil_append]
          congr 1
          omega
        rw [this]
        exact m2

/-- What is read, in the logic's words: cell by cell. -/
theorem trod_typed {β : Beta} : ∀ (n : Nat) (fuel : Nat) (t : TypeId) (cs : List Value) (x : DataW H × List MemPlace), plainT P n t = true → DataW.trod enc P w 0 spare held fuel t cs = some x →
    cs.length = tsz P t ∧ (∀ (j : Nat) (u : Value), cs[j]? = some u → u.oneCell' = true) ∧ ∃ xs : List V, xs.length = cs.length ∧ (∀ (j : Nat) (u : Value) (v : V), cs[j]? = some u → xs[j]? = some v → Rep β w (FzAll w) v u ∧ v.cells = [v]) ∧ HasL P n t xs
  | 0, _, _, _, _, h, _ => by simp [plainT] at h
  | n + 1, fuel, t, cs, x, h, ht => by
    have one : ∀ (u : Value) (v : V), cs = [u] → u.oneCell' = true → Rep β w (FzAll w) v u → v.cells = [v] → tsz P t = 1 → HasL P (n + 1) t [v] →
        cs.length = tsz P t ∧ (∀ (j : Nat) (u : Value), cs[j]? = some u → u.oneCell' = true) ∧ ∃ xs : List V, xs.length = cs.length ∧ (∀ (j : Nat) (u : Value) (v : V), cs[j]? = some u → xs[j]? = some v → Rep β w (FzAll w) v u ∧ v.cells = [v]) ∧ HasL P (n + 1) t xs := by
      rintro u v rfl h1 h2 h3 h4 h5
      refine ⟨by simp [h4], ?_, [v], rfl, ?_, h5⟩
      · intro j u' hj
        cases j with
        | zero => simp at hj; subst hj; exact h1
        | succ j => simp at hj
      · intro j u' v' hj hv
        cases j with
        | zero => simp at hj hv; subst hj hv; exact ⟨h2, h3⟩
        | succ j => simp at hj
    unfold plainT at h
    split at h
    · rename_i hu
      obtain ⟨b, rfl, _⟩ := DataW.trod_bool hu ht
      have hs : tsz P t = 1 := by simpa using h
      exact one _ (.bool b) rfl rfl (.bool b) rfl hs ⟨by simp [hs], by simp [knd, hu]⟩
    · rename_i k hu
      obtain ⟨i, rfl, _, hw⟩ := DataW.trod_int hu ht
      have hs : tsz P t = 1 := by simpa using h
      exact one _ (.int k i) rfl rfl (.int k i) rfl hs ⟨by simp [hs], by simpa [knd, hu] using hw⟩
    · rename_i hu
      obtain ⟨s, rfl, _, hw⟩ := DataW.trod_string hu ht
      have hs : tsz P t = 1 := by simpa using h
      refine one _ (.str s.data.toList) rfl rfl (.str s) rfl hs ⟨by simp [hs], ?_⟩
      simp only [knd, hu]
      exact ⟨_, rfl, by simpa using hw⟩
    · rename_i e hu
      simp only [Bool.and_eq_true, beq_iff_eq] at h
      obtain ⟨hs, he⟩ := h
      have hk : knd P t = .slice e := by simp [knd, hu]
      rcases DataW.trod_slice hu ht with ⟨rfl, _⟩ | ⟨a, len, cap, elems, rest, m, _, rfl, _, hb, hl, hm, hlen, hel, _, _⟩
      · refine one _ (.sl (tsz P e) []) rfl rfl (wk_nils _ _ _ _ _ .nils) rfl hs ⟨by simp [hs], ?_⟩
        rw [hk]
        exact ⟨[], rfl, by simp, fun v hv => by cases hv⟩
      · have hex : ∀ i, i < len → ∃ (cs' : List Value) (xs : List V), w.cells? 0 (a.add (i * P.cellsOf e)) (P.cellsOf e) = some cs' ∧ cs'.length = tsz P e ∧ (∀ (j : Nat) (u : Value), cs'[j]? = some u → u.oneCell' = true) ∧ xs.length = cs'.length ∧
            (∀ (j : Nat) (u : Value) (v : V), cs'[j]? = some u → xs[j]? = some v → Rep β w (FzAll w) v u ∧ v.cells = [v]) ∧ HasL P n e xs := by
          intro i hi
          have h1 := hel i hi
          rw [List.getElem?_eq_getElem (by omega)] at h1
          obtain ⟨cs', h2, h3⟩ := Option.bind_eq_some_iff.1 h1
          obtain ⟨h4, h5, xs, h6, h7, h8⟩ := trod_typed n _ _ _ _ he h3
          exact ⟨cs', xs, h2, h4, h5, h6, h7, h8⟩
        obtain ⟨f, hf⟩ := Go.Deep.choose_lt (α := List Value × List V) (p := fun i p => w.cells? 0 (a.add (i * P.cellsOf e)) (P.cellsOf e) = some p.1 ∧ p.1.length = tsz P e ∧ (∀ (j : Nat) (u : Value), p.1[j]? = some u → u.oneCell' = true) ∧ p.2.length = p.1.length ∧
            (∀ (j : Nat) (u : Value) (v : V), p.1[j]? = some u → p.2[j]? = some v → Rep β w (FzAll w) v u ∧ v.cells = [v]) ∧ HasL P n e p.2) (fun i hi => by
          obtain ⟨cs', xs, h⟩ := hex i hi
          exact ⟨(cs', xs), h⟩)
        have hec : ∀ i, i < len → (elV P e (f i).2).cells = (f i).2 := by
          intro i hi
          obtain ⟨h1, h2, h3, h4, h5, h6⟩ := hf i hi
          refine elV_cells (by omega) fun htg => ?_
          have htz : tsz P e = 1 := by
            cases n with
            | zero => exact h6.elim
            | succ n =>
              unfold plainT at he
              unfold tagg at htg
              split at he <;> simp_all
          obtain ⟨v, hv⟩ : ∃ v, (f i).2 = [v] := by
            match hm : (f i).2, (show (f i).2.length = 1 by omega) with
            | [v], _ => exact ⟨v, rfl⟩
          obtain ⟨u, hu⟩ : ∃ u, (f i).1 = [u] := by
            match hm : (f i).1, (show (f i).1.length = 1 by omega) with
            | [v], _ => exact ⟨v, rfl⟩
          exact ⟨v, hv, (h5 0 u v (by simp [hu]) (by simp [hv])).2⟩
        have hcell : ∀ i, i < len → ∀ (j : Nat) (u : Value), (f i).1[j]? = some u → w.cell? (a.add (i * tsz P e + j)) = some u := by
          intro i hi j u hu
          have h1 := (World.cells?_some (hf i hi).1).2
          have hj : j < P.cellsOf e := by rw [← h1.1]; exact (List.getElem?_eq_some_iff.1 hu).1
          have h2 := h1.2 j hj
          rw [addr_add, hu] at h2
          exact h2
        let es : List V := (List.range len).map fun i => elV P e (f i).2
        have hesl : es.length = len := by simp [es]
        have hes : ∀ i e', es[i]? = some e' → i < len ∧ e' = elV P e (f i).2 := by
          intro i e' h
          simp only [es, List.getElem?_map, Option.map_eq_some_iff] at h
          obtain ⟨k, h1, rfl⟩ := h
          have := List.getElem?_eq_some_iff.1 h1
          obtain ⟨h2, h3⟩ := this
          simp at h2 h3
          subst h3
          exact ⟨h2, rfl⟩
        refine one _ (.sl (tsz P e) es) rfl rfl ?_ rfl hs ⟨by simp [hs], ?_⟩
        · have hrep := Rep.sl (β := β) (w := w) (F := FzAll w) (tsz P e) es (some a) cap (fun q => (w.cell? (a.add q)).getD undef) (by omega) hm (by simp) ?_ ?_ ?_
          · rwa [hesl] at hrep
          · intro e' he'
            obtain ⟨i, hi⟩ := List.getElem?_of_mem he'
            obtain ⟨h1, rfl⟩ := hes i e' hi
            rw [hec i h1]
            have := hf i h1
            omega
          · intro i e' j c h1 h2
            obtain ⟨hi, rfl⟩ := hes i e' h1
            rw [hec i hi] at h2
            obtain ⟨g1, g2, g3, g4, g5, g6⟩ := hf i hi
            have hj : j < (f i).1.length := by rw [← g4]; exact (List.getElem?_eq_some_iff.1 h2).1
            have hu := List.getElem?_eq_getElem hj
            have hc := hcell i hi j _ hu
            refine ⟨a, rfl, by rw [← block_add a (i * tsz P e + j)]; exact cell_block hc, by rw [hc]; rfl, by rw [hc]; exact g3 j _ hu⟩
          · intro i e' j c h1 h2
            obtain ⟨hi, rfl⟩ := hes i e' h1
            rw [hec i hi] at h2
            obtain ⟨g1, g2, g3, g4, g5, g6⟩ := hf i hi
            have hj : j < (f i).1.length := by rw [← g4]; exact (List.getElem?_eq_some_iff.1 h2).1
            have hu := List.getElem?_eq_getElem hj
            have hc := hcell i hi j _ hu
            rw [hc]
            exact (g5 j _ _ hu h2).1
        · rw [hk]
          refine ⟨es, rfl, by omega, fun v hv => ?_⟩
          obtain ⟨i, hi⟩ := List.getElem?_of_mem hv
          obtain ⟨h1, rfl⟩ := hes i v hi
          exact ⟨_, rfl, (hf i h1).2.2.2.2.2⟩
    · rename_i fs hu
      simp only [Bool.and_eq_true, List.all_eq_true] at h
      obtain ⟨hp, hc⟩ := h
      obtain ⟨xs0, m, _, _, hlen, _, hf⟩ := DataW.trod_struct hu ht
      have hl : cs.length = tsz P t := hlen
      rw [← hl] at hc
      obtain ⟨_, h2, xs, h3, h4, h5⟩ := assemble (β := β) (fun fuel t cs x => trod_typed n fuel t cs x) _ 0 hc (fun p hp' => by
        obtain ⟨f, hf1, rfl⟩ := List.mem_map.1 hp'
        obtain ⟨i, hi⟩ := List.getElem?_of_mem hf1
        refine ⟨hp f hf1, m, ?_⟩
        have := hf i f (by simpa using hi)
        have h6 := (List.getElem?_eq_some_iff.1 hi).1
        rw [Array.length_toList] at h6
        obtain ⟨y, hy⟩ : ∃ y, xs0[i]? = some y := ⟨_, List.getElem?_eq_getElem (by omega)⟩
        exact ⟨y, by rw [hy] at this; exact this⟩)
      simp only [Nat.zero_add] at h2 h4
      refine ⟨hl, h2, xs, by omega, h4, by omega, ?_⟩
      have hk : knd P t = .strct := by simp [knd, hu]
      rw [hk]
      intro f off ty hfl
      simp only [fld, hu, Option.map_eq_some_iff, Prod.mk.injEq] at hfl
      obtain ⟨fi, h6, rfl, rfl⟩ := hfl
      have := (h5 (fi.offset, fi.type) (List.mem_map.2 ⟨fi, by simpa using Array.mem_of_getElem? h6, rfl⟩)).2
      simpa using this
    · rename_i m e hu
      simp only [Bool.and_eq_true] at h
      obtain ⟨hp, hc⟩ := h
      obtain ⟨xs0, q, _, _, hlen, hxl, hf⟩ := DataW.trod_array hu ht
      have hl : cs.length = tsz P t := hlen
      rw [← hl] at hc
      obtain ⟨_, h2, xs, h3, h4, h5⟩ := assemble (β := β) (fun fuel t cs x => trod_typed n fuel t cs x) _ 0 hc (fun p hp' => by
        obtain ⟨i, hi, rfl⟩ := List.mem_map.1 hp'
        have hi' : i < m := by simpa using hi
        refine ⟨hp, q, xs0[i], ?_⟩
        rw [← List.getElem?_eq_getElem (by omega)]
        exact hf i hi')
      simp only [Nat.zero_add] at h2 h4
      refine ⟨hl, h2, xs, by omega, h4, by omega, ?_⟩
      have hk : knd P t = .arr m e := by simp [knd, hu]
      rw [hk]
      intro i hi
      have := (h5 (i * tsz P e, e) (List.mem_map.2 ⟨i, by simpa using hi, rfl⟩)).2
      simpa using this
    · cases h

/-- Arguments of types. -/
def TyArgs (P : Program) (n : Nat) : List TypeId → List V → Prop
  | [], [] => True
  | t :: ts, v :: vs => (∃ xs, v = elV P t xs ∧ HasL P n t xs) ∧ TyArgs P n ts vs
  | _, _ => False

theorem okWide_shape {n : Nat} {t : TypeId} {v : Value} {r : Reach} {base : Nat} (hp : plainT P n t = true) (h : Value.okWide P w r base t v) : (tagg P t = true → ∃ us, v = .agg us) ∧ (tagg P t = false → v.cells = #[v]) := by
  cases n with
  | zero => simp [plainT] at hp
  | succ n =>
    unfold plainT at hp
    have cell : (∀ cs, P.underlying t ≠ some (.struct cs)) → (∀ m e, P.underlying t ≠ some (.array m e)) → (P.underlying t = some .bool ∨ (∃ k, P.underlying t = some (.int k)) ∨ P.underlying t = some .string ∨ ∃ e, P.underlying t = some (.slice e)) →
        (tagg P t = true → ∃ us, v = .agg us) ∧ (tagg P t = false → v.cells = #[v]) := by
      rintro _ _ (hu | ⟨k, hu⟩ | hu | ⟨e, hu⟩)
      all_goals
        have htg : tagg P t = false := by simp [tagg, hu]
        refine ⟨fun h1 => (by rw [htg] at h1; cases h1), fun _ => ?_⟩
        unfold Value.okWide at h
        rw [hu] at h
        unfold Cell.okWide at h
        rw [hu] at h
        cases v <;> first | rfl | (simp [Cell.ok, hu] at h)
    have agg : (∃ us, v = .agg us) → tagg P t = true → (tagg P t = true → ∃ us, v = .agg us) ∧ (tagg P t = false → v.cells = #[v]) := fun h1 h2 => ⟨fun _ => h1, fun h3 => by rw [h2] at h3; cases h3⟩
    split at hp
    · rename_i hu; exact cell (by simp [hu]) (by simp [hu]) (.inl hu)
    · rename_i k hu; exact cell (by simp [hu]) (by simp [hu]) (.inr (.inl ⟨k, hu⟩))
    · rename_i hu; exact cell (by simp [hu]) (by simp [hu]) (.inr (.inr (.inl hu)))
    · rename_i e hu; exact cell (by simp [hu]) (by simp [hu]) (.inr (.inr (.inr ⟨e, hu⟩)))
    · rename_i fs hu
      unfold Value.okWide at h
      rw [hu] at h
      obtain ⟨cs, rfl, _⟩ := h
      exact agg ⟨cs, rfl⟩ (by simp [tagg, hu])
    · rename_i m e hu
      unfold Value.okWide at h
      rw [hu] at h
      obtain ⟨cs, rfl, _⟩ := h
      exact agg ⟨cs, rfl⟩ (by simp [tagg, hu])
    · cases hp

theorem args_typed {β : Beta} {n : Nat} {r : Reach} {base : Nat} : ∀ (ts : List TypeId) (args : List Value) (ds : List (DataW H)) (ps : List MemPlace), (∀ t, t ∈ ts → plainT P n t = true) → (∀ (j : Nat) (t : TypeId) (v : Value), ts[j]? = some t → args[j]? = some v → Value.okWide P w r base t v) →
    DataW.TrodAll enc P w 0 spare held ts args ds ps → ∃ vs : List V, vs.length = args.length ∧ args.length = ts.length ∧ ds.length = ts.length ∧ (∀ (i : Nat) (v : V) (u : Value), vs[i]? = some v → args[i]? = some u → Rep β w (FzAll w) v u) ∧ TyArgs P n ts vs
  | [], [], [], _, _, _, _ => ⟨[], rfl, rfl, rfl, fun i v u h => by simp at h, trivial⟩
  | t :: ts, u :: args, d :: ds, ps, hp, ho, h => by
    obtain ⟨p, q, ⟨fuel, h1⟩, h2, _⟩ := h
    have hpt := hp t (by simp)
    obtain ⟨g1, g2, xs, g3, g4, g5⟩ := trod_typed (β := β) n fuel t _ _ hpt h1
    obtain ⟨k1, k2⟩ := okWide_shape hpt (ho 0 t u rfl rfl)
    obtain ⟨vs, m1, m2, m3, m4, m5⟩ := args_typed ts args ds q (fun t ht => hp t (by simp [ht])) (fun j t v h3 h4 => ho (j + 1) t v (by simpa using h3) (by simpa using h4)) h2
    refine ⟨elV P t xs :: vs, by simp [m1], by simp [m2], by simp [m3], ?_, ⟨xs, rfl, g5⟩, m5⟩
    intro i v u' hv hu
    cases i with
    | succ i => exact m4 i v u' (by simpa using hv) (by simpa using hu)
    | zero =>
      simp at hv hu
      subst hv hu
      unfold elV
      by_cases ht : tagg P t = true
      · rw [if_pos ht]
        obtain ⟨us, rfl⟩ := k1 ht
        simp only [Value.cells] at g1 g2 g3 g4
        refine .agg xs us (by simpa using g3.symm) (fun i hi => ?_) (fun i c hc => ?_)
        · have hi' : i < us.size := by simpa [g3] using hi
          have := g2 i us[i] (by simp [hi'])
          simpa [hi'] using this
        · have hi' : i < us.size := by have := (List.getElem?_eq_some_iff.1 hc).1; simpa [g3] using this
          have := (g4 i us[i] c (by simp [hi']) hc).1
          simpa [hi'] using this
      · rw [if_neg ht]
        have hc := k2 (by simpa using ht)
        rw [hc] at g1 g2 g3 g4
        have hl : xs.length = 1 := by simpa using g3
        match xs, hl with
        | [x], _ => exact (g4 0 u x (by simp) (by simp)).1
  | [], _ :: _, _, _, _, _, h => by simp [DataW.TrodAll] at h
  | [], [], _ :: _, _, _, _, h => by simp [DataW.TrodAll] at h
  | _ :: _, [], _, _, _, _, h => by simp [DataW.TrodAll] at h
  | _ :: _, _ :: _, [], _, _, _, h => by simp [DataW.TrodAll] at h

theorem trodAll_below (hl : laidOutB P = true) {W W' : World} (hb : Below W.heap.size W W') : ∀ {ts : List TypeId} {vs : List Value} {ds : List (DataW H)} {ps : List MemPlace} {sp : Nat → Bool}, (∀ t, t ∈ ts → P.readableRec t = true ∧ t < P.types.size) → (∀ x ∈ ps, x.block < W.heap.size ∧ sp x.block = true) →
    DataW.TrodAll enc P W 0 (fun _ => true) true ts vs ds ps → DataW.TrodAll enc P W' 0 sp true ts vs ds ps
  | [], [], [], _, _, _, _, h => h
  | t :: ts, v :: vs, d :: ds, ps, sp, ht, hp, h => by
    obtain ⟨p, q, h1, h2, rfl⟩ := h
    obtain ⟨g1, g2⟩ := ht t (by simp)
    exact ⟨p, q, WideElems.Trod_stays hl g1 g2 h1 (fun x hx => hb.same (hp x (by simp [hx])).1) (fun x hx => (hp x (by simp [hx])).2), trodAll_below hl hb (fun t ht' => ht t (by simp [ht'])) (fun x hx => hp x (by simp [hx])) h2, rfl⟩
  | [], _ :: _, _, _, _, _, _, h => by simp [DataW.TrodAll] at h
  | [], [], _ :: _, _, _, _, _, h => by simp [DataW.TrodAll] at h
  | _ :: _, [], _, _, _, _, _, h => by simp [DataW.TrodAll] at h
  | _ :: _, _ :: _, [], _, _, _, _, h => by simp [DataW.TrodAll] at h

/-- A law that answers true: what its row asks of a call. -/
theorem law_contract {f : FuncId} {fn : Func} {s : ChangeSpec} {apart fresh handsOn again : Bool} {W : World} {args : Array Value} {ds gs : List (DataW H)} {before : List MemPlace} {base : Nat} {r : Reach} (n : Nat) {tb : TypeId}
    (hl : laidOutB P = true) (hts : (fn.params.toList.all fun t => plainT P n t && P.readableRec t && decide (t < P.types.size)) = true) (hv : s.vars = [])
    (hfn : ∀ ds : List (DataW H), ds.length = fn.params.toList.length → s.fn H (ds ++ []) = { results := [.lit (.bool true)], args := ds }) (hrt : fn.resultTypes = #[tb]) (htb : P.underlying tb = some .bool)
    (hval : ∀ (j : Nat) t v, fn.params[j]? = some t → args[j]? = some v → Value.okWide P W r base t v)
    (hW : DataW.Whole enc P fn.params.toList s.vars apart W args.toList ds gs before)
    (hc : ∀ vs : List V, TyArgs P n fn.params.toList vs → AbsCall P f vs (fun _ => none) fun r _ => r = .bool true) :
    Calls P f args W fun e W' => ∃ v, e = .returned v ∧ s.post enc P fn apart fresh handsOn again W args v W' := by
  have hW0 := hW
  obtain ⟨p, q, hA, hV, hpq, hfz, hnd⟩ := hW
  rw [hv] at hV
  have hgs : gs = [] ∧ q = [] := by
    cases gs with
    | nil => exact ⟨rfl, hV⟩
    | cons => simp [DataW.TrodVars] at hV
  obtain ⟨rfl, rfl⟩ := hgs
  rw [List.append_nil] at hpq
  subst hpq
  have hts' : ∀ t, t ∈ fn.params.toList → plainT P n t = true ∧ P.readableRec t = true ∧ t < P.types.size := by
    intro t ht
    have := List.all_eq_true.1 hts t ht
    simpa [Bool.and_eq_true, and_assoc] using this
  obtain ⟨vs, h1, h2, h3, h4, h5⟩ := args_typed (β := fun _ => none) (n := n) (r := r) (base := base) fn.params.toList args.toList ds before (fun t ht => (hts' t ht).1) (fun j t v a b => hval j t v (by simpa using a) (by simpa using b)) hA
  let M : Off := ⟨fun _ => none, W.heap.size⟩
  have hok : WOk (fun _ => none) M (fun _ => none) W := ⟨⟨0, fun _ _ => rfl⟩, fun k o h => (by cases h), fun b box h => (by cases h), fun b b' k h => absurd rfl h⟩
  have hF : ∀ k, Fz (fun _ => none) M (fun _ => none) W k ↔ FzAll W k := fun k => ⟨fun h => h.1, fun h => ⟨h, rfl, fun b hb => absurd rfl hb⟩⟩
  have hlt := hA.lt
  refine ((hc vs h5).2 (fun _ => none) M W args hok (by simpa using h1.symm) (fun i c hi => ?_)).mono ?_
  · have hi' : i < args.size := by have := (List.getElem?_eq_some_iff.1 hi).1; simpa [h1] using this
    have := h4 i c args[i] hi (by simp [hi'])
    have := this.mono (β' := fun _ => none) (w' := W) (F' := Fz (fun _ => none) M (fun _ => none) W) (fun _ _ h => h) (fun k hk => ⟨(hF k).2 hk, rfl⟩) (fun _ _ h => h)
    simpa [hi'] using this
  · rintro e W' ⟨v, r', bx', β', rfl, rfl, hok', htr, hrep⟩
    cases hrep
    have hb : Below W.heap.size W W' := ⟨htr.os, htr.tape, htr.output, htr.size, fun k hk => htr.keep k hk fun b hb => absurd rfl hb⟩
    refine ⟨_, rfl, ds, [], before, [], before, [], hW0, ?_, ?_, ?_, hb.frame _, fun _ => ?_⟩
    · rw [hfn ds h3, hrt]
      exact trodAll_cons_mk (⟨1, by simp [DataW.trod, Value.cells, htb]⟩ : DataW.Trod enc P _ _ _ _ _ (.bool true) (.lit (.bool true)) []) trodAll_mk0
    · rw [hfn ds h3]
      exact trodAll_below hl hb (fun t ht => (hts' t ht).2) (fun x hx => ⟨hlt x hx, by simpa using hlt x hx⟩) hA
    · rw [hv]
      have : (s.fn H (ds ++ [])).vars = [] := by rw [hfn ds h3]
      rw [this]; rfl
    · refine ⟨RowKit.ok_one hrt rfl (RowKit.okWide_bool_mk htb _), _, [], [] ++ before, ⟨[] ++ before, [], trodAll_append (trodAll_below hl hb (fun t ht => (hts' t ht).2) (fun x hx => ⟨hlt x hx, rfl⟩) hA) (ds := [.lit (.bool true)]) (p := []) ?_, ?_, by simp, ?_, ?_⟩, ?_⟩
      · rw [hrt]; exact trodAll_cons_mk (⟨1, by simp [DataW.trod, Value.cells, htb]⟩ : DataW.Trod enc P _ _ _ _ _ (.bool true) (.lit (.bool true)) []) trodAll_mk0
      · rw [hv]; rfl
      · intro b off hp
        have hp' : MemPlace.cell b off ∈ before := by simpa using hp
        rw [hb.frozen (p := ⟨b, off, none⟩) (hlt _ hp')]
        exact hfz b off hp'
      · intro ha; simpa using hnd ha
      · intro p hp _; simpa using hp

theorem HasL.int {n : Nat} {t : TypeId} {k : IntKind} {xs : List V} (hk : knd P t = .int k) (h : HasL P n t xs) : ∃ i, xs = [.int k i] ∧ (Lit.int k i).wf = true := by
  cases n with
  | zero => exact h.elim
  | succ n => obtain ⟨_, h⟩ := h; rw [hk] at h; exact h
theorem HasL.bool {n : Nat} {t : TypeId} {xs : List V} (hk : knd P t = .bool) (h : HasL P n t xs) : ∃ b, xs = [.bool b] := by
  cases n with
  | zero => exact h.elim
  | succ n => obtain ⟨_, h⟩ := h; rw [hk] at h; exact h
theorem HasL.str {n : Nat} {t : TypeId} {xs : List V} (hk : knd P t = .str) (h : HasL P n t xs) : ∃ s, xs = [.str s] ∧ s.length ≤ maxLen := by
  cases n with
  | zero => exact h.elim
  | succ n => obtain ⟨_, h⟩ := h; rw [hk] at h; exact h
theorem HasL.slice {α : Type} {r : α → V} {n : Nat} {t e : TypeId} {xs : List V} (hk : knd P t = .slice e) (h : HasL P (n + 1) t xs) (he : ∀ ys, HasL P n e ys → ∃ a, elV P e ys = r a) : ∃ l : List α, xs = [.sl (tsz P e) (l.map r)] ∧ l.length ≤ maxLen := by
  obtain ⟨_, h⟩ := h
  rw [hk] at h
  obtain ⟨es, rfl, hlen, h⟩ := h
  have : ∀ es : List V, (∀ v, v ∈ es → ∃ ys, v = elV P e ys ∧ HasL P n e ys) → ∃ l : List α, es = l.map r := by
    intro es
    induction es with
    | nil => intro _; exact ⟨[], rfl⟩
    | cons v es ih =>
      intro h
      obtain ⟨l, rfl⟩ := ih fun v hv => h v (by simp [hv])
      obtain ⟨ys, rfl, h2⟩ := h v (by simp)
      obtain ⟨a, ha⟩ := he ys h2
      exact ⟨a :: l, by simp [ha]⟩
  obtain ⟨l, rfl⟩ := this es h
  exact ⟨l, rfl, by simpa using hlen⟩
theorem HasL.fld {n : Nat} {t ty : TypeId} {f off : Nat} {xs : List V} (hk : knd P t = .strct) (h : HasL P (n + 1) t xs) (hf : Go.Pl.fld P t f = some (off, ty)) : HasL P n ty ((xs.drop off).take (tsz P ty)) := by
  obtain ⟨_, h⟩ := h
  rw [hk] at h
  exact h f off ty hf
theorem HasL.len {n : Nat} {t : TypeId} {xs : List V} (h : HasL P n t xs) : xs.length = tsz P t := by
  cases n with
  | zero => exact h.elim
  | succ n => exact h.1
theorem HasL.arr {n m i : Nat} {t e : TypeId} {xs : List V} (hk : knd P t = .arr m e) (h : HasL P (n + 1) t xs) (hi : i < m) : HasL P n e ((xs.drop (i * tsz P e)).take (tsz P e)) := by
  obtain ⟨_, h⟩ := h
  rw [hk] at h
  exact h i hi

theorem len1 {α : Type} {l : List α} (h : l.length = 1) : ∃ a, l = [a] := by
  match l, h with
  | [a], _ => exact ⟨a, rfl⟩
theorem len2 {α : Type} {l : List α} (h : l.length = 2) : ∃ a b, l = [a, b] := by
  match l, h with
  | [a, b], _ => exact ⟨a, b, rfl⟩
theorem len3 {α : Type} {l : List α} (h : l.length = 3) : ∃ a b c, l = [a, b, c] := by
  match l, h with
  | [a, b, c], _ => exact ⟨a, b, c, rfl⟩
theorem len4 {α : Type} {l : List α} (h : l.length = 4) : ∃ a b c d, l = [a, b, c, d] := by
  match l, h with
  | [a, b, c, d], _ => exact ⟨a, b, c, d, rfl⟩
theorem tyArgs1 {n : Nat} {t : TypeId} {vs : List V} (h : TyArgs P n [t] vs) : ∃ xs, vs = [elV P t xs] ∧ HasL P n t xs := by
  match vs, h with
  | [a], ⟨⟨xs, h1, h2⟩, _⟩ => exact ⟨xs, by rw [h1], h2⟩
theorem tyArgs2 {n : Nat} {t u : TypeId} {vs : List V} (h : TyArgs P n [t, u] vs) : ∃ xs ys, vs = [elV P t xs, elV P u ys] ∧ HasL P n t xs ∧ HasL P n u ys := by
  match vs, h with
  | [a, b], ⟨⟨xs, h1, h2⟩, ⟨ys, h3, h4⟩, _⟩ => exact ⟨xs, ys, by rw [h1, h3], h2, h4⟩
theorem tyArgs3 {n : Nat} {t u s : TypeId} {vs : List V} (h : TyArgs P n [t, u, s] vs) : ∃ xs ys zs, vs = [elV P t xs, elV P u ys, elV P s zs] ∧ HasL P n t xs ∧ HasL P n u ys ∧ HasL P n s zs := by
  match vs, h with
  | [a, b, c], ⟨⟨xs, h1, h2⟩, ⟨ys, h3, h4⟩, ⟨zs, h5, h6⟩, _⟩ => exact ⟨xs, ys, zs, by rw [h1, h3, h5], h2, h4, h6⟩
theorem tyArgs4 {n : Nat} {t u s r : TypeId} {vs : List V} (h : TyArgs P n [t, u, s, r] vs) : ∃ xs ys zs ws, vs = [elV P t xs, elV P u ys, elV P s zs, elV P r ws] ∧ HasL P n t xs ∧ HasL P n u ys ∧ HasL P n s zs ∧ HasL P n r ws := by
  match vs, h with
  | [a, b, c, d], ⟨⟨xs, h1, h2⟩, ⟨ys, h3, h4⟩, ⟨zs, h5, h6⟩, ⟨ws, h7, h8⟩, _⟩ => exact ⟨xs, ys, zs, ws, by rw [h1, h3, h5, h7], h2, h4, h6, h8⟩
theorem elV_one {t : TypeId} {v : V} (h : tagg P t = false) : elV P t [v] = v := by simp [elV, h]
theorem elV_agg {t : TypeId} {xs : List V} (h : tagg P t = true) : elV P t xs = .agg xs := by simp [elV, h]
end
end Go.Pl
