/- Texts of the proof, put together: PlOut, PlSi, HsA, PlSo, PlSt, PlGr, PlAb, PlLaid. -/
import Derived.Test.YtnijaldhopcpdaaGreatDoorHc
import Derived.ChangeArms
import Derived.OpenShut
import Derived.Carry
import Derived.ChangeSame
import Derived.JoinedCond
import Derived.Shelf.Strconv.AppendIntPublic10
import Derived.Lib.ItoaLen
import Derived.Shelf.SlSortCmp.WholeK
import Derived.Shelf.Sort.Plain
import Derived.Shelf.Slices.CompactS
import Derived.Shelf.Spec.SlicesGrow
import Derived.Lib.LaidTab
import Derived.Lib.ItoaNum

/- From what is given to a call to what the logic speaks of, and back. -/
set_option linter.unusedSimpArgs false
set_option linter.unusedVariables false
namespace Go.Pl
open Go Go.ChangeShapes Go.WideShapes Go.ChangeAt Go.RowKit

/-- Parts that lie one behind the other. -/
def contig (P : Program) : List (Nat × TypeId) → Nat → Nat → Bool
  | [], o, m => o == m
  | (o', t) :: ps, o, m => o' == o && contig P ps (o + tsz P t) m

/-- Types of plain data: every cell of a struct belongs to a field. -/
def plainT (P : Program) : Nat → TypeId → Bool
  | 0, _ => false
  | n + 1, t =>
    match P.underlying t with
    | some .bool | some (.int _) | some .string => tsz P t == 1
    | some (.slice e) => tsz P t == 1 && plainT P n e
    | some (.struct fs) => (fs.toList.all fun f => plainT P n f.type) && contig P (fs.toList.map fun f => (f.offset, f.type)) 0 (tsz P t)
    | some (.array m e) => plainT P n e && contig P ((List.range m).map fun i => (i * tsz P e, e)) 0 (tsz P t)
    | _ => false

/-- An element, of its cells. -/
def elV (P : Program) (e : TypeId) (xs : List V) : V := if tagg P e = true then .agg xs else xs.getD 0 .unk

/-- Cells of a type. -/
def HasL (P : Program) : Nat → TypeId → List V → Prop
  | 0, _, _ => False
  | n + 1, t, xs => xs.length = tsz P t ∧
    match knd P t with
    | .bool => ∃ b, xs = [.bool b]
    | .int k => ∃ i, xs = [.int k i] ∧ (Lit.int k i).wf = true
    | .str => ∃ s, xs = [.str s] ∧ s.length ≤ maxLen
    | .slice e => ∃ es, xs = [.sl (tsz P e) es] ∧ es.length ≤ maxLen ∧ ∀ v, v ∈ es → ∃ ys, v = elV P e ys ∧ HasL P n e ys
    | .strct => ∀ f off ty, fld P t f = some (off, ty) → HasL P n ty ((xs.drop off).take (tsz P ty))
    | .arr m e => ∀ i, i < m → HasL P n e ((xs.drop (i * tsz P e)).take (tsz P e))
    | _ => False

section
variable {H : Type} {enc : TypeId × Value → H} {P : Program} {w : World} {spare : Nat → Bool} {held : Bool}

theorem elV_cells {e : TypeId} {xs : List V} (h : xs.length = tsz P e) (h1 : tagg P e = false → ∃ v, xs = [v] ∧ v.cells = [v]) : (elV P e xs).cells = xs := by
  unfold elV
  by_cases ht : tagg P e = true
  · rw [if_pos ht]; rfl
  · rw [if_neg ht]
    obtain ⟨v, rfl, hv⟩ := h1 (by simpa using ht)
    simpa using hv

def FzAll (w : World) (k : Nat) : Prop := k < w.heap.size

theorem cell_block {a : Addr} {u : Value} (h : w.cell? a = some u) : a.block < w.heap.size := by
  unfold World.cell? at h
  cases hh : w.heap[a.block]? with
  | none => simp [hh] at h
  | some o => exact (Array.getElem?_eq_some_iff.1 hh).1

theorem addr_add (a : Addr) (i j : Nat) : (a.add i).add j = a.add (i + j) := by
  unfold Addr.add
  by_cases hi : i = 0 <;> by_cases hj : j = 0 <;> simp [hi, hj, Nat.add_assoc]

/-- Parts put together. -/
theorem assemble {β : Beta} {n : Nat} {cs : List Value} (ih : ∀ (fuel : Nat) (t : TypeId) (cs : List Value) (x : DataW H × List MemPlace), plainT P n t = true → DataW.trod enc P w 0 spare held fuel t cs = some x →
      cs.length = tsz P t ∧ (∀ (j : Nat) (u : Value), cs[j]? = some u → u.oneCell' = true) ∧ ∃ xs : List V, xs.length = cs.length ∧ (∀ (j : Nat) (u : Value) (v : V), cs[j]? = some u → xs[j]? = some v → Rep β w (FzAll w) v u ∧ v.cells = [v]) ∧ HasL P n t xs) :
    ∀ (ps : List (Nat × TypeId)) (o : Nat), contig P ps o cs.length = true → (∀ p, p ∈ ps → plainT P n p.2 = true ∧ ∃ fuel x, DataW.trod enc P w 0 spare held fuel p.2 ((cs.drop p.1).take (tsz P p.2)) = some x) →
      o ≤ cs.length ∧ (∀ (j : Nat) (u : Value), cs[o + j]? = some u → u.oneCell' = true) ∧ ∃ xs : List V, xs.length = cs.length - o ∧ (∀ (j : Nat) (u : Value) (v : V), cs[o + j]? = some u → xs[j]? = some v → Rep β w (FzAll w) v u ∧ v.cells = [v]) ∧
        ∀ p, p ∈ ps → o ≤ p.1 ∧ HasL P n p.2 ((xs.drop (p.1 - o)).take (tsz P p.2))
  | [], o, h, _ => by
    simp only [contig, beq_iff_eq] at h
    subst h
    refine ⟨Nat.le_refl _, ?_, [], by simp, ?_, fun p hp => by cases hp⟩
    · intro j u hu
      rw [List.getElem?_eq_none (by omega)] at hu; cases hu
    · intro j u v hu
      rw [List.getElem?_eq_none (by omega)] at hu; cases hu
  | (o', t) :: ps, o, h, hp => by
    simp only [contig, Bool.and_eq_true, beq_iff_eq] at h
    obtain ⟨rfl, h⟩ := h
    obtain ⟨hpl, fuel, x, hx⟩ := hp (o', t) (by simp)
    dsimp only at hpl hx
    obtain ⟨g1, g2, xs1, g3, g4, g5⟩ := ih fuel t _ x hpl hx
    obtain ⟨k1, k2, xs2, k3, k4, k5⟩ := assemble ih ps (o' + tsz P t) h (fun p hp' => hp p (by simp [hp']))
    have hl1 : xs1.length = tsz P t := by rw [g3, g1]
    have hget : ∀ j, j < tsz P t → ((cs.drop o').take (tsz P t))[j]? = cs[o' + j]? := by
      intro j hj
      rw [List.getElem?_take, if_pos hj, List.getElem?_drop]
    refine ⟨by omega, ?_, xs1 ++ xs2, by simp; omega, ?_, ?_⟩
    · intro j u hu
      by_cases hj : j < tsz P t
      · exact g2 j u (by rw [hget j hj]; exact hu)
      · refine k2 (j - tsz P t) u ?_
        rw [← hu]; congr 1; omega
    · intro j u v hu hv
      by_cases hj : j < tsz P t
      · rw [List.getElem?_append_left (by omega)] at hv
        exact g4 j u v (by rw [hget j hj]; exact hu) hv
      · rw [List.getElem?_append_right (by omega), hl1] at hv
        refine k4 (j - tsz P t) u v ?_ hv
        rw [← hu]; congr 1; omega
    · intro p hp'
      rcases List.mem_cons.1 hp' with rfl | hp'
      · refine ⟨Nat.le_refl _, ?_⟩
        simp only [Nat.sub_self, List.drop_zero]
        rw [List.take_append_of_le_length (by omega), List.take_of_length_le (by omega)]
        exact g5
      · obtain ⟨m1, m2⟩ := k5 p hp'
        refine ⟨by omega, ?_⟩
        have : (xs1 ++ xs2).drop (p.1 - o') = xs2.drop (p.1 - (o' + tsz P t)) := by
          rw [List.drop_append, List.drop_of_length_le (by omega), List.nil_append]
          congr 1
          omega
        rw [this]
        exact m2

/-- What is read, in the logic's words: cell by cell. -/
theorem trod_typed {β : Beta} : ∀ (n : Nat) (fuel : Nat) (t : TypeId) (cs : List Value) (x : DataW H × List MemPlace), plainT P n t = true → DataW.trod enc P w 0 spare held fuel t cs = some x →
    cs.length = tsz P t ∧ (∀ (j : Nat) (u : Value), cs[j]? = some u → u.oneCell' = true) ∧ ∃ xs : List V, xs.length = cs.length ∧ (∀ (j : Nat) (u : Value) (v : V), cs[j]? = some u → xs[j]? = some v → Rep β w (FzAll w) v u ∧ v.cells = [v]) ∧ HasL P n t xs
  | 0, _, _, _, _, h, _ => by simp [plainT] at h
  | n + 1, fuel, t, cs, x, h, ht => by
    have one : ∀ (u : Value) (v : V), cs = [u] → u.oneCell' = true → Rep β w (FzAll w) v u → v.cells = [v] → tsz P t = 1 → HasL P (n + 1) t [v] →
        cs.length = tsz P t ∧ (∀ (j : Nat) (u : Value), cs[j]? = some u → u.oneCell' = true) ∧ ∃ xs : List V, xs.length = cs.length ∧ (∀ (j : Nat) (u : Value) (v : V), cs[j]? = some u → xs[j]? = some v → Rep β w (FzAll w) v u ∧ v.cells = [v]) ∧ HasL P (n + 1) t xs := by
      rintro u v rfl h1 h2 h3 h4 h5
      refine ⟨by simp [h4], ?_, [v], rfl, ?_, h5⟩
      · intro j u' hj
        cases j with
        | zero => simp at hj; subst hj; exact h1
        | succ j => simp at hj
      · intro j u' v' hj hv
        cases j with
        | zero => simp at hj hv; subst hj hv; exact ⟨h2, h3⟩
        | succ j => simp at hj
    unfold plainT at h
    split at h
    · rename_i hu
      obtain ⟨b, rfl, _⟩ := DataW.trod_bool hu ht
      have hs : tsz P t = 1 := by simpa using h
      exact one _ (.bool b) rfl rfl (.bool b) rfl hs ⟨by simp [hs], by simp [knd, hu]⟩
    · rename_i k hu
      obtain ⟨i, rfl, _, hw⟩ := DataW.trod_int hu ht
      have hs : tsz P t = 1 := by simpa using h
      exact one _ (.int k i) rfl rfl (.int k i) rfl hs ⟨by simp [hs], by simpa [knd, hu] using hw⟩
    · rename_i hu
      obtain ⟨s, rfl, _, hw⟩ := DataW.trod_string hu ht
      have hs : tsz P t = 1 := by simpa using h
      refine one _ (.str s.data.toList) rfl rfl (.str s) rfl hs ⟨by simp [hs], ?_⟩
      simp only [knd, hu]
      exact ⟨_, rfl, by simpa using hw⟩
    · rename_i e hu
      simp only [Bool.and_eq_true, beq_iff_eq] at h
      obtain ⟨hs, he⟩ := h
      have hk : knd P t = .slice e := by simp [knd, hu]
      rcases DataW.trod_slice hu ht with ⟨rfl, _⟩ | ⟨a, len, cap, elems, rest, m, _, rfl, _, hb, hl, hm, hlen, hel, _, _⟩
      · refine one _ (.sl (tsz P e) []) rfl rfl (wk_nils _ _ _ _ _ .nils) rfl hs ⟨by simp [hs], ?_⟩
        rw [hk]
        exact ⟨[], rfl, by simp, fun v hv => by cases hv⟩
      · have hex : ∀ i, i < len → ∃ (cs' : List Value) (xs : List V), w.cells? 0 (a.add (i * P.cellsOf e)) (P.cellsOf e) = some cs' ∧ cs'.length = tsz P e ∧ (∀ (j : Nat) (u : Value), cs'[j]? = some u → u.oneCell' = true) ∧ xs.length = cs'.length ∧
            (∀ (j : Nat) (u : Value) (v : V), cs'[j]? = some u → xs[j]? = some v → Rep β w (FzAll w) v u ∧ v.cells = [v]) ∧ HasL P n e xs := by
          intro i hi
          have h1 := hel i hi
          rw [List.getElem?_eq_getElem (by omega)] at h1
          obtain ⟨cs', h2, h3⟩ := Option.bind_eq_some_iff.1 h1
          obtain ⟨h4, h5, xs, h6, h7, h8⟩ := trod_typed n _ _ _ _ he h3
          exact ⟨cs', xs, h2, h4, h5, h6, h7, h8⟩
        obtain ⟨f, hf⟩ := Go.Deep.choose_lt (α := List Value × List V) (p := fun i p => w.cells? 0 (a.add (i * P.cellsOf e)) (P.cellsOf e) = some p.1 ∧ p.1.length = tsz P e ∧ (∀ (j : Nat) (u : Value), p.1[j]? = some u → u.oneCell' = true) ∧ p.2.length = p.1.length ∧
            (∀ (j : Nat) (u : Value) (v : V), p.1[j]? = some u → p.2[j]? = some v → Rep β w (FzAll w) v u ∧ v.cells = [v]) ∧ HasL P n e p.2) (fun i hi => by
          obtain ⟨cs', xs, h⟩ := hex i hi
          exact ⟨(cs', xs), h⟩)
        have hec : ∀ i, i < len → (elV P e (f i).2).cells = (f i).2 := by
          intro i hi
          obtain ⟨h1, h2, h3, h4, h5, h6⟩ := hf i hi
          refine elV_cells (by omega) fun htg => ?_
          have htz : tsz P e = 1 := by
            cases n with
            | zero => exact h6.elim
            | succ n =>
              unfold plainT at he
              unfold tagg at htg
              split at he <;> simp_all
          obtain ⟨v, hv⟩ : ∃ v, (f i).2 = [v] := by
            match hm : (f i).2, (show (f i).2.length = 1 by omega) with
            | [v], _ => exact ⟨v, rfl⟩
          obtain ⟨u, hu⟩ : ∃ u, (f i).1 = [u] := by
            match hm : (f i).1, (show (f i).1.length = 1 by omega) with
            | [v], _ => exact ⟨v, rfl⟩
          exact ⟨v, hv, (h5 0 u v (by simp [hu]) (by simp [hv])).2⟩
        have hcell : ∀ i, i < len → ∀ (j : Nat) (u : Value), (f i).1[j]? = some u → w.cell? (a.add (i * tsz P e + j)) = some u := by
          intro i hi j u hu
          have h1 := (World.cells?_some (hf i hi).1).2
          have hj : j < P.cellsOf e := by rw [← h1.1]; exact (List.getElem?_eq_some_iff.1 hu).1
          have h2 := h1.2 j hj
          rw [addr_add, hu] at h2
          exact h2
        let es : List V := (List.range len).map fun i => elV P e (f i).2
        have hesl : es.length = len := by simp [es]
        have hes : ∀ i e', es[i]? = some e' → i < len ∧ e' = elV P e (f i).2 := by
          intro i e' h
          simp only [es, List.getElem?_map, Option.map_eq_some_iff] at h
          obtain ⟨k, h1, rfl⟩ := h
          have := List.getElem?_eq_some_iff.1 h1
          obtain ⟨h2, h3⟩ := this
          simp at h2 h3
          subst h3
          exact ⟨h2, rfl⟩
        refine one _ (.sl (tsz P e) es) rfl rfl ?_ rfl hs ⟨by simp [hs], ?_⟩
        · have hrep := Rep.sl (β := β) (w := w) (F := FzAll w) (tsz P e) es (some a) cap (fun q => (w.cell? (a.add q)).getD undef) (by omega) hm (by simp) ?_ ?_ ?_
          · rwa [hesl] at hrep
          · intro e' he'
            obtain ⟨i, hi⟩ := List.getElem?_of_mem he'
            obtain ⟨h1, rfl⟩ := hes i e' hi
            rw [hec i h1]
            have := hf i h1
            omega
          · intro i e' j c h1 h2
            obtain ⟨hi, rfl⟩ := hes i e' h1
            rw [hec i hi] at h2
            obtain ⟨g1, g2, g3, g4, g5, g6⟩ := hf i hi
            have hj : j < (f i).1.length := by rw [← g4]; exact (List.getElem?_eq_some_iff.1 h2).1
            have hu := List.getElem?_eq_getElem hj
            have hc := hcell i hi j _ hu
            refine ⟨a, rfl, by rw [← block_add a (i * tsz P e + j)]; exact cell_block hc, by rw [hc]; rfl, by rw [hc]; exact g3 j _ hu⟩
          · intro i e' j c h1 h2
            obtain ⟨hi, rfl⟩ := hes i e' h1
            rw [hec i hi] at h2
            obtain ⟨g1, g2, g3, g4, g5, g6⟩ := hf i hi
            have hj : j < (f i).1.length := by rw [← g4]; exact (List.getElem?_eq_some_iff.1 h2).1
            have hu := List.getElem?_eq_getElem hj
            have hc := hcell i hi j _ hu
            rw [hc]
            exact (g5 j _ _ hu h2).1
        · rw [hk]
          refine ⟨es, rfl, by omega, fun v hv => ?_⟩
          obtain ⟨i, hi⟩ := List.getElem?_of_mem hv
          obtain ⟨h1, rfl⟩ := hes i v hi
          exact ⟨_, rfl, (hf i h1).2.2.2.2.2⟩
    · rename_i fs hu
      simp only [Bool.and_eq_true, List.all_eq_true] at h
      obtain ⟨hp, hc⟩ := h
      obtain ⟨xs0, m, _, _, hlen, _, hf⟩ := DataW.trod_struct hu ht
      have hl : cs.length = tsz P t := hlen
      rw [← hl] at hc
      obtain ⟨_, h2, xs, h3, h4, h5⟩ := assemble (β := β) (fun fuel t cs x => trod_typed n fuel t cs x) _ 0 hc (fun p hp' => by
        obtain ⟨f, hf1, rfl⟩ := List.mem_map.1 hp'
        obtain ⟨i, hi⟩ := List.getElem?_of_mem hf1
        refine ⟨hp f hf1, m, ?_⟩
        have := hf i f (by simpa using hi)
        have h6 := (List.getElem?_eq_some_iff.1 hi).1
        rw [Array.length_toList] at h6
        obtain ⟨y, hy⟩ : ∃ y, xs0[i]? = some y := ⟨_, List.getElem?_eq_getElem (by omega)⟩
        exact ⟨y, by rw [hy] at this; exact this⟩)
      simp only [Nat.zero_add] at h2 h4
      refine ⟨hl, h2, xs, by omega, h4, by omega, ?_⟩
      have hk : knd P t = .strct := by simp [knd, hu]
      rw [hk]
      intro f off ty hfl
      simp only [fld, hu, Option.map_eq_some_iff, Prod.mk.injEq] at hfl
      obtain ⟨fi, h6, rfl, rfl⟩ := hfl
      have := (h5 (fi.offset, fi.type) (List.mem_map.2 ⟨fi, by simpa using Array.mem_of_getElem? h6, rfl⟩)).2
      simpa using this
    · rename_i m e hu
      simp only [Bool.and_eq_true] at h
      obtain ⟨hp, hc⟩ := h
      obtain ⟨xs0, q, _, _, hlen, hxl, hf⟩ := DataW.trod_array hu ht
      have hl : cs.length = tsz P t := hlen
      rw [← hl] at hc
      obtain ⟨_, h2, xs, h3, h4, h5⟩ := assemble (β := β) (fun fuel t cs x => trod_typed n fuel t cs x) _ 0 hc (fun p hp' => by
        obtain ⟨i, hi, rfl⟩ := List.mem_map.1 hp'
        have hi' : i < m := by simpa using hi
        refine ⟨hp, q, xs0[i], ?_⟩
        rw [← List.getElem?_eq_getElem (by omega)]
        exact hf i hi')
      simp only [Nat.zero_add] at h2 h4
      refine ⟨hl, h2, xs, by omega, h4, by omega, ?_⟩
      have hk : knd P t = .arr m e := by simp [knd, hu]
      rw [hk]
      intro i hi
      have := (h5 (i * tsz P e, e) (List.mem_map.2 ⟨i, by simpa using hi, rfl⟩)).2
      simpa using this
    · cases h

/-- Arguments of types. -/
def TyArgs (P : Program) (n : Nat) : List TypeId → List V → Prop
  | [], [] => True
  | t :: ts, v :: vs => (∃ xs, v = elV P t xs ∧ HasL P n t xs) ∧ TyArgs P n ts vs
  | _, _ => False

theorem okWide_shape {n : Nat} {t : TypeId} {v : Value} {r : Reach} {base : Nat} (hp : plainT P n t = true) (h : Value.okWide P w r base t v) : (tagg P t = true → ∃ us, v = .agg us) ∧ (tagg P t = false → v.cells = #[v]) := by
  cases n with
  | zero => simp [plainT] at hp
  | succ n =>
    unfold plainT at hp
    have cell : (∀ cs, P.underlying t ≠ some (.struct cs)) → (∀ m e, P.underlying t ≠ some (.array m e)) → (P.underlying t = some .bool ∨ (∃ k, P.underlying t = some (.int k)) ∨ P.underlying t = some .string ∨ ∃ e, P.underlying t = some (.slice e)) →
        (tagg P t = true → ∃ us, v = .agg us) ∧ (tagg P t = false → v.cells = #[v]) := by
      rintro _ _ (hu | ⟨k, hu⟩ | hu | ⟨e, hu⟩)
      all_goals
        have htg : tagg P t = false := by simp [tagg, hu]
        refine ⟨fun h1 => (by rw [htg] at h1; cases h1), fun _ => ?_⟩
        unfold Value.okWide at h
        rw [hu] at h
        unfold Cell.okWide at h
        rw [hu] at h
        cases v <;> first | rfl | (simp [Cell.ok, hu] at h)
    have agg : (∃ us, v = .agg us) → tagg P t = true → (tagg P t = true → ∃ us, v = .agg us) ∧ (tagg P t = false → v.cells = #[v]) := fun h1 h2 => ⟨fun _ => h1, fun h3 => by rw [h2] at h3; cases h3⟩
    split at hp
    · rename_i hu; exact cell (by simp [hu]) (by simp [hu]) (.inl hu)
    · rename_i k hu; exact cell (by simp [hu]) (by simp [hu]) (.inr (.inl ⟨k, hu⟩))
    · rename_i hu; exact cell (by simp [hu]) (by simp [hu]) (.inr (.inr (.inl hu)))
    · rename_i e hu; exact cell (by simp [hu]) (by simp [hu]) (.inr (.inr (.inr ⟨e, hu⟩)))
    · rename_i fs hu
      unfold Value.okWide at h
      rw [hu] at h
      obtain ⟨cs, rfl, _⟩ := h
      exact agg ⟨cs, rfl⟩ (by simp [tagg, hu])
    · rename_i m e hu
      unfold Value.okWide at h
      rw [hu] at h
      obtain ⟨cs, rfl, _⟩ := h
      exact agg ⟨cs, rfl⟩ (by simp [tagg, hu])
    · cases hp

theorem args_typed {β : Beta} {n : Nat} {r : Reach} {base : Nat} : ∀ (ts : List TypeId) (args : List Value) (ds : List (DataW H)) (ps : List MemPlace), (∀ t, t ∈ ts → plainT P n t = true) → (∀ (j : Nat) (t : TypeId) (v : Value), ts[j]? = some t → args[j]? = some v → Value.okWide P w r base t v) →
    DataW.TrodAll enc P w 0 spare held ts args ds ps → ∃ vs : List V, vs.length = args.length ∧ args.length = ts.length ∧ ds.length = ts.length ∧ (∀ (i : Nat) (v : V) (u : Value), vs[i]? = some v → args[i]? = some u → Rep β w (FzAll w) v u) ∧ TyArgs P n ts vs
  | [], [], [], _, _, _, _ => ⟨[], rfl, rfl, rfl, fun i v u h => by simp at h, trivial⟩
  | t :: ts, u :: args, d :: ds, ps, hp, ho, h => by
    obtain ⟨p, q, ⟨fuel, h1⟩, h2, _⟩ := h
    have hpt := hp t (by simp)
    obtain ⟨g1, g2, xs, g3, g4, g5⟩ := trod_typed (β := β) n fuel t _ _ hpt h1
    obtain ⟨k1, k2⟩ := okWide_shape hpt (ho 0 t u rfl rfl)
    obtain ⟨vs, m1, m2, m3, m4, m5⟩ := args_typed ts args ds q (fun t ht => hp t (by simp [ht])) (fun j t v h3 h4 => ho (j + 1) t v (by simpa using h3) (by simpa using h4)) h2
    refine ⟨elV P t xs :: vs, by simp [m1], by simp [m2], by simp [m3], ?_, ⟨xs, rfl, g5⟩, m5⟩
    intro i v u' hv hu
    cases i with
    | succ i => exact m4 i v u' (by simpa using hv) (by simpa using hu)
    | zero =>
      simp at hv hu
      subst hv hu
      unfold elV
      by_cases ht : tagg P t = true
      · rw [if_pos ht]
        obtain ⟨us, rfl⟩ := k1 ht
        simp only [Value.cells] at g1 g2 g3 g4
        refine .agg xs us (by simpa using g3.symm) (fun i hi => ?_) (fun i c hc => ?_)
        · have hi' : i < us.size := by simpa [g3] using hi
          have := g2 i us[i] (by simp [hi'])
          simpa [hi'] using this
        · have hi' : i < us.size := by have := (List.getElem?_eq_some_iff.1 hc).1; simpa [g3] using this
          have := (g4 i us[i] c (by simp [hi']) hc).1
          simpa [hi'] using this
      · rw [if_neg ht]
        have hc := k2 (by simpa using ht)
        rw [hc] at g1 g2 g3 g4
        have hl : xs.length = 1 := by simpa using g3
        match xs, hl with
        | [x], _ => exact (g4 0 u x (by simp) (by simp)).1
  | [], _ :: _, _, _, _, _, h => by simp [DataW.TrodAll] at h
  | [], [], _ :: _, _, _, _, h => by simp [DataW.TrodAll] at h
  | _ :: _, [], _, _, _, _, h => by simp [DataW.TrodAll] at h
  | _ :: _, _ :: _, [], _, _, _, h => by simp [DataW.TrodAll] at h

theorem trodAll_below (hl : laidOutB P = true) {W W' : World} (hb : Below W.heap.size W W') : ∀ {ts : List TypeId} {vs : List Value} {ds : List (DataW H)} {ps : List MemPlace} {sp : Nat → Bool}, (∀ t, t ∈ ts → P.readableRec t = true ∧ t < P.types.size) → (∀ x ∈ ps, x.block < W.heap.size ∧ sp x.block = true) →
    DataW.TrodAll enc P W 0 (fun _ => true) true ts vs ds ps → DataW.TrodAll enc P W' 0 sp true ts vs ds ps
  | [], [], [], _, _, _, _, h => h
  | t :: ts, v :: vs, d :: ds, ps, sp, ht, hp, h => by
    obtain ⟨p, q, h1, h2, rfl⟩ := h
    obtain ⟨g1, g2⟩ := ht t (by simp)
    exact ⟨p, q, WideElems.Trod_stays hl g1 g2 h1 (fun x hx => hb.same (hp x (by simp [hx])).1) (fun x hx => (hp x (by simp [hx])).2), trodAll_below hl hb (fun t ht' => ht t (by simp [ht'])) (fun x hx => hp x (by simp [hx])) h2, rfl⟩
  | [], _ :: _, _, _, _, _, _, h => by simp [DataW.TrodAll] at h
  | [], [], _ :: _, _, _, _, _, h => by simp [DataW.TrodAll] at h
  | _ :: _, [], _, _, _, _, _, h => by simp [DataW.TrodAll] at h
  | _ :: _, _ :: _, [], _, _, _, _, h => by simp [DataW.TrodAll] at h

/-- No table of the library's is named. -/
theorem gl_none (h : (tabNames.all fun x => (P.globalNamed x.1).isNone) = true) {β : Beta} {w : World} {F : Nat → Prop} : GlOk P β w F := by
  intro g
  have : glV P g = .unk := by
    unfold glV
    rw [show (tabNames.find? fun x => decide (P.globalNamed x.1 = some g)) = none from List.find?_eq_none.2 fun x hx => by
      have := List.all_eq_true.1 h x hx
      cases hg : P.globalNamed x.1 with
      | none => simp
      | some y => rw [hg] at this; cases this]
  rw [this]
  exact ⟨.unk _, fun vs h => by cases h⟩

/-- A law that answers true: what its row asks of a call. -/
theorem law_contract {f : FuncId} {fn : Func} {s : ChangeSpec} {apart fresh handsOn again : Bool} {W : World} {args : Array Value} {ds gs : List (DataW H)} {before : List MemPlace} {base : Nat} {r : Reach} (n : Nat) {tb : TypeId}
    (hl : laidOutB P = true) (hts : (fn.params.toList.all fun t => plainT P n t && P.readableRec t && decide (t < P.types.size)) = true) (hv : s.vars = [])
    (hfn : ∀ ds : List (DataW H), ds.length = fn.params.toList.length → s.fn H (ds ++ []) = { results := [.lit (.bool true)], args := ds }) (hrt : fn.resultTypes = #[tb]) (htb : P.underlying tb = some .bool)
    (hval : ∀ (j : Nat) t v, fn.params[j]? = some t → args[j]? = some v → Value.okWide P W r base t v)
    (hW : DataW.Whole enc P fn.params.toList s.vars apart W args.toList ds gs before)
    (hgl : GlOk P (fun _ => none) W (FzAll W))
    (hc : ∀ vs : List V, TyArgs P n fn.params.toList vs → AbsCall P f vs (fun _ => none) fun r _ => r = .bool true) :
    Calls P f args W fun e W' => ∃ v, e = .returned v ∧ s.post enc P fn apart fresh handsOn again W args v W' := by
  have hW0 := hW
  obtain ⟨p, q, hA, hV, hpq, hfz, hnd⟩ := hW
  rw [hv] at hV
  have hgs : gs = [] ∧ q = [] := by
    cases gs with
    | nil => exact ⟨rfl, hV⟩
    | cons => simp [DataW.TrodVars] at hV
  obtain ⟨rfl, rfl⟩ := hgs
  rw [List.append_nil] at hpq
  subst hpq
  have hts' : ∀ t, t ∈ fn.params.toList → plainT P n t = true ∧ P.readableRec t = true ∧ t < P.types.size := by
    intro t ht
    have := List.all_eq_true.1 hts t ht
    simpa [Bool.and_eq_true, and_assoc] using this
  obtain ⟨vs, h1, h2, h3, h4, h5⟩ := args_typed (β := fun _ => none) (n := n) (r := r) (base := base) fn.params.toList args.toList ds before (fun t ht => (hts' t ht).1) (fun j t v a b => hval j t v (by simpa using a) (by simpa using b)) hA
  let M : Off := ⟨fun _ => none, W.heap.size⟩
  have hok : WOk (fun _ => none) M (fun _ => none) W := ⟨⟨0, fun _ _ => rfl⟩, fun k o h => (by cases h), fun b box h => (by cases h), fun b b' k h => absurd rfl h⟩
  have hF : ∀ k, Fz (fun _ => none) M (fun _ => none) W k ↔ FzAll W k := fun k => ⟨fun h => h.1, fun h => ⟨h, rfl, fun b hb => absurd rfl hb⟩⟩
  have hlt := hA.lt
  refine ((hc vs h5).2 (fun _ => none) M W args hok (hgl.imp fun _ _ hh => hh.mono (fun _ _ h => h) (fun k hk => ⟨(hF k).2 hk, rfl⟩) (fun _ _ h => h)) (by simpa using h1.symm) (fun i c hi => ?_)).mono ?_
  · have hi' : i < args.size := by have := (List.getElem?_eq_some_iff.1 hi).1; simpa [h1] using this
    have := h4 i c args[i] hi (by simp [hi'])
    have := this.mono (β' := fun _ => none) (w' := W) (F' := Fz (fun _ => none) M (fun _ => none) W) (fun _ _ h => h) (fun k hk => ⟨(hF k).2 hk, rfl⟩) (fun _ _ h => h)
    simpa [hi'] using this
  · rintro e W' ⟨v, r', bx', β', rfl, rfl, hok', htr, hrep⟩
    cases hrep
    have hb : Below W.heap.size W W' := ⟨htr.os, htr.tape, htr.output, htr.size, fun k hk => htr.keep k hk fun b hb => absurd rfl hb⟩
    refine ⟨_, rfl, ds, [], before, [], before, [], hW0, ?_, ?_, ?_, hb.frame _, fun _ => ?_⟩
    · rw [hfn ds h3, hrt]
      exact trodAll_cons_mk (⟨1, by simp [DataW.trod, Value.cells, htb]⟩ : DataW.Trod enc P _ _ _ _ _ (.bool true) (.lit (.bool true)) []) trodAll_mk0
    · rw [hfn ds h3]
      exact trodAll_below hl hb (fun t ht => (hts' t ht).2) (fun x hx => ⟨hlt x hx, by simpa using hlt x hx⟩) hA
    · rw [hv]
      have : (s.fn H (ds ++ [])).vars = [] := by rw [hfn ds h3]
      rw [this]; rfl
    · refine ⟨RowKit.ok_one hrt rfl (RowKit.okWide_bool_mk htb _), _, [], [] ++ before, ⟨[] ++ before, [], trodAll_append (trodAll_below hl hb (fun t ht => (hts' t ht).2) (fun x hx => ⟨hlt x hx, rfl⟩) hA) (ds := [.lit (.bool true)]) (p := []) ?_, ?_, by simp, ?_, ?_⟩, ?_⟩
      · rw [hrt]; exact trodAll_cons_mk (⟨1, by simp [DataW.trod, Value.cells, htb]⟩ : DataW.Trod enc P _ _ _ _ _ (.bool true) (.lit (.bool true)) []) trodAll_mk0
      · rw [hv]; rfl
      · intro b off hp
        have hp' : MemPlace.cell b off ∈ before := by simpa using hp
        rw [hb.frozen (p := ⟨b, off, none⟩) (hlt _ hp')]
        exact hfz b off hp'
      · intro ha; simpa using hnd ha
      · intro p hp _; simpa using hp

theorem HasL.int {n : Nat} {t : TypeId} {k : IntKind} {xs : List V} (hk : knd P t = .int k) (h : HasL P n t xs) : ∃ i, xs = [.int k i] ∧ (Lit.int k i).wf = true := by
  cases n with
  | zero => exact h.elim
  | succ n => obtain ⟨_, h⟩ := h; rw [hk] at h; exact h
theorem HasL.bool {n : Nat} {t : TypeId} {xs : List V} (hk : knd P t = .bool) (h : HasL P n t xs) : ∃ b, xs = [.bool b] := by
  cases n with
  | zero => exact h.elim
  | succ n => obtain ⟨_, h⟩ := h; rw [hk] at h; exact h
theorem HasL.str {n : Nat} {t : TypeId} {xs : List V} (hk : knd P t = .str) (h : HasL P n t xs) : ∃ s, xs = [.str s] ∧ s.length ≤ maxLen := by
  cases n with
  | zero => exact h.elim
  | succ n => obtain ⟨_, h⟩ := h; rw [hk] at h; exact h
theorem HasL.slice {α : Type} {r : α → V} {n : Nat} {t e : TypeId} {xs : List V} (hk : knd P t = .slice e) (h : HasL P (n + 1) t xs) (he : ∀ ys, HasL P n e ys → ∃ a, elV P e ys = r a) : ∃ l : List α, xs = [.sl (tsz P e) (l.map r)] ∧ l.length ≤ maxLen := by
  obtain ⟨_, h⟩ := h
  rw [hk] at h
  obtain ⟨es, rfl, hlen, h⟩ := h
  have : ∀ es : List V, (∀ v, v ∈ es → ∃ ys, v = elV P e ys ∧ HasL P n e ys) → ∃ l : List α, es = l.map r := by
    intro es
    induction es with
    | nil => intro _; exact ⟨[], rfl⟩
    | cons v es ih =>
      intro h
      obtain ⟨l, rfl⟩ := ih fun v hv => h v (by simp [hv])
      obtain ⟨ys, rfl, h2⟩ := h v (by simp)
      obtain ⟨a, ha⟩ := he ys h2
      exact ⟨a :: l, by simp [ha]⟩
  obtain ⟨l, rfl⟩ := this es h
  exact ⟨l, rfl, by simpa using hlen⟩
theorem HasL.fld {n : Nat} {t ty : TypeId} {f off : Nat} {xs : List V} (hk : knd P t = .strct) (h : HasL P (n + 1) t xs) (hf : Go.Pl.fld P t f = some (off, ty)) : HasL P n ty ((xs.drop off).take (tsz P ty)) := by
  obtain ⟨_, h⟩ := h
  rw [hk] at h
  exact h f off ty hf
theorem HasL.len {n : Nat} {t : TypeId} {xs : List V} (h : HasL P n t xs) : xs.length = tsz P t := by
  cases n with
  | zero => exact h.elim
  | succ n => exact h.1
theorem HasL.arr {n m i : Nat} {t e : TypeId} {xs : List V} (hk : knd P t = .arr m e) (h : HasL P (n + 1) t xs) (hi : i < m) : HasL P n e ((xs.drop (i * tsz P e)).take (tsz P e)) := by
  obtain ⟨_, h⟩ := h
  rw [hk] at h
  exact h i hi

theorem len1 {α : Type} {l : List α} (h : l.length = 1) : ∃ a, l = [a] := by
  match l, h with
  | [a], _ => exact ⟨a, rfl⟩
theorem len2 {α : Type} {l : List α} (h : l.length = 2) : ∃ a b, l = [a, b] := by
  match l, h with
  | [a, b], _ => exact ⟨a, b, rfl⟩
theorem len3 {α : Type} {l : List α} (h : l.length = 3) : ∃ a b c, l = [a, b, c] := by
  match l, h with
  | [a, b, c], _ => exact ⟨a, b, c, rfl⟩
theorem len4 {α : Type} {l : List α} (h : l.length = 4) : ∃ a b c d, l = [a, b, c, d] := by
  match l, h with
  | [a, b, c, d], _ => exact ⟨a, b, c, d, rfl⟩
theorem tyArgs1 {n : Nat} {t : TypeId} {vs : List V} (h : TyArgs P n [t] vs) : ∃ xs, vs = [elV P t xs] ∧ HasL P n t xs := by
  match vs, h with
  | [a], ⟨⟨xs, h1, h2⟩, _⟩ => exact ⟨xs, by rw [h1], h2⟩
theorem tyArgs2 {n : Nat} {t u : TypeId} {vs : List V} (h : TyArgs P n [t, u] vs) : ∃ xs ys, vs = [elV P t xs, elV P u ys] ∧ HasL P n t xs ∧ HasL P n u ys := by
  match vs, h with
  | [a, b], ⟨⟨xs, h1, h2⟩, ⟨ys, h3, h4⟩, _⟩ => exact ⟨xs, ys, by rw [h1, h3], h2, h4⟩
theorem tyArgs3 {n : Nat} {t u s : TypeId} {vs : List V} (h : TyArgs P n [t, u, s] vs) : ∃ xs ys zs, vs = [elV P t xs, elV P u ys, elV P s zs] ∧ HasL P n t xs ∧ HasL P n u ys ∧ HasL P n s zs := by
  match vs, h with
  | [a, b, c], ⟨⟨xs, h1, h2⟩, ⟨ys, h3, h4⟩, ⟨zs, h5, h6⟩, _⟩ => exact ⟨xs, ys, zs, by rw [h1, h3, h5], h2, h4, h6⟩
theorem tyArgs4 {n : Nat} {t u s r : TypeId} {vs : List V} (h : TyArgs P n [t, u, s, r] vs) : ∃ xs ys zs ws, vs = [elV P t xs, elV P u ys, elV P s zs, elV P r ws] ∧ HasL P n t xs ∧ HasL P n u ys ∧ HasL P n s zs ∧ HasL P n r ws := by
  match vs, h with
  | [a, b, c, d], ⟨⟨xs, h1, h2⟩, ⟨ys, h3, h4⟩, ⟨zs, h5, h6⟩, ⟨ws, h7, h8⟩, _⟩ => exact ⟨xs, ys, zs, ws, by rw [h1, h3, h5, h7], h2, h4, h6, h8⟩
theorem elV_one {t : TypeId} {v : V} (h : tagg P t = false) : elV P t [v] = v := by simp [elV, h]
theorem elV_agg {t : TypeId} {xs : List V} (h : tagg P t = true) : elV P t xs = .agg xs := by simp [elV, h]
end
end Go.Pl

/- Decimal numerals by the kit's shelf, as contracts of this logic. -/
set_option linter.unusedVariables false
set_option linter.unusedSimpArgs false
namespace Go.Pl
open Go Go.RowKit

def bytesV (l : List UInt8) : List V := l.map fun b => .int .u8 b.toNat

section
variable {P : Program}

theorem cell_at {w : World} {g j : Nat} {cur : Array Value} {ty : TypeId} {fr : Nat × Nat} (hh : w.heap[g]? = some (.cells cur ty fr)) : w.cell? ((⟨g, 0, none⟩ : Addr).add j) = cur[j]? := by
  have e : (⟨g, 0, none⟩ : Addr).add j = ⟨g, j, none⟩ := by
    unfold Addr.add
    by_cases h : j = 0
    · simp [h]
    · simp [h]
  rw [e]
  simp [World.cell?, hh]

theorem tab_is {β : Beta} {w : World} {F : Nat → Prop} (h : GlOk P β w F) {g : Nat} (hg : P.globalNamed "internal/strconv.uint64pow10" = some g) : Lib.TabIs P w "internal/strconv.uint64pow10" .u64 Lib.pow10Tab := by
  have hv : glV P g = .ep (.agg ((List.range 20).map fun i => .int .u64 ((10 ^ i : Nat) : Int))) 0 := by
    unfold glV tabNames
    rw [List.find?_cons_of_pos (by simpa using hg)]
  obtain ⟨h1, h2⟩ := h g
  obtain ⟨b, h3⟩ := h2 _ hv
  rw [hv] at h1
  simp only [List.length_map, List.length_range] at h3
  generalize hu : Value.slice (some ⟨g, 0, none⟩) 20 20 = u at h3
  cases h3 with
  | own _ _ _ _ k cap m ty hβ hs hm hn hmax =>
    injection hu with e1 e2 e3
    injection e1 with e1
    injection e1 with e1
    subst e1 e3
    generalize hp : Value.pointer (some ⟨g, 0, none⟩) = p at h1
    cases h1 with
    | ep e o a u hc hr =>
      injection hp with hp
      injection hp with hp
      have ha : a = ⟨g, 0, none⟩ := by
        rw [hp]
        unfold Addr.add
        obtain ⟨ab, ao, av⟩ := a
        cases av <;> simp
      subst ha
      simp only [V.cells] at hc hr
      -- the block
      unfold World.shape? at hs
      unfold Lib.TabIs World.var?
      rw [hg]
      simp only [Option.bind_some]
      cases hh : w.heap[g]? with
      | none => rw [hh] at hs; cases hs
      | some o =>
        rw [hh] at hs
        cases o with
        | cells cur ty' fr =>
          simp only [Option.some.injEq, Prod.mk.injEq] at hs ⊢
          obtain ⟨_, hsz⟩ := hs
          have hsz : cur.size = 20 := by omega
          have hl : Lib.pow10Tab.length = 20 := Lib.pow10Tab_length
          apply Array.ext
          · simp [hsz, hl]
          · intro j h1 h2
            have hj : j < 20 := by omega
            have hcj : ((List.range 20).map fun i => V.int .u64 ((10 ^ i : Nat) : Int))[j]? = some (.int .u64 ((10 ^ j : Nat) : Int)) := by
              simp [hj]
            obtain ⟨a', ha', _, hcell, _⟩ := hc j _ hcj
            injection ha' with ha'
            subst ha'
            have hrj := (hr j _ hcj).int_inv
            rw [hrj] at hcell
            have hcur : cur[j]? = some (.int .u64 ((10 ^ j : Nat) : Int)) := by
              rw [cell_at hh] at hcell
              exact hcell
            have : cur[j] = .int .u64 ((10 ^ j : Nat) : Int) := by
              rw [Array.getElem?_eq_getElem h1] at hcur
              exact Option.some.inj hcur
            rw [this]
            simp [Lib.pow10Tab]
        | _ => simp at hs

theorem appendInt_pure {ρ : Go.Shelf.Ren} (L : Go.Proofs.LaysM.n176 P ρ) (hent : ∀ vs w, (callFunc (ρ.f 176) vs).run P w = .ok (.enter (ρ.f 176) vs) w) {g : Nat} (hg : P.globalNamed "internal/strconv.uint64pow10" = some g)
    {bx : Boxes} (hm : Mk bx) (i : Int) (h0 : -9223372036854775808 ≤ i) (h1 : i ≤ 9223372036854775807) : PureCall P (ρ.f 176) [.nils, .int .i64 i, .int .i64 10] bx (.sl 1 (bytesV (Lib.itoa i))) := by
  refine ⟨hent, fun β M w vs hok hgl hvs hrep => ?_⟩
  have e0 : vs.getD 0 undef = .slice none 0 0 := by have := hrep 0 _ rfl; generalize vs.getD 0 undef = u at this; cases this; rfl
  have e1 : vs.getD 1 undef = .int .i64 i := (hrep 1 _ rfl).int_inv
  have e2 : vs.getD 2 undef = .int .i64 10 := (hrep 2 _ rfl).int_inv
  have hv : vs = #[.slice none 0 0, .int .i64 i, .int .i64 10] := by
    apply Array.ext
    · simpa using hvs
    · intro j g1 g2
      simp at hvs
      have : j = 0 ∨ j = 1 ∨ j = 2 := by omega
      rcases this with rfl | rfl | rfl
      · rw [← e0]; simp [g1]
      · rw [← e1]; simp [g1]
      · rw [← e2]; simp [g1]
  subst hv
  have hlen := Lib.itoa_length_le i h0 h1
  refine (Go.Proofs.Any.strconv_AppendInt_10 L w.heap.size 0 i h0 h1 (.slice none 0 0) [] w ⟨rfl, .inl ⟨rfl, rfl⟩⟩ (Nat.le_refl _) (by decide) (Lib.tabBelow_of_tabIs (tab_is hgl hg))).mono ?_
  rintro e w' ⟨v', rfl, hown, hb, _⟩
  have hsz := hb.size
  have hk : ∀ k, k < w.heap.size → w'.heap[k]? = w.heap[k]? := hb.block
  have hok' : WOk β M bx w' := hok.grown hsz hok.fin (fun _ _ h => h) hk
  have htr : Tr β bx w β bx w' := by
    have := Tr.grown hok (w' := { w' with drawn := w.drawn }) hb.os hb.tape hb.output (Nat.le_refl _) hsz (fun _ _ h => h) hk
    exact ⟨this.os, this.tape, this.output, fun hn => absurd hm hn, this.nomk, this.size, this.keep, this.shape, this.ext, this.news⟩
  refine ⟨v', _, bx, β, rfl, ⟨rfl, rfl⟩, hok', htr, ?_⟩
  obtain ⟨hxl, h2 | ⟨gb, cap, cur, rfl, hge, hcell, hcap, hmax, hcs, htake⟩⟩ := hown
  · obtain ⟨rfl, h2⟩ := h2
    have : Lib.itoa i = [] := List.eq_nil_of_length_eq_zero (by omega)
    rw [this]
    have := Rep.sl (β := β) (w := w') (F := Fz β M bx w') 1 [] none 0 (fun _ => undef) (Nat.le_refl _) (Nat.zero_le _) (fun h => absurd rfl h) (fun e h => by cases h) (fun i e j c h => by simp at h) (fun i e j c h => by simp at h)
    simpa [bytesV] using this
  · have hn : (Lib.itoa i).length = (bytesV (Lib.itoa i)).length := by simp [bytesV]
    have hlt : gb < w'.heap.size := by
      rcases Nat.lt_or_ge gb w'.heap.size with h | h
      · exact h
      · rw [Array.getElem?_eq_none h] at hcell; cases hcell
    have hfz : Fz β M bx w' gb := ⟨hlt, hok.mnone hge, fun b hb' he => by
      obtain ⟨box, hbox⟩ := Option.ne_none_iff_exists'.1 hb'
      rcases hok.live b box hbox with ⟨h3, _⟩ | ⟨k', h3, h4, _⟩
      · rw [h3] at he; cases he
      · rw [h3] at he; injection he with he; injection he with he; omega⟩
    have hcur : ∀ j, (h : j < (Lib.itoa i).length) → cur[j]? = some (.int .u8 ((Lib.itoa i)[j]).toNat) := by
      intro j hj
      have e3 : cur.toList[j]? = ([] ++ Lib.byteCells (Lib.itoa i))[j]? := by
        rw [← htake, List.getElem?_take]; rw [if_pos (by omega)]
      rw [← Array.getElem?_toList, e3]
      simp [Lib.byteCells, hj]
    rw [Nat.zero_add, hn]
    refine Rep.sl 1 (bytesV (Lib.itoa i)) _ cap (fun j => cur.getD j undef) (by omega) hmax (fun _ h => by cases h) (fun e he => ?_) (fun q e j c he hc => ?_) (fun q e j c he hc => ?_)
    · simp only [bytesV, List.mem_map] at he
      obtain ⟨x, _, rfl⟩ := he
      rfl
    · simp only [bytesV, List.getElem?_map, Option.map_eq_some_iff] at he
      obtain ⟨x, hx, rfl⟩ := he
      obtain ⟨hq, hx⟩ := List.getElem?_eq_some_iff.1 hx
      have hj : j = 0 := by rcases j with _ | j; rfl; simp [V.cells] at hc
      subst hj
      have := hcur q hq
      refine ⟨_, rfl, hfz, ?_, ?_⟩
      · rw [cell_at hcell]; simp [this]
      · simp [this, Value.oneCell']
    · simp only [bytesV, List.getElem?_map, Option.map_eq_some_iff] at he
      obtain ⟨x, hx, rfl⟩ := he
      obtain ⟨hq, hx⟩ := List.getElem?_eq_some_iff.1 hx
      have hj : j = 0 := by rcases j with _ | j; rfl; simp [V.cells] at hc
      subst hj
      simp [V.cells] at hc
      subst hc
      have := hcur q hq
      simp only [Nat.mul_one, Nat.add_zero, Array.getD_eq_getD_getElem?, this, Option.getD_some, hx]
      exact .int _ _
end
end Go.Pl

/- Rings of hashes, as plain functions. -/
namespace Go.Hs
open Go Go.Pl

abbrev Bs := List UInt8
structure Pt where
  h : Int
  b : Int
  deriving DecidableEq, Inhabited
structure Rg where
  names : List Bs
  wts : List Int
  nodes : Int
  pts : List Pt
  deriving DecidableEq, Inhabited

def step32 (h : Int) (c : UInt8) : Int := IntKind.u32.wrap (bits .xor .u32 h (c.toNat : Int) * 16777619)
def step64 (h : Int) (c : UInt8) : Int := IntKind.u64.wrap (bits .xor .u64 h (c.toNat : Int) * 1099511628211)
def on32 (h : Int) (b : Bs) : Int := b.foldl step32 h
def on64 (h : Int) (b : Bs) : Int := b.foldl step64 h
def sum32 (b : Bs) : Int := on32 2166136261 b
def sum64 (b : Bs) : Int := on64 14695981039346656037 b

def cmpI (x y : Int) : Int := if x < y then -1 else if y < x then 1 else 0
def badC (c : UInt8) : Bool := decide ((c.toNat : Int) < 33) || decide (126 < (c.toNat : Int))
def badN (s : Bs) : Bool := decide (s.length < 1 ∨ 32 < s.length) || s.any badC
def badW (w : Int) : Bool := decide (w < 0) || decide (20 < w)
def wsum (ws : List Int) (nodes : Int) : Int := (ws.map fun w => w * nodes).sum
def wrong (names : List Bs) (wts : List Int) (nodes : Int) : Int :=
  if names.length < 1 ∨ 16 < names.length then 3 else
  if wts.length ≠ names.length then 2 else
  if nodes < 1 ∨ 100 < nodes then 7 else
  if wts.any badW = true then 7 else
  if names.any badN = true then 6 else
  if ¬ names.Nodup then 8 else
  if 4096 < wsum wts nodes then 3 else 0

def tagS (s : Bs) : Bs := s ++ [35]
/-- The points of one backend. -/
def ptsOf (s : Bs) (m : Nat) (i : Nat) : List Pt := (List.range m).map fun n => ⟨sum32 (tagS s ++ Lib.decDigits n), i⟩
/-- All points, backend by backend: of the first k backends. -/
def raw (names : List Bs) (wts : List Int) (nodes : Int) : Nat → List Pt
  | 0 => []
  | k + 1 => raw names wts nodes k ++ ptsOf (names.getD k []) (wts.getD k 0 * nodes).toNat k

def ple (a b : Pt) : Bool := decide (a.h < b.h) || (decide (a.h = b.h) && decide (a.b ≤ b.b))
def srt (l : List Pt) : List Pt := l.mergeSort ple
def none_ : Rg := ⟨[], [], 0, []⟩
def ring (names : List Bs) (wts : List Int) (nodes : Int) : Rg × Int :=
  if wrong names wts nodes = 0 then (⟨names, wts, nodes, srt (raw names wts nodes names.length)⟩, 0) else (none_, wrong names wts nodes)
def check (r : Rg) : Int :=
  let (x, e) := ring r.names r.wts r.nodes
  if e = 0 ∧ x.pts ≠ r.pts then 6 else e
def weigh (r : Rg) (b w : Int) : Rg × Int :=
  if check r ≠ 0 then (none_, check r) else
  if b < 0 ∨ r.names.length ≤ b then (none_, 2) else
  ring r.names (r.wts.set b.toNat w) r.nodes
/-- The point that a hash finds. -/
def first (r : Rg) (h : Int) : Nat := match r.pts.findIdx? fun p => decide (h ≤ p.h) with
  | some i => i
  | none => 0
def asked (r : Rg) (key : Bs) : Int :=
  if check r ≠ 0 then check r else if 200 < key.length then 3 else if r.pts.length = 0 then 4 else 0
def backAt (r : Rg) (i : Nat) : Int := (r.pts.getD i ⟨0, 0⟩).b
def find (r : Rg) (key : Bs) : Int × Int :=
  if asked r key ≠ 0 then (0, asked r key) else (backAt r (first r (sum32 key)), 0)
/-- Each once, in the order of the first. -/
def uniq : List Int → List Int → List Int
  | out, [] => out
  | out, x :: l => uniq (if x ∈ out then out else out ++ [x]) l
def order (r : Rg) (key : Bs) : List Int × Int :=
  if asked r key ≠ 0 then ([], asked r key) else
  (uniq [] ((r.pts.drop (first r (sum32 key)) ++ r.pts.take (first r (sum32 key))).map (·.b)), 0)
def movedAt (a b : Rg) (k : Bs) : Bool := decide (backAt a (first a (sum32 k)) ≠ backAt b (first b (sum32 k)))
def movedE (a b : Rg) (keys : List Bs) : Int :=
  if check a ≠ 0 then check a else if check b ≠ 0 then check b else if 1000 < keys.length then 3 else
  if keys.any (fun k => decide (200 < k.length)) = true then 3 else
  if a.pts.length = 0 ∨ b.pts.length = 0 then 4 else 0
def movedL (a b : Rg) (keys : List Bs) (k : Nat) : List Nat := (List.range k).filter fun i => movedAt a b (keys.getD i [])
def moved (a b : Rg) (keys : List Bs) : List Nat × Int := if movedE a b keys ≠ 0 then ([], movedE a b keys) else (movedL a b keys keys.length, 0)
def addAt (l : List Int) (i : Int) (x : Int) : List Int := l.set i.toNat (IntKind.u64.wrap (l.getD i.toNat 0 + x))
def shareStep (s : List Int × Int) (p : Pt) : List Int × Int := if s.2 < p.h + 1 then (addAt s.1 p.b (p.h + 1 - s.2), p.h + 1) else s
def shares (r : Rg) : List Int × Int :=
  if asked r [] ≠ 0 then ([], asked r []) else
  let s := r.pts.foldl shareStep (List.replicate r.names.length 0, 0)
  (addAt s.1 (backAt r 0) (4294967296 - s.2), 0)

/-! The values that stand for them -/
def ptV (p : Pt) : V := .agg [.int .u32 p.h, .int .i64 p.b]
def strsV (l : List Bs) : V := .sl 1 (l.map .str)
def intsV (l : List Int) : V := .sl 1 (l.map (.int .i64))
def natsV (l : List Nat) : V := .sl 1 (l.map fun (n : Nat) => .int .i64 (n : Int))
def u64sV (l : List Int) : V := .sl 1 (l.map (.int .u64))
def ptsV (l : List Pt) : V := .sl 2 (l.map ptV)
def rgV (r : Rg) : V := .agg [strsV r.names, intsV r.wts, .int .i64 r.nodes, ptsV r.pts]
end Go.Hs

/- Sorts of the kit's shelf, as contracts of this logic. -/
set_option linter.unusedVariables false
set_option linter.unusedSimpArgs false
namespace Go.Pl
open Go
section
variable {P : Program} {α : Type} [Inhabited α]

/-- How an element is laid in cells, and how it is read. -/
structure EncOk (enc : α → List Value) (encV : α → V) (k : Nat) : Prop where
  len : ∀ x, (enc x).length = k
  vlen : ∀ x, (encV x).cells.length = k
  one : ∀ x v, v ∈ enc x → v.oneCell' = true
  rep : ∀ x (j : Nat) (c : V), (encV x).cells[j]? = some c → ∀ β w F, Rep β w F c ((enc x)[j]!)
  inv : ∀ x (j : Nat) (c : V), (encV x).cells[j]? = some c → ∀ β w F u, Rep β w F c u → u = (enc x)[j]!

theorem div_at {d k t : Nat} (h : t < d * k) : t / k < d ∧ t % k < k ∧ t / k * k + t % k = t := by
  have hk : 0 < k := by
    rcases Nat.eq_zero_or_pos k with rfl | h0
    · simp at h
    · exact h0
  refine ⟨(Nat.div_lt_iff_lt_mul hk).2 h, Nat.mod_lt _ hk, ?_⟩
  have := Nat.div_add_mod t k
  rw [Nat.mul_comm] at this
  exact this

theorem holdsK_of {enc : α → List Value} {encV : α → V} {k : Nat} (he : EncOk enc encV k) {β : Beta} {w : World} {F : Nat → Prop} {blk : Nat} {ty : TypeId} {cur : Array Value} (hcur : w.heap[blk]? = some (.cells cur ty (0, 0))) {d : Array α}
    (hl : d.size * k ≤ cur.size) (hr : RowRep β w F k (d.toList.map encV) cur) : Sort.HoldsK enc k w blk 0 d := by
  intro t ht
  simp only [Sort.size_flatK] at ht
  obtain ⟨h1, h2, h3⟩ := div_at ht
  have hi : (d.toList.map encV)[t / k]? = some (encV d[t / k]!) := by
    simp [h1]
  obtain ⟨h4, h5⟩ := hr _ _ hi
  have hj : (encV d[t / k]!).cells[t % k]? = some ((encV d[t / k]!).cells[t % k]'(by rw [h4]; exact h2)) := List.getElem?_eq_getElem _
  obtain ⟨_, h6⟩ := h5 _ _ hj
  have h7 := he.inv _ _ _ hj _ _ _ _ h6
  rw [h3] at h7
  rw [Sort.get_flatK _ _ _ _ ht, ← h7]
  have hlt : t < cur.size := by omega
  constructor
  · simp [World.cell?, hcur, hlt]
  · simp [World.frozen?, hcur]

theorem size_putCells (enc : α → Value) (off : Nat) (d : Array α) (c : Array Value) : (Sort.putCells enc off d c).size = c.size := by simp [Sort.putCells]

theorem rowRep_put {enc : α → List Value} {encV : α → V} {k : Nat} (he : EncOk enc encV k) {β : Beta} {w : World} {F : Nat → Prop} {cur : Array Value} {d : Array α} (hl : d.size * k ≤ cur.size) :
    RowRep β w F k (d.toList.map encV) (Sort.putCells id 0 (Sort.flatK enc k d) cur) := by
  intro i e hi
  simp only [List.getElem?_map, Option.map_eq_some_iff] at hi
  obtain ⟨x, hx, rfl⟩ := hi
  refine ⟨he.vlen x, fun j c hc => ?_⟩
  have hj : j < k := by have := (List.getElem?_eq_some_iff.1 hc).1; rw [he.vlen] at this; exact this
  have hid : i < d.size := by have := (List.getElem?_eq_some_iff.1 hx).1; simpa using this
  have hlt : i * k + j < d.size * k := by
    have : (i + 1) * k ≤ d.size * k := Nat.mul_le_mul_right _ hid
    rw [Nat.succ_mul] at this
    omega
  have hdx : d[i]! = x := by
    have := (List.getElem?_eq_some_iff.1 hx).2
    simp [hid]
    simpa using this
  have hdiv : (i * k + j) / k = i := by
    rw [Nat.mul_comm, Nat.mul_add_div (by omega), Nat.div_eq_of_lt hj, Nat.add_zero]
  have hmod : (i * k + j) % k = j := by
    rw [Nat.mul_comm, Nat.mul_add_mod, Nat.mod_eq_of_lt hj]
  have hget : (Sort.putCells id 0 (Sort.flatK enc k d) cur).getD (i * k + j) undef = (enc x)[j]! := by
    have h2 : i * k + j < cur.size := by omega
    have h3 := Sort.get_flatK enc k d (i * k + j) hlt
    rw [hdiv, hmod, hdx] at h3
    simp only [Sort.putCells, Array.getD_eq_getD_getElem?, Array.getElem?_mapIdx, Array.getElem?_eq_getElem h2, Option.map_some, Option.getD_some, Nat.zero_le, true_and, Nat.zero_add, Sort.size_flatK, if_pos hlt, Nat.sub_zero, id]
    exact h3
  rw [hget]
  have hjl : j < (enc x).length := by rw [he.len]; exact hj
  refine ⟨he.one x _ ?_, he.rep x j c hc β w F⟩
  rw [getElem!_pos (enc x) j hjl]
  exact List.getElem_mem _

theorem putRow_setRow {w : World} {blk : Nat} {ty : TypeId} {fr : Nat × Nat} {cur : Array Value} (hcur : w.heap[blk]? = some (.cells cur ty fr)) (F : Array Value) : Sort.putRow id w blk 0 F = w.setRow blk (Sort.putCells id 0 F cur) := by
  unfold Sort.putRow
  rw [Sort.mapBlock_congr w blk _ (fun _ => Sort.putCells id 0 F cur) (fun c e fr' h => by rw [hcur] at h; injection h with h; injection h with h; rw [h])]
  unfold Sort.mapBlock World.setRow
  refine congrArg (fun h => ({ w with heap := h } : World)) (congrArg (fun f => w.heap.modify blk f) ?_)
  funext o
  cases o <;> rfl

/-- A sort that the shelf has a contract of. -/
theorem sort_abs {f : FuncId} {rest : List V} {enc : α → List Value} {encV : α → V} {k : Nat} (he : EncOk enc encV k) (hent : ∀ vs w, (callFunc f vs).run P w = .ok (.enter f vs) w) {Q : Array α → Array α → Prop} {d : Array α}
    (hsize : ∀ d', Q d d' → d'.size = d.size) (hQ0 : d.size = 0 → Q d d) {bx : Boxes} {b : Nat} {ty : TypeId} (hb : bx b = some (.row ty k (d.toList.map encV)))
    (hnil : ∀ rs : Array Value, ∀ w, rs.size = rest.length → Calls P f (#[.slice none 0 0] ++ rs) w fun e w' => e = .returned (.tuple #[]) ∧ w' = w)
    (hcon : ∀ (β : Beta) (M : Off) (w : World) (blk cap : Nat) (rs : Array Value), WOk β M bx w → GlOk P β w (Fz β M bx w) → β b = some (some blk) → rs.size = rest.length → (∀ (i : Nat) (c : V), rest[i]? = some c → Rep β w (Fz β M bx w) c (rs.getD i undef)) →
      w.heap[blk]? ≠ none → Sort.HoldsK enc k w blk 0 d → blk < w.heap.size → Calls P f (#[.slice (some ⟨blk, 0, none⟩) d.size cap] ++ rs) w fun e w' => e = .returned (.tuple #[]) ∧ ∃ d' n os, Q d d' ∧ w' = Go.Proofs.sortWorldK enc k w blk 0 n d' os) :
    AbsCall P f (.own b k 0 d.size :: rest) bx fun r bx' => r = .tup [] ∧ ∃ d', Q d d' ∧ bx' = upd bx b (some (.row ty k (d'.toList.map encV))) := by
  refine ⟨hent, fun β M w vs hok hgl hvs hrep => ?_⟩
  have h0 : Rep β w (Fz β M bx w) (.own b k 0 d.size) (vs.getD 0 undef) := hrep 0 _ rfl
  obtain ⟨rs, hvs2, hrs, hrs2⟩ : ∃ rs : Array Value, vs = #[vs.getD 0 undef] ++ rs ∧ rs.size = rest.length ∧ ∀ (i : Nat) (c : V), rest[i]? = some c → Rep β w (Fz β M bx w) c (rs.getD i undef) := by
    simp only [List.length_cons] at hvs
    refine ⟨vs.extract 1 vs.size, ?_, by simp; omega, fun i c hi => ?_⟩
    · apply Array.ext
      · simp; omega
      · intro i h1 h2
        rcases i with _ | i
        · simp [Array.getElem?_eq_getElem h1]
        · simp [Array.getElem_append]
          congr 1
          omega
    · have h3 := hrep (i + 1) c (by simpa using hi)
      have hlt := (List.getElem?_eq_some_iff.1 hi).1
      have e1 : (vs.extract 1 vs.size).getD i undef = vs.getD (i + 1) undef := by
        simp only [Array.getD_eq_getD_getElem?, Array.getElem?_extract]
        rw [if_pos (by omega), Nat.add_comm]
      rw [e1]
      exact h3
  rw [hvs2]
  generalize vs.getD 0 undef = u0 at h0
  have same : d.size = 0 → ∀ w', w' = w → ∃ v r bx' β', Ending.returned (.tuple #[]) = .returned v ∧ (r = .tup [] ∧ ∃ d', Q d d' ∧ bx' = upd bx b (some (.row ty k (d'.toList.map encV)))) ∧ WOk β' M bx' w' ∧ Tr β bx w β' bx' w' ∧ Rep β' w' (Fz β' M bx' w') r v := by
    rintro hd w' rfl
    have hbx : upd bx b (some (.row ty k (d.toList.map encV))) = bx := by
      funext q
      by_cases e : q = b
      · subst e; rw [upd_eq, hb]
      · rw [upd_ne _ _ e]
    exact ⟨_, _, bx, β, rfl, ⟨rfl, d, hQ0 hd, hbx.symm⟩, hok, Tr.refl _ _ _, .tup [] #[] rfl (fun i c h => by simp at h)⟩
  generalize hN : d.size = N at h0
  cases h0 with
  | own0 _ _ hβ =>
    refine (hnil rs w hrs).mono ?_
    rintro e w' ⟨rfl, hw⟩
    exact same hN w' hw
  | own _ _ _ _ blk cap m ty' hβ hs hm hn hmax =>
    rcases hok.live b _ hb with ⟨h1, _⟩ | ⟨blk', h1, hlt, hMn, cur, hcur, hlc, hrow⟩
    · rw [hβ] at h1; cases h1
    · rw [hβ] at h1
      injection h1 with h1
      injection h1 with h1
      subst h1
      have hlen : d.size * k ≤ cur.size := by simpa using hlc
      have hH := holdsK_of he hcur hlen hrow
      subst hN
      have := hcon β M w blk cap rs hok hgl hβ hrs hrs2 (by rw [hcur]; simp) hH hlt
      simp only [Nat.zero_mul]
      refine this.mono ?_
      rintro e w' ⟨rfl, d', n, os, hq, rfl⟩
      have hd' := hsize d' hq
      have hlen' : d'.size * k ≤ cur.size := by rw [hd']; exact hlen
      -- the row written
      obtain ⟨h2, h3⟩ := write_box hok hb hβ hcur (Sort.putCells id 0 (Sort.flatK enc k d') cur) (size_putCells _ _ _ _) (d'.toList.map encV) (by simpa using hd') (by rw [size_putCells]; simpa using hlen') (rowRep_put he hlen')
      have hw1 : Sort.putRowK enc k w blk 0 d' = w.setRow blk (Sort.putCells id 0 (Sort.flatK enc k d') cur) := putRow_setRow hcur _
      rw [← hw1] at h2 h3
      -- draws and blocks behind it
      have hheap : (Go.Proofs.sortWorldK enc k w blk 0 n d' os).heap = (Sort.putRowK enc k w blk 0 d').heap ++ os := rfl
      have hsz : (Sort.putRowK enc k w blk 0 d').heap.size ≤ (Go.Proofs.sortWorldK enc k w blk 0 n d' os).heap.size := by rw [hheap]; simp
      have hkk : ∀ q, q < (Sort.putRowK enc k w blk 0 d').heap.size → (Go.Proofs.sortWorldK enc k w blk 0 n d' os).heap[q]? = (Sort.putRowK enc k w blk 0 d').heap[q]? := by
        intro q hq
        rw [hheap, Array.getElem?_append, if_pos hq]
      have h4 := h2.grown hsz h2.fin (fun _ _ h => h) hkk
      have h5 := h3.trans (Tr.grown h2 (w' := Go.Proofs.sortWorldK enc k w blk 0 n d' os) rfl rfl rfl (Nat.le_add_right w.drawn n) hsz (fun _ _ h => h) hkk)
      exact ⟨_, _, _, β, rfl, ⟨rfl, d', hq, rfl⟩, h4, h5, .tup [] #[] rfl (fun i c h => by simp at h)⟩

/-- What the sort asks of the function that compares. -/
theorem cmp_lays {enc : α → List Value} {encV : α → V} {k : Nat} {g : FuncId} {caps : List V} {cf : α → α → Int} (he : EncOk enc encV k) (harg : ∀ x β w F, Rep β w F (encV x) (.agg (enc x).toArray)) (hcmp : ∀ x y, PureCall P g (encV x :: encV y :: caps) (fun _ => none) (.int .i64 (cf x y)))
    {β : Beta} {M : Off} {bx : Boxes} {w : World} (hok : WOk β M bx w) (hgl : GlOk P β w (Fz β M bx w)) {b blk : Nat} (hb : bx b ≠ none) (hβ : β b = some (some blk)) {cb : Array Value} (hcb : cb.size = caps.length) (hcr : ∀ (i : Nat) (c : V), caps[i]? = some c → Rep β w (Fz β M bx w) c (cb.getD i undef)) (size : Nat) :
    Go.Proofs.CmpLays P g cb enc k cf blk 0 size w := by
  intro m os dk hs x y
  generalize hW : Go.Proofs.sortWorldK enc k w blk 0 m dk os = W
  have hheap : W.heap = w.heap.modify blk (Sort.onCells (Sort.putCells id 0 (Sort.flatK enc k dk))) ++ os := by rw [← hW]; rfl
  have hsz : w.heap.size ≤ W.heap.size := by rw [hheap]; simp
  have hold : ∀ q, q < w.heap.size → q ≠ blk → W.heap[q]? = w.heap[q]? := by
    intro q hq hne
    rw [hheap, Array.getElem?_append, if_pos (by simpa using hq), Array.getElem?_modify, if_neg (Ne.symm hne)]
  have hshape : ∀ q z, w.shape? q = some z → W.shape? q = some z := by
    intro q z hz
    have hq := shape_lt hz
    by_cases e : q = blk
    · subst e
      have : W.heap[q]? = (w.heap[q]?).map (Sort.onCells (Sort.putCells id 0 (Sort.flatK enc k dk))) := by
        rw [hheap, Array.getElem?_append, if_pos (by simpa using hq), Array.getElem?_modify, if_pos rfl]
      unfold World.shape? at hz ⊢
      rw [this]
      cases ho : w.heap[q]? with
      | none => rw [ho] at hz; cases hz
      | some o =>
        rw [ho] at hz
        cases o with
        | cells c t fr =>
          simp only [Option.map_some, Sort.onCells, size_putCells] at hz ⊢
          exact hz
        | _ => simp at hz
    · rw [shape_heap (hold q hq e)]; exact hz
  let M0 : Off := ⟨fun _ => none, 0⟩
  have hok0 : WOk β M0 (fun _ => none) W := ⟨hok.fin, fun k o h => (by cases h), fun b box h => (by cases h), fun b b' k h => absurd rfl h⟩
  have hfz : ∀ q, Fz β M bx w q → Fz β M0 (fun _ => none) W q ∧ W.heap[q]? = w.heap[q]? := by
    rintro q ⟨h1, h2, h3⟩
    exact ⟨⟨by omega, rfl, fun b h => absurd rfl h⟩, hold q h1 (by rintro rfl; exact h3 b hb hβ)⟩
  have h := (hcmp x y).2 β M0 W (#[.agg (enc x).toArray, .agg (enc y).toArray] ++ cb) hok0 (hgl.imp fun _ _ hh => hh.mono (fun _ _ h => h) hfz hshape) (by simp [hcb]; omega) (fun i c hc => by
    rcases i with _ | _ | i
    · simp at hc; subst hc; simpa [Array.getElem?_append] using harg x β W _
    · simp at hc; subst hc; simpa [Array.getElem?_append] using harg y β W _
    · have hc' : caps[i]? = some c := by simpa using hc
      have := (hcr i c hc').mono (β' := β) (w' := W) (F' := Fz β M0 (fun _ => none) W) (fun _ _ h => h) hfz hshape
      have e1 : (#[Value.agg (enc x).toArray, .agg (enc y).toArray] ++ cb).getD (i + 2) undef = cb.getD i undef := by
        simp [Array.getElem?_append, show ¬ (i + 2 < 2) by omega]
      rw [e1]
      exact this)
  refine h.mono ?_
  rintro e w' ⟨v, r, bx', β', rfl, ⟨rfl, rfl⟩, _, htr, hrep⟩
  refine ⟨by rw [hrep.int_inv], w'.drawn - W.drawn, w'.heap.extract W.heap.size w'.heap.size, ?_⟩
  have h1 := htr.os
  have h2 := htr.tape
  have h3 := htr.output
  have h4 := htr.drawn (fun ⟨_, _, h⟩ => by cases h)
  have h5 : w'.heap = W.heap ++ w'.heap.extract W.heap.size w'.heap.size := by
    apply Array.ext_getElem?
    intro q
    rw [Array.getElem?_append]
    by_cases hq : q < W.heap.size
    · rw [if_pos hq]
      exact htr.keep q hq (fun b h => absurd rfl h)
    · rw [if_neg hq, Array.getElem?_extract]
      by_cases hq2 : q < w'.heap.size
      · rw [if_pos (by have := htr.size; omega)]
        congr 1
        omega
      · rw [Array.getElem?_eq_none (by omega), if_neg (by have := htr.size; omega)]
  cases w'
  simp only [Sort.grow, World.drewN] at *
  subst h1 h2 h3
  congr 1
  omega
end
end Go.Pl

/- Functions of the kit's shelf that work on a row of one's own: sorts, Compact. -/
set_option linter.unusedVariables false
set_option linter.unusedSimpArgs false
namespace Go.Pl
open Go
section
variable {P : Program} {α : Type} [Inhabited α]

/-- A function of the shelf's that works on a row of one's own. -/
theorem row_abs {f : FuncId} {rest : List V} {enc : α → List Value} {encV : α → V} {k : Nat} (he : EncOk enc encV k) (hent : ∀ vs w, (callFunc f vs).run P w = .ok (.enter f vs) w) {Q : Array α → Array α → Prop} {d : Array α} (rv : Array α → V) (res : Nat → Nat → Array α → Value) (v0 : Value)
    (hsize : ∀ d', Q d d' → d'.size = d.size) (hQ0 : d.size = 0 → Q d d) {bx : Boxes} {b : Nat} {ty : TypeId} (hb : bx b = some (.row ty k (d.toList.map encV)))
    (hv0 : d.size = 0 → ∀ (β : Beta) (w : World) (F : Nat → Prop), β b = some none → Rep β w F (rv d) v0)
    (hres : ∀ (β : Beta) (w : World) (F : Nat → Prop) (blk cap m : Nat) (ty : TypeId) (d' : Array α), β b = some (some blk) → w.shape? blk = some (ty, m) → cap * k = m → d.size ≤ cap → cap ≤ maxLen → Q d d' → Rep β w F (rv d') (res blk cap d'))
    (hnil : d.size = 0 → ∀ rs : Array Value, ∀ w, rs.size = rest.length → Calls P f (#[.slice none 0 0] ++ rs) w fun e w' => e = .returned v0 ∧ w' = w)
    (hcon : ∀ (β : Beta) (M : Off) (w : World) (blk cap : Nat) (rs : Array Value), WOk β M bx w → GlOk P β w (Fz β M bx w) → β b = some (some blk) → rs.size = rest.length → (∀ (i : Nat) (c : V), rest[i]? = some c → Rep β w (Fz β M bx w) c (rs.getD i undef)) →
      w.heap[blk]? ≠ none → Sort.HoldsK enc k w blk 0 d → blk < w.heap.size → d.size ≤ cap → Calls P f (#[.slice (some ⟨blk, 0, none⟩) d.size cap] ++ rs) w fun e w' => ∃ d' n os, e = .returned (res blk cap d') ∧ Q d d' ∧ w' = Go.Proofs.sortWorldK enc k w blk 0 n d' os) :
    AbsCall P f (.own b k 0 d.size :: rest) bx fun r bx' => ∃ d', r = rv d' ∧ Q d d' ∧ bx' = upd bx b (some (.row ty k (d'.toList.map encV))) := by
  refine ⟨hent, fun β M w vs hok hgl hvs hrep => ?_⟩
  have h0 : Rep β w (Fz β M bx w) (.own b k 0 d.size) (vs.getD 0 undef) := hrep 0 _ rfl
  obtain ⟨rs, hvs2, hrs, hrs2⟩ : ∃ rs : Array Value, vs = #[vs.getD 0 undef] ++ rs ∧ rs.size = rest.length ∧ ∀ (i : Nat) (c : V), rest[i]? = some c → Rep β w (Fz β M bx w) c (rs.getD i undef) := by
    simp only [List.length_cons] at hvs
    refine ⟨vs.extract 1 vs.size, ?_, by simp; omega, fun i c hi => ?_⟩
    · apply Array.ext
      · simp; omega
      · intro i h1 h2
        rcases i with _ | i
        · simp [Array.getElem?_eq_getElem h1]
        · simp [Array.getElem_append]
          congr 1
          omega
    · have h3 := hrep (i + 1) c (by simpa using hi)
      have hlt := (List.getElem?_eq_some_iff.1 hi).1
      have e1 : (vs.extract 1 vs.size).getD i undef = vs.getD (i + 1) undef := by
        simp only [Array.getD_eq_getD_getElem?, Array.getElem?_extract]
        rw [if_pos (by omega), Nat.add_comm]
      rw [e1]
      exact h3
  rw [hvs2]
  generalize vs.getD 0 undef = u0 at h0
  have same : d.size = 0 → β b = some none → ∀ w', w' = w → ∃ v r bx' β', Ending.returned v0 = .returned v ∧ (∃ d', r = rv d' ∧ Q d d' ∧ bx' = upd bx b (some (.row ty k (d'.toList.map encV)))) ∧ WOk β' M bx' w' ∧ Tr β bx w β' bx' w' ∧ Rep β' w' (Fz β' M bx' w') r v := by
    rintro hd hβ w' rfl
    have hbx : upd bx b (some (.row ty k (d.toList.map encV))) = bx := by
      funext q
      by_cases e : q = b
      · subst e; rw [upd_eq, hb]
      · rw [upd_ne _ _ e]
    exact ⟨_, _, bx, β, rfl, ⟨d, rfl, hQ0 hd, hbx.symm⟩, hok, Tr.refl _ _ _, hv0 hd _ _ _ hβ⟩
  generalize hN : d.size = N at h0
  cases h0 with
  | own0 _ _ hβ =>
    refine (hnil hN rs w hrs).mono ?_
    rintro e w' ⟨rfl, hw⟩
    exact same hN hβ w' hw
  | own _ _ _ _ blk cap m ty' hβ hs hm hn hmax =>
    rcases hok.live b _ hb with ⟨h1, _⟩ | ⟨blk', h1, hlt, hMn, cur, hcur, hlc, hrow⟩
    · rw [hβ] at h1; cases h1
    · rw [hβ] at h1
      injection h1 with h1
      injection h1 with h1
      subst h1
      have hlen : d.size * k ≤ cur.size := by simpa using hlc
      have hH := holdsK_of he hcur hlen hrow
      subst hN
      have := hcon β M w blk cap rs hok hgl hβ hrs hrs2 (by rw [hcur]; simp) hH hlt hn
      simp only [Nat.zero_mul]
      refine this.mono ?_
      rintro e w' ⟨d', n, os, rfl, hq, rfl⟩
      have hd' := hsize d' hq
      have hlen' : d'.size * k ≤ cur.size := by rw [hd']; exact hlen
      -- the row written
      obtain ⟨h2, h3⟩ := write_box hok hb hβ hcur (Sort.putCells id 0 (Sort.flatK enc k d') cur) (size_putCells _ _ _ _) (d'.toList.map encV) (by simpa using hd') (by rw [size_putCells]; simpa using hlen') (rowRep_put he hlen')
      have hw1 : Sort.putRowK enc k w blk 0 d' = w.setRow blk (Sort.putCells id 0 (Sort.flatK enc k d') cur) := putRow_setRow hcur _
      rw [← hw1] at h2 h3
      -- draws and blocks behind it
      have hheap : (Go.Proofs.sortWorldK enc k w blk 0 n d' os).heap = (Sort.putRowK enc k w blk 0 d').heap ++ os := rfl
      have hsz : (Sort.putRowK enc k w blk 0 d').heap.size ≤ (Go.Proofs.sortWorldK enc k w blk 0 n d' os).heap.size := by rw [hheap]; simp
      have hkk : ∀ q, q < (Sort.putRowK enc k w blk 0 d').heap.size → (Go.Proofs.sortWorldK enc k w blk 0 n d' os).heap[q]? = (Sort.putRowK enc k w blk 0 d').heap[q]? := by
        intro q hq
        rw [hheap, Array.getElem?_append, if_pos hq]
      have h4 := h2.grown hsz h2.fin (fun _ _ h => h) hkk
      have h5 := h3.trans (Tr.grown h2 (w' := Go.Proofs.sortWorldK enc k w blk 0 n d' os) rfl rfl rfl (Nat.le_add_right w.drawn n) hsz (fun _ _ h => h) hkk)
      exact ⟨_, _, _, β, rfl, ⟨d', rfl, hq, rfl⟩, h4, h5, hres _ _ _ _ _ _ _ _ hβ (h5.shape _ _ hs) (by rw [Nat.zero_add] at hm; exact hm) hn (by omega) hq⟩


theorem putCells_one (enc : α → Value) (off : Nat) (d : Array α) (c : Array Value) : Sort.putCells id off (Sort.flatK (fun x => [enc x]) 1 d) c = Sort.putCells enc off d c := by
  unfold Sort.putCells
  refine congrArg (fun f => c.mapIdx f) ?_
  funext k x
  simp only [Sort.size_flatK, Nat.mul_one]
  by_cases h : off ≤ k ∧ k < off + d.size
  · rw [if_pos h, if_pos h]
    have : (Sort.flatK (fun x => [enc x]) 1 d)[k - off]! = enc d[k - off]! := by
      rw [Sort.get_flatK _ _ _ _ (by omega)]
      simp [Nat.mod_one]
    rw [this]; rfl
  · rw [if_neg h, if_neg h]
theorem putRow_one (enc : α → Value) (w : World) (blk off : Nat) (d : Array α) : Sort.putRowK (fun x => [enc x]) 1 w blk off d = Sort.putRow enc w blk off d := by
  unfold Sort.putRowK Sort.putRow
  refine congrArg (Sort.mapBlock w blk) ?_
  funext c
  exact putCells_one enc off d c
theorem holds_one {enc : α → Value} {w : World} {blk off : Nat} {d : Array α} (h : Sort.HoldsK (fun x => [enc x]) 1 w blk off d) : Sort.Holds enc w blk off d := by
  intro j hj
  have := h j (by simpa using hj)
  rw [Sort.get_flatK _ _ _ _ (by omega)] at this
  simpa [Nat.mod_one] using this

theorem encStr_ok : EncOk (fun s : List UInt8 => [Go.Proofs.encStr s]) V.str 1 where
  len x := rfl
  vlen x := rfl
  one x v hv := by simp at hv; subst hv; rfl
  rep x j c hc β w F := by
    rcases j with _ | j
    · simp [V.cells] at hc; subst hc; exact .str ⟨x.toArray⟩
    · simp [V.cells] at hc
  inv x j c hc β w F u hu := by
    rcases j with _ | j
    · simp [V.cells] at hc; subst hc
      obtain ⟨y, rfl, hy⟩ := hu.str_inv
      subst hy
      rfl
    · simp [V.cells] at hc
variable {ρ : Go.Shelf.Ren}
theorem sortS_abs (L : Go.Proofs.Lays.n190 P ρ) (hent : ∀ vs w, (callFunc (ρ.f 190) vs).run P w = .ok (.enter (ρ.f 190) vs) w) {bx : Boxes} {b : Nat} {ty : TypeId} {ss : List (List UInt8)} (hb : bx b = some (.row ty 1 (ss.map .str))) (hne : ss ≠ []) (hlen : ss.length < 4611686018427387904) :
    AbsCall P (ρ.f 190) [.own b 1 0 ss.length] bx fun r bx' => r = .tup [] ∧ bx' = upd bx b (some (.row ty 1 ((ss.mergeSort fun x y => decide (x ≤ y)).map .str))) := by
  have h0 : ss.toArray.size ≠ 0 := by intro h; exact hne (List.eq_nil_of_length_eq_zero (by simpa using h))
  have := row_abs (P := P) (f := ρ.f 190) (rest := []) encStr_ok hent (Q := fun d d' => d' = (d.toList.mergeSort fun x y => decide (x ≤ y)).toArray) (d := ss.toArray) (fun _ => .tup []) (fun _ _ _ => .tuple #[]) (.tuple #[])
    (by rintro d' rfl; simp) (fun h => absurd h h0) (bx := bx) (b := b) (ty := ty) (by simpa using hb) (fun h => absurd h h0) (fun _ _ _ _ _ _ _ _ _ _ _ _ _ _ => .tup [] #[] rfl (fun i c h => by simp at h)) (fun h => absurd h h0)
    (by
      intro β M w blk cap rs hok hgl hβ hrs _ _ hH hlt hcap
      have hrs0 : rs = #[] := by simpa using hrs
      subst hrs0
      refine (Go.Proofs.Any.slices_Sort_string L blk 0 cap ss w (holds_one hH) hlt hlen).mono ?_
      rintro e w' ⟨rfl, n, os, rfl⟩
      exact ⟨_, n, os, rfl, rfl, by unfold Go.Proofs.sortWorldK; rw [putRow_one]⟩)
  have h2 := this.mono (Kc' := fun r bx' => r = .tup [] ∧ bx' = upd bx b (some (.row ty 1 ((ss.mergeSort fun x y => decide (x ≤ y)).map .str)))) (by
    rintro r bx' ⟨d', rfl, rfl, rfl⟩
    exact ⟨rfl, by simp⟩)
  simpa using h2
theorem grow_nil (W : World) : Sort.grow W #[] = W := by cases W; simp [Sort.grow]
theorem compact_le {α : Type} [Inhabited α] [DecidableEq α] (zs : List α) : (Lib.compact zs).length ≤ zs.length := by
  have := List.length_filter_le (Lib.keeps zs.toArray) (List.range zs.length)
  simpa [Lib.compact, Lib.compactUpTo] using this
theorem compact_full {α : Type} [Inhabited α] [DecidableEq α] (zs : List α) : (Lib.compact zs).length = zs.length ↔ ∀ j, j < zs.length → Lib.keeps zs.toArray j = true := by
  have : (Lib.compact zs).length = ((List.range zs.length).filter (Lib.keeps zs.toArray)).length := by simp [Lib.compact, Lib.compactUpTo]
  rw [this]
  have h2 := List.length_filter_eq_length_iff (p := Lib.keeps zs.toArray) (l := List.range zs.length)
  rw [List.length_range] at h2
  rw [h2]
  simp
/-- What a sort of strings and Compact say of names. -/
theorem compact_nodup (ss : List (List UInt8)) : (Lib.compact (ss.mergeSort fun x y => decide (x ≤ y))).length = ss.length ↔ ss.Nodup := by
  have hp : (ss.mergeSort fun x y => decide (x ≤ y)).Perm ss := List.mergeSort_perm _ _
  have hs : (ss.mergeSort fun x y => decide (x ≤ y)).Pairwise fun x y => decide (x ≤ y) = true := List.pairwise_mergeSort (fun a b c h1 h2 => by simp at *; exact List.le_trans h1 h2) (fun a b => by simp; exact List.le_total a b) ss
  generalize (ss.mergeSort fun x y => decide (x ≤ y)) = l at hp hs
  rw [← hp.length_eq, compact_full, ← hp.nodup_iff]
  have hs' : l.Pairwise fun x y => x ≤ y := hs.imp (by simp)
  constructor
  · intro h
    have hadj : ∀ j, (hj : j + 1 < l.length) → l[j + 1] ≠ l[j]'(by omega) := by
      intro j hj
      have := h (j + 1) hj
      simp [Lib.keeps, hj] at this
      rw [List.getElem?_eq_getElem (by omega)] at this
      simpa using this
    rw [List.Nodup, List.pairwise_iff_getElem]
    intro i j hi hj hij he
    have h1 : l[i] ≤ l[i + 1] := List.pairwise_iff_getElem.1 hs' i (i + 1) hi (by omega) (by omega)
    have h2 : l[i + 1] ≤ l[j] := by
      rcases Nat.lt_or_ge (i + 1) j with h3 | h3
      · exact List.pairwise_iff_getElem.1 hs' (i + 1) j (by omega) hj h3
      · have : j = i + 1 := by omega
        subst this
        exact List.le_refl _
    rw [← he] at h2
    exact hadj i (by omega) (List.le_antisymm h2 h1)
  · intro h j hj
    rcases j with _ | j
    · simp [Lib.keeps]
    · have := List.pairwise_iff_getElem.1 h j (j + 1) (by omega) hj (by omega)
      simp [Lib.keeps, hj]
      rw [List.getElem?_eq_getElem (by omega)]
      simpa using fun e => this e.symm
theorem compactS_abs (L : Go.Proofs.Lays.n194 P ρ) (hent : ∀ vs w, (callFunc (ρ.f 194) vs).run P w = .ok (.enter (ρ.f 194) vs) w) {bx : Boxes} {b : Nat} {ty : TypeId} {ss : List (List UInt8)} (hb : bx b = some (.row ty 1 (ss.map .str))) (hne : ss ≠ []) (hlen : ss.length < 4611686018427387904) :
    AbsCall P (ρ.f 194) [.own b 1 0 ss.length] bx fun r bx' => r = .own b 1 0 (Lib.compact ss).length ∧ ∃ es, bx' = upd bx b (some (.row ty 1 es)) := by
  have h0 : ss.toArray.size ≠ 0 := by intro h; exact hne (List.eq_nil_of_length_eq_zero (by simpa using h))
  have hcl := compact_le ss
  have := row_abs (P := P) (f := ρ.f 194) (rest := []) encStr_ok hent (Q := fun d d' => d' = (Lib.compact ss ++ List.replicate (ss.length - (Lib.compact ss).length) []).toArray) (d := ss.toArray) (fun _ => .own b 1 0 (Lib.compact ss).length) (fun blk cap _ => .slice (some ⟨blk, 0, none⟩) (Lib.compact ss).length cap) undef
    (by rintro d' rfl; simp; omega) (fun h => absurd h h0) (bx := bx) (b := b) (ty := ty) (by simpa using hb) (fun h => absurd h h0)
    (by
      intro β w F blk cap m ty d' hβ hs hm hcap hmax _
      have := Rep.own (β := β) (w := w) (F := F) b 1 0 (Lib.compact ss).length blk cap m ty hβ hs (by omega) (by simp at hcap; omega) (by omega)
      simpa using this)
    (fun h => absurd h h0)
    (by
      intro β M w blk cap rs hok hgl hβ hrs _ _ hH hlt hcap
      have hrs0 : rs = #[] := by simpa using hrs
      subst hrs0
      refine (Go.Proofs.Any.slices_Compact_string L blk 0 cap ss w (holds_one hH) (by omega) (by simpa using hcap)).mono ?_
      rintro e w' ⟨rfl, n, rfl⟩
      exact ⟨_, n, #[], rfl, rfl, by unfold Go.Proofs.sortWorldK; rw [putRow_one, grow_nil]⟩)
  have h2 := this.mono (Kc' := fun r bx' => r = .own b 1 0 (Lib.compact ss).length ∧ ∃ es, bx' = upd bx b (some (.row ty 1 es))) (by
    rintro r bx' ⟨d', rfl, rfl, rfl⟩
    exact ⟨rfl, _, rfl⟩)
  simpa using h2
end
end Go.Pl

/- slices.Grow of the kit's shelf, from nil, as a contract of this logic. -/
set_option linter.unusedVariables false
set_option linter.unusedSimpArgs false
namespace Go.Pl
open Go
section
variable {P : Program} {ρ : Go.Shelf.Ren}

theorem grow_abs (L : Go.Proofs.Lays8.n4 P ρ) (hent : ∀ vs w, (callFunc (ρ.f 4) vs).run P w = .ok (.enter (ρ.f 4) vs) w) {e sz : Nat} {z : Value} (he : ρ.t 25 = e) (hsz : tsz P e = sz) (hpos : 0 < sz) (hz : tzero P e = some z) (hst : storable P e (ofValue z)) (n : Nat) (hby : n * tby P e ≤ 140737488355328) (h63 : n ≤ 4611686018427387904) (bx : Boxes) (hb : FinB bx) :
    AbsCall P (ρ.f 4) [.nils, .int .i64 n] bx fun r bx' => Acc bx e sz [] r bx' := by
  subst hsz
  refine ⟨hent, fun β M w vs hok hgl hvs hrep => ?_⟩
  have e0 : vs.getD 0 undef = .slice none 0 0 := by have := hrep 0 _ rfl; generalize vs.getD 0 undef = u at this; cases this; rfl
  have e1 : vs.getD 1 undef = .int .i64 n := (hrep 1 _ rfl).int_inv
  have hv : vs = #[.slice none 0 0, .int .i64 n] := by
    apply Array.ext
    · simpa using hvs
    · intro j g1 g2
      simp at hvs
      have : j = 0 ∨ j = 1 := by omega
      rcases this with rfl | rfl
      · rw [← e0]; simp [g1]
      · rw [← e1]; simp [g1]
  subst hv
  obtain ⟨i, hi, hi2⟩ := zero_at hz
  have hsi : i.size = tsz P e := by simp [tsz, hi]
  have hbi : i.bytes = tby P e := by simp [tby, hi]
  by_cases h0 : n = 0
  · subst h0
    refine (Go.Proofs.Any8.slices_Grow_room L none 0 0 0 w (Nat.le_refl _) (by omega) (by omega) (by omega)).mono ?_
    rintro e' w' ⟨rfl, rfl⟩
    exact ⟨_, .nils, bx, β, rfl, acc_nil hb _ _, hok, Tr.refl _ _ _, .nils⟩
  · refine (Go.Proofs.Any8.slices_Grow_grow L i z (by rw [he]; exact hi) hi2 (by rw [hsi]; exact hpos) none 0 0 n [] w (Nat.le_refl _) (by omega) (by rw [hbi]; simpa using hby) (by omega) (by simp) (fun _ => rfl) (fun a h => by cases h)).mono ?_
    rintro e' w' ⟨rfl, rfl⟩
    rw [he]
    have hok2 := hok.drew
    obtain ⟨b, h1, h2⟩ := hok2.fresh
    obtain ⟨h3, h4⟩ := alloc_box hok2 h1 h2 ([].toArray ++ Builtin.zeroCells z.cells (0 + n - 0) ++ Builtin.zeroCells z.cells (grownCap w (0 + n) 0 e - (0 + n))) e (tsz P e) [] (.inl hpos) (by simp) (fun i e he => by simp at he)
    refine ⟨_, .own b (tsz P e) 0 0, _, _, rfl, ⟨(Ext.refl _).new h2 _, (finB_upd _ _ _).2 hb, .inr ⟨b, h2, rfl, upd_eq _ _ _⟩⟩, h3, (Tr.drew hok).trans h4, ?_⟩
    have hge := grownCap_ge w (0 + n) 0 e
    have hle := grownCap_le_maxLen w (0 + n) 0 e (by simp [maxLen]; omega)
    have hzc : z.cells.size = tsz P e := by
      rw [ofValue_size hst.2.1]; exact hst.2.2
    have := Rep.own (β := upd β b (some (some w.drew.heap.size))) (w := w.drew.alloc (.cells ([].toArray ++ Builtin.zeroCells z.cells (0 + n - 0) ++ Builtin.zeroCells z.cells (grownCap w (0 + n) 0 e - (0 + n))) e)) (F := Fz (upd β b (some (some w.drew.heap.size))) M (upd bx b (some (.row e (tsz P e) []))) (w.drew.alloc (.cells ([].toArray ++ Builtin.zeroCells z.cells (0 + n - 0) ++ Builtin.zeroCells z.cells (grownCap w (0 + n) 0 e - (0 + n))) e))) b (tsz P e) 0 0 w.drew.heap.size (grownCap w (0 + n) 0 e) _ e (upd_eq _ _ _) (shape_of (heap_alloc_new _ _)) ?_ (Nat.zero_le _) (by simpa using hle)
    · simpa using this
    · simp [Builtin.zeroCells, hzc, ← Nat.add_mul]
      congr 1; simp at hge; omega
end
end Go.Pl

/- Rules for evaluation: guarded slice literals. -/
set_option linter.unusedSimpArgs false
set_option linter.unusedVariables false
namespace Go.Pl
open Go
section
variable {P : Program}
def bldGG (P : Program) (g : V) (w : Bool) (k : Knd) (len : Nat) (ps : List (Nat × V)) (o : Option Tmp) (K : St → Prop) (st : St) : Prop :=
  match g.strip with
  | .bool c => ((g.liveB && (c == w)) = true → bldK P k len ps o K st) ∧ ((g.liveB && (c == w)) = false → dstOk st o ∧ K (st.put o (.dead .unk)))
  | _ => False
@[go_sem ↓] theorem opG_build (d : Bool) (o : Option Tmp) (t : TypeId) (len : Nat) (parts : Array (Nat × Operand)) (s : Nat) (w : Bool) (K : St → Prop) (st : St) : opP P d ⟨o, .buildSlice t len parts, some (s, w), false⟩ K st = bldGG P (st.sl s) w (knd P t) len (getP st parts.toList) o K st := by
  have e0 : opP P d ⟨o, .buildSlice t len parts, none, false⟩ K st = bldK P (knd P t) len (getP st parts.toList) o K st := by simp only [go_sem]
  have e1 : absOp P d (POp.oper ⟨o, .buildSlice t len parts, some (s, w), false⟩) K st = bldK P (knd P t) len (getP st parts.toList) o K st := by
    rw [← e0]; rfl
  unfold bldGG
  show opP0 P d ⟨o, .buildSlice t len parts, some (s, w), false⟩ K st = _
  unfold opP0
  simp only [yieldOf]
  generalize (st.sl s).strip = v
  cases v <;> try rfl
  rename_i c
  have hne : isEv (Op.buildSlice t len parts) = false := rfl
  simp only [hne, Bool.false_eq_true, if_false]
  unfold guardedP branchP
  simp only [hne, Bool.false_eq_true, if_false]
  rw [e1]
  exact propext ⟨fun h => h.elim id (fun h => h.2), fun h => .inl h⟩
@[go_sem] theorem bldGG_bool (c w : Bool) (k : Knd) (len : Nat) (ps : List (Nat × V)) (o : Option Tmp) (K : St → Prop) (st : St) : bldGG P (.bool c) w k len ps o K st = (((c == w) = true → bldK P k len ps o K st) ∧ ((c == w) = false → dstOk st o ∧ K (st.put o (.dead .unk)))) := by
  simp only [bldGG, strip_bool, live_bool, Bool.true_and]
@[go_sem] theorem bldGG_mkOpt (a c w : Bool) (k : Knd) (len : Nat) (ps : List (Nat × V)) (o : Option Tmp) (K : St → Prop) (st : St) : bldGG P (mkOpt a (.bool c)) w k len ps o K st = (((a && (c == w)) = true → bldK P k len ps o K st) ∧ ((a && (c == w)) = false → dstOk st o ∧ K (st.put o (.dead .unk)))) := by
  simp only [bldGG, strip_mkOpt, liveB_mkOpt, strip_bool, live_bool, Bool.and_true]
@[go_sem] theorem bldGG_dead (c w : Bool) (k : Knd) (len : Nat) (ps : List (Nat × V)) (o : Option Tmp) (K : St → Prop) (st : St) : bldGG P (.dead (.bool c)) w k len ps o K st = (dstOk st o ∧ K (st.put o (.dead .unk))) := by
  simp [bldGG, V.strip, V.liveB]
end
end Go.Pl

/- A law whose row lists the decimal table of the library. -/
set_option linter.unusedVariables false
set_option linter.unusedSimpArgs false
namespace Go.Pl
open Go Go.RowKit Go.ChangeShapes Go.WideShapes Go.ChangeAt
/-- Boxes that hold the mark alone; where the table lies. -/
def bxM : Boxes := fun b => if b = 0 then some (.row 0 0 []) else none
def beM (g : Nat) : Beta := fun b => if b = 0 then some none else if b = 1 then some (some g) else none
theorem mk_bxM : Mk bxM := ⟨0, 0, rfl⟩
section
variable {H : Type} {enc : TypeId × Value → H} {P : Program} {w : World} {spare : Nat → Bool} {held : Bool}
theorem gl_laid {g : Nat} (hg : P.globalNamed "internal/strconv.uint64pow10" = some g) {W : World} (ht : Lib.TabIs P W "internal/strconv.uint64pow10" .u64 Lib.pow10Tab) : GlOk P (beM g) W (FzAll W) := by
  have hv : glV P g = .ep (.agg ((List.range 20).map fun i => .int .u64 ((10 ^ i : Nat) : Int))) 0 := by
    unfold glV tabNames
    rw [List.find?_cons_of_pos (by simpa using hg)]
  unfold Lib.TabIs World.var? at ht
  rw [hg] at ht
  simp only [Option.bind_some] at ht
  intro g'
  by_cases hgg : g' = g
  · subst hgg
    rw [hv]
    cases hh : W.heap[g']? with
    | none => rw [hh] at ht; cases ht
    | some o =>
      rw [hh] at ht
      cases o with
      | cells cur ty fr =>
        simp only [Option.some.injEq] at ht
        have hlt : g' < W.heap.size := (Array.getElem?_eq_some_iff.1 hh).1
        have hsz : cur.size = 20 := by rw [ht]; simp [Lib.pow10Tab]
        have hcur : ∀ j, j < 20 → cur[j]? = some (.int .u64 ((10 ^ j : Nat) : Int)) := by
          intro j hj
          rw [ht]
          simp [Lib.pow10Tab, hj]
        have hadd : ∀ j, (⟨g', 0, none⟩ : Addr).add j = ⟨g', j, none⟩ := fun j => by unfold Addr.add; by_cases h : j = 0 <;> simp [h]
        refine ⟨?_, fun vs hvs => ⟨1, ?_⟩⟩
        · have := Rep.ep (β := beM g') (w := W) (F := FzAll W) (.agg ((List.range 20).map fun i => .int .u64 ((10 ^ i : Nat) : Int))) 0 ⟨g', 0, none⟩ (fun j => .int .u64 ((10 ^ j : Nat) : Int)) (fun j c hc => ?_) (fun j c hc => ?_)
          · rw [hadd] at this; exact this
          · simp only [V.cells, List.getElem?_map, Option.map_eq_some_iff] at hc
            obtain ⟨i, hi, rfl⟩ := hc
            have hj : j < 20 := by have := (List.getElem?_eq_some_iff.1 hi).1; simpa using this
            exact ⟨_, rfl, hlt, by rw [hadd]; simp [World.cell?, hh, hcur j hj], rfl⟩
          · simp only [V.cells, List.getElem?_map, Option.map_eq_some_iff] at hc
            obtain ⟨i, hi, rfl⟩ := hc
            obtain ⟨hj, hi⟩ := List.getElem?_eq_some_iff.1 hi
            simp at hi
            subst hi
            exact .int _ _
        · injection hvs with hvs _
          injection hvs with hvs
          subst hvs
          have := Rep.own (β := beM g') (w := W) (F := FzAll W) 1 1 0 20 g' 20 cur.size ty rfl (shape_of hh) (by omega) (Nat.le_refl _) (by decide)
          simpa using this
      | _ => simp at ht
  · have : glV P g' = .unk := by
      unfold glV tabNames
      rw [List.find?_cons_of_neg (by simp; rw [hg]; simpa using fun h => hgg h.symm)]
      rfl
    rw [this]
    exact ⟨.unk _, fun vs h => by cases h⟩

/-- A law that answers true: what its row asks of a call. -/
theorem law_contractL {f : FuncId} {fn : Func} {s : ChangeSpec} {apart fresh handsOn again : Bool} {W : World} {args : Array Value} {ds gs : List (DataW H)} {before : List MemPlace} {base : Nat} {r : Reach} (n : Nat) {tb : TypeId}
    (hl : laidOutB P = true) (hts : (fn.params.toList.all fun t => plainT P n t && P.readableRec t && decide (t < P.types.size)) = true) (hv : s.vars = [])
    (hfn : ∀ ds : List (DataW H), ds.length = fn.params.toList.length → s.fn H (ds ++ []) = { results := [.lit (.bool true)], args := ds }) (hrt : fn.resultTypes = #[tb]) (htb : P.underlying tb = some .bool)
    (hval : ∀ (j : Nat) t v, fn.params[j]? = some t → args[j]? = some v → Value.okWide P W r base t v)
    (hW : DataW.Whole enc P fn.params.toList s.vars apart W args.toList ds gs before)
    {g : Nat} (hg : P.globalNamed "internal/strconv.uint64pow10" = some g) (htab : Lib.TabIs P W "internal/strconv.uint64pow10" .u64 Lib.pow10Tab)
    (hc : ∀ vs : List V, TyArgs P n fn.params.toList vs → AbsCall P f vs bxM fun r _ => r = .bool true) :
    Calls P f args W fun e W' => ∃ v, e = .returned v ∧ s.post enc P fn apart fresh handsOn again W args v W' := by
  have hW0 := hW
  obtain ⟨p, q, hA, hV, hpq, hfz, hnd⟩ := hW
  rw [hv] at hV
  have hgs : gs = [] ∧ q = [] := by
    cases gs with
    | nil => exact ⟨rfl, hV⟩
    | cons => simp [DataW.TrodVars] at hV
  obtain ⟨rfl, rfl⟩ := hgs
  rw [List.append_nil] at hpq
  subst hpq
  have hts' : ∀ t, t ∈ fn.params.toList → plainT P n t = true ∧ P.readableRec t = true ∧ t < P.types.size := by
    intro t ht
    have := List.all_eq_true.1 hts t ht
    simpa [Bool.and_eq_true, and_assoc] using this
  obtain ⟨vs, h1, h2, h3, h4, h5⟩ := args_typed (β := fun _ => none) (n := n) (r := r) (base := base) fn.params.toList args.toList ds before (fun t ht => (hts' t ht).1) (fun j t v a b => hval j t v (by simpa using a) (by simpa using b)) hA
  let M : Off := ⟨fun _ => none, W.heap.size⟩
  have hbx : ∀ b, bxM b ≠ none → b = 0 := fun b hb => by
    unfold bxM at hb
    split at hb
    · assumption
    · exact absurd rfl hb
  have hok : WOk (beM g) M bxM W := ⟨⟨2, fun b hb => by unfold beM; rw [if_neg (by omega), if_neg (by omega)]⟩, fun k o h => (by cases h), fun b box h => (by
    have h0 := hbx b (by rw [h]; simp)
    subst h0
    have : box = .row 0 0 [] := by simpa [bxM] using h.symm
    subst this
    exact .inl ⟨rfl, rfl⟩), fun b b' k h h' _ _ => by rw [hbx b h, hbx b' h']⟩
  have hF : ∀ k, Fz (beM g) M bxM W k ↔ FzAll W k := fun k => ⟨fun h => h.1, fun h => ⟨h, rfl, fun b hb he => by
    have h0 := hbx b hb
    subst h0
    cases he⟩⟩
  have hgl : GlOk P (beM g) W (FzAll W) := gl_laid hg htab
  have hlt := hA.lt
  refine ((hc vs h5).2 (beM g) M W args hok (hgl.imp fun _ _ hh => hh.mono (fun _ _ h => h) (fun k hk => ⟨(hF k).2 hk, rfl⟩) (fun _ _ h => h)) (by simpa using h1.symm) (fun i c hi => ?_)).mono ?_
  · have hi' : i < args.size := by have := (List.getElem?_eq_some_iff.1 hi).1; simpa [h1] using this
    have := h4 i c args[i] hi (by simp [hi'])
    have := this.mono (β' := beM g) (w' := W) (F' := Fz (beM g) M bxM W) (fun _ _ h => by cases h) (fun k hk => ⟨(hF k).2 hk, rfl⟩) (fun _ _ h => h)
    simpa [hi'] using this
  · rintro e W' ⟨v, r', bx', β', rfl, rfl, hok', htr, hrep⟩
    cases hrep
    have hb : Below W.heap.size W W' := ⟨htr.os, htr.tape, htr.output, htr.size, fun k hk => htr.keep k hk fun b hb he => by
      have h0 := hbx b hb
      subst h0
      cases he⟩
    refine ⟨_, rfl, ds, [], before, [], before, [], hW0, ?_, ?_, ?_, hb.frame _, fun _ => ?_⟩
    · rw [hfn ds h3, hrt]
      exact trodAll_cons_mk (⟨1, by simp [DataW.trod, Value.cells, htb]⟩ : DataW.Trod enc P _ _ _ _ _ (.bool true) (.lit (.bool true)) []) trodAll_mk0
    · rw [hfn ds h3]
      exact trodAll_below hl hb (fun t ht => (hts' t ht).2) (fun x hx => ⟨hlt x hx, by simpa using hlt x hx⟩) hA
    · rw [hv]
      have : (s.fn H (ds ++ [])).vars = [] := by rw [hfn ds h3]
      rw [this]; rfl
    · refine ⟨RowKit.ok_one hrt rfl (RowKit.okWide_bool_mk htb _), _, [], [] ++ before, ⟨[] ++ before, [], trodAll_append (trodAll_below hl hb (fun t ht => (hts' t ht).2) (fun x hx => ⟨hlt x hx, rfl⟩) hA) (ds := [.lit (.bool true)]) (p := []) ?_, ?_, by simp, ?_, ?_⟩, ?_⟩
      · rw [hrt]; exact trodAll_cons_mk (⟨1, by simp [DataW.trod, Value.cells, htb]⟩ : DataW.Trod enc P _ _ _ _ _ (.bool true) (.lit (.bool true)) []) trodAll_mk0
      · rw [hv]; rfl
      · intro b off hp
        have hp' : MemPlace.cell b off ∈ before := by simpa using hp
        rw [hb.frozen (p := ⟨b, off, none⟩) (hlt _ hp')]
        exact hfz b off hp'
      · intro ha; simpa using hnd ha
      · intro p hp _; simpa using hp


end
end Go.Pl
