/- Texts of the proof, put together: PlOut, PlLs, PlMr, PlSo, PlSt, PlLawM, PlRw, PlCv. -/
import Derived.Test.YtkjhfnlnbjmahaaGreatDoorGd
import Derived.ChangeArms
import Derived.OpenShut
import Derived.Carry
import Derived.ChangeSame
import Derived.JoinedCond
import Derived.Below
import Derived.Shelf.SlSortCmp.WholeK
import Derived.Shelf.Sort.Plain
import Derived.Shelf.Slices.CompactS
import Derived.Test.YtkjhfnlnbjmahaaGreatDoorGc

set_option linter.unusedSimpArgs false
set_option linter.unusedVariables false
namespace Go.Pl
open Go Go.ChangeShapes Go.WideShapes Go.ChangeAt Go.RowKit
def contig (P : Program) : List (Nat × TypeId) → Nat → Nat → Bool
 | [], o, m => o == m
 | (o', t) :: ps, o, m => o' == o && contig P ps (o + tsz P t) m
def plainT (P : Program) : Nat → TypeId → Bool
 | 0, _ => false
 | n + 1, t =>
   match P.underlying t with
   | some .bool | some (.int _) | some .string => tsz P t == 1
   | some (.slice e) => tsz P t == 1 && plainT P n e
   | some (.struct fs) => (fs.toList.all fun f => plainT P n f.type) && contig P (fs.toList.map fun f => (f.offset, f.type)) 0 (tsz P t)
   | some (.array m e) => plainT P n e && contig P ((List.range m).map fun i => (i * tsz P e, e)) 0 (tsz P t)
   | _ => false
def elV (P : Program) (e : TypeId) (xs : List V) : V := if tagg P e = true then .agg xs else xs.getD 0 .unk
def HasL (P : Program) : Nat → TypeId → List V → Prop
 | 0, _, _ => False
 | n + 1, t, xs => xs.length = tsz P t ∧
   match knd P t with
   | .bool => ∃ b, xs = [.bool b]
   | .int k => ∃ i, xs = [.int k i] ∧ (Lit.int k i).wf = true
   | .str => ∃ s, xs = [.str s] ∧ s.length ≤ maxLen
   | .slice e => ∃ es, xs = [.sl (tsz P e) es] ∧ es.length ≤ maxLen ∧ ∀ v, v ∈ es → ∃ ys, v = elV P e ys ∧ HasL P n e ys
   | .strct => ∀ f off ty, fld P t f = some (off, ty) → HasL P n ty ((xs.drop off).take (tsz P ty))
   | .arr m e => ∀ i, i < m → HasL P n e ((xs.drop (i * tsz P e)).take (tsz P e))
   | _ => False
section
variable {H : Type} {enc : TypeId × Value → H} {P : Program} {w : World} {spare : Nat → Bool} {held : Bool}
theorem elV_cells {e : TypeId} {xs : List V} (h : xs.length = tsz P e) (h1 : tagg P e = false → ∃ v, xs = [v] ∧ v.cells = [v]) : (elV P e xs).cells = xs := by
 unfold elV
 by_cases ht : tagg P e = true
 · rw [if_pos ht]; rfl
 · rw [if_neg ht]
   obtain ⟨v, rfl, hv⟩ := h1 (by simpa using ht)
   simpa using hv
def FzAll (w : World) (k : Nat) : Prop := k < w.heap.size
theorem cell_block {a : Addr} {u : Value} (h : w.cell? a = some u) : a.block < w.heap.size := by
 unfold World.cell? at h
 cases hh : w.heap[a.block]? with
 | none => simp [hh] at h
 | some o => exact (Array.getElem?_eq_some_iff.1 hh).1
theorem addr_add (a : Addr) (i j : Nat) : (a.add i).add j = a.add (i + j) := by
 unfold Addr.add
 by_cases hi : i = 0 <;> by_cases hj : j = 0 <;> simp [hi, hj, Nat.add_assoc]
theorem assemble {β : Beta} {n : Nat} {cs : List Value} (ih : ∀ (fuel : Nat) (t : TypeId) (cs : List Value) (x : DataW H × List MemPlace), plainT P n t = true → DataW.trod enc P w 0 spare held fuel t cs = some x →
     cs.length = tsz P t ∧ (∀ (j : Nat) (u : Value), cs[j]? = some u → u.oneCell' = true) ∧ ∃ xs : List V, xs.length = cs.length ∧ (∀ (j : Nat) (u : Value) (v : V), cs[j]? = some u → xs[j]? = some v → Rep β w (FzAll w) v u ∧ v.cells = [v]) ∧ HasL P n t xs) :
   ∀ (ps : List (Nat × TypeId)) (o : Nat), contig P ps o cs.length = true → (∀ p, p ∈ ps → plainT P n p.2 = true ∧ ∃ fuel x, DataW.trod enc P w 0 spare held fuel p.2 ((cs.drop p.1).take (tsz P p.2)) = some x) →
     o ≤ cs.length ∧ (∀ (j : Nat) (u : Value), cs[o + j]? = some u → u.oneCell' = true) ∧ ∃ xs : List V, xs.length = cs.length - o ∧ (∀ (j : Nat) (u : Value) (v : V), cs[o + j]? = some u → xs[j]? = some v → Rep β w (FzAll w) v u ∧ v.cells = [v]) ∧
       ∀ p, p ∈ ps → o ≤ p.1 ∧ HasL P n p.2 ((xs.drop (p.1 - o)).take (tsz P p.2))
 | [], o, h, _ => by
   simp only [contig, beq_iff_eq] at h
   subst h
   refine ⟨Nat.le_refl _, ?_, [], by simp, ?_, fun p hp => by cases hp⟩
   · intro j u hu
     rw [List.getElem?_eq_none (by omega)] at hu; cases hu
   · intro j u v hu
     rw [List.getElem?_eq_none (by omega)] at hu; cases hu
 | (o', t) :: ps, o, h, hp => by
   simp only [contig, Bool.and_eq_true, beq_iff_eq] at h
   obtain ⟨rfl, h⟩ := h
   obtain ⟨hpl, fuel, x, hx⟩ := hp (o', t) (by simp)
   dsimp only at hpl hx
   obtain ⟨g1, g2, xs1, g3, g4, g5⟩ := ih fuel t _ x hpl hx
   obtain ⟨k1, k2, xs2, k3, k4, k5⟩ := assemble ih ps (o' + tsz P t) h (fun p hp' => hp p (by simp [hp']))
   have hl1 : xs1.length = tsz P t := by rw [g3, g1]
   have hget : ∀ j, j < tsz P t → ((cs.drop o').take (tsz P t))[j]? = cs[o' + j]? := by
     intro j hj
     rw [List.getElem?_take, if_pos hj, List.getElem?_drop]
   refine ⟨by omega, ?_, xs1 ++ xs2, by simp; omega, ?_, ?_⟩
   · intro j u hu
     by_cases hj : j < tsz P t
     · exact g2 j u (by rw [hget j hj]; exact hu)
     · refine k2 (j - tsz P t) u ?_
       rw [← hu]; congr 1; omega
   · intro j u v hu hv
     by_cases hj : j < tsz P t
     · rw [List.getElem?_append_left (by omega)] at hv
       exact g4 j u v (by rw [hget j hj]; exact hu) hv
     · rw [List.getElem?_append_right (by omega), hl1] at hv
       refine k4 (j - tsz P t) u v ?_ hv
       rw [← hu]; congr 1; omega
   · intro p hp'
     rcases List.mem_cons.1 hp' with rfl | hp'
     · refine ⟨Nat.le_refl _, ?_⟩
       simp only [Nat.sub_self, List.drop_zero]
       rw [List.take_append_of_le_length (by omega), List.take_of_length_le (by omega)]
       exact g5
     · obtain ⟨m1, m2⟩ := k5 p hp'
       refine ⟨by omega, ?_⟩
       have : (xs1 ++ xs2).drop (p.1 - o') = xs2.drop (p.1 - (o' + tsz P t)) := by
         rw [List.drop_append, List.drop_of_length_le (by omega), List.nil_append]
         congr 1
         omega
       rw [this]
       exact m2
theorem trod_typed {β : Beta} : ∀ (n : Nat) (fuel : Nat) (t : TypeId) (cs : List Value) (x : DataW H × List MemPlace), plainT P n t = true → DataW.trod enc P w 0 spare held fuel t cs = some x →
   cs.length = tsz P t ∧ (∀ (j : Nat) (u : Value), cs[j]? = some u → u.oneCell' = true) ∧ ∃ xs : List V, xs.length = cs.length ∧ (∀ (j : Nat) (u : Value) (v : V), cs[j]? = some u → xs[j]? = some v → Rep β w (FzAll w) v u ∧ v.cells = [v]) ∧ HasL P n t xs
 | 0, _, _, _, _, h, _ => by simp [plainT] at h
 | n + 1, fuel, t, cs, x, h, ht => by
   have one : ∀ (u : Value) (v : V), cs = [u] → u.oneCell' = true → Rep β w (FzAll w) v u → v.cells = [v] → tsz P t = 1 → HasL P (n + 1) t [v] →
       cs.length = tsz P t ∧ (∀ (j : Nat) (u : Value), cs[j]? = some u → u.oneCell' = true) ∧ ∃ xs : List V, xs.length = cs.length ∧ (∀ (j : Nat) (u : Value) (v : V), cs[j]? = some u → xs[j]? = some v → Rep β w (FzAll w) v u ∧ v.cells = [v]) ∧ HasL P (n + 1) t xs := by
     rintro u v rfl h1 h2 h3 h4 h5
     refine ⟨by simp [h4], ?_, [v], rfl, ?_, h5⟩
     · intro j u' hj
       cases j with
       | zero => simp at hj; subst hj; exact h1
       | succ j => simp at hj
     · intro j u' v' hj hv
       cases j with
       | zero => simp at hj hv; subst hj hv; exact ⟨h2, h3⟩
       | succ j => simp at hj
   unfold plainT at h
   split at h
   · rename_i hu
     obtain ⟨b, rfl, _⟩ := DataW.trod_bool hu ht
     have hs : tsz P t = 1 := by simpa using h
     exact one _ (.bool b) rfl rfl (.bool b) rfl hs ⟨by simp [hs], by simp [knd, hu]⟩
   · rename_i k hu
     obtain ⟨i, rfl, _, hw⟩ := DataW.trod_int hu ht
     have hs : tsz P t = 1 := by simpa using h
     exact one _ (.int k i) rfl rfl (.int k i) rfl hs ⟨by simp [hs], by simpa [knd, hu] using hw⟩
   · rename_i hu
     obtain ⟨s, rfl, _, hw⟩ := DataW.trod_string hu ht
     have hs : tsz P t = 1 := by simpa using h
     refine one _ (.str s.data.toList) rfl rfl (.str s) rfl hs ⟨by simp [hs], ?_⟩
     simp only [knd, hu]
     exact ⟨_, rfl, by simpa using hw⟩
   · rename_i e hu
     simp only [Bool.and_eq_true, beq_iff_eq] at h
     obtain ⟨hs, he⟩ := h
     have hk : knd P t = .slice e := by simp [knd, hu]
     rcases DataW.trod_slice hu ht with ⟨rfl, _⟩ | ⟨a, len, cap, elems, rest, m, _, rfl, _, hb, hl, hm, hlen, hel, _, _⟩
     · refine one _ (.sl (tsz P e) []) rfl rfl (wk_nils _ _ _ _ _ .nils) rfl hs ⟨by simp [hs], ?_⟩
       rw [hk]
       exact ⟨[], rfl, by simp, fun v hv => by cases hv⟩
     · have hex : ∀ i, i < len → ∃ (cs' : List Value) (xs : List V), w.cells? 0 (a.add (i * P.cellsOf e)) (P.cellsOf e) = some cs' ∧ cs'.length = tsz P e ∧ (∀ (j : Nat) (u : Value), cs'[j]? = some u → u.oneCell' = true) ∧ xs.length = cs'.length ∧
           (∀ (j : Nat) (u : Value) (v : V), cs'[j]? = some u → xs[j]? = some v → Rep β w (FzAll w) v u ∧ v.cells = [v]) ∧ HasL P n e xs := by
         intro i hi
         have h1 := hel i hi
         rw [List.getElem?_eq_getElem (by omega)] at h1
         obtain ⟨cs', h2, h3⟩ := Option.bind_eq_some_iff.1 h1
         obtain ⟨h4, h5, xs, h6, h7, h8⟩ := trod_typed n _ _ _ _ he h3
         exact ⟨cs', xs, h2, h4, h5, h6, h7, h8⟩
       obtain ⟨f, hf⟩ := Go.Deep.choose_lt (α := List Value × List V) (p := fun i p => w.cells? 0 (a.add (i * P.cellsOf e)) (P.cellsOf e) = some p.1 ∧ p.1.length = tsz P e ∧ (∀ (j : Nat) (u : Value), p.1[j]? = some u → u.oneCell' = true) ∧ p.2.length = p.1.length ∧
           (∀ (j : Nat) (u : Value) (v : V), p.1[j]? = some u → p.2[j]? = some v → Rep β w (FzAll w) v u ∧ v.cells = [v]) ∧ HasL P n e p.2) (fun i hi => by
         obtain ⟨cs', xs, h⟩ := hex i hi
         exact ⟨(cs', xs), h⟩)
       have hec : ∀ i, i < len → (elV P e (f i).2).cells = (f i).2 := by
         intro i hi
         obtain ⟨h1, h2, h3, h4, h5, h6⟩ := hf i hi
         refine elV_cells (by omega) fun htg => ?_
         have htz : tsz P e = 1 := by
           cases n with
           | zero => exact h6.elim
           | succ n =>
             unfold plainT at he
             unfold tagg at htg
             split at he <;> simp_all
         obtain ⟨v, hv⟩ : ∃ v, (f i).2 = [v] := by
           match hm : (f i).2, (show (f i).2.length = 1 by omega) with
           | [v], _ => exact ⟨v, rfl⟩
         obtain ⟨u, hu⟩ : ∃ u, (f i).1 = [u] := by
           match hm : (f i).1, (show (f i).1.length = 1 by omega) with
           | [v], _ => exact ⟨v, rfl⟩
         exact ⟨v, hv, (h5 0 u v (by simp [hu]) (by simp [hv])).2⟩
       have hcell : ∀ i, i < len → ∀ (j : Nat) (u : Value), (f i).1[j]? = some u → w.cell? (a.add (i * tsz P e + j)) = some u := by
         intro i hi j u hu
         have h1 := (World.cells?_some (hf i hi).1).2
         have hj : j < P.cellsOf e := by rw [← h1.1]; exact (List.getElem?_eq_some_iff.1 hu).1
         have h2 := h1.2 j hj
         rw [addr_add, hu] at h2
         exact h2
       let es : List V := (List.range len).map fun i => elV P e (f i).2
       have hesl : es.length = len := by simp [es]
       have hes : ∀ i e', es[i]? = some e' → i < len ∧ e' = elV P e (f i).2 := by
         intro i e' h
         simp only [es, List.getElem?_map, Option.map_eq_some_iff] at h
         obtain ⟨k, h1, rfl⟩ := h
         have := List.getElem?_eq_some_iff.1 h1
         obtain ⟨h2, h3⟩ := this
         simp at h2 h3
         subst h3
         exact ⟨h2, rfl⟩
       refine one _ (.sl (tsz P e) es) rfl rfl ?_ rfl hs ⟨by simp [hs], ?_⟩
       · have hrep := Rep.sl (β := β) (w := w) (F := FzAll w) (tsz P e) es (some a) cap (fun q => (w.cell? (a.add q)).getD undef) (by omega) hm (by simp) ?_ ?_ ?_
         · rwa [hesl] at hrep
         · intro e' he'
           obtain ⟨i, hi⟩ := List.getElem?_of_mem he'
           obtain ⟨h1, rfl⟩ := hes i e' hi
           rw [hec i h1]
           have := hf i h1
           omega
         · intro i e' j c h1 h2
           obtain ⟨hi, rfl⟩ := hes i e' h1
           rw [hec i hi] at h2
           obtain ⟨g1, g2, g3, g4, g5, g6⟩ := hf i hi
           have hj : j < (f i).1.length := by rw [← g4]; exact (List.getElem?_eq_some_iff.1 h2).1
           have hu := List.getElem?_eq_getElem hj
           have hc := hcell i hi j _ hu
           refine ⟨a, rfl, by rw [← block_add a (i * tsz P e + j)]; exact cell_block hc, by rw [hc]; rfl, by rw [hc]; exact g3 j _ hu⟩
         · intro i e' j c h1 h2
           obtain ⟨hi, rfl⟩ := hes i e' h1
           rw [hec i hi] at h2
           obtain ⟨g1, g2, g3, g4, g5, g6⟩ := hf i hi
           have hj : j < (f i).1.length := by rw [← g4]; exact (List.getElem?_eq_some_iff.1 h2).1
           have hu := List.getElem?_eq_getElem hj
           have hc := hcell i hi j _ hu
           rw [hc]
           exact (g5 j _ _ hu h2).1
       · rw [hk]
         refine ⟨es, rfl, by omega, fun v hv => ?_⟩
         obtain ⟨i, hi⟩ := List.getElem?_of_mem hv
         obtain ⟨h1, rfl⟩ := hes i v hi
         exact ⟨_, rfl, (hf i h1).2.2.2.2.2⟩
   · rename_i fs hu
     simp only [Bool.and_eq_true, List.all_eq_true] at h
     obtain ⟨hp, hc⟩ := h
     obtain ⟨xs0, m, _, _, hlen, _, hf⟩ := DataW.trod_struct hu ht
     have hl : cs.length = tsz P t := hlen
     rw [← hl] at hc
     obtain ⟨_, h2, xs, h3, h4, h5⟩ := assemble (β := β) (fun fuel t cs x => trod_typed n fuel t cs x) _ 0 hc (fun p hp' => by
       obtain ⟨f, hf1, rfl⟩ := List.mem_map.1 hp'
       obtain ⟨i, hi⟩ := List.getElem?_of_mem hf1
       refine ⟨hp f hf1, m, ?_⟩
       have := hf i f (by simpa using hi)
       have h6 := (List.getElem?_eq_some_iff.1 hi).1
       rw [Array.length_toList] at h6
       obtain ⟨y, hy⟩ : ∃ y, xs0[i]? = some y := ⟨_, List.getElem?_eq_getElem (by omega)⟩
       exact ⟨y, by rw [hy] at this; exact this⟩)
     simp only [Nat.zero_add] at h2 h4
     refine ⟨hl, h2, xs, by omega, h4, by omega, ?_⟩
     have hk : knd P t = .strct := by simp [knd, hu]
     rw [hk]
     intro f off ty hfl
     simp only [fld, hu, Option.map_eq_some_iff, Prod.mk.injEq] at hfl
     obtain ⟨fi, h6, rfl, rfl⟩ := hfl
     have := (h5 (fi.offset, fi.type) (List.mem_map.2 ⟨fi, by simpa using Array.mem_of_getElem? h6, rfl⟩)).2
     simpa using this
   · rename_i m e hu
     simp only [Bool.and_eq_true] at h
     obtain ⟨hp, hc⟩ := h
     obtain ⟨xs0, q, _, _, hlen, hxl, hf⟩ := DataW.trod_array hu ht
     have hl : cs.length = tsz P t := hlen
     rw [← hl] at hc
     obtain ⟨_, h2, xs, h3, h4, h5⟩ := assemble (β := β) (fun fuel t cs x => trod_typed n fuel t cs x) _ 0 hc (fun p hp' => by
       obtain ⟨i, hi, rfl⟩ := List.mem_map.1 hp'
       have hi' : i < m := by simpa using hi
       refine ⟨hp, q, xs0[i], ?_⟩
       rw [← List.getElem?_eq_getElem (by omega)]
       exact hf i hi')
     simp only [Nat.zero_add] at h2 h4
     refine ⟨hl, h2, xs, by omega, h4, by omega, ?_⟩
     have hk : knd P t = .arr m e := by simp [knd, hu]
     rw [hk]
     intro i hi
     have := (h5 (i * tsz P e, e) (List.mem_map.2 ⟨i, by simpa using hi, rfl⟩)).2
     simpa using this
   · cases h
def TyArgs (P : Program) (n : Nat) : List TypeId → List V → Prop
 | [], [] => True
 | t :: ts, v :: vs => (∃ xs, v = elV P t xs ∧ HasL P n t xs) ∧ TyArgs P n ts vs
 | _, _ => False
theorem okWide_shape {n : Nat} {t : TypeId} {v : Value} {r : Reach} {base : Nat} (hp : plainT P n t = true) (h : Value.okWide P w r base t v) : (tagg P t = true → ∃ us, v = .agg us) ∧ (tagg P t = false → v.cells = #[v]) := by
 cases n with
 | zero => simp [plainT] at hp
 | succ n =>
   unfold plainT at hp
   have cell : (∀ cs, P.underlying t ≠ some (.struct cs)) → (∀ m e, P.underlying t ≠ some (.array m e)) → (P.underlying t = some .bool ∨ (∃ k, P.underlying t = some (.int k)) ∨ P.underlying t = some .string ∨ ∃ e, P.underlying t = some (.slice e)) →
       (tagg P t = true → ∃ us, v = .agg us) ∧ (tagg P t = false → v.cells = #[v]) := by
     rintro _ _ (hu | ⟨k, hu⟩ | hu | ⟨e, hu⟩)
     all_goals
       have htg : tagg P t = false := by simp [tagg, hu]
       refine ⟨fun h1 => (by rw [htg] at h1; cases h1), fun _ => ?_⟩
       unfold Value.okWide at h
       rw [hu] at h
       unfold Cell.okWide at h
       rw [hu] at h
       cases v <;> first | rfl | (simp [Cell.ok, hu] at h)
   have agg : (∃ us, v = .agg us) → tagg P t = true → (tagg P t = true → ∃ us, v = .agg us) ∧ (tagg P t = false → v.cells = #[v]) := fun h1 h2 => ⟨fun _ => h1, fun h3 => by rw [h2] at h3; cases h3⟩
   split at hp
   · rename_i hu; exact cell (by simp [hu]) (by simp [hu]) (.inl hu)
   · rename_i k hu; exact cell (by simp [hu]) (by simp [hu]) (.inr (.inl ⟨k, hu⟩))
   · rename_i hu; exact cell (by simp [hu]) (by simp [hu]) (.inr (.inr (.inl hu)))
   · rename_i e hu; exact cell (by simp [hu]) (by simp [hu]) (.inr (.inr (.inr ⟨e, hu⟩)))
   · rename_i fs hu
     unfold Value.okWide at h
     rw [hu] at h
     obtain ⟨cs, rfl, _⟩ := h
     exact agg ⟨cs, rfl⟩ (by simp [tagg, hu])
   · rename_i m e hu
     unfold Value.okWide at h
     rw [hu] at h
     obtain ⟨cs, rfl, _⟩ := h
     exact agg ⟨cs, rfl⟩ (by simp [tagg, hu])
   · cases hp
theorem args_typed {β : Beta} {n : Nat} {r : Reach} {base : Nat} : ∀ (ts : List TypeId) (args : List Value) (ds : List (DataW H)) (ps : List MemPlace), (∀ t, t ∈ ts → plainT P n t = true) → (∀ (j : Nat) (t : TypeId) (v : Value), ts[j]? = some t → args[j]? = some v → Value.okWide P w r base t v) →
   DataW.TrodAll enc P w 0 spare held ts args ds ps → ∃ vs : List V, vs.length = args.length ∧ args.length = ts.length ∧ ds.length = ts.length ∧ (∀ (i : Nat) (v : V) (u : Value), vs[i]? = some v → args[i]? = some u → Rep β w (FzAll w) v u) ∧ TyArgs P n ts vs
 | [], [], [], _, _, _, _ => ⟨[], rfl, rfl, rfl, fun i v u h => by simp at h, trivial⟩
 | t :: ts, u :: args, d :: ds, ps, hp, ho, h => by
   obtain ⟨p, q, ⟨fuel, h1⟩, h2, _⟩ := h
   have hpt := hp t (by simp)
   obtain ⟨g1, g2, xs, g3, g4, g5⟩ := trod_typed (β := β) n fuel t _ _ hpt h1
   obtain ⟨k1, k2⟩ := okWide_shape hpt (ho 0 t u rfl rfl)
   obtain ⟨vs, m1, m2, m3, m4, m5⟩ := args_typed ts args ds q (fun t ht => hp t (by simp [ht])) (fun j t v h3 h4 => ho (j + 1) t v (by simpa using h3) (by simpa using h4)) h2
   refine ⟨elV P t xs :: vs, by simp [m1], by simp [m2], by simp [m3], ?_, ⟨xs, rfl, g5⟩, m5⟩
   intro i v u' hv hu
   cases i with
   | succ i => exact m4 i v u' (by simpa using hv) (by simpa using hu)
   | zero =>
     simp at hv hu
     subst hv hu
     unfold elV
     by_cases ht : tagg P t = true
     · rw [if_pos ht]
       obtain ⟨us, rfl⟩ := k1 ht
       simp only [Value.cells] at g1 g2 g3 g4
       refine .agg xs us (by simpa using g3.symm) (fun i hi => ?_) (fun i c hc => ?_)
       · have hi' : i < us.size := by simpa [g3] using hi
         have := g2 i us[i] (by simp [hi'])
         simpa [hi'] using this
       · have hi' : i < us.size := by have := (List.getElem?_eq_some_iff.1 hc).1; simpa [g3] using this
         have := (g4 i us[i] c (by simp [hi']) hc).1
         simpa [hi'] using this
     · rw [if_neg ht]
       have hc := k2 (by simpa using ht)
       rw [hc] at g1 g2 g3 g4
       have hl : xs.length = 1 := by simpa using g3
       match xs, hl with
       | [x], _ => exact (g4 0 u x (by simp) (by simp)).1
 | [], _ :: _, _, _, _, _, h => by simp [DataW.TrodAll] at h
 | [], [], _ :: _, _, _, _, h => by simp [DataW.TrodAll] at h
 | _ :: _, [], _, _, _, _, h => by simp [DataW.TrodAll] at h
 | _ :: _, _ :: _, [], _, _, _, h => by simp [DataW.TrodAll] at h
theorem trodAll_below (hl : laidOutB P = true) {W W' : World} (hb : Below W.heap.size W W') : ∀ {ts : List TypeId} {vs : List Value} {ds : List (DataW H)} {ps : List MemPlace} {sp : Nat → Bool}, (∀ t, t ∈ ts → P.readableRec t = true ∧ t < P.types.size) → (∀ x ∈ ps, x.block < W.heap.size ∧ sp x.block = true) →
   DataW.TrodAll enc P W 0 (fun _ => true) true ts vs ds ps → DataW.TrodAll enc P W' 0 sp true ts vs ds ps
 | [], [], [], _, _, _, _, h => h
 | t :: ts, v :: vs, d :: ds, ps, sp, ht, hp, h => by
   obtain ⟨p, q, h1, h2, rfl⟩ := h
   obtain ⟨g1, g2⟩ := ht t (by simp)
   exact ⟨p, q, WideElems.Trod_stays hl g1 g2 h1 (fun x hx => hb.same (hp x (by simp [hx])).1) (fun x hx => (hp x (by simp [hx])).2), trodAll_below hl hb (fun t ht' => ht t (by simp [ht'])) (fun x hx => hp x (by simp [hx])) h2, rfl⟩
 | [], _ :: _, _, _, _, _, _, h => by simp [DataW.TrodAll] at h
 | [], [], _ :: _, _, _, _, _, h => by simp [DataW.TrodAll] at h
 | _ :: _, [], _, _, _, _, _, h => by simp [DataW.TrodAll] at h
 | _ :: _, _ :: _, [], _, _, _, _, h => by simp [DataW.TrodAll] at h
theorem gl_none (h : (tabNames.all fun x => (P.globalNamed x.1).isNone) = true) {β : Beta} {w : World} {F : Nat → Prop} : GlOk P β w F := by
 intro g
 have : glV P g = .unk := by
   unfold glV
   rw [show (tabNames.find? fun x => decide (P.globalNamed x.1 = some g)) = none from List.find?_eq_none.2 fun x hx => by
     have := List.all_eq_true.1 h x hx
     cases hg : P.globalNamed x.1 with
     | none => simp
     | some y => rw [hg] at this; cases this]
 rw [this]
 exact ⟨.unk _, fun vs h => by cases h⟩
theorem HasL.int {n : Nat} {t : TypeId} {k : IntKind} {xs : List V} (hk : knd P t = .int k) (h : HasL P n t xs) : ∃ i, xs = [.int k i] ∧ (Lit.int k i).wf = true := by
 cases n with
 | zero => exact h.elim
 | succ n => obtain ⟨_, h⟩ := h; rw [hk] at h; exact h
theorem HasL.bool {n : Nat} {t : TypeId} {xs : List V} (hk : knd P t = .bool) (h : HasL P n t xs) : ∃ b, xs = [.bool b] := by
 cases n with
 | zero => exact h.elim
 | succ n => obtain ⟨_, h⟩ := h; rw [hk] at h; exact h
theorem HasL.str {n : Nat} {t : TypeId} {xs : List V} (hk : knd P t = .str) (h : HasL P n t xs) : ∃ s, xs = [.str s] ∧ s.length ≤ maxLen := by
 cases n with
 | zero => exact h.elim
 | succ n => obtain ⟨_, h⟩ := h; rw [hk] at h; exact h
theorem HasL.slice {α : Type} {r : α → V} {n : Nat} {t e : TypeId} {xs : List V} (hk : knd P t = .slice e) (h : HasL P (n + 1) t xs) (he : ∀ ys, HasL P n e ys → ∃ a, elV P e ys = r a) : ∃ l : List α, xs = [.sl (tsz P e) (l.map r)] ∧ l.length ≤ maxLen := by
 obtain ⟨_, h⟩ := h
 rw [hk] at h
 obtain ⟨es, rfl, hlen, h⟩ := h
 have : ∀ es : List V, (∀ v, v ∈ es → ∃ ys, v = elV P e ys ∧ HasL P n e ys) → ∃ l : List α, es = l.map r := by
   intro es
   induction es with
   | nil => intro _; exact ⟨[], rfl⟩
   | cons v es ih =>
     intro h
     obtain ⟨l, rfl⟩ := ih fun v hv => h v (by simp [hv])
     obtain ⟨ys, rfl, h2⟩ := h v (by simp)
     obtain ⟨a, ha⟩ := he ys h2
     exact ⟨a :: l, by simp [ha]⟩
 obtain ⟨l, rfl⟩ := this es h
 exact ⟨l, rfl, by simpa using hlen⟩
theorem HasL.fld {n : Nat} {t ty : TypeId} {f off : Nat} {xs : List V} (hk : knd P t = .strct) (h : HasL P (n + 1) t xs) (hf : Go.Pl.fld P t f = some (off, ty)) : HasL P n ty ((xs.drop off).take (tsz P ty)) := by
 obtain ⟨_, h⟩ := h
 rw [hk] at h
 exact h f off ty hf
theorem HasL.len {n : Nat} {t : TypeId} {xs : List V} (h : HasL P n t xs) : xs.length = tsz P t := by
 cases n with
 | zero => exact h.elim
 | succ n => exact h.1
theorem HasL.arr {n m i : Nat} {t e : TypeId} {xs : List V} (hk : knd P t = .arr m e) (h : HasL P (n + 1) t xs) (hi : i < m) : HasL P n e ((xs.drop (i * tsz P e)).take (tsz P e)) := by
 obtain ⟨_, h⟩ := h
 rw [hk] at h
 exact h i hi
theorem len2 {α : Type} {l : List α} (h : l.length = 2) : ∃ a b, l = [a, b] := by
 match l, h with
 | [a, b], _ => exact ⟨a, b, rfl⟩
theorem tyArgs2 {n : Nat} {t u : TypeId} {vs : List V} (h : TyArgs P n [t, u] vs) : ∃ xs ys, vs = [elV P t xs, elV P u ys] ∧ HasL P n t xs ∧ HasL P n u ys := by
 match vs, h with
 | [a, b], ⟨⟨xs, h1, h2⟩, ⟨ys, h3, h4⟩, _⟩ => exact ⟨xs, ys, by rw [h1, h3], h2, h4⟩
theorem elV_one {t : TypeId} {v : V} (h : tagg P t = false) : elV P t [v] = v := by simp [elV, h]
theorem elV_agg {t : TypeId} {xs : List V} (h : tagg P t = true) : elV P t xs = .agg xs := by simp [elV, h]
end
end Go.Pl

set_option linter.unusedVariables false
set_option linter.unusedSimpArgs false
namespace Go.Pl
open Go Go.RowKit
section
variable {P : Program} {β : Beta} {M : Off} {bx : Boxes} {w w' : World}
theorem below_ok (hok : WOk β M bx w) (hm : Mk bx) (hb : Below w.heap.size w w') : WOk β M bx w' ∧ Tr β bx w β bx w' := by
 have hsz := hb.size
 have hk : ∀ k, k < w.heap.size → w'.heap[k]? = w.heap[k]? := hb.block
 refine ⟨hok.grown hsz hok.fin (fun _ _ h => h) hk, ?_⟩
 have := Tr.grown hok (w' := { w' with drawn := w.drawn }) hb.os hb.tape hb.output (Nat.le_refl _) hsz (fun _ _ h => h) hk
 exact ⟨this.os, this.tape, this.output, fun hn => absurd hm hn, this.nomk, this.size, this.keep, this.shape, this.ext, this.news⟩
theorem upd_none {bx : Boxes} {b : Nat} (hb : bx b = none) : upd bx b none = bx := by
 funext c
 by_cases e : c = b
 · subst e; rw [upd_eq, hb]
 · rw [upd_ne _ _ e]
def litV : V → Option Value
 | .str s => some (.string ⟨s.toArray⟩)
 | .int k i => some (.int k i)
 | .bool b => some (.bool b)
 | _ => none
theorem lit_inv {c : V} {v u : Value} {F : Nat → Prop} (h : litV c = some v) (r : Rep β w F c u) : u = v := by
 cases c with
 | str s =>
   obtain ⟨x, rfl, rfl⟩ := r.str_inv
   simp only [litV, Option.some.injEq] at h
   rw [← h]
 | int k i =>
   simp only [litV, Option.some.injEq] at h
   rw [← h]; exact r.int_inv
 | bool b =>
   simp only [litV, Option.some.injEq] at h
   rw [← h]; cases r; rfl
 | _ => simp [litV] at h
theorem rep_str {F : Nat → Prop} (s : List UInt8) : Rep β w F (.str s) (.string ⟨s.toArray⟩) := by
 have := Rep.str (β := β) (w := w) (F := F) ⟨s.toArray⟩
 exact this
theorem lit_args {args : List V} {us : List Value} {F : Nat → Prop} {vs : Array Value} (ha : args.map litV = us.map some) (hvs : vs.size = args.length) (hrep : ∀ (i : Nat) (c : V), args[i]? = some c → Rep β w F c (vs.getD i undef)) : vs = us.toArray := by
 have hl : args.length = us.length := by have := congrArg List.length ha; simpa using this
 apply Array.ext
 · simp [hvs, hl]
 · intro i h1 h2
   have hi : i < args.length := by omega
   have h3 : (args.map litV)[i]? = (us.map some)[i]? := by rw [ha]
   rw [List.getElem?_map, List.getElem?_map, List.getElem?_eq_getElem hi, List.getElem?_eq_getElem (by omega)] at h3
   have h4 := lit_inv (by simpa using h3) (hrep i _ (List.getElem?_eq_getElem hi))
   rw [Array.getD_eq_getD_getElem?, Array.getElem?_eq_getElem h1] at h4
   simpa using h4
theorem lift_lits {f : FuncId} {args : List V} {r : V} {us : List Value} {u : Value} (hent : ∀ vs w, (callFunc f vs).run P w = .ok (.enter f vs) w) (ha : args.map litV = us.map some) (hr : ∀ β w F, Rep β w F r u) (hm : Mk bx)
   (hcon : ∀ w : World, Calls P f us.toArray w fun e w' => e = .returned u ∧ Below w.heap.size w w') : PureCall P f args bx r := by
 refine ⟨hent, fun β M w vs hok hgl hvs hrep => ?_⟩
 obtain rfl := lit_args ha hvs hrep
 refine (hcon w).mono ?_
 rintro e w' ⟨rfl, hb⟩
 obtain ⟨h1, h2⟩ := below_ok hok hm hb
 exact ⟨u, r, bx, β, rfl, ⟨rfl, rfl⟩, h1, h2, hr _ _ _⟩
theorem below_okD (hok : WOk β M bx w) (hd : w.drawn ≤ w'.drawn) (hb : Below w.heap.size w w') : WOk β M bx w' ∧ Tr β bx w β bx w' := by
 have hsz := hb.size
 have hk : ∀ k, k < w.heap.size → w'.heap[k]? = w.heap[k]? := hb.block
 exact ⟨hok.grown hsz hok.fin (fun _ _ h => h) hk, Tr.grown hok hb.os hb.tape hb.output hd hsz (fun _ _ h => h) hk⟩
theorem lift_litsD {f : FuncId} {args : List V} {r : V} {us : List Value} {u : Value} (hent : ∀ vs w, (callFunc f vs).run P w = .ok (.enter f vs) w) (ha : args.map litV = us.map some) (hr : ∀ β w F, Rep β w F r u)
   (hcon : ∀ w : World, Calls P f us.toArray w fun e w' => e = .returned u ∧ Below w.heap.size w w' ∧ w.drawn ≤ w'.drawn) : PureCall P f args bx r := by
 refine ⟨hent, fun β M w vs hok hgl hvs hrep => ?_⟩
 obtain rfl := lit_args ha hvs hrep
 refine (hcon w).mono ?_
 rintro e w' ⟨rfl, hb, hd⟩
 obtain ⟨h1, h2⟩ := below_okD hok hd hb
 exact ⟨u, r, bx, β, rfl, ⟨rfl, rfl⟩, h1, h2, hr _ _ _⟩
theorem sl_bytes {l : List UInt8} {u : Value} {F : Nat → Prop} (r : Rep β w F (.sl 1 (l.map byteV)) u) : ∃ A cap, u = .slice A l.length cap ∧ ((A = none ∧ l = []) ∨ ∃ a, A = some a ∧ ∀ i, i < l.length → w.cell? (a.add i) = some (.int .u8 ((l.map fun b => (b.toNat : Int)).getD i 0))) := by
 generalize hE : l.map byteV = E at r
 cases r with
 | sl sz es A cap u hcap hmax hA hsz hc hr =>
   have hl : E.length = l.length := by rw [← hE]; simp
   refine ⟨A, cap, by rw [hl], ?_⟩
   cases A with
   | none =>
     left
     refine ⟨rfl, ?_⟩
     rcases l with _ | ⟨a, l⟩
     · rfl
     · exact absurd rfl (hA (by rw [← hE]; simp))
   | some a =>
     refine .inr ⟨a, rfl, fun i hi => ?_⟩
     have he : E[i]? = some (byteV l[i]) := by rw [← hE]; simp [hi]
     obtain ⟨a', ha, _, h1, _⟩ := hc i _ 0 (byteV l[i]) he rfl
     injection ha with ha
     subst ha
     have h2 := hr i _ 0 (byteV l[i]) he rfl
     simp only [Nat.mul_one, Nat.add_zero] at h1 h2
     have h3 : u i = .int .u8 l[i].toNat := h2.int_inv
     rw [h1, h3]
     simp [hi]
end
end Go.Pl

set_option linter.unusedVariables false
namespace Go.Pl
open Go
def Seen (n : Nat) (bs is seen : List Nat) : Prop := seen = is.map (fun i => bs.getD i 0) ∧ is.Nodup ∧ ∀ i, i ∈ is → i < n
theorem Seen.nil (n : Nat) (bs : List Nat) : Seen n bs [] [] := ⟨rfl, by simp, fun i h => by cases h⟩
theorem Seen.next {n : Nat} {bs is seen : List Nat} (h : Seen n bs is seen) (hl : bs.length = n) {i q : Nat} (hq : bs[i]? = some q) (hs : ¬ q ∈ seen) : ¬ i ∈ is ∧ i < n ∧ Seen n bs (is ++ [i]) (seen ++ [q]) := by
 obtain ⟨h1, h2, h3⟩ := h
 have hi : i < bs.length := (List.getElem?_eq_some_iff.1 hq).1
 have hg : bs.getD i 0 = q := by rw [List.getD_eq_getElem?_getD, hq]; rfl
 have hn : ¬ i ∈ is := fun hm => hs (by rw [h1]; exact List.mem_map.2 ⟨i, hm, hg⟩)
 refine ⟨hn, by omega, by rw [h1, List.map_append, List.map_cons, List.map_nil, hg], ?_, fun j hj => ?_⟩
 · rw [List.nodup_append]
   exact ⟨h2, by simp, fun a ha b hb => by simp at hb; subst hb; exact fun e => hn (e ▸ ha)⟩
 · rcases List.mem_append.1 hj with hj | hj
   · exact h3 j hj
   · simp at hj; omega
theorem Seen.all {n : Nat} {bs is seen : List Nat} (h : Seen n bs is seen) (hl : bs.length = n) (hnd : bs.Nodup) (ha : ∀ q, q ∈ bs → q ∈ seen) : is.Perm (List.range n) := by
 obtain ⟨h1, h2, h3⟩ := h
 refine (List.perm_ext_iff_of_nodup h2 List.nodup_range).2 fun i => ⟨fun hi => List.mem_range.2 (h3 i hi), fun hi => ?_⟩
 have hil : i < bs.length := by rw [hl]; exact List.mem_range.1 hi
 have hm := ha bs[i] (List.getElem_mem hil)
 rw [h1] at hm
 obtain ⟨j, hj, he⟩ := List.mem_map.1 hm
 have hjl : j < bs.length := by rw [hl]; exact h3 j hj
 have e2 : bs[j] = bs[i] := by rw [← he]; simp [hjl]
 have : j = i := by
   rcases Nat.lt_trichotomy j i with h | h | h
   · exact absurd e2 ((List.pairwise_iff_getElem.1 hnd) j i hjl hil h)
   · exact h
   · exact absurd e2.symm ((List.pairwise_iff_getElem.1 hnd) i j hil hjl h)
 subst this
 exact hj
theorem Seen.len {n : Nat} {bs is seen : List Nat} (h : Seen n bs is seen) : is.length ≤ n := by
 have h1 : is.length ≤ (List.range n).length := List.Nodup.length_le_of_subset h.2.1 fun i hi => List.mem_range.2 (h.2.2 i hi)
 simpa using h1
theorem sub_unS {bx bx' : Boxes} {b : Nat} {es : List (V × V)} {bs : List Nat} {c : Nat} (h : bx b = some (.mapS es bs c)) (hb : bx' b = some (.map es)) (ho : ∀ d, d ≠ b → bx' d = none ∨ bx' d = bx d) : SubBx bx bx' := fun d => by
 by_cases e : d = b
 · subst e; exact .inr (.inr ⟨es, bs, c, h, hb⟩)
 · rcases ho d e with h | h
   · exact .inl h
   · exact .inr (.inl h)
theorem ret_sub {P : Program} {rs : List ResultVar} {Kc : V → Boxes → Prop} {st : St} {bx' : Boxes} (h : ∀ r, r ∈ rs → (resEv P st r).1) (hs : SubBx st.bx bx') (hk : Kc (resV P st rs) bx') : Ret P rs Kc st :=
 ⟨h, bx', _, hs, .inl rfl, hk⟩
end Go.Pl

set_option linter.unusedVariables false
set_option linter.unusedSimpArgs false
namespace Go.Pl
open Go
section
variable {P : Program} {α : Type} [Inhabited α]
structure EncOk (enc : α → List Value) (encV : α → V) (k : Nat) : Prop where
 len : ∀ x, (enc x).length = k
 vlen : ∀ x, (encV x).cells.length = k
 one : ∀ x v, v ∈ enc x → v.oneCell' = true
 rep : ∀ x (j : Nat) (c : V), (encV x).cells[j]? = some c → ∀ β w F, Rep β w F c ((enc x)[j]!)
 inv : ∀ x (j : Nat) (c : V), (encV x).cells[j]? = some c → ∀ β w F u, Rep β w F c u → u = (enc x)[j]!
theorem div_at {d k t : Nat} (h : t < d * k) : t / k < d ∧ t % k < k ∧ t / k * k + t % k = t := by
 have hk : 0 < k := by
   rcases Nat.eq_zero_or_pos k with rfl | h0
   · simp at h
   · exact h0
 refine ⟨(Nat.div_lt_iff_lt_mul hk).2 h, Nat.mod_lt _ hk, ?_⟩
 have := Nat.div_add_mod t k
 rw [Nat.mul_comm] at this
 exact this
theorem holdsK_of {enc : α → List Value} {encV : α → V} {k : Nat} (he : EncOk enc encV k) {β : Beta} {w : World} {F : Nat → Prop} {blk : Nat} {ty : TypeId} {cur : Array Value} {fr : Nat × Nat} (hcur : w.heap[blk]? = some (.cells cur ty fr)) (hfr : FrOk cur.size fr) {d : Array α}
   (hl : d.size * k ≤ cur.size) (hr : RowRep β w F k (d.toList.map encV) cur) : Sort.HoldsK enc k w blk 0 d := by
 intro t ht
 simp only [Sort.size_flatK] at ht
 obtain ⟨h1, h2, h3⟩ := div_at ht
 have hi : (d.toList.map encV)[t / k]? = some (encV d[t / k]!) := by
   simp [h1]
 obtain ⟨h4, h5⟩ := hr _ _ hi
 have hj : (encV d[t / k]!).cells[t % k]? = some ((encV d[t / k]!).cells[t % k]'(by rw [h4]; exact h2)) := List.getElem?_eq_getElem _
 obtain ⟨_, h6⟩ := h5 _ _ hj
 have h7 := he.inv _ _ _ hj _ _ _ _ h6
 rw [h3] at h7
 rw [Sort.get_flatK _ _ _ _ ht, ← h7]
 have hlt : t < cur.size := by omega
 constructor
 · simp [World.cell?, hcur, hlt]
 · rw [Nat.zero_add]; exact frozen_fr hcur hfr hlt
theorem size_putCells (enc : α → Value) (off : Nat) (d : Array α) (c : Array Value) : (Sort.putCells enc off d c).size = c.size := by simp [Sort.putCells]
theorem rowRep_put {enc : α → List Value} {encV : α → V} {k : Nat} (he : EncOk enc encV k) {β : Beta} {w : World} {F : Nat → Prop} {cur : Array Value} {d : Array α} (hl : d.size * k ≤ cur.size) :
   RowRep β w F k (d.toList.map encV) (Sort.putCells id 0 (Sort.flatK enc k d) cur) := by
 intro i e hi
 simp only [List.getElem?_map, Option.map_eq_some_iff] at hi
 obtain ⟨x, hx, rfl⟩ := hi
 refine ⟨he.vlen x, fun j c hc => ?_⟩
 have hj : j < k := by have := (List.getElem?_eq_some_iff.1 hc).1; rw [he.vlen] at this; exact this
 have hid : i < d.size := by have := (List.getElem?_eq_some_iff.1 hx).1; simpa using this
 have hlt : i * k + j < d.size * k := by
   have : (i + 1) * k ≤ d.size * k := Nat.mul_le_mul_right _ hid
   rw [Nat.succ_mul] at this
   omega
 have hdx : d[i]! = x := by
   have := (List.getElem?_eq_some_iff.1 hx).2
   simp [hid]
   simpa using this
 have hdiv : (i * k + j) / k = i := by
   rw [Nat.mul_comm, Nat.mul_add_div (by omega), Nat.div_eq_of_lt hj, Nat.add_zero]
 have hmod : (i * k + j) % k = j := by
   rw [Nat.mul_comm, Nat.mul_add_mod, Nat.mod_eq_of_lt hj]
 have hget : (Sort.putCells id 0 (Sort.flatK enc k d) cur).getD (i * k + j) undef = (enc x)[j]! := by
   have h2 : i * k + j < cur.size := by omega
   have h3 := Sort.get_flatK enc k d (i * k + j) hlt
   rw [hdiv, hmod, hdx] at h3
   simp only [Sort.putCells, Array.getD_eq_getD_getElem?, Array.getElem?_mapIdx, Array.getElem?_eq_getElem h2, Option.map_some, Option.getD_some, Nat.zero_le, true_and, Nat.zero_add, Sort.size_flatK, if_pos hlt, Nat.sub_zero, id]
   exact h3
 rw [hget]
 have hjl : j < (enc x).length := by rw [he.len]; exact hj
 refine ⟨he.one x _ ?_, he.rep x j c hc β w F⟩
 rw [getElem!_pos (enc x) j hjl]
 exact List.getElem_mem _
theorem putRow_setRow {w : World} {blk : Nat} {ty : TypeId} {fr : Nat × Nat} {cur : Array Value} (hcur : w.heap[blk]? = some (.cells cur ty fr)) (F : Array Value) : Sort.putRow id w blk 0 F = w.setRow blk (Sort.putCells id 0 F cur) := by
 unfold Sort.putRow
 rw [Sort.mapBlock_congr w blk _ (fun _ => Sort.putCells id 0 F cur) (fun c e fr' h => by rw [hcur] at h; injection h with h; injection h with h; rw [h])]
 unfold Sort.mapBlock World.setRow
 refine congrArg (fun h => ({ w with heap := h } : World)) (congrArg (fun f => w.heap.modify blk f) ?_)
 funext o
 cases o <;> rfl
end
end Go.Pl

set_option linter.unusedVariables false
set_option linter.unusedSimpArgs false
namespace Go.Pl
open Go
section
variable {P : Program} {α : Type} [Inhabited α]
theorem row_abs {f : FuncId} {rest : List V} {enc : α → List Value} {encV : α → V} {k : Nat} (he : EncOk enc encV k) (hent : ∀ vs w, (callFunc f vs).run P w = .ok (.enter f vs) w) {Q : Array α → Array α → Prop} {d : Array α} (rv : Array α → V) (res : Nat → Nat → Array α → Value) (v0 : Value)
   (hsize : ∀ d', Q d d' → d'.size = d.size) (hQ0 : d.size = 0 → Q d d) {bx : Boxes} {b : Nat} {ty : TypeId} (hb : bx b = some (.row ty k (d.toList.map encV)))
   (hv0 : d.size = 0 → ∀ (β : Beta) (w : World) (F : Nat → Prop), β b = some none → Rep β w F (rv d) v0)
   (hres : ∀ (β : Beta) (w : World) (F : Nat → Prop) (blk cap m : Nat) (ty : TypeId) (d' : Array α), β b = some (some blk) → w.shape? blk = some (ty, m) → cap * k ≤ m → d.size ≤ cap → cap ≤ maxLen → Q d d' → Rep β w F (rv d') (res blk cap d'))
   (hnil : d.size = 0 → ∀ rs : Array Value, ∀ w, rs.size = rest.length → Calls P f (#[.slice none 0 0] ++ rs) w fun e w' => e = .returned v0 ∧ w' = w)
   (hcon : ∀ (β : Beta) (M : Off) (w : World) (blk cap : Nat) (rs : Array Value), WOk β M bx w → GlOk P β w (Fz β M bx w) → β b = some (some blk) → rs.size = rest.length → (∀ (i : Nat) (c : V), rest[i]? = some c → Rep β w (Fz β M bx w) c (rs.getD i undef)) →
     w.heap[blk]? ≠ none → Sort.HoldsK enc k w blk 0 d → blk < w.heap.size → d.size ≤ cap → Calls P f (#[.slice (some ⟨blk, 0, none⟩) d.size cap] ++ rs) w fun e w' => ∃ d' n os, e = .returned (res blk cap d') ∧ Q d d' ∧ w' = Go.Proofs.sortWorldK enc k w blk 0 n d' os) :
   AbsCall P f (.own b k 0 d.size :: rest) bx fun r bx' => ∃ d', r = rv d' ∧ Q d d' ∧ bx' = upd bx b (some (.row ty k (d'.toList.map encV))) := by
 refine ⟨hent, fun β M w vs hok hgl hvs hrep => ?_⟩
 have h0 : Rep β w (Fz β M bx w) (.own b k 0 d.size) (vs.getD 0 undef) := hrep 0 _ rfl
 obtain ⟨rs, hvs2, hrs, hrs2⟩ : ∃ rs : Array Value, vs = #[vs.getD 0 undef] ++ rs ∧ rs.size = rest.length ∧ ∀ (i : Nat) (c : V), rest[i]? = some c → Rep β w (Fz β M bx w) c (rs.getD i undef) := by
   simp only [List.length_cons] at hvs
   refine ⟨vs.extract 1 vs.size, ?_, by simp; omega, fun i c hi => ?_⟩
   · apply Array.ext
     · simp; omega
     · intro i h1 h2
       rcases i with _ | i
       · simp [Array.getElem?_eq_getElem h1]
       · simp [Array.getElem_append]
         congr 1
         omega
   · have h3 := hrep (i + 1) c (by simpa using hi)
     have hlt := (List.getElem?_eq_some_iff.1 hi).1
     have e1 : (vs.extract 1 vs.size).getD i undef = vs.getD (i + 1) undef := by
       simp only [Array.getD_eq_getD_getElem?, Array.getElem?_extract]
       rw [if_pos (by omega), Nat.add_comm]
     rw [e1]
     exact h3
 rw [hvs2]
 generalize vs.getD 0 undef = u0 at h0
 have same : d.size = 0 → β b = some none → ∀ w', w' = w → ∃ v r bx' β', Ending.returned v0 = .returned v ∧ (∃ d', r = rv d' ∧ Q d d' ∧ bx' = upd bx b (some (.row ty k (d'.toList.map encV)))) ∧ WOk β' M bx' w' ∧ Tr β bx w β' bx' w' ∧ Rep β' w' (Fz β' M bx' w') r v := by
   rintro hd hβ w' rfl
   have hbx : upd bx b (some (.row ty k (d.toList.map encV))) = bx := by
     funext q
     by_cases e : q = b
     · subst e; rw [upd_eq, hb]
     · rw [upd_ne _ _ e]
   exact ⟨_, _, bx, β, rfl, ⟨d, rfl, hQ0 hd, hbx.symm⟩, hok, Tr.refl _ _ _, hv0 hd _ _ _ hβ⟩
 generalize hN : d.size = N at h0
 cases h0 with
 | own0 _ _ hβ =>
   refine (hnil hN rs w hrs).mono ?_
   rintro e w' ⟨rfl, hw⟩
   exact same hN hβ w' hw
 | own _ _ _ _ blk cap m ty' hβ hs hm hn hmax =>
   rcases hok.live b _ hb with ⟨h1, _⟩ | ⟨blk', h1, hlt, hMn, cur, fr, hcur, hfr, hlc, hrow⟩
   · rw [hβ] at h1; cases h1
   · rw [hβ] at h1
     injection h1 with h1
     injection h1 with h1
     subst h1
     have hlen : d.size * k ≤ cur.size := by simpa using hlc
     have hH := holdsK_of he hcur hfr hlen hrow
     subst hN
     have := hcon β M w blk cap rs hok hgl hβ hrs hrs2 (by rw [hcur]; simp) hH hlt hn
     simp only [Nat.zero_mul]
     refine this.mono ?_
     rintro e w' ⟨d', n, os, rfl, hq, rfl⟩
     have hd' := hsize d' hq
     have hlen' : d'.size * k ≤ cur.size := by rw [hd']; exact hlen
     obtain ⟨h2, h3⟩ := write_box hok hb hβ hcur hfr (Sort.putCells id 0 (Sort.flatK enc k d') cur) (size_putCells _ _ _ _) (d'.toList.map encV) (by simpa using hd') (by rw [size_putCells]; simpa using hlen') (rowRep_put he hlen')
     have hw1 : Sort.putRowK enc k w blk 0 d' = w.setRow blk (Sort.putCells id 0 (Sort.flatK enc k d') cur) := putRow_setRow hcur _
     rw [← hw1] at h2 h3
     have hheap : (Go.Proofs.sortWorldK enc k w blk 0 n d' os).heap = (Sort.putRowK enc k w blk 0 d').heap ++ os := rfl
     have hsz : (Sort.putRowK enc k w blk 0 d').heap.size ≤ (Go.Proofs.sortWorldK enc k w blk 0 n d' os).heap.size := by rw [hheap]; simp
     have hkk : ∀ q, q < (Sort.putRowK enc k w blk 0 d').heap.size → (Go.Proofs.sortWorldK enc k w blk 0 n d' os).heap[q]? = (Sort.putRowK enc k w blk 0 d').heap[q]? := by
       intro q hq
       rw [hheap, Array.getElem?_append, if_pos hq]
     have h4 := h2.grown hsz h2.fin (fun _ _ h => h) hkk
     have h5 := h3.trans (Tr.grown h2 (w' := Go.Proofs.sortWorldK enc k w blk 0 n d' os) rfl rfl rfl (Nat.le_add_right w.drawn n) hsz (fun _ _ h => h) hkk)
     exact ⟨_, _, _, β, rfl, ⟨d', rfl, hq, rfl⟩, h4, h5, hres _ _ _ _ _ _ _ _ hβ (h5.shape _ _ hs) (by rw [Nat.zero_add] at hm; exact hm) hn (by omega) hq⟩
theorem putCells_one (enc : α → Value) (off : Nat) (d : Array α) (c : Array Value) : Sort.putCells id off (Sort.flatK (fun x => [enc x]) 1 d) c = Sort.putCells enc off d c := by
 unfold Sort.putCells
 refine congrArg (fun f => c.mapIdx f) ?_
 funext k x
 simp only [Sort.size_flatK, Nat.mul_one]
 by_cases h : off ≤ k ∧ k < off + d.size
 · rw [if_pos h, if_pos h]
   have : (Sort.flatK (fun x => [enc x]) 1 d)[k - off]! = enc d[k - off]! := by
     rw [Sort.get_flatK _ _ _ _ (by omega)]
     simp [Nat.mod_one]
   rw [this]; rfl
 · rw [if_neg h, if_neg h]
theorem putRow_one (enc : α → Value) (w : World) (blk off : Nat) (d : Array α) : Sort.putRowK (fun x => [enc x]) 1 w blk off d = Sort.putRow enc w blk off d := by
 unfold Sort.putRowK Sort.putRow
 refine congrArg (Sort.mapBlock w blk) ?_
 funext c
 exact putCells_one enc off d c
theorem holds_one {enc : α → Value} {w : World} {blk off : Nat} {d : Array α} (h : Sort.HoldsK (fun x => [enc x]) 1 w blk off d) : Sort.Holds enc w blk off d := by
 intro j hj
 have := h j (by simpa using hj)
 rw [Sort.get_flatK _ _ _ _ (by omega)] at this
 simpa [Nat.mod_one] using this
theorem encStr_ok : EncOk (fun s : List UInt8 => [Go.Proofs.encStr s]) V.str 1 where
 len x := rfl
 vlen x := rfl
 one x v hv := by simp at hv; subst hv; rfl
 rep x j c hc β w F := by
   rcases j with _ | j
   · simp [V.cells] at hc; subst hc; exact .str ⟨x.toArray⟩
   · simp [V.cells] at hc
 inv x j c hc β w F u hu := by
   rcases j with _ | j
   · simp [V.cells] at hc; subst hc
     obtain ⟨y, rfl, hy⟩ := hu.str_inv
     subst hy
     rfl
   · simp [V.cells] at hc
variable {ρ : Go.Shelf.Ren}
theorem sortS_abs (L : Go.Proofs.Lays.n190 P ρ) (hent : ∀ vs w, (callFunc (ρ.f 190) vs).run P w = .ok (.enter (ρ.f 190) vs) w) {bx : Boxes} {b : Nat} {ty : TypeId} {ss : List (List UInt8)} (hb : bx b = some (.row ty 1 (ss.map .str))) (hne : ss ≠ []) (hlen : ss.length < 4611686018427387904) :
   AbsCall P (ρ.f 190) [.own b 1 0 ss.length] bx fun r bx' => r = .tup [] ∧ bx' = upd bx b (some (.row ty 1 ((ss.mergeSort fun x y => decide (x ≤ y)).map .str))) := by
 have h0 : ss.toArray.size ≠ 0 := by intro h; exact hne (List.eq_nil_of_length_eq_zero (by simpa using h))
 have := row_abs (P := P) (f := ρ.f 190) (rest := []) encStr_ok hent (Q := fun d d' => d' = (d.toList.mergeSort fun x y => decide (x ≤ y)).toArray) (d := ss.toArray) (fun _ => .tup []) (fun _ _ _ => .tuple #[]) (.tuple #[])
   (by rintro d' rfl; simp) (fun h => absurd h h0) (bx := bx) (b := b) (ty := ty) (by simpa using hb) (fun h => absurd h h0) (fun _ _ _ _ _ _ _ _ _ _ _ _ _ _ => .tup [] #[] rfl (fun i c h => by simp at h)) (fun h => absurd h h0)
   (by
     intro β M w blk cap rs hok hgl hβ hrs _ _ hH hlt hcap
     have hrs0 : rs = #[] := by simpa using hrs
     subst hrs0
     refine (Go.Proofs.Any.slices_Sort_string L blk 0 cap ss w (holds_one hH) hlt hlen).mono ?_
     rintro e w' ⟨rfl, n, os, rfl⟩
     exact ⟨_, n, os, rfl, rfl, by unfold Go.Proofs.sortWorldK; rw [putRow_one]⟩)
 have h2 := this.mono (Kc' := fun r bx' => r = .tup [] ∧ bx' = upd bx b (some (.row ty 1 ((ss.mergeSort fun x y => decide (x ≤ y)).map .str)))) (by
   rintro r bx' ⟨d', rfl, rfl, rfl⟩
   exact ⟨rfl, by simp⟩)
 simpa using h2
end
end Go.Pl

set_option linter.unusedVariables false
set_option linter.unusedSimpArgs false
namespace Go.Pl
open Go Go.RowKit Go.ChangeShapes Go.WideShapes Go.ChangeAt
def bxK : Boxes := fun b => if b = 0 then some (.row 0 0 []) else none
def beK : Beta := fun b => if b = 0 then some none else none
theorem mk_bxK : Mk bxK := ⟨0, 0, rfl⟩
section
variable {H : Type} {enc : TypeId × Value → H} {P : Program} {w : World} {spare : Nat → Bool} {held : Bool}
theorem law_contractM {f : FuncId} {fn : Func} {s : ChangeSpec} {apart fresh handsOn again : Bool} {W : World} {args : Array Value} {ds gs : List (DataW H)} {before : List MemPlace} {base : Nat} {r : Reach} (n : Nat) {tb : TypeId}
   (hl : laidOutB P = true) (hts : (fn.params.toList.all fun t => plainT P n t && P.readableRec t && decide (t < P.types.size)) = true) (hv : s.vars = [])
   (hfn : ∀ ds : List (DataW H), ds.length = fn.params.toList.length → s.fn H (ds ++ []) = { results := [.lit (.bool true)], args := ds }) (hrt : fn.resultTypes = #[tb]) (htb : P.underlying tb = some .bool)
   (hval : ∀ (j : Nat) t v, fn.params[j]? = some t → args[j]? = some v → Value.okWide P W r base t v)
   (hW : DataW.Whole enc P fn.params.toList s.vars apart W args.toList ds gs before)
   (hgl : GlOk P beK W (FzAll W))
   (hc : ∀ vs : List V, TyArgs P n fn.params.toList vs → AbsCall P f vs bxK fun r _ => r = .bool true) :
   Calls P f args W fun e W' => ∃ v, e = .returned v ∧ s.post enc P fn apart fresh handsOn again W args v W' := by
 have hW0 := hW
 obtain ⟨p, q, hA, hV, hpq, hfz, hnd⟩ := hW
 rw [hv] at hV
 have hgs : gs = [] ∧ q = [] := by
   cases gs with
   | nil => exact ⟨rfl, hV⟩
   | cons => simp [DataW.TrodVars] at hV
 obtain ⟨rfl, rfl⟩ := hgs
 rw [List.append_nil] at hpq
 subst hpq
 have hts' : ∀ t, t ∈ fn.params.toList → plainT P n t = true ∧ P.readableRec t = true ∧ t < P.types.size := by
   intro t ht
   have := List.all_eq_true.1 hts t ht
   simpa [Bool.and_eq_true, and_assoc] using this
 obtain ⟨vs, h1, h2, h3, h4, h5⟩ := args_typed (β := fun _ => none) (n := n) (r := r) (base := base) fn.params.toList args.toList ds before (fun t ht => (hts' t ht).1) (fun j t v a b => hval j t v (by simpa using a) (by simpa using b)) hA
 let M : Off := ⟨fun _ => none, W.heap.size⟩
 have hbx : ∀ b, bxK b ≠ none → b = 0 := fun b hb => by
   unfold bxK at hb
   split at hb
   · assumption
   · exact absurd rfl hb
 have hok : WOk beK M bxK W := ⟨⟨1, fun b hb => by unfold beK; rw [if_neg (by omega)]⟩, fun k o h => (by cases h), fun b box h => (by
   have h0 := hbx b (by rw [h]; simp)
   subst h0
   have : box = .row 0 0 [] := by simpa [bxK] using h.symm
   subst this
   exact .inl ⟨rfl, rfl⟩), fun b b' k h h' _ _ => by rw [hbx b h, hbx b' h']⟩
 have hF : ∀ k, Fz beK M bxK W k ↔ FzAll W k := fun k => ⟨fun h => h.1, fun h => ⟨h, rfl, fun b hb he => by
   have h0 := hbx b hb
   subst h0
   cases he⟩⟩
 have hlt := hA.lt
 refine ((hc vs h5).2 beK M W args hok (hgl.imp fun _ _ hh => hh.mono (fun _ _ h => h) (fun k hk => ⟨(hF k).2 hk, rfl⟩) (fun _ _ h => h)) (by simpa using h1.symm) (fun i c hi => ?_)).mono ?_
 · have hi' : i < args.size := by have := (List.getElem?_eq_some_iff.1 hi).1; simpa [h1] using this
   have := h4 i c args[i] hi (by simp [hi'])
   have := this.mono (β' := beK) (w' := W) (F' := Fz beK M bxK W) (fun _ _ h => by cases h) (fun k hk => ⟨(hF k).2 hk, rfl⟩) (fun _ _ h => h)
   simpa [hi'] using this
 · rintro e W' ⟨v, r', bx', β', rfl, rfl, hok', htr, hrep⟩
   cases hrep
   have hb : Below W.heap.size W W' := ⟨htr.os, htr.tape, htr.output, htr.size, fun k hk => htr.keep k hk fun b hb he => by
     have h0 := hbx b hb
     subst h0
     cases he⟩
   refine ⟨_, rfl, ds, [], before, [], before, [], hW0, ?_, ?_, ?_, hb.frame _, fun _ => ?_⟩
   · rw [hfn ds h3, hrt]
     exact trodAll_cons_mk (⟨1, by simp [DataW.trod, Value.cells, htb]⟩ : DataW.Trod enc P _ _ _ _ _ (.bool true) (.lit (.bool true)) []) trodAll_mk0
   · rw [hfn ds h3]
     exact trodAll_below hl hb (fun t ht => (hts' t ht).2) (fun x hx => ⟨hlt x hx, by simpa using hlt x hx⟩) hA
   · rw [hv]
     have : (s.fn H (ds ++ [])).vars = [] := by rw [hfn ds h3]
     rw [this]; rfl
   · refine ⟨RowKit.ok_one hrt rfl (RowKit.okWide_bool_mk htb _), _, [], [] ++ before, ⟨[] ++ before, [], trodAll_append (trodAll_below hl hb (fun t ht => (hts' t ht).2) (fun x hx => ⟨hlt x hx, rfl⟩) hA) (ds := [.lit (.bool true)]) (p := []) ?_, ?_, by simp, ?_, ?_⟩, ?_⟩
     · rw [hrt]; exact trodAll_cons_mk (⟨1, by simp [DataW.trod, Value.cells, htb]⟩ : DataW.Trod enc P _ _ _ _ _ (.bool true) (.lit (.bool true)) []) trodAll_mk0
     · rw [hv]; rfl
     · intro b off hp
       have hp' : MemPlace.cell b off ∈ before := by simpa using hp
       rw [hb.frozen (p := ⟨b, off, none⟩) (hlt _ hp')]
       exact hfz b off hp'
     · intro ha; simpa using hnd ha
     · intro p hp _; simpa using hp
end
end Go.Pl

set_option linter.unusedSimpArgs false
set_option linter.unusedVariables false
namespace Go.Pl
open Go
inductive Fits : Code → PC → Prop
 | base {c : Code} {pc : PC} (h : compile c = erase pc) : Fits c pc
 | raw {c c' : Code} (h : c = c') : Fits c (.raw c')
 | seq {a b : Code} {x y : PC} (h1 : Fits a x) (h2 : Fits b y) : Fits (.seq a b) (.seq x y)
 | cond {o : Operand} {a b : Code} {x y : PC} (h1 : Fits a x) (h2 : Fits b y) : Fits (.cond o a b) (.cond o x y)
 | block {id : Nat} {c : Code} {x : PC} (h : Fits c x) : Fits (.block id c) (.block id x)
 | wk {c : Code} {x : PC} (h : Fits c x) : Fits c (.wk x)
 | fz {c : Code} {t : Nat} {x : PC} (h : Fits c x) : Fits c (.fz t x)
section
variable {P : Program}
end
end Go.Pl

set_option linter.unusedSimpArgs false
set_option linter.unusedVariables false
namespace Go.Pl
open Go
section
variable {P : Program}
theorem acc_frzB {bx bx' : Boxes} {e sz : Nat} {es : List V} {v : V} (h : Acc bx e sz es v bx') (hs : 0 < sz) : Wk (frz bx' bx 1 v) (.sl sz es) := by
 rcases h.is with ⟨rfl, rfl⟩ | ⟨b, hb0, rfl, hb⟩
 · exact wk_nils sz
 · rw [frz_own1 hb hb0 hs rfl]; exact Wk.refl _
end
end Go.Pl
