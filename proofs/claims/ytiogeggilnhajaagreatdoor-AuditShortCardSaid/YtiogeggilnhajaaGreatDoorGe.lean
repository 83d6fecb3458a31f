/- Texts of the proof, put together: PlOut, PlLs, PlCv, PlTh, PlTf, PlGc, PlMr, PlDf, PlDg, PlCp, PlAb, PlLawM, PlLawT. -/
import Derived.Test.YtiogeggilnhajaaGreatDoorGd
import Derived.ChangeArms
import Derived.OpenShut
import Derived.Carry
import Derived.ChangeSame
import Derived.JoinedCond
import Derived.Below
import Derived.Test.YtiogeggilnhajaaGreatDoorGc
import Derived.Shelf.Spec.SlicesInsert
import Derived.Lib.AppendZerosOnto
import Derived.Laws.NewBlocks
import Derived.Lib.LaidTab
import Derived.Lib.ItoaNum

set_option linter.unusedSimpArgs false
set_option linter.unusedVariables false
namespace Go.Pl
open Go Go.ChangeShapes Go.WideShapes Go.ChangeAt Go.RowKit
def contig (P : Program) : List (Nat × TypeId) → Nat → Nat → Bool
 | [], o, m => o == m
 | (o', t) :: ps, o, m => o' == o && contig P ps (o + tsz P t) m
def plainT (P : Program) : Nat → TypeId → Bool
 | 0, _ => false
 | n + 1, t =>
   match P.underlying t with
   | some .bool | some (.int _) | some .string => tsz P t == 1
   | some (.slice e) => tsz P t == 1 && plainT P n e
   | some (.struct fs) => (fs.toList.all fun f => plainT P n f.type) && contig P (fs.toList.map fun f => (f.offset, f.type)) 0 (tsz P t)
   | some (.array m e) => plainT P n e && contig P ((List.range m).map fun i => (i * tsz P e, e)) 0 (tsz P t)
   | _ => false
def elV (P : Program) (e : TypeId) (xs : List V) : V := if tagg P e = true then .agg xs else xs.getD 0 .unk
def HasL (P : Program) : Nat → TypeId → List V → Prop
 | 0, _, _ => False
 | n + 1, t, xs => xs.length = tsz P t ∧
   match knd P t with
   | .bool => ∃ b, xs = [.bool b]
   | .int k => ∃ i, xs = [.int k i] ∧ (Lit.int k i).wf = true
   | .str => ∃ s, xs = [.str s] ∧ s.length ≤ maxLen
   | .slice e => ∃ es, xs = [.sl (tsz P e) es] ∧ es.length ≤ maxLen ∧ ∀ v, v ∈ es → ∃ ys, v = elV P e ys ∧ HasL P n e ys
   | .strct => ∀ f off ty, fld P t f = some (off, ty) → HasL P n ty ((xs.drop off).take (tsz P ty))
   | .arr m e => ∀ i, i < m → HasL P n e ((xs.drop (i * tsz P e)).take (tsz P e))
   | _ => False
section
variable {H : Type} {enc : TypeId × Value → H} {P : Program} {w : World} {spare : Nat → Bool} {held : Bool}
theorem elV_cells {e : TypeId} {xs : List V} (h : xs.length = tsz P e) (h1 : tagg P e = false → ∃ v, xs = [v] ∧ v.cells = [v]) : (elV P e xs).cells = xs := by
 unfold elV
 by_cases ht : tagg P e = true
 · rw [if_pos ht]; rfl
 · rw [if_neg ht]
   obtain ⟨v, rfl, hv⟩ := h1 (by simpa using ht)
   simpa using hv
def FzAll (w : World) (k : Nat) : Prop := k < w.heap.size
theorem cell_block {a : Addr} {u : Value} (h : w.cell? a = some u) : a.block < w.heap.size := by
 unfold World.cell? at h
 cases hh : w.heap[a.block]? with
 | none => simp [hh] at h
 | some o => exact (Array.getElem?_eq_some_iff.1 hh).1
theorem addr_add (a : Addr) (i j : Nat) : (a.add i).add j = a.add (i + j) := by
 unfold Addr.add
 by_cases hi : i = 0 <;> by_cases hj : j = 0 <;> simp [hi, hj, Nat.add_assoc]
theorem assemble {β : Beta} {n : Nat} {cs : List Value} (ih : ∀ (fuel : Nat) (t : TypeId) (cs : List Value) (x : DataW H × List MemPlace), plainT P n t = true → DataW.trod enc P w 0 spare held fuel t cs = some x →
     cs.length = tsz P t ∧ (∀ (j : Nat) (u : Value), cs[j]? = some u → u.oneCell' = true) ∧ ∃ xs : List V, xs.length = cs.length ∧ (∀ (j : Nat) (u : Value) (v : V), cs[j]? = some u → xs[j]? = some v → Rep β w (FzAll w) v u ∧ v.cells = [v]) ∧ HasL P n t xs) :
   ∀ (ps : List (Nat × TypeId)) (o : Nat), contig P ps o cs.length = true → (∀ p, p ∈ ps → plainT P n p.2 = true ∧ ∃ fuel x, DataW.trod enc P w 0 spare held fuel p.2 ((cs.drop p.1).take (tsz P p.2)) = some x) →
     o ≤ cs.length ∧ (∀ (j : Nat) (u : Value), cs[o + j]? = some u → u.oneCell' = true) ∧ ∃ xs : List V, xs.length = cs.length - o ∧ (∀ (j : Nat) (u : Value) (v : V), cs[o + j]? = some u → xs[j]? = some v → Rep β w (FzAll w) v u ∧ v.cells = [v]) ∧
       ∀ p, p ∈ ps → o ≤ p.1 ∧ HasL P n p.2 ((xs.drop (p.1 - o)).take (tsz P p.2))
 | [], o, h, _ => by
   simp only [contig, beq_iff_eq] at h
   subst h
   refine ⟨Nat.le_refl _, ?_, [], by simp, ?_, fun p hp => by cases hp⟩
   · intro j u hu
     rw [List.getElem?_eq_none (by omega)] at hu; cases hu
   · intro j u v hu
     rw [List.getElem?_eq_none (by omega)] at hu; cases hu
 | (o', t) :: ps, o, h, hp => by
   simp only [contig, Bool.and_eq_true, beq_iff_eq] at h
   obtain ⟨rfl, h⟩ := h
   obtain ⟨hpl, fuel, x, hx⟩ := hp (o', t) (by simp)
   dsimp only at hpl hx
   obtain ⟨g1, g2, xs1, g3, g4, g5⟩ := ih fuel t _ x hpl hx
   obtain ⟨k1, k2, xs2, k3, k4, k5⟩ := assemble ih ps (o' + tsz P t) h (fun p hp' => hp p (by simp [hp']))
   have hl1 : xs1.length = tsz P t := by rw [g3, g1]
   have hget : ∀ j, j < tsz P t → ((cs.drop o').take (tsz P t))[j]? = cs[o' + j]? := by
     intro j hj
     rw [List.getElem?_take, if_pos hj, List.getElem?_drop]
   refine ⟨by omega, ?_, xs1 ++ xs2, by simp; omega, ?_, ?_⟩
   · intro j u hu
     by_cases hj : j < tsz P t
     · exact g2 j u (by rw [hget j hj]; exact hu)
     · refine k2 (j - tsz P t) u ?_
       rw [← hu]; congr 1; omega
   · intro j u v hu hv
     by_cases hj : j < tsz P t
     · rw [List.getElem?_append_left (by omega)] at hv
       exact g4 j u v (by rw [hget j hj]; exact hu) hv
     · rw [List.getElem?_append_right (by omega), hl1] at hv
       refine k4 (j - tsz P t) u v ?_ hv
       rw [← hu]; congr 1; omega
   · intro p hp'
     rcases List.mem_cons.1 hp' with rfl | hp'
     · refine ⟨Nat.le_refl _, ?_⟩
       simp only [Nat.sub_self, List.drop_zero]
       rw [List.take_append_of_le_length (by omega), List.take_of_length_le (by omega)]
       exact g5
     · obtain ⟨m1, m2⟩ := k5 p hp'
       refine ⟨by omega, ?_⟩
       have : (xs1 ++ xs2).drop (p.1 - o') = xs2.drop (p.1 - (o' + tsz P t)) := by
         rw [List.drop_append, List.drop_of_length_le (by omega), List.nil_append]
         congr 1
         omega
       rw [this]
       exact m2
theorem trod_typed {β : Beta} : ∀ (n : Nat) (fuel : Nat) (t : TypeId) (cs : List Value) (x : DataW H × List MemPlace), plainT P n t = true → DataW.trod enc P w 0 spare held fuel t cs = some x →
   cs.length = tsz P t ∧ (∀ (j : Nat) (u : Value), cs[j]? = some u → u.oneCell' = true) ∧ ∃ xs : List V, xs.length = cs.length ∧ (∀ (j : Nat) (u : Value) (v : V), cs[j]? = some u → xs[j]? = some v → Rep β w (FzAll w) v u ∧ v.cells = [v]) ∧ HasL P n t xs
 | 0, _, _, _, _, h, _ => by simp [plainT] at h
 | n + 1, fuel, t, cs, x, h, ht => by
   have one : ∀ (u : Value) (v : V), cs = [u] → u.oneCell' = true → Rep β w (FzAll w) v u → v.cells = [v] → tsz P t = 1 → HasL P (n + 1) t [v] →
       cs.length = tsz P t ∧ (∀ (j : Nat) (u : Value), cs[j]? = some u → u.oneCell' = true) ∧ ∃ xs : List V, xs.length = cs.length ∧ (∀ (j : Nat) (u : Value) (v : V), cs[j]? = some u → xs[j]? = some v → Rep β w (FzAll w) v u ∧ v.cells = [v]) ∧ HasL P (n + 1) t xs := by
     rintro u v rfl h1 h2 h3 h4 h5
     refine ⟨by simp [h4], ?_, [v], rfl, ?_, h5⟩
     · intro j u' hj
       cases j with
       | zero => simp at hj; subst hj; exact h1
       | succ j => simp at hj
     · intro j u' v' hj hv
       cases j with
       | zero => simp at hj hv; subst hj hv; exact ⟨h2, h3⟩
       | succ j => simp at hj
   unfold plainT at h
   split at h
   · rename_i hu
     obtain ⟨b, rfl, _⟩ := DataW.trod_bool hu ht
     have hs : tsz P t = 1 := by simpa using h
     exact one _ (.bool b) rfl rfl (.bool b) rfl hs ⟨by simp [hs], by simp [knd, hu]⟩
   · rename_i k hu
     obtain ⟨i, rfl, _, hw⟩ := DataW.trod_int hu ht
     have hs : tsz P t = 1 := by simpa using h
     exact one _ (.int k i) rfl rfl (.int k i) rfl hs ⟨by simp [hs], by simpa [knd, hu] using hw⟩
   · rename_i hu
     obtain ⟨s, rfl, _, hw⟩ := DataW.trod_string hu ht
     have hs : tsz P t = 1 := by simpa using h
     refine one _ (.str s.data.toList) rfl rfl (.str s) rfl hs ⟨by simp [hs], ?_⟩
     simp only [knd, hu]
     exact ⟨_, rfl, by simpa using hw⟩
   · rename_i e hu
     simp only [Bool.and_eq_true, beq_iff_eq] at h
     obtain ⟨hs, he⟩ := h
     have hk : knd P t = .slice e := by simp [knd, hu]
     rcases DataW.trod_slice hu ht with ⟨rfl, _⟩ | ⟨a, len, cap, elems, rest, m, _, rfl, _, hb, hl, hm, hlen, hel, _, _⟩
     · refine one _ (.sl (tsz P e) []) rfl rfl (wk_nils _ _ _ _ _ .nils) rfl hs ⟨by simp [hs], ?_⟩
       rw [hk]
       exact ⟨[], rfl, by simp, fun v hv => by cases hv⟩
     · have hex : ∀ i, i < len → ∃ (cs' : List Value) (xs : List V), w.cells? 0 (a.add (i * P.cellsOf e)) (P.cellsOf e) = some cs' ∧ cs'.length = tsz P e ∧ (∀ (j : Nat) (u : Value), cs'[j]? = some u → u.oneCell' = true) ∧ xs.length = cs'.length ∧
           (∀ (j : Nat) (u : Value) (v : V), cs'[j]? = some u → xs[j]? = some v → Rep β w (FzAll w) v u ∧ v.cells = [v]) ∧ HasL P n e xs := by
         intro i hi
         have h1 := hel i hi
         rw [List.getElem?_eq_getElem (by omega)] at h1
         obtain ⟨cs', h2, h3⟩ := Option.bind_eq_some_iff.1 h1
         obtain ⟨h4, h5, xs, h6, h7, h8⟩ := trod_typed n _ _ _ _ he h3
         exact ⟨cs', xs, h2, h4, h5, h6, h7, h8⟩
       obtain ⟨f, hf⟩ := Go.Deep.choose_lt (α := List Value × List V) (p := fun i p => w.cells? 0 (a.add (i * P.cellsOf e)) (P.cellsOf e) = some p.1 ∧ p.1.length = tsz P e ∧ (∀ (j : Nat) (u : Value), p.1[j]? = some u → u.oneCell' = true) ∧ p.2.length = p.1.length ∧
           (∀ (j : Nat) (u : Value) (v : V), p.1[j]? = some u → p.2[j]? = some v → Rep β w (FzAll w) v u ∧ v.cells = [v]) ∧ HasL P n e p.2) (fun i hi => by
         obtain ⟨cs', xs, h⟩ := hex i hi
         exact ⟨(cs', xs), h⟩)
       have hec : ∀ i, i < len → (elV P e (f i).2).cells = (f i).2 := by
         intro i hi
         obtain ⟨h1, h2, h3, h4, h5, h6⟩ := hf i hi
         refine elV_cells (by omega) fun htg => ?_
         have htz : tsz P e = 1 := by
           cases n with
           | zero => exact h6.elim
           | succ n =>
             unfold plainT at he
             unfold tagg at htg
             split at he <;> simp_all
         obtain ⟨v, hv⟩ : ∃ v, (f i).2 = [v] := by
           match hm : (f i).2, (show (f i).2.length = 1 by omega) with
           | [v], _ => exact ⟨v, rfl⟩
         obtain ⟨u, hu⟩ : ∃ u, (f i).1 = [u] := by
           match hm : (f i).1, (show (f i).1.length = 1 by omega) with
           | [v], _ => exact ⟨v, rfl⟩
         exact ⟨v, hv, (h5 0 u v (by simp [hu]) (by simp [hv])).2⟩
       have hcell : ∀ i, i < len → ∀ (j : Nat) (u : Value), (f i).1[j]? = some u → w.cell? (a.add (i * tsz P e + j)) = some u := by
         intro i hi j u hu
         have h1 := (World.cells?_some (hf i hi).1).2
         have hj : j < P.cellsOf e := by rw [← h1.1]; exact (List.getElem?_eq_some_iff.1 hu).1
         have h2 := h1.2 j hj
         rw [addr_add, hu] at h2
         exact h2
       let es : List V := (List.range len).map fun i => elV P e (f i).2
       have hesl : es.length = len := by simp [es]
       have hes : ∀ i e', es[i]? = some e' → i < len ∧ e' = elV P e (f i).2 := by
         intro i e' h
         simp only [es, List.getElem?_map, Option.map_eq_some_iff] at h
         obtain ⟨k, h1, rfl⟩ := h
         have := List.getElem?_eq_some_iff.1 h1
         obtain ⟨h2, h3⟩ := this
         simp at h2 h3
         subst h3
         exact ⟨h2, rfl⟩
       refine one _ (.sl (tsz P e) es) rfl rfl ?_ rfl hs ⟨by simp [hs], ?_⟩
       · have hrep := Rep.sl (β := β) (w := w) (F := FzAll w) (tsz P e) es (some a) cap (fun q => (w.cell? (a.add q)).getD undef) (by omega) hm (by simp) ?_ ?_ ?_
         · rwa [hesl] at hrep
         · intro e' he'
           obtain ⟨i, hi⟩ := List.getElem?_of_mem he'
           obtain ⟨h1, rfl⟩ := hes i e' hi
           rw [hec i h1]
           have := hf i h1
           omega
         · intro i e' j c h1 h2
           obtain ⟨hi, rfl⟩ := hes i e' h1
           rw [hec i hi] at h2
           obtain ⟨g1, g2, g3, g4, g5, g6⟩ := hf i hi
           have hj : j < (f i).1.length := by rw [← g4]; exact (List.getElem?_eq_some_iff.1 h2).1
           have hu := List.getElem?_eq_getElem hj
           have hc := hcell i hi j _ hu
           refine ⟨a, rfl, by rw [← block_add a (i * tsz P e + j)]; exact cell_block hc, by rw [hc]; rfl, by rw [hc]; exact g3 j _ hu⟩
         · intro i e' j c h1 h2
           obtain ⟨hi, rfl⟩ := hes i e' h1
           rw [hec i hi] at h2
           obtain ⟨g1, g2, g3, g4, g5, g6⟩ := hf i hi
           have hj : j < (f i).1.length := by rw [← g4]; exact (List.getElem?_eq_some_iff.1 h2).1
           have hu := List.getElem?_eq_getElem hj
           have hc := hcell i hi j _ hu
           rw [hc]
           exact (g5 j _ _ hu h2).1
       · rw [hk]
         refine ⟨es, rfl, by omega, fun v hv => ?_⟩
         obtain ⟨i, hi⟩ := List.getElem?_of_mem hv
         obtain ⟨h1, rfl⟩ := hes i v hi
         exact ⟨_, rfl, (hf i h1).2.2.2.2.2⟩
   · rename_i fs hu
     simp only [Bool.and_eq_true, List.all_eq_true] at h
     obtain ⟨hp, hc⟩ := h
     obtain ⟨xs0, m, _, _, hlen, _, hf⟩ := DataW.trod_struct hu ht
     have hl : cs.length = tsz P t := hlen
     rw [← hl] at hc
     obtain ⟨_, h2, xs, h3, h4, h5⟩ := assemble (β := β) (fun fuel t cs x => trod_typed n fuel t cs x) _ 0 hc (fun p hp' => by
       obtain ⟨f, hf1, rfl⟩ := List.mem_map.1 hp'
       obtain ⟨i, hi⟩ := List.getElem?_of_mem hf1
       refine ⟨hp f hf1, m, ?_⟩
       have := hf i f (by simpa using hi)
       have h6 := (List.getElem?_eq_some_iff.1 hi).1
       rw [Array.length_toList] at h6
       obtain ⟨y, hy⟩ : ∃ y, xs0[i]? = some y := ⟨_, List.getElem?_eq_getElem (by omega)⟩
       exact ⟨y, by rw [hy] at this; exact this⟩)
     simp only [Nat.zero_add] at h2 h4
     refine ⟨hl, h2, xs, by omega, h4, by omega, ?_⟩
     have hk : knd P t = .strct := by simp [knd, hu]
     rw [hk]
     intro f off ty hfl
     simp only [fld, hu, Option.map_eq_some_iff, Prod.mk.injEq] at hfl
     obtain ⟨fi, h6, rfl, rfl⟩ := hfl
     have := (h5 (fi.offset, fi.type) (List.mem_map.2 ⟨fi, by simpa using Array.mem_of_getElem? h6, rfl⟩)).2
     simpa using this
   · rename_i m e hu
     simp only [Bool.and_eq_true] at h
     obtain ⟨hp, hc⟩ := h
     obtain ⟨xs0, q, _, _, hlen, hxl, hf⟩ := DataW.trod_array hu ht
     have hl : cs.length = tsz P t := hlen
     rw [← hl] at hc
     obtain ⟨_, h2, xs, h3, h4, h5⟩ := assemble (β := β) (fun fuel t cs x => trod_typed n fuel t cs x) _ 0 hc (fun p hp' => by
       obtain ⟨i, hi, rfl⟩ := List.mem_map.1 hp'
       have hi' : i < m := by simpa using hi
       refine ⟨hp, q, xs0[i], ?_⟩
       rw [← List.getElem?_eq_getElem (by omega)]
       exact hf i hi')
     simp only [Nat.zero_add] at h2 h4
     refine ⟨hl, h2, xs, by omega, h4, by omega, ?_⟩
     have hk : knd P t = .arr m e := by simp [knd, hu]
     rw [hk]
     intro i hi
     have := (h5 (i * tsz P e, e) (List.mem_map.2 ⟨i, by simpa using hi, rfl⟩)).2
     simpa using this
   · cases h
def TyArgs (P : Program) (n : Nat) : List TypeId → List V → Prop
 | [], [] => True
 | t :: ts, v :: vs => (∃ xs, v = elV P t xs ∧ HasL P n t xs) ∧ TyArgs P n ts vs
 | _, _ => False
theorem okWide_shape {n : Nat} {t : TypeId} {v : Value} {r : Reach} {base : Nat} (hp : plainT P n t = true) (h : Value.okWide P w r base t v) : (tagg P t = true → ∃ us, v = .agg us) ∧ (tagg P t = false → v.cells = #[v]) := by
 cases n with
 | zero => simp [plainT] at hp
 | succ n =>
   unfold plainT at hp
   have cell : (∀ cs, P.underlying t ≠ some (.struct cs)) → (∀ m e, P.underlying t ≠ some (.array m e)) → (P.underlying t = some .bool ∨ (∃ k, P.underlying t = some (.int k)) ∨ P.underlying t = some .string ∨ ∃ e, P.underlying t = some (.slice e)) →
       (tagg P t = true → ∃ us, v = .agg us) ∧ (tagg P t = false → v.cells = #[v]) := by
     rintro _ _ (hu | ⟨k, hu⟩ | hu | ⟨e, hu⟩)
     all_goals
       have htg : tagg P t = false := by simp [tagg, hu]
       refine ⟨fun h1 => (by rw [htg] at h1; cases h1), fun _ => ?_⟩
       unfold Value.okWide at h
       rw [hu] at h
       unfold Cell.okWide at h
       rw [hu] at h
       cases v <;> first | rfl | (simp [Cell.ok, hu] at h)
   have agg : (∃ us, v = .agg us) → tagg P t = true → (tagg P t = true → ∃ us, v = .agg us) ∧ (tagg P t = false → v.cells = #[v]) := fun h1 h2 => ⟨fun _ => h1, fun h3 => by rw [h2] at h3; cases h3⟩
   split at hp
   · rename_i hu; exact cell (by simp [hu]) (by simp [hu]) (.inl hu)
   · rename_i k hu; exact cell (by simp [hu]) (by simp [hu]) (.inr (.inl ⟨k, hu⟩))
   · rename_i hu; exact cell (by simp [hu]) (by simp [hu]) (.inr (.inr (.inl hu)))
   · rename_i e hu; exact cell (by simp [hu]) (by simp [hu]) (.inr (.inr (.inr ⟨e, hu⟩)))
   · rename_i fs hu
     unfold Value.okWide at h
     rw [hu] at h
     obtain ⟨cs, rfl, _⟩ := h
     exact agg ⟨cs, rfl⟩ (by simp [tagg, hu])
   · rename_i m e hu
     unfold Value.okWide at h
     rw [hu] at h
     obtain ⟨cs, rfl, _⟩ := h
     exact agg ⟨cs, rfl⟩ (by simp [tagg, hu])
   · cases hp
theorem args_typed {β : Beta} {n : Nat} {r : Reach} {base : Nat} : ∀ (ts : List TypeId) (args : List Value) (ds : List (DataW H)) (ps : List MemPlace), (∀ t, t ∈ ts → plainT P n t = true) → (∀ (j : Nat) (t : TypeId) (v : Value), ts[j]? = some t → args[j]? = some v → Value.okWide P w r base t v) →
   DataW.TrodAll enc P w 0 spare held ts args ds ps → ∃ vs : List V, vs.length = args.length ∧ args.length = ts.length ∧ ds.length = ts.length ∧ (∀ (i : Nat) (v : V) (u : Value), vs[i]? = some v → args[i]? = some u → Rep β w (FzAll w) v u) ∧ TyArgs P n ts vs
 | [], [], [], _, _, _, _ => ⟨[], rfl, rfl, rfl, fun i v u h => by simp at h, trivial⟩
 | t :: ts, u :: args, d :: ds, ps, hp, ho, h => by
   obtain ⟨p, q, ⟨fuel, h1⟩, h2, _⟩ := h
   have hpt := hp t (by simp)
   obtain ⟨g1, g2, xs, g3, g4, g5⟩ := trod_typed (β := β) n fuel t _ _ hpt h1
   obtain ⟨k1, k2⟩ := okWide_shape hpt (ho 0 t u rfl rfl)
   obtain ⟨vs, m1, m2, m3, m4, m5⟩ := args_typed ts args ds q (fun t ht => hp t (by simp [ht])) (fun j t v h3 h4 => ho (j + 1) t v (by simpa using h3) (by simpa using h4)) h2
   refine ⟨elV P t xs :: vs, by simp [m1], by simp [m2], by simp [m3], ?_, ⟨xs, rfl, g5⟩, m5⟩
   intro i v u' hv hu
   cases i with
   | succ i => exact m4 i v u' (by simpa using hv) (by simpa using hu)
   | zero =>
     simp at hv hu
     subst hv hu
     unfold elV
     by_cases ht : tagg P t = true
     · rw [if_pos ht]
       obtain ⟨us, rfl⟩ := k1 ht
       simp only [Value.cells] at g1 g2 g3 g4
       refine .agg xs us (by simpa using g3.symm) (fun i hi => ?_) (fun i c hc => ?_)
       · have hi' : i < us.size := by simpa [g3] using hi
         have := g2 i us[i] (by simp [hi'])
         simpa [hi'] using this
       · have hi' : i < us.size := by have := (List.getElem?_eq_some_iff.1 hc).1; simpa [g3] using this
         have := (g4 i us[i] c (by simp [hi']) hc).1
         simpa [hi'] using this
     · rw [if_neg ht]
       have hc := k2 (by simpa using ht)
       rw [hc] at g1 g2 g3 g4
       have hl : xs.length = 1 := by simpa using g3
       match xs, hl with
       | [x], _ => exact (g4 0 u x (by simp) (by simp)).1
 | [], _ :: _, _, _, _, _, h => by simp [DataW.TrodAll] at h
 | [], [], _ :: _, _, _, _, h => by simp [DataW.TrodAll] at h
 | _ :: _, [], _, _, _, _, h => by simp [DataW.TrodAll] at h
 | _ :: _, _ :: _, [], _, _, _, h => by simp [DataW.TrodAll] at h
theorem trodAll_below (hl : laidOutB P = true) {W W' : World} (hb : Below W.heap.size W W') : ∀ {ts : List TypeId} {vs : List Value} {ds : List (DataW H)} {ps : List MemPlace} {sp : Nat → Bool}, (∀ t, t ∈ ts → P.readableRec t = true ∧ t < P.types.size) → (∀ x ∈ ps, x.block < W.heap.size ∧ sp x.block = true) →
   DataW.TrodAll enc P W 0 (fun _ => true) true ts vs ds ps → DataW.TrodAll enc P W' 0 sp true ts vs ds ps
 | [], [], [], _, _, _, _, h => h
 | t :: ts, v :: vs, d :: ds, ps, sp, ht, hp, h => by
   obtain ⟨p, q, h1, h2, rfl⟩ := h
   obtain ⟨g1, g2⟩ := ht t (by simp)
   exact ⟨p, q, WideElems.Trod_stays hl g1 g2 h1 (fun x hx => hb.same (hp x (by simp [hx])).1) (fun x hx => (hp x (by simp [hx])).2), trodAll_below hl hb (fun t ht' => ht t (by simp [ht'])) (fun x hx => hp x (by simp [hx])) h2, rfl⟩
 | [], _ :: _, _, _, _, _, _, h => by simp [DataW.TrodAll] at h
 | [], [], _ :: _, _, _, _, _, h => by simp [DataW.TrodAll] at h
 | _ :: _, [], _, _, _, _, _, h => by simp [DataW.TrodAll] at h
 | _ :: _, _ :: _, [], _, _, _, _, h => by simp [DataW.TrodAll] at h
theorem HasL.int {n : Nat} {t : TypeId} {k : IntKind} {xs : List V} (hk : knd P t = .int k) (h : HasL P n t xs) : ∃ i, xs = [.int k i] ∧ (Lit.int k i).wf = true := by
 cases n with
 | zero => exact h.elim
 | succ n => obtain ⟨_, h⟩ := h; rw [hk] at h; exact h
theorem HasL.bool {n : Nat} {t : TypeId} {xs : List V} (hk : knd P t = .bool) (h : HasL P n t xs) : ∃ b, xs = [.bool b] := by
 cases n with
 | zero => exact h.elim
 | succ n => obtain ⟨_, h⟩ := h; rw [hk] at h; exact h
theorem HasL.str {n : Nat} {t : TypeId} {xs : List V} (hk : knd P t = .str) (h : HasL P n t xs) : ∃ s, xs = [.str s] ∧ s.length ≤ maxLen := by
 cases n with
 | zero => exact h.elim
 | succ n => obtain ⟨_, h⟩ := h; rw [hk] at h; exact h
theorem HasL.slice {α : Type} {r : α → V} {n : Nat} {t e : TypeId} {xs : List V} (hk : knd P t = .slice e) (h : HasL P (n + 1) t xs) (he : ∀ ys, HasL P n e ys → ∃ a, elV P e ys = r a) : ∃ l : List α, xs = [.sl (tsz P e) (l.map r)] ∧ l.length ≤ maxLen := by
 obtain ⟨_, h⟩ := h
 rw [hk] at h
 obtain ⟨es, rfl, hlen, h⟩ := h
 have : ∀ es : List V, (∀ v, v ∈ es → ∃ ys, v = elV P e ys ∧ HasL P n e ys) → ∃ l : List α, es = l.map r := by
   intro es
   induction es with
   | nil => intro _; exact ⟨[], rfl⟩
   | cons v es ih =>
     intro h
     obtain ⟨l, rfl⟩ := ih fun v hv => h v (by simp [hv])
     obtain ⟨ys, rfl, h2⟩ := h v (by simp)
     obtain ⟨a, ha⟩ := he ys h2
     exact ⟨a :: l, by simp [ha]⟩
 obtain ⟨l, rfl⟩ := this es h
 exact ⟨l, rfl, by simpa using hlen⟩
theorem HasL.fld {n : Nat} {t ty : TypeId} {f off : Nat} {xs : List V} (hk : knd P t = .strct) (h : HasL P (n + 1) t xs) (hf : Go.Pl.fld P t f = some (off, ty)) : HasL P n ty ((xs.drop off).take (tsz P ty)) := by
 obtain ⟨_, h⟩ := h
 rw [hk] at h
 exact h f off ty hf
theorem HasL.len {n : Nat} {t : TypeId} {xs : List V} (h : HasL P n t xs) : xs.length = tsz P t := by
 cases n with
 | zero => exact h.elim
 | succ n => exact h.1
theorem HasL.arr {n m i : Nat} {t e : TypeId} {xs : List V} (hk : knd P t = .arr m e) (h : HasL P (n + 1) t xs) (hi : i < m) : HasL P n e ((xs.drop (i * tsz P e)).take (tsz P e)) := by
 obtain ⟨_, h⟩ := h
 rw [hk] at h
 exact h i hi
theorem len1 {α : Type} {l : List α} (h : l.length = 1) : ∃ a, l = [a] := by
 match l, h with
 | [a], _ => exact ⟨a, rfl⟩
theorem len2 {α : Type} {l : List α} (h : l.length = 2) : ∃ a b, l = [a, b] := by
 match l, h with
 | [a, b], _ => exact ⟨a, b, rfl⟩
theorem len3 {α : Type} {l : List α} (h : l.length = 3) : ∃ a b c, l = [a, b, c] := by
 match l, h with
 | [a, b, c], _ => exact ⟨a, b, c, rfl⟩
theorem len4 {α : Type} {l : List α} (h : l.length = 4) : ∃ a b c d, l = [a, b, c, d] := by
 match l, h with
 | [a, b, c, d], _ => exact ⟨a, b, c, d, rfl⟩
theorem tyArgs1 {n : Nat} {t : TypeId} {vs : List V} (h : TyArgs P n [t] vs) : ∃ xs, vs = [elV P t xs] ∧ HasL P n t xs := by
 match vs, h with
 | [a], ⟨⟨xs, h1, h2⟩, _⟩ => exact ⟨xs, by rw [h1], h2⟩
theorem tyArgs2 {n : Nat} {t u : TypeId} {vs : List V} (h : TyArgs P n [t, u] vs) : ∃ xs ys, vs = [elV P t xs, elV P u ys] ∧ HasL P n t xs ∧ HasL P n u ys := by
 match vs, h with
 | [a, b], ⟨⟨xs, h1, h2⟩, ⟨ys, h3, h4⟩, _⟩ => exact ⟨xs, ys, by rw [h1, h3], h2, h4⟩
theorem elV_one {t : TypeId} {v : V} (h : tagg P t = false) : elV P t [v] = v := by simp [elV, h]
theorem elV_agg {t : TypeId} {xs : List V} (h : tagg P t = true) : elV P t xs = .agg xs := by simp [elV, h]
end
end Go.Pl

set_option linter.unusedVariables false
set_option linter.unusedSimpArgs false
namespace Go.Pl
open Go Go.RowKit
section
variable {P : Program} {β : Beta} {M : Off} {bx : Boxes} {w w' : World}
theorem upd_none {bx : Boxes} {b : Nat} (hb : bx b = none) : upd bx b none = bx := by
 funext c
 by_cases e : c = b
 · subst e; rw [upd_eq, hb]
 · rw [upd_ne _ _ e]
theorem rep_str {F : Nat → Prop} (s : List UInt8) : Rep β w F (.str s) (.string ⟨s.toArray⟩) := by
 have := Rep.str (β := β) (w := w) (F := F) ⟨s.toArray⟩
 exact this
end
end Go.Pl

set_option linter.unusedSimpArgs false
set_option linter.unusedVariables false
namespace Go.Pl
open Go
section
variable {P : Program}
theorem AbsCall.cov {f : FuncId} {args args' : List V} {bx bx' : Boxes} {Kc : V → Boxes → Prop} (he : Ext bx' bx) (hl : args.length = args'.length)
   (ha : ∀ (i : Nat) (c c' : V), args[i]? = some c → args'[i]? = some c' → c' = c ∨ ∃ d, Wk (frz bx bx' d c) c') (h : AbsCall P f args' bx' Kc) : AbsCall P f args bx Kc := by
 refine ⟨h.1, fun β M w vs hok hgl hvs hrep => ?_⟩
 have hs := he.sub
 refine (h.2 β M w vs (hok.sub hs) (hgl.imp fun _ _ hh => hs.rep hh) (hvs.trans hl) (fun i c' hc' => ?_)).mono ?_
 · have hi : i < args.length := by rw [hl]; exact (List.getElem?_eq_some_iff.1 hc').1
   have hc := List.getElem?_eq_getElem hi
   rcases ha i _ c' hc hc' with rfl | ⟨d, hd⟩
   · exact hs.rep (hrep i _ hc)
   · exact hd _ _ _ _ (frz_rep hok hs d _ _ (hrep i _ hc))
 · rintro e w' ⟨v, r, bx2, β2, rfl, hk, hok2, ht, hrep2⟩
   exact ⟨v, r, bx2, β2, rfl, hk, hok2, hs.tr.trans ht, hrep2⟩
end
end Go.Pl

set_option linter.unusedSimpArgs false
set_option linter.unusedVariables false
namespace Go.Pl
open Go
section
variable {P : Program} {β : Beta} {M : Off} {bx bx' : Boxes} {w : World}
end
end Go.Pl

set_option linter.unusedSimpArgs false
set_option linter.unusedVariables false
namespace Go.Pl
open Go
section
variable {P : Program}
end
end Go.Pl

set_option linter.unusedSimpArgs false
set_option linter.unusedVariables false
namespace Go.Pl
open Go
section
variable {P : Program}
def Tc (P : Program) (ops : Array Oper) (i0 : Nat) (K : St → Prop) (st : St) : Prop :=
 match ops[i0]? with
 | some o => (match o.guard with | some (g, want) => wantedV ops st g want = some true | none => False) ∧ (∃ bx v, K (st.at bx o.dst v)) ∧ absOp P false o K st
 | none => False
def TG (P : Program) (ops : Array Oper) (i0 i : Nat) (K : St → Prop) (st : St) : Prop :=
 if i = i0 then Tc P ops i0 K st else absX P ops (fun _ => false) i K st
theorem TG_ok {ops : Array Oper} {i0 : Nat} : TOk (TG P ops i0) where
 mono i K K2 st hm h := by
   unfold TG at h ⊢
   split
   · rename_i e
     rw [if_pos e] at h
     unfold Tc at h ⊢
     split at h
     · obtain ⟨h1, ⟨bx, v, h2⟩, h3⟩ := h
       exact ⟨h1, ⟨bx, v, hm _ h2⟩, absOp_mono hm h3⟩
     · exact h.elim
   · rename_i e
     rw [if_neg e] at h
     exact absX_ok.mono _ _ _ _ hm h
 live i K st h := by
   unfold TG at h
   split at h
   · unfold Tc at h
     split at h
     · obtain ⟨_, ⟨bx, v, h2⟩, _⟩ := h
       exact ⟨_, h2⟩
     · exact h.elim
   · exact absX_ok.live _ _ _ h
theorem chain_congr {T T' : Nat → (St → Prop) → St → Prop} {K : St → Prop} : ∀ (n k : Nat) (st : St), (∀ i, k ≤ i → i < k + n → T i = T' i) → chainT T K k n st → chainT T' K k n st
 | 0, k, st, _, h => h
 | n + 1, k, st, he, h => by
   have e : T k = T' k := he k (Nat.le_refl _) (by omega)
   have e2 : chainT T K (k + 1) n = chainT T' K (k + 1) n := by
     funext s
     exact propext ⟨chain_congr n (k + 1) s fun i h1 h2 => he i (by omega) (by omega), chain_congr n (k + 1) s fun i h1 h2 => (he i (by omega) (by omega)).symm⟩
   unfold chainT at h ⊢
   rw [← e, ← e2]
   exact h
theorem chain_add {T : Nat → (St → Prop) → St → Prop} {K : St → Prop} {m : Nat} : ∀ (n k : Nat) (st : St), chainT T (chainT T K (k + n) m) k n st = chainT T K k (n + m) st
 | 0, k, st => by simp [chainT]
 | n + 1, k, st => by
   have e : n + 1 + m = (n + m) + 1 := by omega
   rw [e]
   unfold chainT
   have : chainT T (chainT T K (k + (n + 1)) m) (k + 1) n = chainT T K (k + 1) (n + m) := by
     funext s
     rw [← chain_add n (k + 1) s, show k + (n + 1) = k + 1 + n by omega]
   rw [this]
theorem opsF_chain' {ops : Array Oper} {fl : Nat → Bool} {K : St → Prop} : ∀ (l : List Oper) (ql : List POp) (k : Nat) (st : St), ql.map POp.clr = l.map (compileOp ops) → (∀ j o, l[j]? = some o → ops[k + j]? = some o) → (∀ j q, ql[j]? = some q → fl (k + j) = q.fz) → opsF P K ql st → chainT (absX P ops fl) K k l.length st
 | [], [], k, st, _, _, _, h => h
 | o :: l, q :: ql, k, st, hq, hl, hf, h => by
   simp only [List.map_cons, List.cons.injEq] at hq
   have h0 : ops[k]? = some o := hl 0 o rfl
   exact absX_ok.mono _ _ _ _ (fun s hs => opsF_chain' l ql (k + 1) s hq.2 (fun j o' hj => by have := hl (j + 1) o' (by simpa using hj); simpa [Nat.add_assoc, Nat.add_comm 1 j] using this) (fun j q' hj => by have := hf (j + 1) q' (by simpa using hj); simpa [Nat.add_assoc, Nat.add_comm 1 j] using this) hs) (opF_absX hq.1 h0 (hf 0 q rfl) h)
 | [], q :: ql, k, st, hq, _, _, h => by simp at hq
 | o :: l, [], k, st, hq, _, _, h => by simp at hq
def rawOkC (c : Code) (pre : List POp) (q : POp) (rest : List POp) : Prop :=
 match c with
 | .region _ ops true => lexD ops = true ∧ (pre ++ q :: rest).map POp.clr = ops.toList.map (compileOp ops) ∧ (lexU ops).isEmpty = true ∧ ((pre ++ rest).all fun x => !x.fz) = true ∧
     ((List.range ops.size).all fun j => j == pre.length || (if j < pre.length then ((masks ops).getD pre.length 0).testBit j else ((masks ops).getD j 0).testBit pre.length)) = true
 | _ => False
theorem pw_rawC (hm : P.follows .mixedOrders = true) {c : Code} {pre rest : List POp} {d s : Tmp} {f : FuncId} {args : Array Operand} {tys : Array TypeId} {want : Bool} (ks : List Nat)
   (hc : rawOkC c pre ⟨some d, .call { callee := .value (.func f), args := args, argTypes := tys }, some (s, want), false⟩ rest) {Q : Exit → St → Prop} {st : St}
   (h : opsF P (fun s1 => ((s1.sl s).strip = .bool want ∧ (s1.sl s).liveB = true) ∧ opF P ⟨some d, .call { callee := .value (.func f), args := args, argTypes := tys }, none, true⟩ (fun s2 => opsF P (fun s => Q .normal (s.keep ks)) rest s2) s1) pre st) : pw P (.raw c) Q st := by
 unfold rawOkC at hc
 split at hc
 rotate_left
 · exact hc.elim
 rename_i id ops
 obtain ⟨hD, hl2, hU, hfz, hW⟩ := hc
 intro M ro n β a w hr
 have hlen : ops.size = pre.length + (rest.length + 1) := by
   have := congrArg List.length hl2
   simp at this
   omega
 have hW' : ∀ j, j < ops.size → j ≠ pre.length → (if j < pre.length then Waits (masks ops) pre.length j else Waits (masks ops) j pre.length) := by
   intro j hj hne
   have := List.all_eq_true.1 hW j (List.mem_range.2 hj)
   simp only [Bool.or_eq_true, beq_iff_eq] at this
   rcases this with this | this
   · exact absurd this hne
   · split
     · rename_i hlt; rw [if_pos hlt] at this; exact this
     · rename_i hlt; rw [if_neg hlt] at this; exact this
 obtain ⟨oc, hoc⟩ : ∃ oc, ops[pre.length]? = some oc := ⟨_, Array.getElem?_eq_getElem (by omega)⟩
 have hcomp : compileOp ops oc = ⟨some d, .call { callee := .value (.func f), args := args, argTypes := tys }, some (s, want), false⟩ := by
   have e1 : ((pre ++ (⟨some d, .call { callee := .value (.func f), args := args, argTypes := tys }, some (s, want), false⟩ : POp) :: rest).map POp.clr)[pre.length]? = some ⟨some d, .call { callee := .value (.func f), args := args, argTypes := tys }, some (s, want), false⟩ := by
     rw [List.getElem?_map, List.getElem?_append_right (Nat.le_refl _)]
     simp [POp.clr]
   rw [hl2] at e1
   have e2 : (ops.toList.map (compileOp ops))[pre.length]? = some (compileOp ops oc) := by simp [hoc]
   rw [e2] at e1
   injection e1
 obtain ⟨g, hg1, hg2, hop, hds⟩ : ∃ g, oc.guard = some (g, want) ∧ (ops[g]?).bind (·.dst) = some s ∧ oc.op = .call { callee := .value (.func f), args := args, argTypes := tys } ∧ oc.dst = some d := by
   unfold compileOp at hcomp
   split at hcomp
   · injection hcomp with _ _ h3 _
     cases h3
   · rename_i g w' hg
     split at hcomp
     · rename_i dd hdd
       injection hcomp with h1 h2 h3 _
       injection h3 with h3
       injection h3 with h3 h4
       subst h3 h4
       exact ⟨g, hg, hdd, h2, h1⟩
     · injection hcomp with _ _ h3 _
       cases h3
 have hLex : LexT ops (TG P ops pre.length) := by
   refine ⟨fun k ok hk => (lexD_at hD hk).1, fun k ok hk j oj hj hkj hw K st hh => ?_⟩
   have hkl := (Array.getElem?_eq_some_iff.1 hk).1
   have hjl := (Array.getElem?_eq_some_iff.1 hj).1
   have hk0 : k ≠ pre.length := by
     rintro rfl
     have := hW' j hjl (by omega)
     rw [if_neg (by omega)] at this
     exact hw this
   have hj0 : j ≠ pre.length := by
     rintro rfl
     have := hW' k hkl hk0
     rw [if_pos hkj] at this
     exact hw this
   have hT : ∀ i, i ≠ pre.length → TG P ops pre.length i = absX P ops (fun _ => false) i := fun i hi => by funext K s; simp [TG, hi]
   rw [hT k hk0, hT j hj0] at *
   refine comm_X hk hj (.inl ?_) (fun h => by simp at h) (fun h => by simp at h) hh
   cases ha : (apartC ops ok oj || swapC ops ok oj) with
   | true => rfl
   | false =>
     have := lexU_mem hk hj hkj hw (by simp [ha])
     have he : lexU ops = [] := by simpa using hU
     rw [he] at this
     cases this
 have hmapP : pre.map POp.clr = (ops.toList.take pre.length).map (compileOp ops) := by
   have := congrArg (List.take pre.length) hl2
   rw [List.map_append, List.take_left' (by simp), ← List.map_take] at this
   exact this
 have hmapR : rest.map POp.clr = (ops.toList.drop (pre.length + 1)).map (compileOp ops) := by
   have := congrArg (List.drop (pre.length + 1)) hl2
   rw [List.map_append, List.map_cons, List.drop_append, List.drop_of_length_le (by simp), ← List.map_drop] at this
   simpa using this
 have hfp : ∀ q, q ∈ pre ++ rest → q.fz = false := fun q hq => by simpa using List.all_eq_true.1 hfz q hq
 have hch : chainT (TG P ops pre.length) (fun s => Q .normal (s.keep ks)) 0 ops.toList.length st := by
   have e0 : ops.toList.length = pre.length + (rest.length + 1) := by simpa using hlen
   rw [e0, ← chain_add pre.length 0 st]
   refine chain_congr (T := absX P ops (fun _ => false)) pre.length 0 st (fun i h1 h2 => by funext K s; simp [TG, show i ≠ pre.length by omega]) ?_
   have hl1 : (ops.toList.take pre.length).length = pre.length := by rw [List.length_take]; simp; omega
   have hl3 : (ops.toList.drop (pre.length + 1)).length = rest.length := by rw [List.length_drop]; simp; omega
   have h1 := opsF_chain' (ops := ops) (fl := fun _ => false) (ops.toList.take pre.length) pre 0 st hmapP (fun j o hj => by
     rw [List.getElem?_take] at hj
     split at hj
     · simpa using hj
     · cases hj) (fun j q hq => (hfp q (by simp [List.mem_of_getElem? hq])).symm) h
   rw [hl1] at h1
   have hcm : ∀ (n k : Nat) (K K2 : St → Prop) (st : St), (∀ s, K s → K2 s) → chainT (absX P ops (fun _ => false)) K k n st → chainT (absX P ops (fun _ => false)) K2 k n st := by
     intro n
     induction n with
     | zero => intro k K K2 st hm h; exact hm _ h
     | succ n ih => intro k K K2 st hm h; exact absX_ok.mono _ _ _ _ (fun s hs => ih (k + 1) K K2 s hm hs) h
   refine hcm _ _ _ _ _ (fun s1 hs1 => ?_) h1
   obtain ⟨⟨hs2, hs3⟩, hcall⟩ := hs1
   show TG P ops pre.length (0 + pre.length) (chainT (TG P ops pre.length) (fun s => Q .normal (s.keep ks)) (0 + pre.length + 1) rest.length) s1
   rw [Nat.zero_add]
   have hgo : ∀ KR : St → Prop, (∀ s2, opsF P (fun s => Q .normal (s.keep ks)) rest s2 → KR s2) → TG P ops pre.length pre.length KR s1 := by
     intro KR hk2
     unfold opF at hcall
     rw [if_neg (by simp [fzb, lenOf]), if_pos (by simp [callQ])] at hcall
     obtain ⟨⟨bx, v, hx⟩, hc2⟩ := hcall
     have hc3 := absOp_mono hk2 hc2
     have e : ∀ K st, absOp P false oc K st = absOp P false (POp.oper ⟨some d, .call { callee := .value (.func f), args := args, argTypes := tys }, none, true⟩) K st := by
       intro K st
       obtain ⟨odst, oop, otype, opos, oafter, oguard⟩ := oc
       simp only at hop hds
       subst hop hds
       rfl
     unfold TG
     rw [if_pos rfl]
     unfold Tc
     simp only [hoc, hg1]
     refine ⟨?_, ⟨bx, v, by rw [hds]; exact hk2 _ hx⟩, by rw [e]; exact hc3⟩
     unfold wantedV
     rw [hg2]
     simp only [hs2, hs3]
     simp
   refine hgo _ fun s2 hh => ?_
   refine chain_congr (T := absX P ops (fun _ => false)) rest.length (pre.length + 1) s2 (fun i h1 h2 => by funext K s; simp [TG, show i ≠ pre.length by omega]) ?_
   have h3 := opsF_chain' (ops := ops) (fl := fun _ => false) (ops.toList.drop (pre.length + 1)) rest (pre.length + 1) s2 hmapR (fun j o hj => by
     rw [List.getElem?_drop] at hj
     simpa using hj) (fun j q hq => (hfp q (by simp [List.mem_of_getElem? hq])).symm) hh
   rwa [hl3] at h3
 refine wpIn_region_any hm ?_
 have hr' : Rs P β M st a w.drew := ⟨hr.ok.drew, fun t => (Tr.drew hr.ok).rep (hr.sl t), hr.sz, hr.df, hr.bs, hr.gl.imp fun _ _ hh => (Tr.drew hr.ok).rep hh⟩
 have h1 := anyT_lex (K := fun s => Q .normal (s.keep ks)) TG_ok hLex ops.toList.length 0 (Array.replicate ops.size false) st (by simp) (by simp) (fun j hj => by simp [hj]) hch
 have h2 := anyT_sound (P := P) (ro := ro) (n := n) (M := M) (ops := ops) (Q := fun e a' w' => ∃ M' st' β', Q e st' ∧ MExt M M' w ∧ Rs P β' M' st' a' w' ∧ Tr β st.bx w β' st'.bx w') (fun i o K st a w β K' hi h hr hK => by
   unfold TG at h
   split at h
   · rename_i e
     subst e
     unfold Tc at h
     simp only [hi] at h
     obtain ⟨hw1, _, hc1⟩ := h
     unfold wpOpIn
     simp only [hi]
     cases hgd : o.guard with
     | none => simp [hgd] at hw1
     | some gw =>
       obtain ⟨g', want'⟩ := gw
       simp only [hgd] at hw1
       have hw := wanted_of hgd hw1 hr
       rw [if_pos hw]
       exact wp_in ro n (absOp_nd hc1) (absOp_sound hc1 hr hK)
   · exact absX_in hi h hr hK) _ _ st a w.drew β h1 hr' (fun st' β' a' w' hk hr2 ht => ⟨M, _, β', hk, MExt.refl _ _, (keep_cov st' ks).rs hr2, (Tr.drew hr.ok).trans ht⟩)
 simpa using h2
end
end Go.Pl

set_option linter.unusedVariables false
namespace Go.Pl
open Go
def Seen (n : Nat) (bs is seen : List Nat) : Prop := seen = is.map (fun i => bs.getD i 0) ∧ is.Nodup ∧ ∀ i, i ∈ is → i < n
theorem Seen.nil (n : Nat) (bs : List Nat) : Seen n bs [] [] := ⟨rfl, by simp, fun i h => by cases h⟩
theorem Seen.next {n : Nat} {bs is seen : List Nat} (h : Seen n bs is seen) (hl : bs.length = n) {i q : Nat} (hq : bs[i]? = some q) (hs : ¬ q ∈ seen) : ¬ i ∈ is ∧ i < n ∧ Seen n bs (is ++ [i]) (seen ++ [q]) := by
 obtain ⟨h1, h2, h3⟩ := h
 have hi : i < bs.length := (List.getElem?_eq_some_iff.1 hq).1
 have hg : bs.getD i 0 = q := by rw [List.getD_eq_getElem?_getD, hq]; rfl
 have hn : ¬ i ∈ is := fun hm => hs (by rw [h1]; exact List.mem_map.2 ⟨i, hm, hg⟩)
 refine ⟨hn, by omega, by rw [h1, List.map_append, List.map_cons, List.map_nil, hg], ?_, fun j hj => ?_⟩
 · rw [List.nodup_append]
   exact ⟨h2, by simp, fun a ha b hb => by simp at hb; subst hb; exact fun e => hn (e ▸ ha)⟩
 · rcases List.mem_append.1 hj with hj | hj
   · exact h3 j hj
   · simp at hj; omega
theorem Seen.all {n : Nat} {bs is seen : List Nat} (h : Seen n bs is seen) (hl : bs.length = n) (hnd : bs.Nodup) (ha : ∀ q, q ∈ bs → q ∈ seen) : is.Perm (List.range n) := by
 obtain ⟨h1, h2, h3⟩ := h
 refine (List.perm_ext_iff_of_nodup h2 List.nodup_range).2 fun i => ⟨fun hi => List.mem_range.2 (h3 i hi), fun hi => ?_⟩
 have hil : i < bs.length := by rw [hl]; exact List.mem_range.1 hi
 have hm := ha bs[i] (List.getElem_mem hil)
 rw [h1] at hm
 obtain ⟨j, hj, he⟩ := List.mem_map.1 hm
 have hjl : j < bs.length := by rw [hl]; exact h3 j hj
 have e2 : bs[j] = bs[i] := by rw [← he]; simp [hjl]
 have : j = i := by
   rcases Nat.lt_trichotomy j i with h | h | h
   · exact absurd e2 ((List.pairwise_iff_getElem.1 hnd) j i hjl hil h)
   · exact h
   · exact absurd e2.symm ((List.pairwise_iff_getElem.1 hnd) i j hil hjl h)
 subst this
 exact hj
theorem Seen.len {n : Nat} {bs is seen : List Nat} (h : Seen n bs is seen) : is.length ≤ n := by
 have h1 : is.length ≤ (List.range n).length := List.Nodup.length_le_of_subset h.2.1 fun i hi => List.mem_range.2 (h.2.2 i hi)
 simpa using h1
theorem sub_unS {bx bx' : Boxes} {b : Nat} {es : List (V × V)} {bs : List Nat} {c : Nat} (h : bx b = some (.mapS es bs c)) (hb : bx' b = some (.map es)) (ho : ∀ d, d ≠ b → bx' d = none ∨ bx' d = bx d) : SubBx bx bx' := fun d => by
 by_cases e : d = b
 · subst e; exact .inr (.inr (.inl ⟨es, bs, c, h, hb⟩))
 · rcases ho d e with h | h
   · exact .inl h
   · exact .inr (.inl h)
theorem ret_sub {P : Program} {rs : List ResultVar} {Kc : V → Boxes → Prop} {st : St} {bx' : Boxes} (h : ∀ r, r ∈ rs → (resEv P st r).1) (hs : SubBx st.bx bx') (hk : Kc (resV P st rs) bx') : Ret P rs Kc st :=
 ⟨h, bx', _, hs, .inl rfl, hk⟩
end Go.Pl

set_option linter.unusedVariables false
set_option linter.unusedSimpArgs false
namespace Go.Pl
open Go Go.RowKit
section
variable {P : Program}
theorem two {α : Type} : ∀ {l : List α}, l.length = 2 → ∃ a b, l = [a, b]
 | [a, b], _ => ⟨a, b, rfl⟩
end
end Go.Pl

set_option linter.unusedVariables false
set_option linter.unusedSimpArgs false
namespace Go.Pl
open Go Go.RowKit
section
variable {P : Program}
theorem reg_sameB (hm : P.follows .mixedOrders = true) {M : Off} {n : Nat} {id : Nat} {ops : Array Oper} {Q : St → Prop} {st : St} (hl : lexC ops = true) {l : List POp} (hl2 : l.map POp.clr = ops.toList.map (compileOp ops)) (h : opsB P Q (soloL ops) l st)
   {β : Beta} {a : Act} {w : World} (hr : Rs P β M st a w) : (Code.region id ops true).wpIn (rf none) n P (fun e a' w' => e = .normal ∧ ∃ st' β', Q st' ∧ Rs P β' M st' a' w' ∧ Tr β st.bx w β' st'.bx w') a w := by
 refine wpIn_region_any hm ?_
 have h := opsB_absOps ops.toList l 0 st (fun j => by simp) (by simp) hl2 (by simpa using h)
 have hr' : Rs P β M st a w.drew := ⟨hr.ok.drew, fun t => (Tr.drew hr.ok).rep (hr.sl t), hr.sz, hr.df, hr.bs, hr.gl.imp fun _ _ hh => (Tr.drew hr.ok).rep hh⟩
 have h1 := absAnyB_lex (P := P) soloS_mono hl ops.toList 0 (Array.replicate ops.size false) st (fun j => by simp) (by simp) (by simp) (fun j hj => by simp [hj]) h
 have h2 := absAnyB_sound (ro := none) (n := n) (M := M) (Q := fun e a' w' => e = .normal ∧ ∃ st' β', Q st' ∧ Rs P β' M st' a' w' ∧ Tr β st.bx w β' st'.bx w') (fun i o K st a w β K' hi h hr hK => by
   obtain ⟨st', hcv, h⟩ := h
   exact opP0_in hi h (hcv.rs hr) (fun st2 β' a' w' hk hr' ht => hK _ _ _ _ hk hr' (hcv.bx.tr.trans ht))) _ _ st a w.drew β h1 hr' (fun st' β' a' w' hk hr2 ht => ⟨rfl, st', β', hk, hr2, (Tr.drew hr.ok).trans ht⟩)
 simpa using h2
theorem called_regB (hm : P.follows .mixedOrders = true) {g : FuncId} {gn : Func} {cg : Code} (hgf : P.funcs[g]? = some gn) (hgb : gn.body = some cg) {so : List Bool} {lg : List POp} (hgc : compile cg = erase (.regB so lg [])) (hgr : gn.results = #[])
   {args : List V} {bx : Boxes} {D : Boxes → Prop} (h : opsB P (fun s => D s.bx) so lg (initSt gn.ntmps args bx)) {β : Beta} {M : Off} {w : World} {vs : Array Value} (hok : WOk β M bx w) (hgl : GlOk P β w (Fz β M bx w)) (hsz : vs.size = args.length)
   (hargs : ∀ (i : Nat) (c : V), args[i]? = some c → Rep β w (Fz β M bx w) c (vs.getD i undef)) {n : Nat} {u : FrameMode} :
   CallsDIn Fence.wide n P g vs u w (fun e u' w' => u' = u ∧ ∃ v β' bx', e = .returned v ∧ D bx' ∧ WOk β' M bx' w' ∧ Tr β bx w β' bx' w') := by
 obtain ⟨id, ops, rfl, hl, rfl, hl2⟩ := compile_regB hgc
 refine callsDIn_of_wp hgf hgb trivial ?_
 have hok1 : WOk β ⟨M.obj, w.heap.size, []⟩ bx w := ⟨hok.fin, hok.mlt, hok.live, hok.inj⟩
 have hr : Rs P β ⟨M.obj, w.heap.size, []⟩ (initSt gn.ntmps args bx) { tmps := vs ++ Array.replicate (gn.ntmps - vs.size) undef, defers := [] } w := by
   refine ⟨hok1, fun t => ?_, by simp [initSt]; omega, ⟨[], rfl, trivial⟩, Nat.le_refl _, hgl⟩
   simp only [initSt, initSl_at, Nat.zero_le, if_true, Nat.sub_zero]
   by_cases ht : t < args.length
   · have h1 : Rep β w (Fz β ⟨M.obj, w.heap.size, []⟩ bx w) args[t] (vs.getD t undef) := hargs t args[t] (List.getElem?_eq_getElem ht)
     have h2 : (vs ++ Array.replicate (gn.ntmps - vs.size) undef).getD t undef = vs.getD t undef := by
       simp [Array.getElem?_append, show t < vs.size by omega]
     rw [h2]
     simpa [List.getD, List.getElem?_eq_getElem ht] using h1
   · simp only [List.getD, List.getElem?_eq_none (Nat.le_of_not_lt ht), Option.getD_none]
     exact .unk _
 refine wpIn_mono (reg_sameB (n := n) (id := id) hm hl hl2 h hr) ?_
 rintro e a' w' ⟨rfl, st', β', hk, hr', ht⟩
 obtain ⟨ms, hms, hmk⟩ := hr'.df
 have hnil : ms = [] := by
   cases ms with
   | nil => rfl
   | cons d ds =>
     obtain ⟨D, _, h1, h2, _⟩ := hmk
     have := hok.mlt' (k := D) h2
     exact absurd h1 (by simp; omega)
 subst hnil
 refine ⟨by simpa using hms, .tuple #[], ?_, .tuple #[], β', st'.bx, rfl, hk, ⟨hr'.ok.fin, hr'.ok.mlt, hr'.ok.live, hr'.ok.inj⟩, ht⟩
 simp [results, hgr]
theorem callM_of_deferB (hm : P.follows .mixedOrders = true) {M : Off} {f : FuncId} {fn : Func} {c : Code} (hf : P.funcs[f]? = some fn) (hb : fn.body = some c) (hres : fn.results = #[])
   {x y r : PC} {d : Tmp} {g : FuncId} {caps : Array Operand} (hc : compile c = erase (.seq x (.seq y (.seq (.reg false [⟨some d, .makeFunc (.func g) #[] caps, none, false⟩, ⟨none, .defer { callee := .value (.tmp d), args := #[], argTypes := #[] }, none, false⟩] []) r))))
   {gn : Func} {cg : Code} (hgf : P.funcs[g]? = some gn) (hgb : gn.body = some cg) {so : List Bool} {lg : List POp} (hgc : compile cg = erase (.regB so lg [])) (hgr : gn.results = #[]) (hge : ∀ vs w, (callFunc g vs).run P w = .ok (.enter g vs) w)
   {args : List V} {bx : Boxes} {D : Boxes → Prop}
   (h : pw P (.seq x y) (fun e st => e = .normal ∧ opP P false ⟨some d, .makeFunc (.func g) #[] caps, none, false⟩ (fun st2 => ∃ cv : List V, st2.sl d = .fn (.func g) cv ∧
     pw P r (fun e2 st3 => (e2 = .normal ∨ e2 = .ret) ∧ opsB P (fun s => ∃ bx', SubBx s.bx bx' ∧ D bx') so lg (initSt gn.ntmps cv st3.bx)) st2) st) (initSt fn.ntmps args bx)) :
   CallM P M f args bx (fun r bx' => r = .tup [] ∧ D bx') := by
 intro β w vs hok hgl hsz hargs
 refine (callsIn_wide (n := 0)).1 (callsIn_of_wp_marks hf hb trivial ?_)
 have hok1 : WOk β ⟨M.obj, w.heap.size, []⟩ bx w := ⟨hok.fin, hok.mlt, hok.live, hok.inj⟩
 have hr : Rs P β ⟨M.obj, w.heap.size, []⟩ (initSt fn.ntmps args bx) { tmps := vs ++ Array.replicate (fn.ntmps - vs.size) undef, defers := [] } w := by
   refine ⟨hok1, fun t => ?_, by simp [initSt]; omega, ⟨[], rfl, trivial⟩, Nat.le_refl _, hgl⟩
   simp only [initSt, initSl_at, Nat.zero_le, if_true, Nat.sub_zero]
   by_cases ht : t < args.length
   · have h1 : Rep β w (Fz β ⟨M.obj, w.heap.size, []⟩ bx w) args[t] (vs.getD t undef) := hargs t args[t] (List.getElem?_eq_getElem ht)
     have h2 : (vs ++ Array.replicate (fn.ntmps - vs.size) undef).getD t undef = vs.getD t undef := by
       simp [Array.getElem?_append, show t < vs.size by omega]
     rw [h2]
     simpa [List.getD, List.getElem?_eq_getElem ht] using h1
   · simp only [List.getD, List.getElem?_eq_none (Nat.le_of_not_lt ht), Option.getD_none]
     exact .unk _
 cases c <;> simp only [compile, erase, reduceCtorEq] at hc
 · split at hc <;> first | (cases hc; done) | (split at hc <;> cases hc)
 rename_i cx c1
 injection hc with hcx hc
 cases c1 <;> simp only [compile, erase, reduceCtorEq] at hc
 · split at hc <;> first | (cases hc; done) | (split at hc <;> cases hc)
 rename_i cy c2
 injection hc with hcy hc
 cases c2 <;> simp only [compile, erase, reduceCtorEq] at hc
 · split at hc <;> first | (cases hc; done) | (split at hc <;> cases hc)
 rename_i cd cr
 injection hc with hcd hcr
 refine wpIn_seq (wpIn_mono (pw_sound hm (ro := none) x cx _ _ _ (.inl rfl) hcx h 0 β _ w hr) ?_)
 rintro e a1 w1 ⟨M1, st1, β1, hq, hx1, hr1, ht1⟩
 cases e with
 | normal =>
   refine wpIn_seq (wpIn_mono (pw_sound hm (ro := none) y cy M1 _ st1 (.inl rfl) hcy hq 0 β1 a1 w1 hr1) ?_)
   rintro e2 a2 w2 ⟨M2, st2, β2, ⟨rfl, hq2⟩, hx2, hr2, ht2⟩
   obtain ⟨id, ops, rfl, _, hl2⟩ := compile_reg hcd
   have hx12 := hx1.trans hx2 ht1.size
   obtain ⟨o1, o2, hops⟩ : ∃ o1 o2, ops.toList = [o1, o2] := by
     have : ops.toList.length = 2 := by simpa using (congrArg List.length hl2).symm
     exact two this
   have hops' : ops = #[o1, o2] := by rw [← Array.toArray_toList (xs := ops), hops]
   subst hops'
   simp only [List.map_cons, List.map_nil, List.cons.injEq, and_true] at hl2
   obtain ⟨hq1, hqd⟩ := hl2
   refine wpIn_seq (wpIn_region ?_)
   show wpOpsIn _ _ _ _ _ [0, 1] _ _
   rw [wpOpsIn_cons]
   refine opP_in hq1 (by simp) hq2 hr2 (fun st3 β3 a3 w3 hk hr3 ht3 => ?_)
   obtain ⟨cv, hcv, hpw⟩ := hk
   have hfd := hr3.sl d
   rw [hcv] at hfd
   generalize hud : a3.tmps.getD d undef = ud at hfd
   cases hfd with
   | fn _ _ us hlen hreps =>
   rw [wpOpsIn_cons]
   obtain ⟨dst, op, ty, pos, after, guard⟩ := o2
   have hg2 : guard = none := by
     cases guard with
     | none => rfl
     | some gw =>
       obtain ⟨g1, w1⟩ := gw
       unfold compileOp at hqd
       dsimp only at hqd
       split at hqd
       · cases hqd
       · cases hqd
   subst hg2
   simp only [compileOp, POp.clr, POp.mk.injEq] at hqd
   obtain ⟨rfl, rfl, _, _⟩ := hqd
   have hrun : (Oper.semAt (rf none).round a3.eval ⟨none, .defer { callee := .value (.tmp d), args := #[], argTypes := #[] }, ty, pos, after, none⟩).run P w3 = .ok (.defer { target := .fn (.func g) us, args := #[] }) w3 := by
     have he : a3.eval (.tmp d) = .func (.func g) #[] us := by simpa [Act.eval] using hud
     simp [Oper.semAt, rf, Fence.wide, execOp, resolve, Deferred.ofValue, he]
   have hi : (#[o1, (⟨none, .defer { callee := .value (.tmp d), args := #[], argTypes := #[] }, ty, pos, after, none⟩ : Oper)] : Array Oper)[1]? = some ⟨none, .defer { callee := .value (.tmp d), args := #[], argTypes := #[] }, ty, pos, after, none⟩ := by simp
   unfold wpOpIn
   simp only [hi]
   rw [if_pos (by simp [Region.wanted])]
   refine ⟨fun _ _ => trivial, ?_⟩
   erw [hrun]
   rw [Oper.uponIn_defer]
   obtain ⟨df, hdf⟩ : ∃ df : Deferred, df = { target := .fn (.func g) us, args := #[] } := ⟨_, rfl⟩
   rw [← hdf]
   have hr3' : Rs P β3 ⟨M2.obj, w3.heap.size, df :: a3.defers⟩ st3 { tmps := a3.tmps, defers := df :: a3.defers } w3 :=
     ⟨⟨hr3.ok.fin, hr3.ok.mlt, hr3.ok.live, hr3.ok.inj⟩, hr3.sl, hr3.sz, ⟨[], rfl, trivial⟩, Nat.le_refl _, hr3.gl⟩
   show Code.wpIn (rf none) 0 P cr _ { tmps := a3.tmps, defers := df :: a3.defers } w3
   refine wpIn_mono (pw_sound hm (ro := none) r cr _ _ _ (.inl rfl) hcr hpw 0 β3 _ w3 hr3') ?_
   rintro e4 a4 w4 ⟨M4, st4, β4, ⟨he, hcl⟩, hx4, hr4, ht4⟩
   obtain ⟨ms4, hms4, hmk4⟩ := hr4.df
   rw [hx4.df] at hms4
   obtain ⟨ms3, hms3, hmk3⟩ := hr3.df
   rw [hx12.df, List.append_nil] at hms3
   have hcv4 : ∀ (i : Nat) (c : V), cv[i]? = some c → Rep β4 w4 (Fz β4 M4 st4.bx w4) c (us.getD i undef) := fun i c hc => ht4.repx hx4 (hreps i c hc)
   have hlt3 : ∀ k o, M2 k = some o → k < w3.heap.size := fun k o hk => hr3.ok.mlt' hk
   have fin : LeavesInM Fence.wide 0 P fn a4.tmps (fun e w' => ∃ v r bx' β', e = .returned v ∧ (r = V.tup [] ∧ D bx') ∧ WOk β' M bx' w' ∧ Tr β bx w β' bx' w' ∧ Rep β' w' (Fz β' M bx' w') r v) a4.defers .returning w4 := by
     rw [hms4]
     refine leave_ms (M := ⟨M2.obj, w3.heap.size, df :: a3.defers⟩) (β := β3) (w := w3) (bx := st3.bx) (β' := β4) (st' := st4) (cv := cv) (us := us) (fun M' w' hcv' hm' hB' hdf' hr' ht' => ?_) ms4 M4 w4 hcv4 hx4.le hlt3 hx4.base hx4.df hmk4 (by rw [← hms4]; exact hr4) ht4
     rw [hdf]
     refine ⟨by simp, .inr ⟨fun h => by simp [Fence.wide] at h, _, _, g, us, rfl, by simp [invoke, hge], fun _ _ => trivial, ?_⟩⟩
     refine CallsDIn.mono (called_regB (D := fun b => ∃ bx', SubBx b bx' ∧ D bx') hm hgf hgb hgc hgr hcl hr'.ok hr'.gl hlen hcv') ?_
     rintro e5 u5 w5 ⟨rfl, v5, β5, bx5, rfl, ⟨bx6, hsub, hD⟩, hok5, ht5⟩
     show LeavesInM Fence.wide 0 P fn a4.tmps _ a3.defers .returning w5
     have htot : Tr β bx w β5 bx5 w5 := ht1.trans (ht2.trans (ht3.trans (ht'.trans ht5)))
     refine leave_marks (M := M) (fn := fn) (tmps := a4.tmps) (n := 0) (β := β) (β' := β5) (bx := bx) (w := w) (st' := { st4 with bx := bx5 }) (Kc := fun r bx' => r = .tup [] ∧ D bx') ?_ a3.defers ⟨M'.obj, w.heap.size, []⟩ w5 (fun k o hk => hm' k o (hx12.le k o hk)) (fun k o hk => hok.mlt' hk) rfl rfl ?_ htot
     · refine ⟨fun r hr => by simp [hres] at hr, bx6, _, hsub, .inl rfl, ?_, hD⟩
       simp [hres, resV]
     · refine ⟨⟨hok5.fin, hok5.mlt, hok5.live, hok5.inj⟩, fun t => ht5.rep (hr'.sl t), hr'.sz, ⟨ms3, by simpa using hms3, ?_⟩, htot.size, hr'.gl.imp (fun _ _ hh => ht5.rep hh) ht5.shape⟩
       have h5 : Marks M2.base M'.obj ms3 := hmk3.mono hm'
       rw [hx12.base] at h5
       exact h5
   rcases he with rfl | rfl
   · exact fin
   · exact fin
 | _ => exact absurd hq.1 (by simp)
end
end Go.Pl

set_option linter.unusedVariables false
set_option linter.unusedSimpArgs false
namespace Go.Pl
open Go Go.Lib
variable {P : Program}
end Go.Pl

set_option linter.unusedSimpArgs false
set_option linter.unusedVariables false
namespace Go.Pl
open Go
section
variable {P : Program}
def bldGG (P : Program) (g : V) (w : Bool) (k : Knd) (len : Nat) (ps : List (Nat × V)) (o : Option Tmp) (K : St → Prop) (st : St) : Prop :=
 match g.strip with
 | .bool c => ((g.liveB && (c == w)) = true → bldK P k len ps o K st) ∧ ((g.liveB && (c == w)) = false → dstOk st o ∧ K (st.put o (.dead .unk)))
 | _ => False
@[go_sem ↓] theorem opG_build (d : Bool) (o : Option Tmp) (t : TypeId) (len : Nat) (parts : Array (Nat × Operand)) (s : Nat) (w : Bool) (K : St → Prop) (st : St) : opP P d ⟨o, .buildSlice t len parts, some (s, w), false⟩ K st = bldGG P (st.sl s) w (knd P t) len (getP st parts.toList) o K st := by
 have e0 : opP P d ⟨o, .buildSlice t len parts, none, false⟩ K st = bldK P (knd P t) len (getP st parts.toList) o K st := by simp only [go_sem]
 have e1 : absOp P d (POp.oper ⟨o, .buildSlice t len parts, some (s, w), false⟩) K st = bldK P (knd P t) len (getP st parts.toList) o K st := by
   rw [← e0]; rfl
 unfold bldGG
 show opP0 P d ⟨o, .buildSlice t len parts, some (s, w), false⟩ K st = _
 unfold opP0
 simp only [yieldOf]
 generalize (st.sl s).strip = v
 cases v <;> try rfl
 rename_i c
 have hne : isEv (Op.buildSlice t len parts) = false := rfl
 simp only [hne, Bool.false_eq_true, if_false]
 unfold guardedP branchP
 simp only [hne, Bool.false_eq_true, if_false]
 rw [e1]
 exact propext ⟨fun h => h.elim id (fun h => h.2), fun h => .inl h⟩
@[go_sem] theorem bldGG_bool (c w : Bool) (k : Knd) (len : Nat) (ps : List (Nat × V)) (o : Option Tmp) (K : St → Prop) (st : St) : bldGG P (.bool c) w k len ps o K st = (((c == w) = true → bldK P k len ps o K st) ∧ ((c == w) = false → dstOk st o ∧ K (st.put o (.dead .unk)))) := by
 simp only [bldGG, strip_bool, live_bool, Bool.true_and]
end
end Go.Pl

set_option linter.unusedVariables false
set_option linter.unusedSimpArgs false
namespace Go.Pl
open Go Go.RowKit Go.ChangeShapes Go.WideShapes Go.ChangeAt
def bxK : Boxes := fun b => if b = 0 then some (.row 0 0 []) else none
section
variable {H : Type} {enc : TypeId × Value → H} {P : Program} {w : World} {spare : Nat → Bool} {held : Bool}
end
end Go.Pl

set_option linter.unusedVariables false
set_option linter.unusedSimpArgs false
namespace Go.Pl
open Go Go.RowKit Go.ChangeShapes Go.WideShapes Go.ChangeAt
section
variable {H : Type} {enc : TypeId × Value → H} {P : Program} {w : World} {spare : Nat → Bool} {held : Bool}
theorem tab_rep {g : Nat} {name : String} {k : IntKind} {zs : List Int} (hg : P.globalNamed name = some g) {W : World} (ht : Lib.TabIs P W name k zs) {β : Beta} {b : Nat} (hβ : β b = some (some g)) (hl : zs.length ≤ maxLen) :
   Rep β W (FzAll W) (.ep (.agg (zs.map (.int k))) 0) (.pointer (some ⟨g, 0, none⟩)) ∧ Rep β W (FzAll W) (.own b 1 0 zs.length) (.slice (some ⟨g, 0, none⟩) zs.length zs.length) ∧ ∃ ty, W.shape? g = some (ty, zs.length) := by
 unfold Lib.TabIs World.var? at ht
 rw [hg] at ht
 simp only [Option.bind_some] at ht
 cases hh : W.heap[g]? with
 | none => rw [hh] at ht; cases ht
 | some o =>
   rw [hh] at ht
   cases o with
   | cells cur ty fr =>
     simp only [Option.some.injEq] at ht
     have hlt : g < W.heap.size := (Array.getElem?_eq_some_iff.1 hh).1
     have hsz : cur.size = zs.length := by rw [ht]; simp
     have hcur : ∀ j, j < zs.length → cur[j]? = some (.int k (zs.getD j 0)) := by
       intro j hj
       rw [ht]
       simp [hj]
     have hadd : ∀ j, (⟨g, 0, none⟩ : Addr).add j = ⟨g, j, none⟩ := fun j => by unfold Addr.add; by_cases h : j = 0 <;> simp [h]
     refine ⟨?_, ?_, ty, by rw [shape_of hh, hsz]⟩
     · have := Rep.ep (β := β) (w := W) (F := FzAll W) (.agg (zs.map (.int k))) 0 ⟨g, 0, none⟩ (fun j => .int k (zs.getD j 0)) (fun j c hc => ?_) (fun j c hc => ?_)
       · rw [hadd] at this; exact this
       · simp only [V.cells, List.getElem?_map, Option.map_eq_some_iff] at hc
         obtain ⟨i, hi, rfl⟩ := hc
         have hj : j < zs.length := (List.getElem?_eq_some_iff.1 hi).1
         exact ⟨_, rfl, hlt, by rw [hadd]; simp only [World.cell?, hh]; simpa using hcur j hj, rfl⟩
       · simp only [V.cells, List.getElem?_map, Option.map_eq_some_iff] at hc
         obtain ⟨i, hi, rfl⟩ := hc
         have : zs.getD j 0 = i := by simp [List.getD, hi]
         rw [this]
         exact .int _ _
     · have := Rep.own (β := β) (w := W) (F := FzAll W) b 1 0 zs.length g zs.length cur.size ty hβ (shape_of hh) (by omega) (Nat.le_refl _) (by simpa using hl)
       simpa using this
   | _ => simp at ht
def beT3 (g1 g2 g3 : Nat) : Beta := fun b => if b = 0 then some none else if b = 1 then some (some g1) else if b = 2 then some (some g2) else if b = 3 then some (some g3) else none
theorem gl_three {g1 g2 g3 : Nat} (h1 : P.globalNamed "internal/strconv.uint64pow10" = some g1) (h2 : P.globalNamed "math/bits.deBruijn64tab" = some g2) (h3 : P.globalNamed "strings.asciiSpace" = some g3) {W : World} (t1 : Lib.TabIs P W "internal/strconv.uint64pow10" .u64 Lib.pow10Tab)
   (t2 : Lib.TabIs P W "math/bits.deBruijn64tab" .u8 [0, 1, 56, 2, 57, 49, 28, 3, 61, 58, 42, 50, 38, 29, 17, 4, 62, 47, 59, 36, 45, 43, 51, 22, 53, 39, 33, 30, 24, 18, 12, 5, 63, 55, 48, 27, 60, 41, 37, 16, 46, 35, 44, 21, 52, 32, 23, 11, 54, 26, 40, 15, 34, 20, 31, 10, 25, 14, 19, 9, 13, 8, 7, 6]) (t3 : Lib.TabIs P W "strings.asciiSpace" .u8 Lib.asciiSpaceTab) : GlOk P (beT3 g1 g2 g3) W (FzAll W) := by
 have r1 := tab_rep h1 t1 (β := beT3 g1 g2 g3) (b := 1) rfl (by decide)
 have r2 := tab_rep h2 t2 (β := beT3 g1 g2 g3) (b := 2) rfl (by decide)
 have r3 := tab_rep h3 t3 (β := beT3 g1 g2 g3) (b := 3) rfl (by rw [Lib.asciiSpaceTab_length]; decide)
 have e1 : (List.range 20).map (fun i => V.int .u64 ((10 ^ i : Nat) : Int)) = Lib.pow10Tab.map (.int .u64) := by unfold Lib.pow10Tab; rw [List.map_map]; rfl
 intro g
 unfold glV tabNames
 by_cases k1 : g = g1
 · subst k1
   rw [List.find?_cons_of_pos (by simpa using h1)]
   rw [e1]
   refine ⟨r1.1, fun vs hvs => ⟨1, ?_⟩⟩
   injection hvs with hvs _
   injection hvs with hvs
   subst hvs
   exact ⟨by simpa using r1.2.1, by simpa using r1.2.2⟩
 · rw [List.find?_cons_of_neg (by simp [h1]; exact fun e => k1 e.symm)]
   by_cases k2 : g = g2
   · subst k2
     rw [List.find?_cons_of_pos (by simpa using h2)]
     refine ⟨r2.1, fun vs hvs => ⟨2, ?_⟩⟩
     injection hvs with hvs _
     injection hvs with hvs
     subst hvs
     exact ⟨by simpa using r2.2.1, by simpa using r2.2.2⟩
   · rw [List.find?_cons_of_neg (by simp [h2]; exact fun e => k2 e.symm)]
     by_cases k3 : g = g3
     · subst k3
       rw [List.find?_cons_of_pos (by simpa using h3)]
       refine ⟨r3.1, fun vs hvs => ⟨3, ?_⟩⟩
       injection hvs with hvs _
       injection hvs with hvs
       subst hvs
       exact ⟨by simpa using r3.2.1, by simpa using r3.2.2⟩
     · rw [List.find?_cons_of_neg (by simp [h3]; exact fun e => k3 e.symm)]
       exact ⟨.unk _, fun vs h => by cases h⟩
theorem law_contractT {f : FuncId} {fn : Func} {s : ChangeSpec} {apart fresh handsOn again : Bool} {W : World} {args : Array Value} {ds gs : List (DataW H)} {before : List MemPlace} {base : Nat} {r : Reach} (n : Nat) {tb : TypeId}
   (hl : laidOutB P = true) (hts : (fn.params.toList.all fun t => plainT P n t && P.readableRec t && decide (t < P.types.size)) = true) (hv : s.vars = [])
   (hfn : ∀ ds : List (DataW H), ds.length = fn.params.toList.length → s.fn H (ds ++ []) = { results := [.lit (.bool true)], args := ds }) (hrt : fn.resultTypes = #[tb]) (htb : P.underlying tb = some .bool)
   (hval : ∀ (j : Nat) t v, fn.params[j]? = some t → args[j]? = some v → Value.okWide P W r base t v)
   (hW : DataW.Whole enc P fn.params.toList s.vars apart W args.toList ds gs before)
   {B : Beta} {nB : Nat} (hB0 : B 0 = some none) (hBn : ∀ b, nB ≤ b → B b = none) (hgl : GlOk P B W (FzAll W))
   (hc : ∀ vs : List V, TyArgs P n fn.params.toList vs → AbsCall P f vs bxK fun r _ => r = .bool true) :
   Calls P f args W fun e W' => ∃ v, e = .returned v ∧ s.post enc P fn apart fresh handsOn again W args v W' := by
 have hW0 := hW
 obtain ⟨p, q, hA, hV, hpq, hfz, hnd⟩ := hW
 rw [hv] at hV
 have hgs : gs = [] ∧ q = [] := by
   cases gs with
   | nil => exact ⟨rfl, hV⟩
   | cons => simp [DataW.TrodVars] at hV
 obtain ⟨rfl, rfl⟩ := hgs
 rw [List.append_nil] at hpq
 subst hpq
 have hts' : ∀ t, t ∈ fn.params.toList → plainT P n t = true ∧ P.readableRec t = true ∧ t < P.types.size := by
   intro t ht
   have := List.all_eq_true.1 hts t ht
   simpa [Bool.and_eq_true, and_assoc] using this
 obtain ⟨vs, h1, h2, h3, h4, h5⟩ := args_typed (β := fun _ => none) (n := n) (r := r) (base := base) fn.params.toList args.toList ds before (fun t ht => (hts' t ht).1) (fun j t v a b => hval j t v (by simpa using a) (by simpa using b)) hA
 let M : Off := ⟨fun _ => none, W.heap.size, []⟩
 have hbx : ∀ b, bxK b ≠ none → b = 0 := fun b hb => by
   unfold bxK at hb
   split at hb
   · assumption
   · exact absurd rfl hb
 have hok : WOk B M bxK W := ⟨⟨nB, hBn⟩, fun k o h => (by cases h), fun b box h => (by
   have h0 := hbx b (by rw [h]; simp)
   subst h0
   have : box = .row 0 0 [] := by simpa [bxK] using h.symm
   subst this
   exact .inl ⟨hB0, rfl⟩), fun b b' k h h' _ _ => by rw [hbx b h, hbx b' h']⟩
 have hF : ∀ k, Fz B M bxK W k ↔ FzAll W k := fun k => ⟨fun h => h.1, fun h => ⟨h, rfl, fun b hb he => by
   have h0 := hbx b hb
   subst h0
   rw [hB0] at he
   cases he⟩⟩
 have hlt := hA.lt
 refine ((hc vs h5).2 B M W args hok (hgl.imp fun _ _ hh => hh.mono (fun _ _ h => h) (fun k hk => ⟨(hF k).2 hk, rfl⟩) (fun _ _ h => h)) (by simpa using h1.symm) (fun i c hi => ?_)).mono ?_
 · have hi' : i < args.size := by have := (List.getElem?_eq_some_iff.1 hi).1; simpa [h1] using this
   have := h4 i c args[i] hi (by simp [hi'])
   have := this.mono (β' := B) (w' := W) (F' := Fz B M bxK W) (fun _ _ h => by cases h) (fun k hk => ⟨(hF k).2 hk, rfl⟩) (fun _ _ h => h)
   simpa [hi'] using this
 · rintro e W' ⟨v, r', bx', β', rfl, rfl, hok', htr, hrep⟩
   cases hrep
   have hb : Below W.heap.size W W' := ⟨htr.os, htr.tape, htr.output, htr.size, fun k hk => htr.keep k hk fun b hb he => by
     have h0 := hbx b hb
     subst h0
     rw [hB0] at he
     cases he⟩
   refine ⟨_, rfl, ds, [], before, [], before, [], hW0, ?_, ?_, ?_, hb.frame _, fun _ => ?_⟩
   · rw [hfn ds h3, hrt]
     exact trodAll_cons_mk (⟨1, by simp [DataW.trod, Value.cells, htb]⟩ : DataW.Trod enc P _ _ _ _ _ (.bool true) (.lit (.bool true)) []) trodAll_mk0
   · rw [hfn ds h3]
     exact trodAll_below hl hb (fun t ht => (hts' t ht).2) (fun x hx => ⟨hlt x hx, by simpa using hlt x hx⟩) hA
   · rw [hv]
     have : (s.fn H (ds ++ [])).vars = [] := by rw [hfn ds h3]
     rw [this]; rfl
   · refine ⟨RowKit.ok_one hrt rfl (RowKit.okWide_bool_mk htb _), _, [], [] ++ before, ⟨[] ++ before, [], trodAll_append (trodAll_below hl hb (fun t ht => (hts' t ht).2) (fun x hx => ⟨hlt x hx, rfl⟩) hA) (ds := [.lit (.bool true)]) (p := []) ?_, ?_, by simp, ?_, ?_⟩, ?_⟩
     · rw [hrt]; exact trodAll_cons_mk (⟨1, by simp [DataW.trod, Value.cells, htb]⟩ : DataW.Trod enc P _ _ _ _ _ (.bool true) (.lit (.bool true)) []) trodAll_mk0
     · rw [hv]; rfl
     · intro b off hp
       have hp' : MemPlace.cell b off ∈ before := by simpa using hp
       rw [hb.frozen (p := ⟨b, off, none⟩) (hlt _ hp')]
       exact hfz b off hp'
     · intro ha; simpa using hnd ha
     · intro p hp _; simpa using hp
end
end Go.Pl
