/- Texts of the proof, put together: PlOut, HsHp, HsHq, PlSp, PlIt. -/
import Derived.Test.YtbonmihbgcofpaaGd
import Derived.ChangeArms
import Derived.OpenShut
import Derived.Carry
import Derived.ChangeSame
import Derived.JoinedCond
import Derived.Shelf.SlSortCmp.Kit1

set_option linter.unusedSimpArgs false
set_option linter.unusedVariables false
namespace Go.Pl
open Go Go.ChangeShapes Go.WideShapes Go.ChangeAt Go.RowKit
def contig (P : Program) : List (Nat × TypeId) → Nat → Nat → Bool
 | [], o, m => o == m
 | (o', t) :: ps, o, m => o' == o && contig P ps (o + tsz P t) m
def plainT (P : Program) : Nat → TypeId → Bool
 | 0, _ => false
 | n + 1, t =>
   match P.underlying t with
   | some .bool | some (.int _) | some .string => tsz P t == 1
   | some (.slice e) => tsz P t == 1 && plainT P n e
   | some (.struct fs) => (fs.toList.all fun f => plainT P n f.type) && contig P (fs.toList.map fun f => (f.offset, f.type)) 0 (tsz P t)
   | some (.array m e) => plainT P n e && contig P ((List.range m).map fun i => (i * tsz P e, e)) 0 (tsz P t)
   | _ => false
def elV (P : Program) (e : TypeId) (xs : List V) : V := if tagg P e = true then .agg xs else xs.getD 0 .unk
def HasL (P : Program) : Nat → TypeId → List V → Prop
 | 0, _, _ => False
 | n + 1, t, xs => xs.length = tsz P t ∧
   match knd P t with
   | .bool => ∃ b, xs = [.bool b]
   | .int k => ∃ i, xs = [.int k i] ∧ (Lit.int k i).wf = true
   | .str => ∃ s, xs = [.str s] ∧ s.length ≤ maxLen
   | .slice e => ∃ es, xs = [.sl (tsz P e) es] ∧ es.length ≤ maxLen ∧ ∀ v, v ∈ es → ∃ ys, v = elV P e ys ∧ HasL P n e ys
   | .strct => ∀ f off ty, fld P t f = some (off, ty) → HasL P n ty ((xs.drop off).take (tsz P ty))
   | .arr m e => ∀ i, i < m → HasL P n e ((xs.drop (i * tsz P e)).take (tsz P e))
   | _ => False
section
variable {H : Type} {enc : TypeId × Value → H} {P : Program} {w : World} {spare : Nat → Bool} {held : Bool}
theorem elV_cells {e : TypeId} {xs : List V} (h : xs.length = tsz P e) (h1 : tagg P e = false → ∃ v, xs = [v] ∧ v.cells = [v]) : (elV P e xs).cells = xs := by
 unfold elV
 by_cases ht : tagg P e = true
 · rw [if_pos ht]; rfl
 · rw [if_neg ht]
   obtain ⟨v, rfl, hv⟩ := h1 (by simpa using ht)
   simpa using hv
def FzAll (w : World) (k : Nat) : Prop := k < w.heap.size
theorem cell_block {a : Addr} {u : Value} (h : w.cell? a = some u) : a.block < w.heap.size := by
 unfold World.cell? at h
 cases hh : w.heap[a.block]? with
 | none => simp [hh] at h
 | some o => exact (Array.getElem?_eq_some_iff.1 hh).1
theorem addr_add (a : Addr) (i j : Nat) : (a.add i).add j = a.add (i + j) := by
 unfold Addr.add
 by_cases hi : i = 0 <;> by_cases hj : j = 0 <;> simp [hi, hj, Nat.add_assoc]
theorem assemble {β : Beta} {n : Nat} {cs : List Value} (ih : ∀ (fuel : Nat) (t : TypeId) (cs : List Value) (x : DataW H × List MemPlace), plainT P n t = true → DataW.trod enc P w 0 spare held fuel t cs = some x →
     cs.length = tsz P t ∧ (∀ (j : Nat) (u : Value), cs[j]? = some u → u.oneCell' = true) ∧ ∃ xs : List V, xs.length = cs.length ∧ (∀ (j : Nat) (u : Value) (v : V), cs[j]? = some u → xs[j]? = some v → Rep β w (FzAll w) v u ∧ v.cells = [v]) ∧ HasL P n t xs) :
   ∀ (ps : List (Nat × TypeId)) (o : Nat), contig P ps o cs.length = true → (∀ p, p ∈ ps → plainT P n p.2 = true ∧ ∃ fuel x, DataW.trod enc P w 0 spare held fuel p.2 ((cs.drop p.1).take (tsz P p.2)) = some x) →
     o ≤ cs.length ∧ (∀ (j : Nat) (u : Value), cs[o + j]? = some u → u.oneCell' = true) ∧ ∃ xs : List V, xs.length = cs.length - o ∧ (∀ (j : Nat) (u : Value) (v : V), cs[o + j]? = some u → xs[j]? = some v → Rep β w (FzAll w) v u ∧ v.cells = [v]) ∧
       ∀ p, p ∈ ps → o ≤ p.1 ∧ HasL P n p.2 ((xs.drop (p.1 - o)).take (tsz P p.2))
 | [], o, h, _ => by
   simp only [contig, beq_iff_eq] at h
   subst h
   refine ⟨Nat.le_refl _, ?_, [], by simp, ?_, fun p hp => by cases hp⟩
   · intro j u hu
     rw [List.getElem?_eq_none (by omega)] at hu; cases hu
   · intro j u v hu
     rw [List.getElem?_eq_none (by omega)] at hu; cases hu
 | (o', t) :: ps, o, h, hp => by
   simp only [contig, Bool.and_eq_true, beq_iff_eq] at h
   obtain ⟨rfl, h⟩ := h
   obtain ⟨hpl, fuel, x, hx⟩ := hp (o', t) (by simp)
   dsimp only at hpl hx
   obtain ⟨g1, g2, xs1, g3, g4, g5⟩ := ih fuel t _ x hpl hx
   obtain ⟨k1, k2, xs2, k3, k4, k5⟩ := assemble ih ps (o' + tsz P t) h (fun p hp' => hp p (by simp [hp']))
   have hl1 : xs1.length = tsz P t := by rw [g3, g1]
   have hget : ∀ j, j < tsz P t → ((cs.drop o').take (tsz P t))[j]? = cs[o' + j]? := by
     intro j hj
     rw [List.getElem?_take, if_pos hj, List.getElem?_drop]
   refine ⟨by omega, ?_, xs1 ++ xs2, by simp; omega, ?_, ?_⟩
   · intro j u hu
     by_cases hj : j < tsz P t
     · exact g2 j u (by rw [hget j hj]; exact hu)
     · refine k2 (j - tsz P t) u ?_
       rw [← hu]; congr 1; omega
   · intro j u v hu hv
     by_cases hj : j < tsz P t
     · rw [List.getElem?_append_left (by omega)] at hv
       exact g4 j u v (by rw [hget j hj]; exact hu) hv
     · rw [List.getElem?_append_right (by omega), hl1] at hv
       refine k4 (j - tsz P t) u v ?_ hv
       rw [← hu]; congr 1; omega
   · intro p hp'
     rcases List.mem_cons.1 hp' with rfl | hp'
     · refine ⟨Nat.le_refl _, ?_⟩
       simp only [Nat.sub_self, List.drop_zero]
       rw [List.take_append_of_le_length (by omega), List.take_of_length_le (by omega)]
       exact g5
     · obtain ⟨m1, m2⟩ := k5 p hp'
       refine ⟨by omega, ?_⟩
       have : (xs1 ++ xs2).drop (p.1 - o') = xs2.drop (p.1 - (o' + tsz P t)) := by
         rw [List.drop_append, List.drop_of_length_le (by omega), List.nil_append]
         congr 1
         omega
       rw [this]
       exact m2
theorem trod_typed {β : Beta} : ∀ (n : Nat) (fuel : Nat) (t : TypeId) (cs : List Value) (x : DataW H × List MemPlace), plainT P n t = true → DataW.trod enc P w 0 spare held fuel t cs = some x →
   cs.length = tsz P t ∧ (∀ (j : Nat) (u : Value), cs[j]? = some u → u.oneCell' = true) ∧ ∃ xs : List V, xs.length = cs.length ∧ (∀ (j : Nat) (u : Value) (v : V), cs[j]? = some u → xs[j]? = some v → Rep β w (FzAll w) v u ∧ v.cells = [v]) ∧ HasL P n t xs
 | 0, _, _, _, _, h, _ => by simp [plainT] at h
 | n + 1, fuel, t, cs, x, h, ht => by
   have one : ∀ (u : Value) (v : V), cs = [u] → u.oneCell' = true → Rep β w (FzAll w) v u → v.cells = [v] → tsz P t = 1 → HasL P (n + 1) t [v] →
       cs.length = tsz P t ∧ (∀ (j : Nat) (u : Value), cs[j]? = some u → u.oneCell' = true) ∧ ∃ xs : List V, xs.length = cs.length ∧ (∀ (j : Nat) (u : Value) (v : V), cs[j]? = some u → xs[j]? = some v → Rep β w (FzAll w) v u ∧ v.cells = [v]) ∧ HasL P (n + 1) t xs := by
     rintro u v rfl h1 h2 h3 h4 h5
     refine ⟨by simp [h4], ?_, [v], rfl, ?_, h5⟩
     · intro j u' hj
       cases j with
       | zero => simp at hj; subst hj; exact h1
       | succ j => simp at hj
     · intro j u' v' hj hv
       cases j with
       | zero => simp at hj hv; subst hj hv; exact ⟨h2, h3⟩
       | succ j => simp at hj
   unfold plainT at h
   split at h
   · rename_i hu
     obtain ⟨b, rfl, _⟩ := DataW.trod_bool hu ht
     have hs : tsz P t = 1 := by simpa using h
     exact one _ (.bool b) rfl rfl (.bool b) rfl hs ⟨by simp [hs], by simp [knd, hu]⟩
   · rename_i k hu
     obtain ⟨i, rfl, _, hw⟩ := DataW.trod_int hu ht
     have hs : tsz P t = 1 := by simpa using h
     exact one _ (.int k i) rfl rfl (.int k i) rfl hs ⟨by simp [hs], by simpa [knd, hu] using hw⟩
   · rename_i hu
     obtain ⟨s, rfl, _, hw⟩ := DataW.trod_string hu ht
     have hs : tsz P t = 1 := by simpa using h
     refine one _ (.str s.data.toList) rfl rfl (.str s) rfl hs ⟨by simp [hs], ?_⟩
     simp only [knd, hu]
     exact ⟨_, rfl, by simpa using hw⟩
   · rename_i e hu
     simp only [Bool.and_eq_true, beq_iff_eq] at h
     obtain ⟨hs, he⟩ := h
     have hk : knd P t = .slice e := by simp [knd, hu]
     rcases DataW.trod_slice hu ht with ⟨rfl, _⟩ | ⟨a, len, cap, elems, rest, m, _, rfl, _, hb, hl, hm, hlen, hel, _, _⟩
     · refine one _ (.sl (tsz P e) []) rfl rfl (wk_nils _ _ _ _ _ .nils) rfl hs ⟨by simp [hs], ?_⟩
       rw [hk]
       exact ⟨[], rfl, by simp, fun v hv => by cases hv⟩
     · have hex : ∀ i, i < len → ∃ (cs' : List Value) (xs : List V), w.cells? 0 (a.add (i * P.cellsOf e)) (P.cellsOf e) = some cs' ∧ cs'.length = tsz P e ∧ (∀ (j : Nat) (u : Value), cs'[j]? = some u → u.oneCell' = true) ∧ xs.length = cs'.length ∧
           (∀ (j : Nat) (u : Value) (v : V), cs'[j]? = some u → xs[j]? = some v → Rep β w (FzAll w) v u ∧ v.cells = [v]) ∧ HasL P n e xs := by
         intro i hi
         have h1 := hel i hi
         rw [List.getElem?_eq_getElem (by omega)] at h1
         obtain ⟨cs', h2, h3⟩ := Option.bind_eq_some_iff.1 h1
         obtain ⟨h4, h5, xs, h6, h7, h8⟩ := trod_typed n _ _ _ _ he h3
         exact ⟨cs', xs, h2, h4, h5, h6, h7, h8⟩
       obtain ⟨f, hf⟩ := Go.Deep.choose_lt (α := List Value × List V) (p := fun i p => w.cells? 0 (a.add (i * P.cellsOf e)) (P.cellsOf e) = some p.1 ∧ p.1.length = tsz P e ∧ (∀ (j : Nat) (u : Value), p.1[j]? = some u → u.oneCell' = true) ∧ p.2.length = p.1.length ∧
           (∀ (j : Nat) (u : Value) (v : V), p.1[j]? = some u → p.2[j]? = some v → Rep β w (FzAll w) v u ∧ v.cells = [v]) ∧ HasL P n e p.2) (fun i hi => by
         obtain ⟨cs', xs, h⟩ := hex i hi
         exact ⟨(cs', xs), h⟩)
       have hec : ∀ i, i < len → (elV P e (f i).2).cells = (f i).2 := by
         intro i hi
         obtain ⟨h1, h2, h3, h4, h5, h6⟩ := hf i hi
         refine elV_cells (by omega) fun htg => ?_
         have htz : tsz P e = 1 := by
           cases n with
           | zero => exact h6.elim
           | succ n =>
             unfold plainT at he
             unfold tagg at htg
             split at he <;> simp_all
         obtain ⟨v, hv⟩ : ∃ v, (f i).2 = [v] := by
           match hm : (f i).2, (show (f i).2.length = 1 by omega) with
           | [v], _ => exact ⟨v, rfl⟩
         obtain ⟨u, hu⟩ : ∃ u, (f i).1 = [u] := by
           match hm : (f i).1, (show (f i).1.length = 1 by omega) with
           | [v], _ => exact ⟨v, rfl⟩
         exact ⟨v, hv, (h5 0 u v (by simp [hu]) (by simp [hv])).2⟩
       have hcell : ∀ i, i < len → ∀ (j : Nat) (u : Value), (f i).1[j]? = some u → w.cell? (a.add (i * tsz P e + j)) = some u := by
         intro i hi j u hu
         have h1 := (World.cells?_some (hf i hi).1).2
         have hj : j < P.cellsOf e := by rw [← h1.1]; exact (List.getElem?_eq_some_iff.1 hu).1
         have h2 := h1.2 j hj
         rw [addr_add, hu] at h2
         exact h2
       let es : List V := (List.range len).map fun i => elV P e (f i).2
       have hesl : es.length = len := by simp [es]
       have hes : ∀ i e', es[i]? = some e' → i < len ∧ e' = elV P e (f i).2 := by
         intro i e' h
         simp only [es, List.getElem?_map, Option.map_eq_some_iff] at h
         obtain ⟨k, h1, rfl⟩ := h
         have := List.getElem?_eq_some_iff.1 h1
         obtain ⟨h2, h3⟩ := this
         simp at h2 h3
         subst h3
         exact ⟨h2, rfl⟩
       refine one _ (.sl (tsz P e) es) rfl rfl ?_ rfl hs ⟨by simp [hs], ?_⟩
       · have hrep := Rep.sl (β := β) (w := w) (F := FzAll w) (tsz P e) es (some a) cap (fun q => (w.cell? (a.add q)).getD undef) (by omega) hm (by simp) ?_ ?_ ?_
         · rwa [hesl] at hrep
         · intro e' he'
           obtain ⟨i, hi⟩ := List.getElem?_of_mem he'
           obtain ⟨h1, rfl⟩ := hes i e' hi
           rw [hec i h1]
           have := hf i h1
           omega
         · intro i e' j c h1 h2
           obtain ⟨hi, rfl⟩ := hes i e' h1
           rw [hec i hi] at h2
           obtain ⟨g1, g2, g3, g4, g5, g6⟩ := hf i hi
           have hj : j < (f i).1.length := by rw [← g4]; exact (List.getElem?_eq_some_iff.1 h2).1
           have hu := List.getElem?_eq_getElem hj
           have hc := hcell i hi j _ hu
           refine ⟨a, rfl, by rw [← block_add a (i * tsz P e + j)]; exact cell_block hc, by rw [hc]; rfl, by rw [hc]; exact g3 j _ hu⟩
         · intro i e' j c h1 h2
           obtain ⟨hi, rfl⟩ := hes i e' h1
           rw [hec i hi] at h2
           obtain ⟨g1, g2, g3, g4, g5, g6⟩ := hf i hi
           have hj : j < (f i).1.length := by rw [← g4]; exact (List.getElem?_eq_some_iff.1 h2).1
           have hu := List.getElem?_eq_getElem hj
           have hc := hcell i hi j _ hu
           rw [hc]
           exact (g5 j _ _ hu h2).1
       · rw [hk]
         refine ⟨es, rfl, by omega, fun v hv => ?_⟩
         obtain ⟨i, hi⟩ := List.getElem?_of_mem hv
         obtain ⟨h1, rfl⟩ := hes i v hi
         exact ⟨_, rfl, (hf i h1).2.2.2.2.2⟩
   · rename_i fs hu
     simp only [Bool.and_eq_true, List.all_eq_true] at h
     obtain ⟨hp, hc⟩ := h
     obtain ⟨xs0, m, _, _, hlen, _, hf⟩ := DataW.trod_struct hu ht
     have hl : cs.length = tsz P t := hlen
     rw [← hl] at hc
     obtain ⟨_, h2, xs, h3, h4, h5⟩ := assemble (β := β) (fun fuel t cs x => trod_typed n fuel t cs x) _ 0 hc (fun p hp' => by
       obtain ⟨f, hf1, rfl⟩ := List.mem_map.1 hp'
       obtain ⟨i, hi⟩ := List.getElem?_of_mem hf1
       refine ⟨hp f hf1, m, ?_⟩
       have := hf i f (by simpa using hi)
       have h6 := (List.getElem?_eq_some_iff.1 hi).1
       rw [Array.length_toList] at h6
       obtain ⟨y, hy⟩ : ∃ y, xs0[i]? = some y := ⟨_, List.getElem?_eq_getElem (by omega)⟩
       exact ⟨y, by rw [hy] at this; exact this⟩)
     simp only [Nat.zero_add] at h2 h4
     refine ⟨hl, h2, xs, by omega, h4, by omega, ?_⟩
     have hk : knd P t = .strct := by simp [knd, hu]
     rw [hk]
     intro f off ty hfl
     simp only [fld, hu, Option.map_eq_some_iff, Prod.mk.injEq] at hfl
     obtain ⟨fi, h6, rfl, rfl⟩ := hfl
     have := (h5 (fi.offset, fi.type) (List.mem_map.2 ⟨fi, by simpa using Array.mem_of_getElem? h6, rfl⟩)).2
     simpa using this
   · rename_i m e hu
     simp only [Bool.and_eq_true] at h
     obtain ⟨hp, hc⟩ := h
     obtain ⟨xs0, q, _, _, hlen, hxl, hf⟩ := DataW.trod_array hu ht
     have hl : cs.length = tsz P t := hlen
     rw [← hl] at hc
     obtain ⟨_, h2, xs, h3, h4, h5⟩ := assemble (β := β) (fun fuel t cs x => trod_typed n fuel t cs x) _ 0 hc (fun p hp' => by
       obtain ⟨i, hi, rfl⟩ := List.mem_map.1 hp'
       have hi' : i < m := by simpa using hi
       refine ⟨hp, q, xs0[i], ?_⟩
       rw [← List.getElem?_eq_getElem (by omega)]
       exact hf i hi')
     simp only [Nat.zero_add] at h2 h4
     refine ⟨hl, h2, xs, by omega, h4, by omega, ?_⟩
     have hk : knd P t = .arr m e := by simp [knd, hu]
     rw [hk]
     intro i hi
     have := (h5 (i * tsz P e, e) (List.mem_map.2 ⟨i, by simpa using hi, rfl⟩)).2
     simpa using this
   · cases h
def TyArgs (P : Program) (n : Nat) : List TypeId → List V → Prop
 | [], [] => True
 | t :: ts, v :: vs => (∃ xs, v = elV P t xs ∧ HasL P n t xs) ∧ TyArgs P n ts vs
 | _, _ => False
theorem okWide_shape {n : Nat} {t : TypeId} {v : Value} {r : Reach} {base : Nat} (hp : plainT P n t = true) (h : Value.okWide P w r base t v) : (tagg P t = true → ∃ us, v = .agg us) ∧ (tagg P t = false → v.cells = #[v]) := by
 cases n with
 | zero => simp [plainT] at hp
 | succ n =>
   unfold plainT at hp
   have cell : (∀ cs, P.underlying t ≠ some (.struct cs)) → (∀ m e, P.underlying t ≠ some (.array m e)) → (P.underlying t = some .bool ∨ (∃ k, P.underlying t = some (.int k)) ∨ P.underlying t = some .string ∨ ∃ e, P.underlying t = some (.slice e)) →
       (tagg P t = true → ∃ us, v = .agg us) ∧ (tagg P t = false → v.cells = #[v]) := by
     rintro _ _ (hu | ⟨k, hu⟩ | hu | ⟨e, hu⟩)
     all_goals
       have htg : tagg P t = false := by simp [tagg, hu]
       refine ⟨fun h1 => (by rw [htg] at h1; cases h1), fun _ => ?_⟩
       unfold Value.okWide at h
       rw [hu] at h
       unfold Cell.okWide at h
       rw [hu] at h
       cases v <;> first | rfl | (simp [Cell.ok, hu] at h)
   have agg : (∃ us, v = .agg us) → tagg P t = true → (tagg P t = true → ∃ us, v = .agg us) ∧ (tagg P t = false → v.cells = #[v]) := fun h1 h2 => ⟨fun _ => h1, fun h3 => by rw [h2] at h3; cases h3⟩
   split at hp
   · rename_i hu; exact cell (by simp [hu]) (by simp [hu]) (.inl hu)
   · rename_i k hu; exact cell (by simp [hu]) (by simp [hu]) (.inr (.inl ⟨k, hu⟩))
   · rename_i hu; exact cell (by simp [hu]) (by simp [hu]) (.inr (.inr (.inl hu)))
   · rename_i e hu; exact cell (by simp [hu]) (by simp [hu]) (.inr (.inr (.inr ⟨e, hu⟩)))
   · rename_i fs hu
     unfold Value.okWide at h
     rw [hu] at h
     obtain ⟨cs, rfl, _⟩ := h
     exact agg ⟨cs, rfl⟩ (by simp [tagg, hu])
   · rename_i m e hu
     unfold Value.okWide at h
     rw [hu] at h
     obtain ⟨cs, rfl, _⟩ := h
     exact agg ⟨cs, rfl⟩ (by simp [tagg, hu])
   · cases hp
theorem args_typed {β : Beta} {n : Nat} {r : Reach} {base : Nat} : ∀ (ts : List TypeId) (args : List Value) (ds : List (DataW H)) (ps : List MemPlace), (∀ t, t ∈ ts → plainT P n t = true) → (∀ (j : Nat) (t : TypeId) (v : Value), ts[j]? = some t → args[j]? = some v → Value.okWide P w r base t v) →
   DataW.TrodAll enc P w 0 spare held ts args ds ps → ∃ vs : List V, vs.length = args.length ∧ args.length = ts.length ∧ ds.length = ts.length ∧ (∀ (i : Nat) (v : V) (u : Value), vs[i]? = some v → args[i]? = some u → Rep β w (FzAll w) v u) ∧ TyArgs P n ts vs
 | [], [], [], _, _, _, _ => ⟨[], rfl, rfl, rfl, fun i v u h => by simp at h, trivial⟩
 | t :: ts, u :: args, d :: ds, ps, hp, ho, h => by
   obtain ⟨p, q, ⟨fuel, h1⟩, h2, _⟩ := h
   have hpt := hp t (by simp)
   obtain ⟨g1, g2, xs, g3, g4, g5⟩ := trod_typed (β := β) n fuel t _ _ hpt h1
   obtain ⟨k1, k2⟩ := okWide_shape hpt (ho 0 t u rfl rfl)
   obtain ⟨vs, m1, m2, m3, m4, m5⟩ := args_typed ts args ds q (fun t ht => hp t (by simp [ht])) (fun j t v h3 h4 => ho (j + 1) t v (by simpa using h3) (by simpa using h4)) h2
   refine ⟨elV P t xs :: vs, by simp [m1], by simp [m2], by simp [m3], ?_, ⟨xs, rfl, g5⟩, m5⟩
   intro i v u' hv hu
   cases i with
   | succ i => exact m4 i v u' (by simpa using hv) (by simpa using hu)
   | zero =>
     simp at hv hu
     subst hv hu
     unfold elV
     by_cases ht : tagg P t = true
     · rw [if_pos ht]
       obtain ⟨us, rfl⟩ := k1 ht
       simp only [Value.cells] at g1 g2 g3 g4
       refine .agg xs us (by simpa using g3.symm) (fun i hi => ?_) (fun i c hc => ?_)
       · have hi' : i < us.size := by simpa [g3] using hi
         have := g2 i us[i] (by simp [hi'])
         simpa [hi'] using this
       · have hi' : i < us.size := by have := (List.getElem?_eq_some_iff.1 hc).1; simpa [g3] using this
         have := (g4 i us[i] c (by simp [hi']) hc).1
         simpa [hi'] using this
     · rw [if_neg ht]
       have hc := k2 (by simpa using ht)
       rw [hc] at g1 g2 g3 g4
       have hl : xs.length = 1 := by simpa using g3
       match xs, hl with
       | [x], _ => exact (g4 0 u x (by simp) (by simp)).1
 | [], _ :: _, _, _, _, _, h => by simp [DataW.TrodAll] at h
 | [], [], _ :: _, _, _, _, h => by simp [DataW.TrodAll] at h
 | _ :: _, [], _, _, _, _, h => by simp [DataW.TrodAll] at h
 | _ :: _, _ :: _, [], _, _, _, h => by simp [DataW.TrodAll] at h
theorem trodAll_below (hl : laidOutB P = true) {W W' : World} (hb : Below W.heap.size W W') : ∀ {ts : List TypeId} {vs : List Value} {ds : List (DataW H)} {ps : List MemPlace} {sp : Nat → Bool}, (∀ t, t ∈ ts → P.readableRec t = true ∧ t < P.types.size) → (∀ x ∈ ps, x.block < W.heap.size ∧ sp x.block = true) →
   DataW.TrodAll enc P W 0 (fun _ => true) true ts vs ds ps → DataW.TrodAll enc P W' 0 sp true ts vs ds ps
 | [], [], [], _, _, _, _, h => h
 | t :: ts, v :: vs, d :: ds, ps, sp, ht, hp, h => by
   obtain ⟨p, q, h1, h2, rfl⟩ := h
   obtain ⟨g1, g2⟩ := ht t (by simp)
   exact ⟨p, q, WideElems.Trod_stays hl g1 g2 h1 (fun x hx => hb.same (hp x (by simp [hx])).1) (fun x hx => (hp x (by simp [hx])).2), trodAll_below hl hb (fun t ht' => ht t (by simp [ht'])) (fun x hx => hp x (by simp [hx])) h2, rfl⟩
 | [], _ :: _, _, _, _, _, _, h => by simp [DataW.TrodAll] at h
 | [], [], _ :: _, _, _, _, _, h => by simp [DataW.TrodAll] at h
 | _ :: _, [], _, _, _, _, _, h => by simp [DataW.TrodAll] at h
 | _ :: _, _ :: _, [], _, _, _, _, h => by simp [DataW.TrodAll] at h
theorem gl_none (h : (tabNames.all fun x => (P.globalNamed x.1).isNone) = true) {β : Beta} {w : World} {F : Nat → Prop} : GlOk P β w F := by
 intro g
 have : glV P g = .unk := by
   unfold glV
   rw [show (tabNames.find? fun x => decide (P.globalNamed x.1 = some g)) = none from List.find?_eq_none.2 fun x hx => by
     have := List.all_eq_true.1 h x hx
     cases hg : P.globalNamed x.1 with
     | none => simp
     | some y => rw [hg] at this; cases this]
 rw [this]
 exact ⟨.unk _, fun vs h => by cases h⟩
theorem law_contract {f : FuncId} {fn : Func} {s : ChangeSpec} {apart fresh handsOn again : Bool} {W : World} {args : Array Value} {ds gs : List (DataW H)} {before : List MemPlace} {base : Nat} {r : Reach} (n : Nat) {tb : TypeId}
   (hl : laidOutB P = true) (hts : (fn.params.toList.all fun t => plainT P n t && P.readableRec t && decide (t < P.types.size)) = true) (hv : s.vars = [])
   (hfn : ∀ ds : List (DataW H), ds.length = fn.params.toList.length → s.fn H (ds ++ []) = { results := [.lit (.bool true)], args := ds }) (hrt : fn.resultTypes = #[tb]) (htb : P.underlying tb = some .bool)
   (hval : ∀ (j : Nat) t v, fn.params[j]? = some t → args[j]? = some v → Value.okWide P W r base t v)
   (hW : DataW.Whole enc P fn.params.toList s.vars apart W args.toList ds gs before)
   (hgl : GlOk P (fun _ => none) W (FzAll W))
   (hc : ∀ vs : List V, TyArgs P n fn.params.toList vs → AbsCall P f vs (fun _ => none) fun r _ => r = .bool true) :
   Calls P f args W fun e W' => ∃ v, e = .returned v ∧ s.post enc P fn apart fresh handsOn again W args v W' := by
 have hW0 := hW
 obtain ⟨p, q, hA, hV, hpq, hfz, hnd⟩ := hW
 rw [hv] at hV
 have hgs : gs = [] ∧ q = [] := by
   cases gs with
   | nil => exact ⟨rfl, hV⟩
   | cons => simp [DataW.TrodVars] at hV
 obtain ⟨rfl, rfl⟩ := hgs
 rw [List.append_nil] at hpq
 subst hpq
 have hts' : ∀ t, t ∈ fn.params.toList → plainT P n t = true ∧ P.readableRec t = true ∧ t < P.types.size := by
   intro t ht
   have := List.all_eq_true.1 hts t ht
   simpa [Bool.and_eq_true, and_assoc] using this
 obtain ⟨vs, h1, h2, h3, h4, h5⟩ := args_typed (β := fun _ => none) (n := n) (r := r) (base := base) fn.params.toList args.toList ds before (fun t ht => (hts' t ht).1) (fun j t v a b => hval j t v (by simpa using a) (by simpa using b)) hA
 let M : Off := ⟨fun _ => none, W.heap.size⟩
 have hok : WOk (fun _ => none) M (fun _ => none) W := ⟨⟨0, fun _ _ => rfl⟩, fun k o h => (by cases h), fun b box h => (by cases h), fun b b' k h => absurd rfl h⟩
 have hF : ∀ k, Fz (fun _ => none) M (fun _ => none) W k ↔ FzAll W k := fun k => ⟨fun h => h.1, fun h => ⟨h, rfl, fun b hb => absurd rfl hb⟩⟩
 have hlt := hA.lt
 refine ((hc vs h5).2 (fun _ => none) M W args hok (hgl.imp fun _ _ hh => hh.mono (fun _ _ h => h) (fun k hk => ⟨(hF k).2 hk, rfl⟩) (fun _ _ h => h)) (by simpa using h1.symm) (fun i c hi => ?_)).mono ?_
 · have hi' : i < args.size := by have := (List.getElem?_eq_some_iff.1 hi).1; simpa [h1] using this
   have := h4 i c args[i] hi (by simp [hi'])
   have := this.mono (β' := fun _ => none) (w' := W) (F' := Fz (fun _ => none) M (fun _ => none) W) (fun _ _ h => h) (fun k hk => ⟨(hF k).2 hk, rfl⟩) (fun _ _ h => h)
   simpa [hi'] using this
 · rintro e W' ⟨v, r', bx', β', rfl, rfl, hok', htr, hrep⟩
   cases hrep
   have hb : Below W.heap.size W W' := ⟨htr.os, htr.tape, htr.output, htr.size, fun k hk => htr.keep k hk fun b hb => absurd rfl hb⟩
   refine ⟨_, rfl, ds, [], before, [], before, [], hW0, ?_, ?_, ?_, hb.frame _, fun _ => ?_⟩
   · rw [hfn ds h3, hrt]
     exact trodAll_cons_mk (⟨1, by simp [DataW.trod, Value.cells, htb]⟩ : DataW.Trod enc P _ _ _ _ _ (.bool true) (.lit (.bool true)) []) trodAll_mk0
   · rw [hfn ds h3]
     exact trodAll_below hl hb (fun t ht => (hts' t ht).2) (fun x hx => ⟨hlt x hx, by simpa using hlt x hx⟩) hA
   · rw [hv]
     have : (s.fn H (ds ++ [])).vars = [] := by rw [hfn ds h3]
     rw [this]; rfl
   · refine ⟨RowKit.ok_one hrt rfl (RowKit.okWide_bool_mk htb _), _, [], [] ++ before, ⟨[] ++ before, [], trodAll_append (trodAll_below hl hb (fun t ht => (hts' t ht).2) (fun x hx => ⟨hlt x hx, rfl⟩) hA) (ds := [.lit (.bool true)]) (p := []) ?_, ?_, by simp, ?_, ?_⟩, ?_⟩
     · rw [hrt]; exact trodAll_cons_mk (⟨1, by simp [DataW.trod, Value.cells, htb]⟩ : DataW.Trod enc P _ _ _ _ _ (.bool true) (.lit (.bool true)) []) trodAll_mk0
     · rw [hv]; rfl
     · intro b off hp
       have hp' : MemPlace.cell b off ∈ before := by simpa using hp
       rw [hb.frozen (p := ⟨b, off, none⟩) (hlt _ hp')]
       exact hfz b off hp'
     · intro ha; simpa using hnd ha
     · intro p hp _; simpa using hp
theorem HasL.int {n : Nat} {t : TypeId} {k : IntKind} {xs : List V} (hk : knd P t = .int k) (h : HasL P n t xs) : ∃ i, xs = [.int k i] ∧ (Lit.int k i).wf = true := by
 cases n with
 | zero => exact h.elim
 | succ n => obtain ⟨_, h⟩ := h; rw [hk] at h; exact h
theorem HasL.bool {n : Nat} {t : TypeId} {xs : List V} (hk : knd P t = .bool) (h : HasL P n t xs) : ∃ b, xs = [.bool b] := by
 cases n with
 | zero => exact h.elim
 | succ n => obtain ⟨_, h⟩ := h; rw [hk] at h; exact h
theorem HasL.str {n : Nat} {t : TypeId} {xs : List V} (hk : knd P t = .str) (h : HasL P n t xs) : ∃ s, xs = [.str s] ∧ s.length ≤ maxLen := by
 cases n with
 | zero => exact h.elim
 | succ n => obtain ⟨_, h⟩ := h; rw [hk] at h; exact h
theorem HasL.slice {α : Type} {r : α → V} {n : Nat} {t e : TypeId} {xs : List V} (hk : knd P t = .slice e) (h : HasL P (n + 1) t xs) (he : ∀ ys, HasL P n e ys → ∃ a, elV P e ys = r a) : ∃ l : List α, xs = [.sl (tsz P e) (l.map r)] ∧ l.length ≤ maxLen := by
 obtain ⟨_, h⟩ := h
 rw [hk] at h
 obtain ⟨es, rfl, hlen, h⟩ := h
 have : ∀ es : List V, (∀ v, v ∈ es → ∃ ys, v = elV P e ys ∧ HasL P n e ys) → ∃ l : List α, es = l.map r := by
   intro es
   induction es with
   | nil => intro _; exact ⟨[], rfl⟩
   | cons v es ih =>
     intro h
     obtain ⟨l, rfl⟩ := ih fun v hv => h v (by simp [hv])
     obtain ⟨ys, rfl, h2⟩ := h v (by simp)
     obtain ⟨a, ha⟩ := he ys h2
     exact ⟨a :: l, by simp [ha]⟩
 obtain ⟨l, rfl⟩ := this es h
 exact ⟨l, rfl, by simpa using hlen⟩
theorem HasL.fld {n : Nat} {t ty : TypeId} {f off : Nat} {xs : List V} (hk : knd P t = .strct) (h : HasL P (n + 1) t xs) (hf : Go.Pl.fld P t f = some (off, ty)) : HasL P n ty ((xs.drop off).take (tsz P ty)) := by
 obtain ⟨_, h⟩ := h
 rw [hk] at h
 exact h f off ty hf
theorem HasL.len {n : Nat} {t : TypeId} {xs : List V} (h : HasL P n t xs) : xs.length = tsz P t := by
 cases n with
 | zero => exact h.elim
 | succ n => exact h.1
theorem HasL.arr {n m i : Nat} {t e : TypeId} {xs : List V} (hk : knd P t = .arr m e) (h : HasL P (n + 1) t xs) (hi : i < m) : HasL P n e ((xs.drop (i * tsz P e)).take (tsz P e)) := by
 obtain ⟨_, h⟩ := h
 rw [hk] at h
 exact h i hi
theorem len2 {α : Type} {l : List α} (h : l.length = 2) : ∃ a b, l = [a, b] := by
 match l, h with
 | [a, b], _ => exact ⟨a, b, rfl⟩
theorem tyArgs2 {n : Nat} {t u : TypeId} {vs : List V} (h : TyArgs P n [t, u] vs) : ∃ xs ys, vs = [elV P t xs, elV P u ys] ∧ HasL P n t xs ∧ HasL P n u ys := by
 match vs, h with
 | [a, b], ⟨⟨xs, h1, h2⟩, ⟨ys, h3, h4⟩, _⟩ => exact ⟨xs, ys, by rw [h1, h3], h2, h4⟩
theorem elV_one {t : TypeId} {v : V} (h : tagg P t = false) : elV P t [v] = v := by simp [elV, h]
end
end Go.Pl

namespace Go.Hp
open Go Go.Pl
structure Ent (α : Type) where
 h : Int
 v : α
 b : Nat
 deriving DecidableEq
variable {α : Type} [Inhabited α]
def nil_ : Ent α := ⟨0, default, 0⟩
def at_ (l : List (Ent α)) (i : Nat) : Ent α := l.getD i nil_
theorem at_get {l : List (Ent α)} {i : Nat} (h : i < l.length) : at_ l i = l[i] := by simp [at_, h]
def bef (lt : α → α → Bool) (a b : Ent α) : Bool := if lt a.v b.v then true else if lt b.v a.v then false else decide (a.h < b.h)
def swp (l : List (Ent α)) (i k : Nat) : List (Ent α) := (l.set i (at_ l k)).set k (at_ l i)
theorem swp_len (l : List (Ent α)) (i k : Nat) : (swp l i k).length = l.length := by simp [swp]
theorem swp_at (l : List (Ent α)) (i k j : Nat) (hi : i < l.length) (hk : k < l.length) : at_ (swp l i k) j = if j = k then at_ l i else if j = i then at_ l k else at_ l j := by
 unfold swp at_
 rw [List.getD_eq_getElem?_getD, List.getD_eq_getElem?_getD, List.getElem?_set, List.getElem?_set]
 by_cases h1 : k = j
 · subst h1
   simp [hk, hi, List.getD]
 · rw [if_neg h1, if_neg (Ne.symm h1)]
   by_cases h2 : i = j
   · subst h2
     simp [hi, hk, List.getD]
   · rw [if_neg h2, if_neg (Ne.symm h2)]
     rfl
def upL (lt : α → α → Bool) (l : List (Ent α)) (j : Nat) : List (Ent α) :=
 if h : j = 0 then l else if bef lt (at_ l j) (at_ l ((j - 1) / 2)) then upL lt (swp l ((j - 1) / 2) j) ((j - 1) / 2) else l
termination_by j
decreasing_by omega
def kid (lt : α → α → Bool) (l : List (Ent α)) (i n : Nat) : Nat := if 2 * i + 2 < n ∧ bef lt (at_ l (2 * i + 2)) (at_ l (2 * i + 1)) = true then 2 * i + 2 else 2 * i + 1
def downL (lt : α → α → Bool) (l : List (Ent α)) (i n : Nat) : List (Ent α) × Nat :=
 if h : n ≤ 2 * i + 1 then (l, i) else
 if bef lt (at_ l (kid lt l i n)) (at_ l i) then downL lt (swp l i (kid lt l i n)) (kid lt l i n) n else (l, i)
termination_by n - i
decreasing_by unfold kid; split <;> omega
theorem upL_len (lt : α → α → Bool) : ∀ (j : Nat) (l : List (Ent α)), (upL lt l j).length = l.length := by
 intro j
 induction j using Nat.strongRecOn with
 | ind j ih =>
   intro l
   unfold upL
   split
   · rfl
   · split
     · rw [ih _ (by omega), swp_len]
     · rfl
theorem swp_perm (l : List (Ent α)) (i k : Nat) (hi : i < l.length) (hk : k < l.length) : (swp l i k).Perm l := by
 classical
 rw [List.perm_iff_count]
 intro a
 unfold swp
 rw [at_get hi, at_get hk]
 rw [List.count_set (by simpa using hk), List.count_set hi]
 by_cases e : i = k
 · subst e
   simp
   have h0 : l[i] = a → 0 < l.count a := fun h => List.count_pos_iff.2 (h ▸ List.getElem_mem hi)
   by_cases h : l[i] = a
   · have := h0 h; simp [h]; omega
   · simp [h]
 · rw [List.getElem_set_ne (by exact e)]
   have h0 : l[i] = a → 0 < l.count a := fun h => List.count_pos_iff.2 (h ▸ List.getElem_mem hi)
   by_cases h1 : l[i] = a <;> by_cases h2 : l[k] = a <;> simp [h1, h2]
   · have := h0 h1; omega
   · have := h0 h1; omega
theorem upL_perm (lt : α → α → Bool) : ∀ (j : Nat) (l : List (Ent α)), j < l.length → (upL lt l j).Perm l := by
 intro j
 induction j using Nat.strongRecOn with
 | ind j ih =>
   intro l hj
   unfold upL
   split
   · exact List.Perm.refl _
   · split
     · exact (ih _ (by omega) _ (by rw [swp_len]; omega)).trans (swp_perm _ _ _ (by omega) hj)
     · exact List.Perm.refl _
def ByKey (lt : α → α → Bool) (key : α → Int) : Prop := ∀ a b, lt a b = decide (key a < key b)
def le (lt : α → α → Bool) (a b : Ent α) : Prop := bef lt b a = false
theorem bef_key {β : Type} {lt : β → β → Bool} {key : β → Int} (hk : ByKey lt key) (a b : Ent β) : bef lt a b = decide (key a.v < key b.v ∨ (key a.v = key b.v ∧ a.h < b.h)) := by
 unfold bef
 rw [hk, hk]
 by_cases h1 : key a.v < key b.v
 · simp [h1]
 · by_cases h2 : key b.v < key a.v
   · simp [h1, h2]; omega
   · have : key a.v = key b.v := by omega
     simp [h1, h2, this]
theorem le_iff {β : Type} {lt : β → β → Bool} {key : β → Int} (hk : ByKey lt key) {a b : Ent β} : le lt a b ↔ key a.v < key b.v ∨ (key a.v = key b.v ∧ a.h ≤ b.h) := by
 unfold le
 rw [bef_key hk, decide_eq_false_iff_not]
 omega
theorem le_trans {β : Type} {lt : β → β → Bool} {key : β → Int} (hk : ByKey lt key) {a b c : Ent β} (h1 : le lt a b) (h2 : le lt b c) : le lt a c := by
 rw [le_iff hk] at *
 omega
theorem le_of_bef {β : Type} {lt : β → β → Bool} {key : β → Int} (hk : ByKey lt key) {a b : Ent β} (h : bef lt a b = true) : le lt a b := by
 rw [bef_key hk, decide_eq_true_iff] at h
 rw [le_iff hk]
 omega
theorem le_self {β : Type} {lt : β → β → Bool} {key : β → Int} (hk : ByKey lt key) (a : Ent β) : le lt a a := by
 rw [le_iff hk]; omega
def HeapOK (lt : α → α → Bool) (l : List (Ent α)) (n : Nat) : Prop := ∀ i, 0 < i → i < n → le lt (at_ l ((i - 1) / 2)) (at_ l i)
theorem upL_heap {lt : α → α → Bool} {key : α → Int} (hk : ByKey lt key) (n : Nat) : ∀ (j : Nat) (l : List (Ent α)), n ≤ l.length → j < n →
   (∀ i, 0 < i → i < n → i ≠ j → le lt (at_ l ((i - 1) / 2)) (at_ l i)) → (∀ i, 0 < i → i < n → (i - 1) / 2 = j → 0 < j → le lt (at_ l ((j - 1) / 2)) (at_ l i)) → HeapOK lt (upL lt l j) n := by
 intro j
 induction j using Nat.strongRecOn with
 | ind j ih =>
   intro l hn hj h1 h2
   unfold upL
   split
   · rename_i h0
     intro i hi hin
     exact h1 i hi hin (by omega)
   · rename_i h0
     split
     · rename_i hb
       have hle := le_of_bef hk hb
       generalize hp : (j - 1) / 2 = p at *
       have hpj : p < j := by omega
       have hs := fun q => swp_at l p j q (by omega) (by omega)
       refine ih p hpj _ (by rw [swp_len]; exact hn) (by omega) (fun i hi hin hip => ?_) (fun i hi hin hpi hp0 => ?_)
       · rw [hs, hs]
         by_cases e1 : i = j
         · subst e1
           rw [if_pos rfl, hp, if_neg (by omega), if_pos rfl]
           exact hle
         · rw [if_neg (c := i = j) e1, if_neg (c := i = p) hip]
           by_cases e2 : (i - 1) / 2 = j
           · rw [if_pos e2]
             exact h2 i hi hin e2 (by omega)
           · rw [if_neg e2]
             by_cases e3 : (i - 1) / 2 = p
             · rw [if_pos e3]
               have := h1 i hi hin e1
               rw [e3] at this
               exact le_trans hk hle this
             · rw [if_neg e3]
               exact h1 i hi hin e1
       · rw [hs, hs]
         have hq : (p - 1) / 2 < p := by omega
         have h3 := h1 p hp0 (by omega) (by omega)
         rw [if_neg (by omega), if_neg (by omega)]
         by_cases e1 : i = j
         · rw [if_pos e1]; exact h3
         · rw [if_neg e1, if_neg (by omega)]
           have := h1 i hi hin e1
           rw [hpi] at this
           exact le_trans hk h3 this
     · rename_i hb
       intro i hi hin
       by_cases e : i = j
       · subst e
         unfold le
         simpa using hb
       · exact h1 i hi hin e
theorem kid_lt (lt : α → α → Bool) (l : List (Ent α)) {i n : Nat} (h : ¬ n ≤ 2 * i + 1) : kid lt l i n < n ∧ i < kid lt l i n ∧ (kid lt l i n - 1) / 2 = i := by
 unfold kid
 split <;> omega
theorem kid_le {lt : α → α → Bool} {key : α → Int} (hk : ByKey lt key) (l : List (Ent α)) {i n k : Nat} (hi : 0 < k) (hkn : k < n) (hp : (k - 1) / 2 = i) : le lt (at_ l (kid lt l i n)) (at_ l k) := by
 unfold kid
 split
 · rename_i h
   by_cases e : k = 2 * i + 2
   · rw [e]; exact le_self hk _
   · have : k = 2 * i + 1 := by omega
     rw [this]; exact le_of_bef hk h.2
 · rename_i h
   by_cases e : k = 2 * i + 1
   · rw [e]; exact le_self hk _
   · have e2 : k = 2 * i + 2 := by omega
     unfold le
     rw [e2]
     have : ¬ bef lt (at_ l (2 * i + 2)) (at_ l (2 * i + 1)) = true := fun hh => h ⟨by omega, hh⟩
     simpa using this
theorem downL_spec {lt : α → α → Bool} {key : α → Int} (hk : ByKey lt key) (n : Nat) : ∀ (m i : Nat) (l : List (Ent α)), n - i ≤ m → n ≤ l.length → i < n →
   (∀ k, 0 < k → k < n → (k - 1) / 2 ≠ i → le lt (at_ l ((k - 1) / 2)) (at_ l k)) → (∀ k, 0 < k → k < n → (k - 1) / 2 = i → 0 < i → le lt (at_ l ((i - 1) / 2)) (at_ l k)) → HeapOK lt (downL lt l i n).1 n := by
 intro m
 induction m with
 | zero => intro i l h1 h2 h3; omega
 | succ m ih =>
   intro i l hm hn hin h1 h2
   unfold downL
   split
   · rename_i h0
     intro k hk0 hkn
     exact h1 k hk0 hkn (by omega)
   · rename_i h0
     obtain ⟨c1, c2, c3⟩ := kid_lt lt l h0
     have hkl := fun k a b c => kid_le hk l (i := i) (n := n) (k := k) a b c
     generalize kid lt l i n = c at *
     split
     · rename_i hb
       have hle := le_of_bef hk hb
       have hs := fun q => swp_at l i c q (by omega) (by omega)
       refine ih c _ (by omega) (by rw [swp_len]; exact hn) c1 (fun k hk0 hkn hpc => ?_) (fun k hk0 hkn hpc hc0 => ?_)
       · rw [hs, hs]
         rw [if_neg hpc]
         by_cases e1 : (k - 1) / 2 = i
         · rw [if_pos e1]
           by_cases e2 : k = c
           · rw [if_pos e2]; exact hle
           · rw [if_neg e2, if_neg (by omega)]
             exact hkl k hk0 hkn e1
         · rw [if_neg e1]
           have e2 : k ≠ c := by omega
           rw [if_neg e2]
           by_cases e3 : k = i
           · rw [if_pos e3]
             subst e3
             exact h2 c (by omega) c1 c3 hk0
           · rw [if_neg e3]
             exact h1 k hk0 hkn e1
       · rw [hs, hs, c3, if_neg (by omega), if_pos rfl, if_neg (by omega), if_neg (by omega)]
         have := h1 k hk0 hkn (by omega)
         rw [hpc] at this
         exact this
     · rename_i hb
       intro k hk0 hkn
       by_cases e1 : (k - 1) / 2 = i
       · rw [e1]
         have h3 := hkl k hk0 hkn e1
         have h4 : le lt (at_ l i) (at_ l c) := by unfold le; simpa using hb
         exact le_trans hk h4 h3
       · exact h1 k hk0 hkn e1
theorem downL_len (lt : α → α → Bool) (n : Nat) : ∀ (m i : Nat) (l : List (Ent α)), n - i ≤ m → (downL lt l i n).1.length = l.length := by
 intro m
 induction m with
 | zero =>
   intro i l h
   unfold downL
   rw [dif_pos (by omega)]
 | succ m ih =>
   intro i l h
   unfold downL
   split
   · rfl
   · rename_i h0
     obtain ⟨c1, c2, _⟩ := kid_lt lt l h0
     split
     · rw [ih _ _ (by omega), swp_len]
     · rfl
theorem downL_perm (lt : α → α → Bool) (n : Nat) : ∀ (m i : Nat) (l : List (Ent α)), n - i ≤ m → n ≤ l.length → (downL lt l i n).1.Perm l ∧ ∀ k, n ≤ k → at_ (downL lt l i n).1 k = at_ l k := by
 intro m
 induction m with
 | zero =>
   intro i l h _
   unfold downL
   rw [dif_pos (by omega)]
   exact ⟨List.Perm.refl _, fun _ _ => rfl⟩
 | succ m ih =>
   intro i l h hn
   unfold downL
   split
   · exact ⟨List.Perm.refl _, fun _ _ => rfl⟩
   · rename_i h0
     obtain ⟨c1, c2, _⟩ := kid_lt lt l h0
     split
     · obtain ⟨g1, g2⟩ := ih (kid lt l i n) (swp l i (kid lt l i n)) (by omega) (by rw [swp_len]; exact hn)
       refine ⟨g1.trans (swp_perm _ _ _ (by omega) (by omega)), fun k hk => ?_⟩
       rw [g2 k hk, swp_at _ _ _ _ (by omega) (by omega), if_neg (by omega), if_neg (by omega)]
     · exact ⟨List.Perm.refl _, fun _ _ => rfl⟩
theorem heap_min {lt : α → α → Bool} {key : α → Int} (hk : ByKey lt key) {l : List (Ent α)} {n : Nat} (h : HeapOK lt l n) : ∀ i, i < n → le lt (at_ l 0) (at_ l i) := by
 intro i
 induction i using Nat.strongRecOn with
 | ind i ih =>
   intro hi
   by_cases e : i = 0
   · subst e; exact le_self hk _
   · exact le_trans hk (ih ((i - 1) / 2) (by omega) (by omega)) (h i (by omega) hi)
end Go.Hp

set_option linter.unusedVariables false
set_option linter.unusedSimpArgs false
namespace Go.Hp
open Go Go.Pl
variable {α : Type} [Inhabited α]
theorem at_drop {es : List (Ent α)} {i : Nat} (hi : i < es.length - 1) : at_ es.dropLast i = at_ es i := by
 unfold at_
 rw [List.getD_eq_getElem?_getD, List.getD_eq_getElem?_getD, List.getElem?_dropLast, if_pos hi]
def popL (lt : α → α → Bool) (es : List (Ent α)) : List (Ent α) := (downL lt (swp es 0 (es.length - 1)) 0 (es.length - 1)).1.dropLast
def fixS (lt : α → α → Bool) (es : List (Ent α)) (i n : Nat) : List (Ent α) := if i < (downL lt es i n).2 then (downL lt es i n).1 else upL lt (downL lt es i n).1 i
def remL (lt : α → α → Bool) (es : List (Ent α)) (i : Nat) : List (Ent α) := (if es.length - 1 ≠ i then fixS lt (swp es i (es.length - 1)) i (es.length - 1) else es).dropLast
theorem upL_at (lt : α → α → Bool) : ∀ (j : Nat) (l : List (Ent α)) (k : Nat), j < k → j < l.length → at_ (upL lt l j) k = at_ l k := by
 intro j
 induction j using Nat.strongRecOn with
 | ind j ih =>
   intro l k hk hj
   unfold upL
   split
   · rfl
   · split
     · rw [ih _ (by omega) _ _ (by omega) (by rw [swp_len]; omega), swp_at _ _ _ _ (by omega) hj, if_neg (by omega), if_neg (by omega)]
     · rfl
theorem dropLast_perm {es : List (Ent α)} (h : es ≠ []) : es.Perm (at_ es (es.length - 1) :: es.dropLast) := by
 have hl : 0 < es.length := List.length_pos_iff.2 h
 have : es = es.dropLast ++ [at_ es (es.length - 1)] := by
   rw [at_get (by omega), ← List.getLast_eq_getElem h, List.dropLast_concat_getLast]
 conv => lhs; rw [this]
 exact List.perm_append_singleton _ _
theorem down_perm {lt : α → α → Bool} {l : List (Ent α)} {i n : Nat} (hn : n ≤ l.length) : (downL lt l i n).1.Perm l := (downL_perm lt n (n - i) i l (Nat.le_refl _) hn).1
theorem down_at {lt : α → α → Bool} {l : List (Ent α)} {i n : Nat} (hn : n ≤ l.length) {k : Nat} (hk : n ≤ k) : at_ (downL lt l i n).1 k = at_ l k := (downL_perm lt n (n - i) i l (Nat.le_refl _) hn).2 k hk
theorem down_len {lt : α → α → Bool} {l : List (Ent α)} {i n : Nat} : (downL lt l i n).1.length = l.length := downL_len lt n (n - i) i l (Nat.le_refl _)
theorem fixS_len (lt : α → α → Bool) (l : List (Ent α)) (i n : Nat) : (fixS lt l i n).length = l.length := by
 unfold fixS
 split
 · exact down_len
 · rw [upL_len, down_len]
theorem fixS_perm {lt : α → α → Bool} {l : List (Ent α)} {i n : Nat} (hn : n ≤ l.length) (hi : i < l.length) : (fixS lt l i n).Perm l := by
 unfold fixS
 split
 · exact down_perm hn
 · exact (upL_perm lt _ _ (by rw [down_len]; exact hi)).trans (down_perm hn)
theorem fixS_at {lt : α → α → Bool} {l : List (Ent α)} {i n : Nat} (hn : n ≤ l.length) (hi : i < n) {k : Nat} (hk : n ≤ k) : at_ (fixS lt l i n) k = at_ l k := by
 unfold fixS
 split
 · exact down_at hn hk
 · rw [upL_at _ _ _ _ (by omega) (by rw [down_len]; omega), down_at hn hk]
theorem popL_perm {lt : α → α → Bool} {es : List (Ent α)} (h : es ≠ []) : es.Perm (at_ es 0 :: popL lt es) := by
 have hl : 0 < es.length := List.length_pos_iff.2 h
 have hs := swp_len es 0 (es.length - 1)
 have h1 : (downL lt (swp es 0 (es.length - 1)) 0 (es.length - 1)).1.Perm es := (down_perm (by omega)).trans (swp_perm _ _ _ (by omega) (by omega))
 have hl2 := h1.length_eq
 have h2 := dropLast_perm (es := (downL lt (swp es 0 (es.length - 1)) 0 (es.length - 1)).1) (fun e => by rw [e] at hl2; simp at hl2; omega)
 rw [hl2, down_at (by omega) (Nat.le_refl _), swp_at _ _ _ _ (by omega) (by omega), if_pos rfl] at h2
 exact h1.symm.trans h2
theorem remL_perm {lt : α → α → Bool} {es : List (Ent α)} {i : Nat} (hi : i < es.length) : es.Perm (at_ es i :: remL lt es i) := by
 unfold remL
 split
 · rename_i hne
   have hs := swp_len es i (es.length - 1)
   have h1 : (fixS lt (swp es i (es.length - 1)) i (es.length - 1)).Perm es := (fixS_perm (by omega) (by omega)).trans (swp_perm _ _ _ (by omega) (by omega))
   have hl2 := h1.length_eq
   have h2 := dropLast_perm (es := fixS lt (swp es i (es.length - 1)) i (es.length - 1)) (fun e => by rw [e] at hl2; simp at hl2; omega)
   rw [hl2, fixS_at (by omega) (by omega) (Nat.le_refl _), swp_at _ _ _ _ (by omega) (by omega), if_pos rfl] at h2
   exact h1.symm.trans h2
 · have h2 := dropLast_perm (es := es) (fun e => by rw [e] at hi; simp at hi)
   rwa [show es.length - 1 = i by omega] at h2
theorem down_ge (lt : α → α → Bool) (n : Nat) : ∀ (m i : Nat) (l : List (Ent α)), n - i ≤ m → i ≤ (downL lt l i n).2 := by
 intro m
 induction m with
 | zero =>
   intro i l h
   unfold downL
   rw [dif_pos (by omega)]
   exact Nat.le_refl _
 | succ m ih =>
   intro i l h
   unfold downL
   split
   · exact Nat.le_refl _
   · rename_i h0
     obtain ⟨c1, c2, _⟩ := kid_lt lt l h0
     split
     · have := ih (kid lt l i n) (swp l i (kid lt l i n)) (by omega); omega
     · exact Nat.le_refl _
variable {lt : α → α → Bool} {key : α → Int}
theorem fixS_heap (hk : ByKey lt key) {l : List (Ent α)} {i n : Nat} (hn : n ≤ l.length) (hi : i < n)
   (h1 : ∀ k, 0 < k → k < n → (k - 1) / 2 ≠ i → k ≠ i → le lt (at_ l ((k - 1) / 2)) (at_ l k)) (h2 : ∀ k, 0 < k → k < n → (k - 1) / 2 = i → 0 < i → le lt (at_ l ((i - 1) / 2)) (at_ l k)) : HeapOK lt (fixS lt l i n) n := by
 have hup : (∀ k, 0 < k → k < n → (k - 1) / 2 = i → le lt (at_ l i) (at_ l k)) → HeapOK lt (upL lt l i) n := fun h3 => by
   refine upL_heap hk n i l hn hi (fun k a b c => ?_) (fun k a b c d => h2 k a b c d)
   by_cases e : (k - 1) / 2 = i
   · rw [e]; exact h3 k a b e
   · exact h1 k a b e c
 unfold fixS
 unfold downL
 by_cases h0 : n ≤ 2 * i + 1
 · rw [dif_pos h0, if_neg (Nat.lt_irrefl _)]
   exact hup fun k a b c => by omega
 · rw [dif_neg h0]
   obtain ⟨c1, c2, c3⟩ := kid_lt lt l h0
   have hkl := fun k a b c => kid_le hk l (i := i) (n := n) (k := k) a b c
   generalize kid lt l i n = c at *
   by_cases hb : bef lt (at_ l c) (at_ l i) = true
   · rw [if_pos hb, if_pos (Nat.lt_of_lt_of_le c2 (down_ge lt n (n - c) c _ (Nat.le_refl _)))]
     have hle := le_of_bef hk hb
     have hs := fun q => swp_at l i c q (by omega) (by omega)
     refine downL_spec hk n (n - c) c _ (Nat.le_refl _) (by rw [swp_len]; exact hn) c1 (fun k hk0 hkn hpc => ?_) (fun k hk0 hkn hpc hc0 => ?_)
     · rw [hs, hs, if_neg hpc]
       by_cases e1 : (k - 1) / 2 = i
       · rw [if_pos e1]
         by_cases e2 : k = c
         · rw [if_pos e2]; exact hle
         · rw [if_neg e2, if_neg (by omega)]
           exact hkl k hk0 hkn e1
       · rw [if_neg e1]
         have e2 : k ≠ c := by omega
         rw [if_neg e2]
         by_cases e3 : k = i
         · rw [if_pos e3]
           subst e3
           exact h2 c (by omega) c1 c3 hk0
         · rw [if_neg e3]
           exact h1 k hk0 hkn e1 e3
     · rw [hs, hs, c3, if_neg (by omega), if_pos rfl, if_neg (by omega), if_neg (by omega)]
       have := h1 k hk0 hkn (by omega) (by omega)
       rwa [hpc] at this
   · rw [if_neg hb, if_neg (Nat.lt_irrefl _)]
     refine hup fun k a b e => ?_
     have h4 : le lt (at_ l i) (at_ l c) := by unfold le; simpa using hb
     exact le_trans hk h4 (hkl k a b e)
theorem heap_drop {es : List (Ent α)} (h : HeapOK lt es (es.length - 1)) : HeapOK lt es.dropLast es.dropLast.length := by
 intro i hi hin
 rw [List.length_dropLast] at hin
 rw [at_drop hin, at_drop (by omega)]
 exact h i hi hin
theorem popL_heap (hk : ByKey lt key) {es : List (Ent α)} (h : HeapOK lt es es.length) : HeapOK lt (popL lt es) (popL lt es).length := by
 refine heap_drop ?_
 rw [down_len, swp_len]
 by_cases h0 : es.length - 1 = 0
 · rw [h0]; intro i hi hin; omega
 have hs := fun q => swp_at es 0 (es.length - 1) q (by omega) (by omega)
 refine downL_spec hk (es.length - 1) (es.length - 1) 0 _ (by omega) (by rw [swp_len]; omega) (by omega) (fun k hk0 hkn hp => ?_) (fun k _ _ _ h => by omega)
 rw [hs, hs, if_neg (by omega), if_neg (by omega), if_neg (by omega), if_neg (by omega)]
 exact h k hk0 (by omega)
theorem remL_heap (hk : ByKey lt key) {es : List (Ent α)} {i : Nat} (hi : i < es.length) (h : HeapOK lt es es.length) : HeapOK lt (remL lt es i) (remL lt es i).length := by
 unfold remL
 split
 · rename_i hne
   refine heap_drop ?_
   rw [fixS_len, swp_len]
   have hs := fun q => swp_at es i (es.length - 1) q (by omega) (by omega)
   refine fixS_heap hk (by rw [swp_len]; omega) (by omega) (fun k hk0 hkn hp hne => ?_) (fun k hk0 hkn hp hi0 => ?_)
   · rw [hs, hs, if_neg (by omega), if_neg (by omega), if_neg (by omega), if_neg (by omega)]
     exact h k hk0 (by omega)
   · rw [hs, hs, if_neg (by omega), if_neg (by omega), if_neg (by omega), if_neg (by omega)]
     have a := h k hk0 (by omega)
     rw [hp] at a
     exact le_trans hk (h i hi0 (by omega)) a
 · exact heap_drop (fun k a b => h k a (by omega))
theorem setL_heap (hk : ByKey lt key) {es : List (Ent α)} {i : Nat} (hi : i < es.length) (h : HeapOK lt es es.length) (x : Ent α) : HeapOK lt (fixS lt (es.set i x) i es.length) es.length := by
 have hs : ∀ q, q ≠ i → at_ (es.set i x) q = at_ es q := fun q hq => by
   unfold at_
   rw [List.getD_eq_getElem?_getD, List.getD_eq_getElem?_getD, List.getElem?_set_ne (Ne.symm hq)]
 refine fixS_heap hk (by simp) hi (fun k hk0 hkn hp hne => ?_) (fun k hk0 hkn hp hi0 => ?_)
 · rw [hs _ hp, hs _ hne]; exact h k hk0 hkn
 · rw [hs _ (by omega), hs _ (by omega)]
   have a := h k hk0 hkn
   rw [hp] at a
   exact le_trans hk (h i hi0 (by omega)) a
theorem pushL_heap (hk : ByKey lt key) {es : List (Ent α)} (h : HeapOK lt es es.length) (x : Ent α) : HeapOK lt (upL lt (es ++ [x]) es.length) (es.length + 1) := by
 have hs : ∀ q, q < es.length → at_ (es ++ [x]) q = at_ es q := fun q hq => by
   unfold at_
   rw [List.getD_eq_getElem?_getD, List.getD_eq_getElem?_getD, List.getElem?_append_left hq]
 refine upL_heap hk _ _ _ (by simp) (by omega) (fun k a b c => ?_) (fun k a b c d => by omega)
 rw [hs _ (by omega), hs _ (by omega)]
 exact h k a (by omega)
def hv (e : Ent α) : Int × α := (e.h, e.v)
def bf (lt : α → α → Bool) (a b : Int × α) : Bool := if lt a.2 b.2 then true else if lt b.2 a.2 then false else decide (a.1 < b.1)
theorem bef_bf {β : Type} {lt : β → β → Bool} (a b : Ent β) : bef lt a b = bf lt (hv a) (hv b) := rfl
theorem bf_key {β : Type} {lt : β → β → Bool} {key : β → Int} (hk : ByKey lt key) (a b : Int × β) : bf lt a b = true ↔ key a.2 < key b.2 ∨ (key a.2 = key b.2 ∧ a.1 < b.1) := by
 have := bef_key hk ⟨a.1, a.2, 0⟩ ⟨b.1, b.2, 0⟩
 rw [bef_bf] at this
 simp only [hv] at this
 rw [this, decide_eq_true_iff]
def Srt (lt : α → α → Bool) (l : List (Int × α)) : Prop := l.Pairwise fun a b => bf lt a b = true
def ins (lt : α → α → Bool) (x : Int × α) (l : List (Int × α)) : List (Int × α) := l.takeWhile (bf lt · x) ++ x :: l.dropWhile (bf lt · x)
def del (h : Int) (l : List (Int × α)) : List (Int × α) := l.filter fun p => decide (p.1 ≠ h)
theorem ins_perm {β : Type} {lt : β → β → Bool} (x : Int × β) (l : List (Int × β)) : (ins lt x l).Perm (x :: l) := by
 unfold ins
 refine List.perm_middle.trans (List.Perm.cons _ ?_)
 rw [List.takeWhile_append_dropWhile]
theorem srt_ins {β : Type} {lt : β → β → Bool} {key : β → Int} (hk : ByKey lt key) {x : Int × β} {l : List (Int × β)} (h : Srt lt l) (hx : ∀ p, p ∈ l → p.1 ≠ x.1) : Srt lt (ins lt x l) := by
 induction l with
 | nil => simp [ins, Srt]
 | cons y l ih =>
   unfold Srt at h
   rw [List.pairwise_cons] at h
   have ih := ih h.2 fun p hp => hx p (List.mem_cons_of_mem _ hp)
   by_cases hb : bf lt y x = true
   · have e : ins lt x (y :: l) = y :: ins lt x l := by simp [ins, List.takeWhile_cons, List.dropWhile_cons, hb]
     rw [e]
     refine List.pairwise_cons.2 ⟨fun p hp => ?_, ih⟩
     rcases List.mem_cons.1 ((ins_perm x l).mem_iff.1 hp) with rfl | hp
     · exact hb
     · exact h.1 p hp
   · have e : ins lt x (y :: l) = x :: y :: l := by simp [ins, List.takeWhile_cons, List.dropWhile_cons, hb]
     rw [e]
     have hxy : bf lt x y = true := by
       have := hx y (by simp)
       rw [bf_key hk] at hb ⊢
       omega
     refine List.pairwise_cons.2 ⟨fun p hp => ?_, List.pairwise_cons.2 h⟩
     rcases List.mem_cons.1 hp with rfl | hp
     · exact hxy
     · have := h.1 p hp
       rw [bf_key hk] at hxy this ⊢
       omega
theorem srt_eq {β : Type} {lt : β → β → Bool} {key : β → Int} (hk : ByKey lt key) : ∀ {l l' : List (Int × β)}, Srt lt l → Srt lt l' → l.Perm l' → l = l'
 | [], l', _, _, hp => (List.nil_perm.1 hp).symm
 | x :: l, [], _, _, hp => absurd hp.length_eq (by simp)
 | x :: l, y :: l', h, h', hp => by
   have hxy : x = y := by
     rcases List.mem_cons.1 (hp.mem_iff.1 (List.mem_cons_self ..)) with e | e
     · exact e
     · rcases List.mem_cons.1 (hp.mem_iff.2 (List.mem_cons_self ..)) with e2 | e2
       · exact e2.symm
       · have a := (List.pairwise_cons.1 h).1 y e2
         have b := (List.pairwise_cons.1 h').1 x e
         rw [bf_key hk] at a b
         omega
   subst hxy
   rw [srt_eq hk (List.pairwise_cons.1 h).2 (List.pairwise_cons.1 h').2 hp.cons_inv]
theorem head_eq (hk : ByKey lt key) {es : List (Ent α)} {x : Int × α} {l : List (Int × α)} (h : HeapOK lt es es.length) (hs : Srt lt (x :: l)) (hp : (x :: l).Perm (es.map hv)) : es ≠ [] ∧ hv (at_ es 0) = x := by
 have hl := hp.length_eq
 simp at hl
 have hne : es ≠ [] := fun e => by rw [e] at hl; simp at hl
 have h0 : at_ es 0 ∈ es := by rw [at_get (by omega)]; exact List.getElem_mem _
 refine ⟨hne, ?_⟩
 rcases List.mem_cons.1 (hp.mem_iff.2 (List.mem_map.2 ⟨_, h0, rfl⟩)) with e | e
 · exact e
 · have a := (List.pairwise_cons.1 hs).1 _ e
   obtain ⟨y, hy, rfl⟩ := List.mem_map.1 (hp.mem_iff.1 (List.mem_cons_self ..))
   obtain ⟨i, hi, rfl⟩ := List.getElem_of_mem hy
   have b := heap_min hk h i hi
   rw [at_get hi] at b
   unfold le at b
   rw [bef_bf, a] at b
   cases b
theorem srt_del {β : Type} {lt : β → β → Bool} {l : List (Int × β)} (h : Srt lt l) (x : Int) : Srt lt (del x l) := List.Pairwise.filter _ h
theorem del_perm {β : Type} {l l' : List (Int × β)} {x : Int × β} (hp : l.Perm (x :: l')) (hn : (l.map (·.1)).Nodup) : (del x.1 l).Perm l' := by
 have h1 := (hp.map (·.1)).nodup_iff.1 hn
 rw [List.map_cons, List.nodup_cons] at h1
 have h2 : del x.1 (x :: l') = l' := by
   unfold del
   rw [List.filter_cons_of_neg (by simp), List.filter_eq_self.2]
   intro p hp
   have : p.1 ≠ x.1 := fun e => h1.1 (by rw [← e]; exact List.mem_map.2 ⟨_, hp, rfl⟩)
   simpa using this
 have h3 : (del x.1 l).Perm (del x.1 (x :: l')) := hp.filter _
 rwa [h2] at h3
end Go.Hp

set_option linter.unusedVariables false
set_option linter.unusedSimpArgs false
namespace Go.Pl
open Go
theorem live_k {β : Beta} {M : Off} {bx : Boxes} {w : World} (hok : WOk β M bx w) {b : Nat} {ty : TypeId} {sz : Nat} {es : List V} (hb : bx b = some (.row ty sz es)) (he : es ≠ []) :
   ∃ k, β b = some (some k) ∧ k < w.heap.size ∧ M k = none ∧ RowAt β w (Fz β M bx w) k ty sz es := by
 rcases hok.live b _ hb with ⟨_, h⟩ | ⟨k, h1, h2, h3, h4⟩
 · exact absurd h he
 · exact ⟨k, h1, h2, h3, h4⟩
def kOf (β : Beta) (b : Nat) : Nat := match β b with
 | some (some k) => k
 | _ => 0
theorem kOf_eq {β : Beta} {b k : Nat} (h : β b = some (some k)) : kOf β b = k := by simp [kOf, h]
theorem ep_of_row {β β' : Beta} {w w' : World} {F F' : Nat → Prop} {k : Nat} {ty : TypeId} {sz : Nat} {e e' : V} (hr : RowAt β w F k ty sz [e]) (hw : w'.heap[k]? = w.heap[k]?) (hF : F' k)
   (hc : ∀ (j : Nat) (c' : V), e'.cells[j]? = some c' → ∃ c, e.cells[j]? = some c ∧ ∀ u, Rep β w F c u → Rep β' w' F' c' u) : Rep β' w' F' (.ep e' 0) (.pointer (some ⟨k, 0, none⟩)) := by
 obtain ⟨cur, hcur, hlen, hrow⟩ := hr
 obtain ⟨hsz, hcells⟩ := hrow 0 e rfl
 have key : ∀ (j : Nat) (c' : V), e'.cells[j]? = some c' → j < cur.size ∧ (cur.getD j undef).oneCell' = true ∧ Rep β' w' F' c' (cur.getD j undef) := by
   intro j c' hj
   obtain ⟨c, h1, h2⟩ := hc j c' hj
   obtain ⟨h3, h4⟩ := hcells j c h1
   have h5 := (List.getElem?_eq_some_iff.1 h1).1
   simp only [Nat.zero_mul, Nat.zero_add] at h3 h4
   refine ⟨?_, h3, h2 _ h4⟩
   simp at hlen
   omega
 refine Rep.ep e' 0 ⟨k, 0, none⟩ (fun j => cur.getD j undef) (fun j c' hj => ?_) (fun j c' hj => (key j c' hj).2.2)
 obtain ⟨h1, h2, h3⟩ := key j c' hj
 refine ⟨_, rfl, hF, ?_, h2⟩
 rw [← hw] at hcur
 have e : (⟨k, 0, none⟩ : Addr).add j = ⟨k, j, none⟩ := by
   by_cases h0 : j = 0 <;> simp [Addr.add, h0]
 rw [e]
 simp [World.cell?, hcur, h1]
section
variable {P : Program} {α : Type}
def encP (β : Beta) (pb : α → Nat) (x : α) : Value := .pointer (some ⟨kOf β (pb x), 0, none⟩)
variable [Inhabited α]
theorem putRow_setRow1 (enc : α → Value) {w : World} {blk : Nat} {ty : TypeId} {fr : Nat × Nat} {cur : Array Value} (hcur : w.heap[blk]? = some (.cells cur ty fr)) (d : Array α) : Sort.putRow enc w blk 0 d = w.setRow blk (Sort.putCells enc 0 d cur) := by
 unfold Sort.putRow
 rw [Sort.mapBlock_congr w blk _ (fun _ => Sort.putCells enc 0 d cur) (fun c e fr' h => by rw [hcur] at h; injection h with h; injection h with h; rw [h])]
 unfold Sort.mapBlock World.setRow
 refine congrArg (fun h => ({ w with heap := h } : World)) (congrArg (fun f => w.heap.modify blk f) ?_)
 funext o
 cases o <;> rfl
theorem size_putCells1 (enc : α → Value) (off : Nat) (d : Array α) (c : Array Value) : (Sort.putCells enc off d c).size = c.size := by simp [Sort.putCells]
theorem rowRep_ptr {β : Beta} {w : World} {F : Nat → Prop} {pb : α → Nat} {sz : Nat} {cur : Array Value} {d : Array α} (hl : d.size ≤ cur.size) (hp : ∀ x, ∃ k, β (pb x) = some (some k)) :
   RowRep β w F 1 (d.toList.map fun x => .ptr (pb x) sz 0 0) (Sort.putCells (encP β pb) 0 d cur) := by
 intro i e hi
 simp only [List.getElem?_map, Option.map_eq_some_iff] at hi
 obtain ⟨x, hx, rfl⟩ := hi
 refine ⟨rfl, fun j c hc => ?_⟩
 have hid : i < d.size := by have := (List.getElem?_eq_some_iff.1 hx).1; simpa using this
 have hdx : d[i]! = x := by
   have := (List.getElem?_eq_some_iff.1 hx).2
   simp [hid]
   simpa using this
 rcases j with _ | j
 · simp only [V.cells, List.getElem?_cons_zero, Option.some.injEq] at hc
   subst hc
   have hget : (Sort.putCells (encP β pb) 0 d cur).getD (i * 1 + 0) undef = encP β pb x := by
     have h2 : i < cur.size := by omega
     simp [Sort.putCells, h2, hid]
     simpa [hid] using congrArg (encP β pb) hdx
   rw [hget]
   obtain ⟨k, hk⟩ := hp x
   refine ⟨rfl, ?_⟩
   unfold encP
   rw [kOf_eq hk]
   have := Rep.ptr (β := β) (w := w) (F := F) (pb x) sz 0 0 k hk
   simpa using this
 · simp [V.cells] at hc
theorem holds_ptr {β : Beta} {w : World} {F : Nat → Prop} {pb : α → Nat} {sz blk : Nat} {ty : TypeId} {cur : Array Value} (hcur : w.heap[blk]? = some (.cells cur ty (0, 0))) {d : Array α} (hl : d.size ≤ cur.size)
   (hr : RowRep β w F 1 (d.toList.map fun x => .ptr (pb x) sz 0 0) cur) : Sort.Holds (encP β pb) w blk 0 d := by
 intro t ht
 have hi : (d.toList.map fun x => V.ptr (pb x) sz 0 0)[t]? = some (.ptr (pb d[t]!) sz 0 0) := by
   simp [ht]
 obtain ⟨_, h5⟩ := hr _ _ hi
 obtain ⟨_, h6⟩ := h5 0 _ rfl
 have hlt : t < cur.size := by omega
 have h7 : cur.getD (t * 1 + 0) undef = encP β pb d[t]! := by
   generalize cur.getD (t * 1 + 0) undef = u at h6
   cases h6 with
   | ptr _ _ _ _ k hb => unfold encP; rw [kOf_eq hb]; simp
 constructor
 · simp only [World.cell?, hcur, Nat.zero_add, Option.isSome_none, Bool.false_eq_true, if_false]
   rw [← h7]
   simp [hlt]
 · simp [World.frozen?, hcur]
theorem sort_ptrs {f : FuncId} {rest : List V} (hent : ∀ vs w, (callFunc f vs).run P w = .ok (.enter f vs) w) {pb : α → Nat} {sz : Nat} {Q : Array α → Prop} {d : Array α} (hsize : ∀ d', Q d' → d'.size = d.size) (hd0 : 0 < d.size) {bx : Boxes}
   (hpb : ∀ x, ∃ ty es, bx (pb x) = some (.row ty sz es) ∧ es ≠ []) {b : Nat} {ty : TypeId} (hb : bx b = some (.row ty 1 (d.toList.map fun x => .ptr (pb x) sz 0 0)))
   (hcon : ∀ (β : Beta) (M : Off) (w : World) (blk cap : Nat) (rs : Array Value), WOk β M bx w → GlOk P β w (Fz β M bx w) → β b = some (some blk) → rs.size = rest.length → (∀ (i : Nat) (c : V), rest[i]? = some c → Rep β w (Fz β M bx w) c (rs.getD i undef)) →
     Sort.Holds (encP β pb) w blk 0 d → blk < w.heap.size → Calls P f (#[.slice (some ⟨blk, 0, none⟩) d.size cap] ++ rs) w fun e w' => e = .returned (.tuple #[]) ∧ ∃ d' n os, Q d' ∧ w' = Go.Proofs.sortWorld (encP β pb) w blk 0 n d' os) :
   AbsCall P f (.own b 1 0 d.size :: rest) bx fun r bx' => r = .tup [] ∧ ∃ d', Q d' ∧ bx' = upd bx b (some (.row ty 1 (d'.toList.map fun x => .ptr (pb x) sz 0 0))) := by
 refine ⟨hent, fun β M w vs hok hgl hvs hrep => ?_⟩
 have h0 : Rep β w (Fz β M bx w) (.own b 1 0 d.size) (vs.getD 0 undef) := hrep 0 _ rfl
 obtain ⟨rs, hvs2, hrs, hrs2⟩ : ∃ rs : Array Value, vs = #[vs.getD 0 undef] ++ rs ∧ rs.size = rest.length ∧ ∀ (i : Nat) (c : V), rest[i]? = some c → Rep β w (Fz β M bx w) c (rs.getD i undef) := by
   simp only [List.length_cons] at hvs
   refine ⟨vs.extract 1 vs.size, ?_, by simp; omega, fun i c hi => ?_⟩
   · apply Array.ext
     · simp; omega
     · intro i h1 h2
       rcases i with _ | i
       · simp [Array.getElem?_eq_getElem h1]
       · simp [Array.getElem_append]
         congr 1
         omega
   · have h3 := hrep (i + 1) c (by simpa using hi)
     have hlt := (List.getElem?_eq_some_iff.1 hi).1
     have e1 : (vs.extract 1 vs.size).getD i undef = vs.getD (i + 1) undef := by
       simp only [Array.getD_eq_getD_getElem?, Array.getElem?_extract]
       rw [if_pos (by omega), Nat.add_comm]
     rw [e1]
     exact h3
 rw [hvs2]
 generalize vs.getD 0 undef = u0 at h0
 have hp : ∀ x, ∃ k, β (pb x) = some (some k) := fun x => by
   obtain ⟨ty', es', h1, h2⟩ := hpb x
   obtain ⟨k, h3, _⟩ := live_k hok h1 h2
   exact ⟨k, h3⟩
 generalize hN : d.size = N at h0 hd0
 cases h0 with
 | own0 _ _ hβ => omega
 | own _ _ _ _ blk cap m ty' hβ hs hm hn hmax =>
   rcases hok.live b _ hb with ⟨h1, _⟩ | ⟨blk', h1, hlt, hMn, cur, hcur, hlc, hrow⟩
   · rw [hβ] at h1; cases h1
   · rw [hβ] at h1
     injection h1 with h1
     injection h1 with h1
     subst h1
     have hlen : d.size ≤ cur.size := by simpa using hlc
     have hH := holds_ptr hcur hlen hrow
     subst hN
     have := hcon β M w blk cap rs hok hgl hβ hrs hrs2 hH hlt
     simp only [Nat.zero_mul]
     refine this.mono ?_
     rintro e w' ⟨rfl, d', n, os, hq, rfl⟩
     have hd' := hsize d' hq
     have hlen' : d'.size ≤ cur.size := by rw [hd']; exact hlen
     obtain ⟨h2, h3⟩ := write_box hok hb hβ hcur (Sort.putCells (encP β pb) 0 d' cur) (size_putCells1 _ _ _ _) (d'.toList.map fun x => .ptr (pb x) sz 0 0) (by simpa using hd') (by rw [size_putCells1]; simpa using hlen') (rowRep_ptr hlen' hp)
     have hw1 : Sort.putRow (encP β pb) w blk 0 d' = w.setRow blk (Sort.putCells (encP β pb) 0 d' cur) := putRow_setRow1 _ hcur _
     rw [← hw1] at h2 h3
     have hheap : (Go.Proofs.sortWorld (encP β pb) w blk 0 n d' os).heap = (Sort.putRow (encP β pb) w blk 0 d').heap ++ os := rfl
     have hsz : (Sort.putRow (encP β pb) w blk 0 d').heap.size ≤ (Go.Proofs.sortWorld (encP β pb) w blk 0 n d' os).heap.size := by rw [hheap]; simp
     have hkk : ∀ q, q < (Sort.putRow (encP β pb) w blk 0 d').heap.size → (Go.Proofs.sortWorld (encP β pb) w blk 0 n d' os).heap[q]? = (Sort.putRow (encP β pb) w blk 0 d').heap[q]? := by
       intro q hq
       rw [hheap, Array.getElem?_append, if_pos hq]
     have h4 := h2.grown hsz h2.fin (fun _ _ h => h) hkk
     have h5 := h3.trans (Tr.grown h2 (w' := Go.Proofs.sortWorld (encP β pb) w blk 0 n d' os) rfl rfl rfl (Nat.le_add_right w.drawn n) hsz (fun _ _ h => h) hkk)
     exact ⟨_, _, _, β, rfl, ⟨rfl, d', hq, rfl⟩, h4, h5, .tup [] #[] rfl (fun i c h => by simp at h)⟩
theorem sortWorld_old {enc : α → Value} {w : World} {blk m : Nat} {dk : Array α} {os : Array Obj} : w.heap.size ≤ (Go.Proofs.sortWorld enc w blk 0 m dk os).heap.size ∧ (∀ q, q < w.heap.size → q ≠ blk → (Go.Proofs.sortWorld enc w blk 0 m dk os).heap[q]? = w.heap[q]?) ∧
   ∀ q z, w.shape? q = some z → (Go.Proofs.sortWorld enc w blk 0 m dk os).shape? q = some z := by
 generalize hW : Go.Proofs.sortWorld enc w blk 0 m dk os = W
 have hheap : W.heap = w.heap.modify blk (Sort.onCells (Sort.putCells enc 0 dk)) ++ os := by rw [← hW]; rfl
 have hold : ∀ q, q < w.heap.size → q ≠ blk → W.heap[q]? = w.heap[q]? := by
   intro q hq hne
   rw [hheap, Array.getElem?_append, if_pos (by simpa using hq), Array.getElem?_modify, if_neg (Ne.symm hne)]
 refine ⟨by rw [hheap]; simp, hold, fun q z hz => ?_⟩
 have hq := shape_lt hz
 by_cases e : q = blk
 · subst e
   have : W.heap[q]? = (w.heap[q]?).map (Sort.onCells (Sort.putCells enc 0 dk)) := by
     rw [hheap, Array.getElem?_append, if_pos (by simpa using hq), Array.getElem?_modify, if_pos rfl]
   unfold World.shape? at hz ⊢
   rw [this]
   cases ho : w.heap[q]? with
   | none => rw [ho] at hz; cases hz
   | some o =>
     rw [ho] at hz
     cases o with
     | cells c t fr =>
       simp only [Option.map_some, Sort.onCells, size_putCells1] at hz ⊢
       exact hz
     | _ => simp at hz
 · rw [shape_heap (hold q hq e)]; exact hz
theorem grown_of {g : FuncId} {vs : List V} {us : Array Value} {r : V} {u : Value} (hc : PureCall P g vs (fun _ => none) r) (hr : ∀ β w F u', Rep β w F r u' → u' = u) {β : Beta} {W : World} (hfin : ∃ n, ∀ b, n ≤ b → β b = none) (hgl : GlOk P β W (fun q => q < W.heap.size))
   (hs : us.size = vs.length) (hargs : ∀ (i : Nat) (c : V), vs[i]? = some c → Rep β W (fun q => q < W.heap.size) c (us.getD i undef)) :
   Calls P g us W fun e w' => e = .returned u ∧ ∃ q os, w' = Sort.grow (W.drewN q) os := by
 let M0 : Off := ⟨fun _ => none, 0⟩
 have hok0 : WOk β M0 (fun _ => none) W := ⟨hfin, fun k o h => (by cases h), fun b box h => (by cases h), fun b b' k h => absurd rfl h⟩
 have hfz : Fz β M0 (fun _ => none) W = fun q => q < W.heap.size := by
   funext q
   refine propext ⟨fun h => h.1, fun h => ⟨h, rfl, fun b h => absurd rfl h⟩⟩
 refine (hc.2 β M0 W us hok0 (by rw [hfz]; exact hgl) hs (by rw [hfz]; exact hargs)).mono ?_
 rintro e w' ⟨v, r', bx', β', rfl, ⟨rfl, rfl⟩, _, htr, hrep⟩
 refine ⟨by rw [hr _ _ _ _ hrep], w'.drawn - W.drawn, w'.heap.extract W.heap.size w'.heap.size, ?_⟩
 have h1 := htr.os
 have h2 := htr.tape
 have h3 := htr.output
 have h4 := htr.drawn (fun ⟨_, _, h⟩ => by cases h)
 have h5 : w'.heap = W.heap ++ w'.heap.extract W.heap.size w'.heap.size := by
   apply Array.ext_getElem?
   intro q
   rw [Array.getElem?_append]
   by_cases hq : q < W.heap.size
   · rw [if_pos hq]
     exact htr.keep q hq (fun b h => absurd rfl h)
   · rw [if_neg hq, Array.getElem?_extract]
     by_cases hq2 : q < w'.heap.size
     · rw [if_pos (by have := htr.size; omega)]
       congr 1
       omega
     · rw [Array.getElem?_eq_none (by omega), if_neg (by have := htr.size; omega)]
 cases w'
 simp only [Sort.grow, World.drewN] at *
 subst h1 h2 h3
 congr 1
 omega
end
theorem sort_none {P : Program} {f : FuncId} {v c : V} {bx : Boxes} (hent : ∀ vs w, (callFunc f vs).run P w = .ok (.enter f vs) w) (hv : v = .nils ∨ ∃ b sz o, v = .own b sz o 0)
   (hcon : ∀ (p : Option Addr) (cap : Nat) (fv : Value) (w : World), Calls P f #[.slice p 0 cap, fv] w fun e w' => e = .returned (.tuple #[]) ∧ w' = w) : AbsCall P f [v, c] bx fun r bx' => r = .tup [] ∧ bx' = bx := by
 refine ⟨hent, fun β M w vs hok hgl hvs hrep => ?_⟩
 obtain ⟨u, fv, rfl⟩ : ∃ u fv, vs = #[u, fv] := by
   rcases vs with ⟨_ | ⟨u, _ | ⟨v, _ | ⟨z, l⟩⟩⟩⟩
   · simp at hvs
   · simp at hvs
   · exact ⟨u, v, rfl⟩
   · simp at hvs
 have h0 := hrep 0 _ rfl
 simp only [List.getElem?_toArray, Array.getD_eq_getD_getElem?, List.getElem?_cons_zero, Option.getD_some] at h0
 obtain ⟨p, cap, rfl⟩ : ∃ p cap, u = .slice p 0 cap := by
   rcases hv with rfl | ⟨b, sz, o, rfl⟩
   · cases h0; exact ⟨_, _, rfl⟩
   · generalize hn : (0 : Nat) = n at h0
     cases h0 with
     | own0 => exact ⟨_, _, rfl⟩
     | own => subst hn; exact ⟨_, _, rfl⟩
 refine (hcon p cap fv w).mono ?_
 rintro e w' ⟨rfl, rfl⟩
 exact ⟨_, _, bx, β, rfl, ⟨rfl, rfl⟩, hok, Tr.refl _ _ _, .tup [] #[] rfl (fun i c h => by simp at h)⟩
end Go.Pl

set_option linter.unusedVariables false
namespace Go.Pl
open Go
end Go.Pl
