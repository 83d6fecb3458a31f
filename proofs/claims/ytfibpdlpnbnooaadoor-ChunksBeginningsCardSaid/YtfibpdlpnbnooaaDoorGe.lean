/- Texts of the proof, put together: PlOut, PlLs, PlLawM, PlLawT, PlCv, PlTh, PlTf. -/
import Derived.Test.YtfibpdlpnbnooaaDoorGd
import Derived.ChangeArms
import Derived.OpenShut
import Derived.Carry
import Derived.ChangeSame
import Derived.JoinedCond
import Derived.Below
import Derived.Lib.LaidTab
import Derived.Lib.ItoaNum

set_option linter.unusedSimpArgs false
set_option linter.unusedVariables false
namespace Go.Pl
open Go Go.ChangeShapes Go.WideShapes Go.ChangeAt Go.RowKit
def contig (P : Program) : List (Nat × TypeId) → Nat → Nat → Bool
 | [], o, m => o == m
 | (o', t) :: ps, o, m => o' == o && contig P ps (o + tsz P t) m
def plainT (P : Program) : Nat → TypeId → Bool
 | 0, _ => false
 | n + 1, t =>
   match P.underlying t with
   | some .bool | some (.int _) | some .string => tsz P t == 1
   | some (.slice e) => tsz P t == 1 && plainT P n e
   | some (.struct fs) => (fs.toList.all fun f => plainT P n f.type) && contig P (fs.toList.map fun f => (f.offset, f.type)) 0 (tsz P t)
   | some (.array m e) => plainT P n e && contig P ((List.range m).map fun i => (i * tsz P e, e)) 0 (tsz P t)
   | _ => false
def elV (P : Program) (e : TypeId) (xs : List V) : V := if tagg P e = true then .agg xs else xs.getD 0 .unk
def HasL (P : Program) : Nat → TypeId → List V → Prop
 | 0, _, _ => False
 | n + 1, t, xs => xs.length = tsz P t ∧
   match knd P t with
   | .bool => ∃ b, xs = [.bool b]
   | .int k => ∃ i, xs = [.int k i] ∧ (Lit.int k i).wf = true
   | .str => ∃ s, xs = [.str s] ∧ s.length ≤ maxLen
   | .slice e => ∃ es, xs = [.sl (tsz P e) es] ∧ es.length ≤ maxLen ∧ ∀ v, v ∈ es → ∃ ys, v = elV P e ys ∧ HasL P n e ys
   | .strct => ∀ f off ty, fld P t f = some (off, ty) → HasL P n ty ((xs.drop off).take (tsz P ty))
   | .arr m e => ∀ i, i < m → HasL P n e ((xs.drop (i * tsz P e)).take (tsz P e))
   | _ => False
section
variable {H : Type} {enc : TypeId × Value → H} {P : Program} {w : World} {spare : Nat → Bool} {held : Bool}
theorem elV_cells {e : TypeId} {xs : List V} (h : xs.length = tsz P e) (h1 : tagg P e = false → ∃ v, xs = [v] ∧ v.cells = [v]) : (elV P e xs).cells = xs := by
 unfold elV
 by_cases ht : tagg P e = true
 · rw [if_pos ht]; rfl
 · rw [if_neg ht]
   obtain ⟨v, rfl, hv⟩ := h1 (by simpa using ht)
   simpa using hv
def FzAll (w : World) (k : Nat) : Prop := k < w.heap.size
theorem cell_block {a : Addr} {u : Value} (h : w.cell? a = some u) : a.block < w.heap.size := by
 unfold World.cell? at h
 cases hh : w.heap[a.block]? with
 | none => simp [hh] at h
 | some o => exact (Array.getElem?_eq_some_iff.1 hh).1
theorem addr_add (a : Addr) (i j : Nat) : (a.add i).add j = a.add (i + j) := by
 unfold Addr.add
 by_cases hi : i = 0 <;> by_cases hj : j = 0 <;> simp [hi, hj, Nat.add_assoc]
theorem assemble {β : Beta} {n : Nat} {cs : List Value} (ih : ∀ (fuel : Nat) (t : TypeId) (cs : List Value) (x : DataW H × List MemPlace), plainT P n t = true → DataW.trod enc P w 0 spare held fuel t cs = some x →
     cs.length = tsz P t ∧ (∀ (j : Nat) (u : Value), cs[j]? = some u → u.oneCell' = true) ∧ ∃ xs : List V, xs.length = cs.length ∧ (∀ (j : Nat) (u : Value) (v : V), cs[j]? = some u → xs[j]? = some v → Rep β w (FzAll w) v u ∧ v.cells = [v]) ∧ HasL P n t xs) :
   ∀ (ps : List (Nat × TypeId)) (o : Nat), contig P ps o cs.length = true → (∀ p, p ∈ ps → plainT P n p.2 = true ∧ ∃ fuel x, DataW.trod enc P w 0 spare held fuel p.2 ((cs.drop p.1).take (tsz P p.2)) = some x) →
     o ≤ cs.length ∧ (∀ (j : Nat) (u : Value), cs[o + j]? = some u → u.oneCell' = true) ∧ ∃ xs : List V, xs.length = cs.length - o ∧ (∀ (j : Nat) (u : Value) (v : V), cs[o + j]? = some u → xs[j]? = some v → Rep β w (FzAll w) v u ∧ v.cells = [v]) ∧
       ∀ p, p ∈ ps → o ≤ p.1 ∧ HasL P n p.2 ((xs.drop (p.1 - o)).take (tsz P p.2))
 | [], o, h, _ => by
   simp only [contig, beq_iff_eq] at h
   subst h
   refine ⟨Nat.le_refl _, ?_, [], by simp, ?_, fun p hp => by cases hp⟩
   · intro j u hu
     rw [List.getElem?_eq_none (by omega)] at hu; cases hu
   · intro j u v hu
     rw [List.getElem?_eq_none (by omega)] at hu; cases hu
 | (o', t) :: ps, o, h, hp => by
   simp only [contig, Bool.and_eq_true, beq_iff_eq] at h
   obtain ⟨rfl, h⟩ := h
   obtain ⟨hpl, fuel, x, hx⟩ := hp (o', t) (by simp)
   dsimp only at hpl hx
   obtain ⟨g1, g2, xs1, g3, g4, g5⟩ := ih fuel t _ x hpl hx
   obtain ⟨k1, k2, xs2, k3, k4, k5⟩ := assemble ih ps (o' + tsz P t) h (fun p hp' => hp p (by simp [hp']))
   have hl1 : xs1.length = tsz P t := by rw [g3, g1]
   have hget : ∀ j, j < tsz P t → ((cs.drop o').take (tsz P t))[j]? = cs[o' + j]? := by
     intro j hj
     rw [List.getElem?_take, if_pos hj, List.getElem?_drop]
   refine ⟨by omega, ?_, xs1 ++ xs2, by simp; omega, ?_, ?_⟩
   · intro j u hu
     by_cases hj : j < tsz P t
     · exact g2 j u (by rw [hget j hj]; exact hu)
     · refine k2 (j - tsz P t) u ?_
       rw [← hu]; congr 1; omega
   · intro j u v hu hv
     by_cases hj : j < tsz P t
     · rw [List.getElem?_append_left (by omega)] at hv
       exact g4 j u v (by rw [hget j hj]; exact hu) hv
     · rw [List.getElem?_append_right (by omega), hl1] at hv
       refine k4 (j - tsz P t) u v ?_ hv
       rw [← hu]; congr 1; omega
   · intro p hp'
     rcases List.mem_cons.1 hp' with rfl | hp'
     · refine ⟨Nat.le_refl _, ?_⟩
       simp only [Nat.sub_self, List.drop_zero]
       rw [List.take_append_of_le_length (by omega), List.take_of_length_le (by omega)]
       exact g5
     · obtain ⟨m1, m2⟩ := k5 p hp'
       refine ⟨by omega, ?_⟩
       have : (xs1 ++ xs2).drop (p.1 - o') = xs2.drop (p.1 - (o' + tsz P t)) := by
         rw [List.drop_append, List.drop_of_length_le (by omega), List.nil_append]
         congr 1
         omega
       rw [this]
       exact m2
theorem trod_typed {β : Beta} : ∀ (n : Nat) (fuel : Nat) (t : TypeId) (cs : List Value) (x : DataW H × List MemPlace), plainT P n t = true → DataW.trod enc P w 0 spare held fuel t cs = some x →
   cs.length = tsz P t ∧ (∀ (j : Nat) (u : Value), cs[j]? = some u → u.oneCell' = true) ∧ ∃ xs : List V, xs.length = cs.length ∧ (∀ (j : Nat) (u : Value) (v : V), cs[j]? = some u → xs[j]? = some v → Rep β w (FzAll w) v u ∧ v.cells = [v]) ∧ HasL P n t xs
 | 0, _, _, _, _, h, _ => by simp [plainT] at h
 | n + 1, fuel, t, cs, x, h, ht => by
   have one : ∀ (u : Value) (v : V), cs = [u] → u.oneCell' = true → Rep β w (FzAll w) v u → v.cells = [v] → tsz P t = 1 → HasL P (n + 1) t [v] →
       cs.length = tsz P t ∧ (∀ (j : Nat) (u : Value), cs[j]? = some u → u.oneCell' = true) ∧ ∃ xs : List V, xs.length = cs.length ∧ (∀ (j : Nat) (u : Value) (v : V), cs[j]? = some u → xs[j]? = some v → Rep β w (FzAll w) v u ∧ v.cells = [v]) ∧ HasL P (n + 1) t xs := by
     rintro u v rfl h1 h2 h3 h4 h5
     refine ⟨by simp [h4], ?_, [v], rfl, ?_, h5⟩
     · intro j u' hj
       cases j with
       | zero => simp at hj; subst hj; exact h1
       | succ j => simp at hj
     · intro j u' v' hj hv
       cases j with
       | zero => simp at hj hv; subst hj hv; exact ⟨h2, h3⟩
       | succ j => simp at hj
   unfold plainT at h
   split at h
   · rename_i hu
     obtain ⟨b, rfl, _⟩ := DataW.trod_bool hu ht
     have hs : tsz P t = 1 := by simpa using h
     exact one _ (.bool b) rfl rfl (.bool b) rfl hs ⟨by simp [hs], by simp [knd, hu]⟩
   · rename_i k hu
     obtain ⟨i, rfl, _, hw⟩ := DataW.trod_int hu ht
     have hs : tsz P t = 1 := by simpa using h
     exact one _ (.int k i) rfl rfl (.int k i) rfl hs ⟨by simp [hs], by simpa [knd, hu] using hw⟩
   · rename_i hu
     obtain ⟨s, rfl, _, hw⟩ := DataW.trod_string hu ht
     have hs : tsz P t = 1 := by simpa using h
     refine one _ (.str s.data.toList) rfl rfl (.str s) rfl hs ⟨by simp [hs], ?_⟩
     simp only [knd, hu]
     exact ⟨_, rfl, by simpa using hw⟩
   · rename_i e hu
     simp only [Bool.and_eq_true, beq_iff_eq] at h
     obtain ⟨hs, he⟩ := h
     have hk : knd P t = .slice e := by simp [knd, hu]
     rcases DataW.trod_slice hu ht with ⟨rfl, _⟩ | ⟨a, len, cap, elems, rest, m, _, rfl, _, hb, hl, hm, hlen, hel, _, _⟩
     · refine one _ (.sl (tsz P e) []) rfl rfl (wk_nils _ _ _ _ _ .nils) rfl hs ⟨by simp [hs], ?_⟩
       rw [hk]
       exact ⟨[], rfl, by simp, fun v hv => by cases hv⟩
     · have hex : ∀ i, i < len → ∃ (cs' : List Value) (xs : List V), w.cells? 0 (a.add (i * P.cellsOf e)) (P.cellsOf e) = some cs' ∧ cs'.length = tsz P e ∧ (∀ (j : Nat) (u : Value), cs'[j]? = some u → u.oneCell' = true) ∧ xs.length = cs'.length ∧
           (∀ (j : Nat) (u : Value) (v : V), cs'[j]? = some u → xs[j]? = some v → Rep β w (FzAll w) v u ∧ v.cells = [v]) ∧ HasL P n e xs := by
         intro i hi
         have h1 := hel i hi
         rw [List.getElem?_eq_getElem (by omega)] at h1
         obtain ⟨cs', h2, h3⟩ := Option.bind_eq_some_iff.1 h1
         obtain ⟨h4, h5, xs, h6, h7, h8⟩ := trod_typed n _ _ _ _ he h3
         exact ⟨cs', xs, h2, h4, h5, h6, h7, h8⟩
       obtain ⟨f, hf⟩ := Go.Deep.choose_lt (α := List Value × List V) (p := fun i p => w.cells? 0 (a.add (i * P.cellsOf e)) (P.cellsOf e) = some p.1 ∧ p.1.length = tsz P e ∧ (∀ (j : Nat) (u : Value), p.1[j]? = some u → u.oneCell' = true) ∧ p.2.length = p.1.length ∧
           (∀ (j : Nat) (u : Value) (v : V), p.1[j]? = some u → p.2[j]? = some v → Rep β w (FzAll w) v u ∧ v.cells = [v]) ∧ HasL P n e p.2) (fun i hi => by
         obtain ⟨cs', xs, h⟩ := hex i hi
         exact ⟨(cs', xs), h⟩)
       have hec : ∀ i, i < len → (elV P e (f i).2).cells = (f i).2 := by
         intro i hi
         obtain ⟨h1, h2, h3, h4, h5, h6⟩ := hf i hi
         refine elV_cells (by omega) fun htg => ?_
         have htz : tsz P e = 1 := by
           cases n with
           | zero => exact h6.elim
           | succ n =>
             unfold plainT at he
             unfold tagg at htg
             split at he <;> simp_all
         obtain ⟨v, hv⟩ : ∃ v, (f i).2 = [v] := by
           match hm : (f i).2, (show (f i).2.length = 1 by omega) with
           | [v], _ => exact ⟨v, rfl⟩
         obtain ⟨u, hu⟩ : ∃ u, (f i).1 = [u] := by
           match hm : (f i).1, (show (f i).1.length = 1 by omega) with
           | [v], _ => exact ⟨v, rfl⟩
         exact ⟨v, hv, (h5 0 u v (by simp [hu]) (by simp [hv])).2⟩
       have hcell : ∀ i, i < len → ∀ (j : Nat) (u : Value), (f i).1[j]? = some u → w.cell? (a.add (i * tsz P e + j)) = some u := by
         intro i hi j u hu
         have h1 := (World.cells?_some (hf i hi).1).2
         have hj : j < P.cellsOf e := by rw [← h1.1]; exact (List.getElem?_eq_some_iff.1 hu).1
         have h2 := h1.2 j hj
         rw [addr_add, hu] at h2
         exact h2
       let es : List V := (List.range len).map fun i => elV P e (f i).2
       have hesl : es.length = len := by simp [es]
       have hes : ∀ i e', es[i]? = some e' → i < len ∧ e' = elV P e (f i).2 := by
         intro i e' h
         simp only [es, List.getElem?_map, Option.map_eq_some_iff] at h
         obtain ⟨k, h1, rfl⟩ := h
         have := List.getElem?_eq_some_iff.1 h1
         obtain ⟨h2, h3⟩ := this
         simp at h2 h3
         subst h3
         exact ⟨h2, rfl⟩
       refine one _ (.sl (tsz P e) es) rfl rfl ?_ rfl hs ⟨by simp [hs], ?_⟩
       · have hrep := Rep.sl (β := β) (w := w) (F := FzAll w) (tsz P e) es (some a) cap (fun q => (w.cell? (a.add q)).getD undef) (by omega) hm (by simp) ?_ ?_ ?_
         · rwa [hesl] at hrep
         · intro e' he'
           obtain ⟨i, hi⟩ := List.getElem?_of_mem he'
           obtain ⟨h1, rfl⟩ := hes i e' hi
           rw [hec i h1]
           have := hf i h1
           omega
         · intro i e' j c h1 h2
           obtain ⟨hi, rfl⟩ := hes i e' h1
           rw [hec i hi] at h2
           obtain ⟨g1, g2, g3, g4, g5, g6⟩ := hf i hi
           have hj : j < (f i).1.length := by rw [← g4]; exact (List.getElem?_eq_some_iff.1 h2).1
           have hu := List.getElem?_eq_getElem hj
           have hc := hcell i hi j _ hu
           refine ⟨a, rfl, by rw [← block_add a (i * tsz P e + j)]; exact cell_block hc, by rw [hc]; rfl, by rw [hc]; exact g3 j _ hu⟩
         · intro i e' j c h1 h2
           obtain ⟨hi, rfl⟩ := hes i e' h1
           rw [hec i hi] at h2
           obtain ⟨g1, g2, g3, g4, g5, g6⟩ := hf i hi
           have hj : j < (f i).1.length := by rw [← g4]; exact (List.getElem?_eq_some_iff.1 h2).1
           have hu := List.getElem?_eq_getElem hj
           have hc := hcell i hi j _ hu
           rw [hc]
           exact (g5 j _ _ hu h2).1
       · rw [hk]
         refine ⟨es, rfl, by omega, fun v hv => ?_⟩
         obtain ⟨i, hi⟩ := List.getElem?_of_mem hv
         obtain ⟨h1, rfl⟩ := hes i v hi
         exact ⟨_, rfl, (hf i h1).2.2.2.2.2⟩
   · rename_i fs hu
     simp only [Bool.and_eq_true, List.all_eq_true] at h
     obtain ⟨hp, hc⟩ := h
     obtain ⟨xs0, m, _, _, hlen, _, hf⟩ := DataW.trod_struct hu ht
     have hl : cs.length = tsz P t := hlen
     rw [← hl] at hc
     obtain ⟨_, h2, xs, h3, h4, h5⟩ := assemble (β := β) (fun fuel t cs x => trod_typed n fuel t cs x) _ 0 hc (fun p hp' => by
       obtain ⟨f, hf1, rfl⟩ := List.mem_map.1 hp'
       obtain ⟨i, hi⟩ := List.getElem?_of_mem hf1
       refine ⟨hp f hf1, m, ?_⟩
       have := hf i f (by simpa using hi)
       have h6 := (List.getElem?_eq_some_iff.1 hi).1
       rw [Array.length_toList] at h6
       obtain ⟨y, hy⟩ : ∃ y, xs0[i]? = some y := ⟨_, List.getElem?_eq_getElem (by omega)⟩
       exact ⟨y, by rw [hy] at this; exact this⟩)
     simp only [Nat.zero_add] at h2 h4
     refine ⟨hl, h2, xs, by omega, h4, by omega, ?_⟩
     have hk : knd P t = .strct := by simp [knd, hu]
     rw [hk]
     intro f off ty hfl
     simp only [fld, hu, Option.map_eq_some_iff, Prod.mk.injEq] at hfl
     obtain ⟨fi, h6, rfl, rfl⟩ := hfl
     have := (h5 (fi.offset, fi.type) (List.mem_map.2 ⟨fi, by simpa using Array.mem_of_getElem? h6, rfl⟩)).2
     simpa using this
   · rename_i m e hu
     simp only [Bool.and_eq_true] at h
     obtain ⟨hp, hc⟩ := h
     obtain ⟨xs0, q, _, _, hlen, hxl, hf⟩ := DataW.trod_array hu ht
     have hl : cs.length = tsz P t := hlen
     rw [← hl] at hc
     obtain ⟨_, h2, xs, h3, h4, h5⟩ := assemble (β := β) (fun fuel t cs x => trod_typed n fuel t cs x) _ 0 hc (fun p hp' => by
       obtain ⟨i, hi, rfl⟩ := List.mem_map.1 hp'
       have hi' : i < m := by simpa using hi
       refine ⟨hp, q, xs0[i], ?_⟩
       rw [← List.getElem?_eq_getElem (by omega)]
       exact hf i hi')
     simp only [Nat.zero_add] at h2 h4
     refine ⟨hl, h2, xs, by omega, h4, by omega, ?_⟩
     have hk : knd P t = .arr m e := by simp [knd, hu]
     rw [hk]
     intro i hi
     have := (h5 (i * tsz P e, e) (List.mem_map.2 ⟨i, by simpa using hi, rfl⟩)).2
     simpa using this
   · cases h
def TyArgs (P : Program) (n : Nat) : List TypeId → List V → Prop
 | [], [] => True
 | t :: ts, v :: vs => (∃ xs, v = elV P t xs ∧ HasL P n t xs) ∧ TyArgs P n ts vs
 | _, _ => False
theorem okWide_shape {n : Nat} {t : TypeId} {v : Value} {r : Reach} {base : Nat} (hp : plainT P n t = true) (h : Value.okWide P w r base t v) : (tagg P t = true → ∃ us, v = .agg us) ∧ (tagg P t = false → v.cells = #[v]) := by
 cases n with
 | zero => simp [plainT] at hp
 | succ n =>
   unfold plainT at hp
   have cell : (∀ cs, P.underlying t ≠ some (.struct cs)) → (∀ m e, P.underlying t ≠ some (.array m e)) → (P.underlying t = some .bool ∨ (∃ k, P.underlying t = some (.int k)) ∨ P.underlying t = some .string ∨ ∃ e, P.underlying t = some (.slice e)) →
       (tagg P t = true → ∃ us, v = .agg us) ∧ (tagg P t = false → v.cells = #[v]) := by
     rintro _ _ (hu | ⟨k, hu⟩ | hu | ⟨e, hu⟩)
     all_goals
       have htg : tagg P t = false := by simp [tagg, hu]
       refine ⟨fun h1 => (by rw [htg] at h1; cases h1), fun _ => ?_⟩
       unfold Value.okWide at h
       rw [hu] at h
       unfold Cell.okWide at h
       rw [hu] at h
       cases v <;> first | rfl | (simp [Cell.ok, hu] at h)
   have agg : (∃ us, v = .agg us) → tagg P t = true → (tagg P t = true → ∃ us, v = .agg us) ∧ (tagg P t = false → v.cells = #[v]) := fun h1 h2 => ⟨fun _ => h1, fun h3 => by rw [h2] at h3; cases h3⟩
   split at hp
   · rename_i hu; exact cell (by simp [hu]) (by simp [hu]) (.inl hu)
   · rename_i k hu; exact cell (by simp [hu]) (by simp [hu]) (.inr (.inl ⟨k, hu⟩))
   · rename_i hu; exact cell (by simp [hu]) (by simp [hu]) (.inr (.inr (.inl hu)))
   · rename_i e hu; exact cell (by simp [hu]) (by simp [hu]) (.inr (.inr (.inr ⟨e, hu⟩)))
   · rename_i fs hu
     unfold Value.okWide at h
     rw [hu] at h
     obtain ⟨cs, rfl, _⟩ := h
     exact agg ⟨cs, rfl⟩ (by simp [tagg, hu])
   · rename_i m e hu
     unfold Value.okWide at h
     rw [hu] at h
     obtain ⟨cs, rfl, _⟩ := h
     exact agg ⟨cs, rfl⟩ (by simp [tagg, hu])
   · cases hp
theorem args_typed {β : Beta} {n : Nat} {r : Reach} {base : Nat} : ∀ (ts : List TypeId) (args : List Value) (ds : List (DataW H)) (ps : List MemPlace), (∀ t, t ∈ ts → plainT P n t = true) → (∀ (j : Nat) (t : TypeId) (v : Value), ts[j]? = some t → args[j]? = some v → Value.okWide P w r base t v) →
   DataW.TrodAll enc P w 0 spare held ts args ds ps → ∃ vs : List V, vs.length = args.length ∧ args.length = ts.length ∧ ds.length = ts.length ∧ (∀ (i : Nat) (v : V) (u : Value), vs[i]? = some v → args[i]? = some u → Rep β w (FzAll w) v u) ∧ TyArgs P n ts vs
 | [], [], [], _, _, _, _ => ⟨[], rfl, rfl, rfl, fun i v u h => by simp at h, trivial⟩
 | t :: ts, u :: args, d :: ds, ps, hp, ho, h => by
   obtain ⟨p, q, ⟨fuel, h1⟩, h2, _⟩ := h
   have hpt := hp t (by simp)
   obtain ⟨g1, g2, xs, g3, g4, g5⟩ := trod_typed (β := β) n fuel t _ _ hpt h1
   obtain ⟨k1, k2⟩ := okWide_shape hpt (ho 0 t u rfl rfl)
   obtain ⟨vs, m1, m2, m3, m4, m5⟩ := args_typed ts args ds q (fun t ht => hp t (by simp [ht])) (fun j t v h3 h4 => ho (j + 1) t v (by simpa using h3) (by simpa using h4)) h2
   refine ⟨elV P t xs :: vs, by simp [m1], by simp [m2], by simp [m3], ?_, ⟨xs, rfl, g5⟩, m5⟩
   intro i v u' hv hu
   cases i with
   | succ i => exact m4 i v u' (by simpa using hv) (by simpa using hu)
   | zero =>
     simp at hv hu
     subst hv hu
     unfold elV
     by_cases ht : tagg P t = true
     · rw [if_pos ht]
       obtain ⟨us, rfl⟩ := k1 ht
       simp only [Value.cells] at g1 g2 g3 g4
       refine .agg xs us (by simpa using g3.symm) (fun i hi => ?_) (fun i c hc => ?_)
       · have hi' : i < us.size := by simpa [g3] using hi
         have := g2 i us[i] (by simp [hi'])
         simpa [hi'] using this
       · have hi' : i < us.size := by have := (List.getElem?_eq_some_iff.1 hc).1; simpa [g3] using this
         have := (g4 i us[i] c (by simp [hi']) hc).1
         simpa [hi'] using this
     · rw [if_neg ht]
       have hc := k2 (by simpa using ht)
       rw [hc] at g1 g2 g3 g4
       have hl : xs.length = 1 := by simpa using g3
       match xs, hl with
       | [x], _ => exact (g4 0 u x (by simp) (by simp)).1
 | [], _ :: _, _, _, _, _, h => by simp [DataW.TrodAll] at h
 | [], [], _ :: _, _, _, _, h => by simp [DataW.TrodAll] at h
 | _ :: _, [], _, _, _, _, h => by simp [DataW.TrodAll] at h
 | _ :: _, _ :: _, [], _, _, _, h => by simp [DataW.TrodAll] at h
theorem trodAll_below (hl : laidOutB P = true) {W W' : World} (hb : Below W.heap.size W W') : ∀ {ts : List TypeId} {vs : List Value} {ds : List (DataW H)} {ps : List MemPlace} {sp : Nat → Bool}, (∀ t, t ∈ ts → P.readableRec t = true ∧ t < P.types.size) → (∀ x ∈ ps, x.block < W.heap.size ∧ sp x.block = true) →
   DataW.TrodAll enc P W 0 (fun _ => true) true ts vs ds ps → DataW.TrodAll enc P W' 0 sp true ts vs ds ps
 | [], [], [], _, _, _, _, h => h
 | t :: ts, v :: vs, d :: ds, ps, sp, ht, hp, h => by
   obtain ⟨p, q, h1, h2, rfl⟩ := h
   obtain ⟨g1, g2⟩ := ht t (by simp)
   exact ⟨p, q, WideElems.Trod_stays hl g1 g2 h1 (fun x hx => hb.same (hp x (by simp [hx])).1) (fun x hx => (hp x (by simp [hx])).2), trodAll_below hl hb (fun t ht' => ht t (by simp [ht'])) (fun x hx => hp x (by simp [hx])) h2, rfl⟩
 | [], _ :: _, _, _, _, _, _, h => by simp [DataW.TrodAll] at h
 | [], [], _ :: _, _, _, _, _, h => by simp [DataW.TrodAll] at h
 | _ :: _, [], _, _, _, _, _, h => by simp [DataW.TrodAll] at h
 | _ :: _, _ :: _, [], _, _, _, _, h => by simp [DataW.TrodAll] at h
theorem HasL.int {n : Nat} {t : TypeId} {k : IntKind} {xs : List V} (hk : knd P t = .int k) (h : HasL P n t xs) : ∃ i, xs = [.int k i] ∧ (Lit.int k i).wf = true := by
 cases n with
 | zero => exact h.elim
 | succ n => obtain ⟨_, h⟩ := h; rw [hk] at h; exact h
theorem HasL.bool {n : Nat} {t : TypeId} {xs : List V} (hk : knd P t = .bool) (h : HasL P n t xs) : ∃ b, xs = [.bool b] := by
 cases n with
 | zero => exact h.elim
 | succ n => obtain ⟨_, h⟩ := h; rw [hk] at h; exact h
theorem HasL.str {n : Nat} {t : TypeId} {xs : List V} (hk : knd P t = .str) (h : HasL P n t xs) : ∃ s, xs = [.str s] ∧ s.length ≤ maxLen := by
 cases n with
 | zero => exact h.elim
 | succ n => obtain ⟨_, h⟩ := h; rw [hk] at h; exact h
theorem HasL.slice {α : Type} {r : α → V} {n : Nat} {t e : TypeId} {xs : List V} (hk : knd P t = .slice e) (h : HasL P (n + 1) t xs) (he : ∀ ys, HasL P n e ys → ∃ a, elV P e ys = r a) : ∃ l : List α, xs = [.sl (tsz P e) (l.map r)] ∧ l.length ≤ maxLen := by
 obtain ⟨_, h⟩ := h
 rw [hk] at h
 obtain ⟨es, rfl, hlen, h⟩ := h
 have : ∀ es : List V, (∀ v, v ∈ es → ∃ ys, v = elV P e ys ∧ HasL P n e ys) → ∃ l : List α, es = l.map r := by
   intro es
   induction es with
   | nil => intro _; exact ⟨[], rfl⟩
   | cons v es ih =>
     intro h
     obtain ⟨l, rfl⟩ := ih fun v hv => h v (by simp [hv])
     obtain ⟨ys, rfl, h2⟩ := h v (by simp)
     obtain ⟨a, ha⟩ := he ys h2
     exact ⟨a :: l, by simp [ha]⟩
 obtain ⟨l, rfl⟩ := this es h
 exact ⟨l, rfl, by simpa using hlen⟩
theorem HasL.fld {n : Nat} {t ty : TypeId} {f off : Nat} {xs : List V} (hk : knd P t = .strct) (h : HasL P (n + 1) t xs) (hf : Go.Pl.fld P t f = some (off, ty)) : HasL P n ty ((xs.drop off).take (tsz P ty)) := by
 obtain ⟨_, h⟩ := h
 rw [hk] at h
 exact h f off ty hf
theorem HasL.len {n : Nat} {t : TypeId} {xs : List V} (h : HasL P n t xs) : xs.length = tsz P t := by
 cases n with
 | zero => exact h.elim
 | succ n => exact h.1
theorem HasL.arr {n m i : Nat} {t e : TypeId} {xs : List V} (hk : knd P t = .arr m e) (h : HasL P (n + 1) t xs) (hi : i < m) : HasL P n e ((xs.drop (i * tsz P e)).take (tsz P e)) := by
 obtain ⟨_, h⟩ := h
 rw [hk] at h
 exact h i hi
theorem len2 {α : Type} {l : List α} (h : l.length = 2) : ∃ a b, l = [a, b] := by
 match l, h with
 | [a, b], _ => exact ⟨a, b, rfl⟩
theorem tyArgs2 {n : Nat} {t u : TypeId} {vs : List V} (h : TyArgs P n [t, u] vs) : ∃ xs ys, vs = [elV P t xs, elV P u ys] ∧ HasL P n t xs ∧ HasL P n u ys := by
 match vs, h with
 | [a, b], ⟨⟨xs, h1, h2⟩, ⟨ys, h3, h4⟩, _⟩ => exact ⟨xs, ys, by rw [h1, h3], h2, h4⟩
theorem elV_one {t : TypeId} {v : V} (h : tagg P t = false) : elV P t [v] = v := by simp [elV, h]
end
end Go.Pl

set_option linter.unusedVariables false
set_option linter.unusedSimpArgs false
namespace Go.Pl
open Go Go.RowKit
section
variable {P : Program} {β : Beta} {M : Off} {bx : Boxes} {w w' : World}
theorem below_ok (hok : WOk β M bx w) (hm : Mk bx) (hb : Below w.heap.size w w') : WOk β M bx w' ∧ Tr β bx w β bx w' := by
 have hsz := hb.size
 have hk : ∀ k, k < w.heap.size → w'.heap[k]? = w.heap[k]? := hb.block
 refine ⟨hok.grown hsz hok.fin (fun _ _ h => h) hk, ?_⟩
 have := Tr.grown hok (w' := { w' with drawn := w.drawn }) hb.os hb.tape hb.output (Nat.le_refl _) hsz (fun _ _ h => h) hk
 exact ⟨this.os, this.tape, this.output, fun hn => absurd hm hn, this.nomk, this.size, this.keep, this.shape, this.ext, this.news⟩
theorem upd_none {bx : Boxes} {b : Nat} (hb : bx b = none) : upd bx b none = bx := by
 funext c
 by_cases e : c = b
 · subst e; rw [upd_eq, hb]
 · rw [upd_ne _ _ e]
def litV : V → Option Value
 | .str s => some (.string ⟨s.toArray⟩)
 | .int k i => some (.int k i)
 | .bool b => some (.bool b)
 | _ => none
theorem lit_inv {c : V} {v u : Value} {F : Nat → Prop} (h : litV c = some v) (r : Rep β w F c u) : u = v := by
 cases c with
 | str s =>
   obtain ⟨x, rfl, rfl⟩ := r.str_inv
   simp only [litV, Option.some.injEq] at h
   rw [← h]
 | int k i =>
   simp only [litV, Option.some.injEq] at h
   rw [← h]; exact r.int_inv
 | bool b =>
   simp only [litV, Option.some.injEq] at h
   rw [← h]; cases r; rfl
 | _ => simp [litV] at h
theorem rep_str {F : Nat → Prop} (s : List UInt8) : Rep β w F (.str s) (.string ⟨s.toArray⟩) := by
 have := Rep.str (β := β) (w := w) (F := F) ⟨s.toArray⟩
 exact this
theorem lit_args {args : List V} {us : List Value} {F : Nat → Prop} {vs : Array Value} (ha : args.map litV = us.map some) (hvs : vs.size = args.length) (hrep : ∀ (i : Nat) (c : V), args[i]? = some c → Rep β w F c (vs.getD i undef)) : vs = us.toArray := by
 have hl : args.length = us.length := by have := congrArg List.length ha; simpa using this
 apply Array.ext
 · simp [hvs, hl]
 · intro i h1 h2
   have hi : i < args.length := by omega
   have h3 : (args.map litV)[i]? = (us.map some)[i]? := by rw [ha]
   rw [List.getElem?_map, List.getElem?_map, List.getElem?_eq_getElem hi, List.getElem?_eq_getElem (by omega)] at h3
   have h4 := lit_inv (by simpa using h3) (hrep i _ (List.getElem?_eq_getElem hi))
   rw [Array.getD_eq_getD_getElem?, Array.getElem?_eq_getElem h1] at h4
   simpa using h4
theorem lift_lits {f : FuncId} {args : List V} {r : V} {us : List Value} {u : Value} (hent : ∀ vs w, (callFunc f vs).run P w = .ok (.enter f vs) w) (ha : args.map litV = us.map some) (hr : ∀ β w F, Rep β w F r u) (hm : Mk bx)
   (hcon : ∀ w : World, Calls P f us.toArray w fun e w' => e = .returned u ∧ Below w.heap.size w w') : PureCall P f args bx r := by
 refine ⟨hent, fun β M w vs hok hgl hvs hrep => ?_⟩
 obtain rfl := lit_args ha hvs hrep
 refine (hcon w).mono ?_
 rintro e w' ⟨rfl, hb⟩
 obtain ⟨h1, h2⟩ := below_ok hok hm hb
 exact ⟨u, r, bx, β, rfl, ⟨rfl, rfl⟩, h1, h2, hr _ _ _⟩
theorem sl_bytes {l : List UInt8} {u : Value} {F : Nat → Prop} (r : Rep β w F (.sl 1 (l.map byteV)) u) : ∃ A cap, u = .slice A l.length cap ∧ ((A = none ∧ l = []) ∨ ∃ a, A = some a ∧ ∀ i, i < l.length → w.cell? (a.add i) = some (.int .u8 ((l.map fun b => (b.toNat : Int)).getD i 0))) := by
 generalize hE : l.map byteV = E at r
 cases r with
 | sl sz es A cap u hcap hmax hA hsz hc hr =>
   have hl : E.length = l.length := by rw [← hE]; simp
   refine ⟨A, cap, by rw [hl], ?_⟩
   cases A with
   | none =>
     left
     refine ⟨rfl, ?_⟩
     rcases l with _ | ⟨a, l⟩
     · rfl
     · exact absurd rfl (hA (by rw [← hE]; simp))
   | some a =>
     refine .inr ⟨a, rfl, fun i hi => ?_⟩
     have he : E[i]? = some (byteV l[i]) := by rw [← hE]; simp [hi]
     obtain ⟨a', ha, _, h1, _⟩ := hc i _ 0 (byteV l[i]) he rfl
     injection ha with ha
     subst ha
     have h2 := hr i _ 0 (byteV l[i]) he rfl
     simp only [Nat.mul_one, Nat.add_zero] at h1 h2
     have h3 : u i = .int .u8 l[i].toNat := h2.int_inv
     rw [h1, h3]
     simp [hi]
end
end Go.Pl

set_option linter.unusedVariables false
set_option linter.unusedSimpArgs false
namespace Go.Pl
open Go Go.RowKit Go.ChangeShapes Go.WideShapes Go.ChangeAt
def bxK : Boxes := fun b => if b = 0 then some (.row 0 0 []) else none
theorem mk_bxK : Mk bxK := ⟨0, 0, rfl⟩
section
variable {H : Type} {enc : TypeId × Value → H} {P : Program} {w : World} {spare : Nat → Bool} {held : Bool}
end
end Go.Pl

set_option linter.unusedVariables false
set_option linter.unusedSimpArgs false
namespace Go.Pl
open Go Go.RowKit Go.ChangeShapes Go.WideShapes Go.ChangeAt
def beT (g1 g2 : Nat) : Beta := fun b => if b = 0 then some none else if b = 1 then some (some g1) else if b = 2 then some (some g2) else none
section
variable {H : Type} {enc : TypeId × Value → H} {P : Program} {w : World} {spare : Nat → Bool} {held : Bool}
theorem tab_rep {g : Nat} {name : String} {k : IntKind} {zs : List Int} (hg : P.globalNamed name = some g) {W : World} (ht : Lib.TabIs P W name k zs) {β : Beta} {b : Nat} (hβ : β b = some (some g)) (hl : zs.length ≤ maxLen) :
   Rep β W (FzAll W) (.ep (.agg (zs.map (.int k))) 0) (.pointer (some ⟨g, 0, none⟩)) ∧ Rep β W (FzAll W) (.own b 1 0 zs.length) (.slice (some ⟨g, 0, none⟩) zs.length zs.length) := by
 unfold Lib.TabIs World.var? at ht
 rw [hg] at ht
 simp only [Option.bind_some] at ht
 cases hh : W.heap[g]? with
 | none => rw [hh] at ht; cases ht
 | some o =>
   rw [hh] at ht
   cases o with
   | cells cur ty fr =>
     simp only [Option.some.injEq] at ht
     have hlt : g < W.heap.size := (Array.getElem?_eq_some_iff.1 hh).1
     have hsz : cur.size = zs.length := by rw [ht]; simp
     have hcur : ∀ j, j < zs.length → cur[j]? = some (.int k (zs.getD j 0)) := by
       intro j hj
       rw [ht]
       simp [hj]
     have hadd : ∀ j, (⟨g, 0, none⟩ : Addr).add j = ⟨g, j, none⟩ := fun j => by unfold Addr.add; by_cases h : j = 0 <;> simp [h]
     constructor
     · have := Rep.ep (β := β) (w := W) (F := FzAll W) (.agg (zs.map (.int k))) 0 ⟨g, 0, none⟩ (fun j => .int k (zs.getD j 0)) (fun j c hc => ?_) (fun j c hc => ?_)
       · rw [hadd] at this; exact this
       · simp only [V.cells, List.getElem?_map, Option.map_eq_some_iff] at hc
         obtain ⟨i, hi, rfl⟩ := hc
         have hj : j < zs.length := (List.getElem?_eq_some_iff.1 hi).1
         exact ⟨_, rfl, hlt, by rw [hadd]; simp only [World.cell?, hh]; simpa using hcur j hj, rfl⟩
       · simp only [V.cells, List.getElem?_map, Option.map_eq_some_iff] at hc
         obtain ⟨i, hi, rfl⟩ := hc
         have : zs.getD j 0 = i := by simp [List.getD, hi]
         rw [this]
         exact .int _ _
     · have := Rep.own (β := β) (w := W) (F := FzAll W) b 1 0 zs.length g zs.length cur.size ty hβ (shape_of hh) (by omega) (Nat.le_refl _) (by simpa using hl)
       simpa using this
   | _ => simp at ht
theorem gl_two {g1 g2 : Nat} (h1 : P.globalNamed "internal/strconv.uint64pow10" = some g1) (h2 : P.globalNamed "math/bits.deBruijn64tab" = some g2) {W : World} (t1 : Lib.TabIs P W "internal/strconv.uint64pow10" .u64 Lib.pow10Tab)
   (t2 : Lib.TabIs P W "math/bits.deBruijn64tab" .u8 [0, 1, 56, 2, 57, 49, 28, 3, 61, 58, 42, 50, 38, 29, 17, 4, 62, 47, 59, 36, 45, 43, 51, 22, 53, 39, 33, 30, 24, 18, 12, 5, 63, 55, 48, 27, 60, 41, 37, 16, 46, 35, 44, 21, 52, 32, 23, 11, 54, 26, 40, 15, 34, 20, 31, 10, 25, 14, 19, 9, 13, 8, 7, 6]) : GlOk P (beT g1 g2) W (FzAll W) := by
 have r1 := tab_rep h1 t1 (β := beT g1 g2) (b := 1) rfl (by decide)
 have r2 := tab_rep h2 t2 (β := beT g1 g2) (b := 2) rfl (by decide)
 have e1 : (List.range 20).map (fun i => V.int .u64 ((10 ^ i : Nat) : Int)) = Lib.pow10Tab.map (.int .u64) := by unfold Lib.pow10Tab; rw [List.map_map]; rfl
 intro g
 unfold glV tabNames
 by_cases k1 : g = g1
 · subst k1
   rw [List.find?_cons_of_pos (by simpa using h1)]
   rw [e1]
   refine ⟨r1.1, fun vs hvs => ⟨1, ?_⟩⟩
   injection hvs with hvs _
   injection hvs with hvs
   subst hvs
   simpa using r1.2
 · rw [List.find?_cons_of_neg (by simp [h1]; exact fun e => k1 e.symm)]
   by_cases k2 : g = g2
   · subst k2
     rw [List.find?_cons_of_pos (by simpa using h2)]
     refine ⟨r2.1, fun vs hvs => ⟨2, ?_⟩⟩
     injection hvs with hvs _
     injection hvs with hvs
     subst hvs
     simpa using r2.2
   · rw [List.find?_cons_of_neg (by simp [h2]; exact fun e => k2 e.symm)]
     exact ⟨.unk _, fun vs h => by cases h⟩
theorem law_contractT {f : FuncId} {fn : Func} {s : ChangeSpec} {apart fresh handsOn again : Bool} {W : World} {args : Array Value} {ds gs : List (DataW H)} {before : List MemPlace} {base : Nat} {r : Reach} (n : Nat) {tb : TypeId}
   (hl : laidOutB P = true) (hts : (fn.params.toList.all fun t => plainT P n t && P.readableRec t && decide (t < P.types.size)) = true) (hv : s.vars = [])
   (hfn : ∀ ds : List (DataW H), ds.length = fn.params.toList.length → s.fn H (ds ++ []) = { results := [.lit (.bool true)], args := ds }) (hrt : fn.resultTypes = #[tb]) (htb : P.underlying tb = some .bool)
   (hval : ∀ (j : Nat) t v, fn.params[j]? = some t → args[j]? = some v → Value.okWide P W r base t v)
   (hW : DataW.Whole enc P fn.params.toList s.vars apart W args.toList ds gs before)
   {g1 g2 : Nat} (hgl : GlOk P (beT g1 g2) W (FzAll W))
   (hc : ∀ vs : List V, TyArgs P n fn.params.toList vs → AbsCall P f vs bxK fun r _ => r = .bool true) :
   Calls P f args W fun e W' => ∃ v, e = .returned v ∧ s.post enc P fn apart fresh handsOn again W args v W' := by
 have hW0 := hW
 obtain ⟨p, q, hA, hV, hpq, hfz, hnd⟩ := hW
 rw [hv] at hV
 have hgs : gs = [] ∧ q = [] := by
   cases gs with
   | nil => exact ⟨rfl, hV⟩
   | cons => simp [DataW.TrodVars] at hV
 obtain ⟨rfl, rfl⟩ := hgs
 rw [List.append_nil] at hpq
 subst hpq
 have hts' : ∀ t, t ∈ fn.params.toList → plainT P n t = true ∧ P.readableRec t = true ∧ t < P.types.size := by
   intro t ht
   have := List.all_eq_true.1 hts t ht
   simpa [Bool.and_eq_true, and_assoc] using this
 obtain ⟨vs, h1, h2, h3, h4, h5⟩ := args_typed (β := fun _ => none) (n := n) (r := r) (base := base) fn.params.toList args.toList ds before (fun t ht => (hts' t ht).1) (fun j t v a b => hval j t v (by simpa using a) (by simpa using b)) hA
 let M : Off := ⟨fun _ => none, W.heap.size⟩
 have hbx : ∀ b, bxK b ≠ none → b = 0 := fun b hb => by
   unfold bxK at hb
   split at hb
   · assumption
   · exact absurd rfl hb
 have hok : WOk (beT g1 g2) M bxK W := ⟨⟨3, fun b hb => by unfold beT; rw [if_neg (by omega), if_neg (by omega), if_neg (by omega)]⟩, fun k o h => (by cases h), fun b box h => (by
   have h0 := hbx b (by rw [h]; simp)
   subst h0
   have : box = .row 0 0 [] := by simpa [bxK] using h.symm
   subst this
   exact .inl ⟨rfl, rfl⟩), fun b b' k h h' _ _ => by rw [hbx b h, hbx b' h']⟩
 have hF : ∀ k, Fz (beT g1 g2) M bxK W k ↔ FzAll W k := fun k => ⟨fun h => h.1, fun h => ⟨h, rfl, fun b hb he => by
   have h0 := hbx b hb
   subst h0
   cases he⟩⟩
 have hlt := hA.lt
 refine ((hc vs h5).2 (beT g1 g2) M W args hok (hgl.imp fun _ _ hh => hh.mono (fun _ _ h => h) (fun k hk => ⟨(hF k).2 hk, rfl⟩) (fun _ _ h => h)) (by simpa using h1.symm) (fun i c hi => ?_)).mono ?_
 · have hi' : i < args.size := by have := (List.getElem?_eq_some_iff.1 hi).1; simpa [h1] using this
   have := h4 i c args[i] hi (by simp [hi'])
   have := this.mono (β' := (beT g1 g2)) (w' := W) (F' := Fz (beT g1 g2) M bxK W) (fun _ _ h => by cases h) (fun k hk => ⟨(hF k).2 hk, rfl⟩) (fun _ _ h => h)
   simpa [hi'] using this
 · rintro e W' ⟨v, r', bx', β', rfl, rfl, hok', htr, hrep⟩
   cases hrep
   have hb : Below W.heap.size W W' := ⟨htr.os, htr.tape, htr.output, htr.size, fun k hk => htr.keep k hk fun b hb he => by
     have h0 := hbx b hb
     subst h0
     cases he⟩
   refine ⟨_, rfl, ds, [], before, [], before, [], hW0, ?_, ?_, ?_, hb.frame _, fun _ => ?_⟩
   · rw [hfn ds h3, hrt]
     exact trodAll_cons_mk (⟨1, by simp [DataW.trod, Value.cells, htb]⟩ : DataW.Trod enc P _ _ _ _ _ (.bool true) (.lit (.bool true)) []) trodAll_mk0
   · rw [hfn ds h3]
     exact trodAll_below hl hb (fun t ht => (hts' t ht).2) (fun x hx => ⟨hlt x hx, by simpa using hlt x hx⟩) hA
   · rw [hv]
     have : (s.fn H (ds ++ [])).vars = [] := by rw [hfn ds h3]
     rw [this]; rfl
   · refine ⟨RowKit.ok_one hrt rfl (RowKit.okWide_bool_mk htb _), _, [], [] ++ before, ⟨[] ++ before, [], trodAll_append (trodAll_below hl hb (fun t ht => (hts' t ht).2) (fun x hx => ⟨hlt x hx, rfl⟩) hA) (ds := [.lit (.bool true)]) (p := []) ?_, ?_, by simp, ?_, ?_⟩, ?_⟩
     · rw [hrt]; exact trodAll_cons_mk (⟨1, by simp [DataW.trod, Value.cells, htb]⟩ : DataW.Trod enc P _ _ _ _ _ (.bool true) (.lit (.bool true)) []) trodAll_mk0
     · rw [hv]; rfl
     · intro b off hp
       have hp' : MemPlace.cell b off ∈ before := by simpa using hp
       rw [hb.frozen (p := ⟨b, off, none⟩) (hlt _ hp')]
       exact hfz b off hp'
     · intro ha; simpa using hnd ha
     · intro p hp _; simpa using hp
end
end Go.Pl

set_option linter.unusedSimpArgs false
set_option linter.unusedVariables false
namespace Go.Pl
open Go
section
variable {P : Program}
theorem AbsCall.cov {f : FuncId} {args args' : List V} {bx bx' : Boxes} {Kc : V → Boxes → Prop} (he : Ext bx' bx) (hl : args.length = args'.length)
   (ha : ∀ (i : Nat) (c c' : V), args[i]? = some c → args'[i]? = some c' → c' = c ∨ ∃ d, Wk (frz bx bx' d c) c') (h : AbsCall P f args' bx' Kc) : AbsCall P f args bx Kc := by
 refine ⟨h.1, fun β M w vs hok hgl hvs hrep => ?_⟩
 have hs := he.sub
 refine (h.2 β M w vs (hok.sub hs) (hgl.imp fun _ _ hh => hs.rep hh) (hvs.trans hl) (fun i c' hc' => ?_)).mono ?_
 · have hi : i < args.length := by rw [hl]; exact (List.getElem?_eq_some_iff.1 hc').1
   have hc := List.getElem?_eq_getElem hi
   rcases ha i _ c' hc hc' with rfl | ⟨d, hd⟩
   · exact hs.rep (hrep i _ hc)
   · exact hd _ _ _ _ (frz_rep hok hs d _ _ (hrep i _ hc))
 · rintro e w' ⟨v, r, bx2, β2, rfl, hk, hok2, ht, hrep2⟩
   exact ⟨v, r, bx2, β2, rfl, hk, hok2, hs.tr.trans ht, hrep2⟩
theorem acc_frzB {bx bx' : Boxes} {e sz : Nat} {es : List V} {v : V} (h : Acc bx e sz es v bx') (hs : 0 < sz) : Wk (frz bx' bx 1 v) (.sl sz es) := by
 rcases h.is with ⟨rfl, rfl⟩ | ⟨b, hb0, rfl, hb⟩
 · exact wk_nils sz
 · rw [frz_own1 hb hb0 hs rfl]; exact Wk.refl _
theorem AbsCall.acc1 {f : FuncId} {bx bx' : Boxes} {e sz : Nat} {es : List V} {v : V} (h : Acc bx e sz es v bx') (hs : 0 < sz) {rest : List V} {Kc : V → Boxes → Prop} (hc : AbsCall P f (.sl sz es :: rest) bx Kc) : AbsCall P f (v :: rest) bx' Kc := by
 refine AbsCall.cov (args := v :: rest) (args' := .sl sz es :: rest) h.ext (by simp) (fun i c c' h1 h2 => ?_) hc
 match i, h1, h2 with
 | 0, h1, h2 =>
   simp at h1 h2
   subst h1 h2
   exact .inr ⟨1, acc_frzB h hs⟩
 | i + 1, h1, h2 =>
   simp at h1 h2
   rw [h1] at h2
   injection h2 with h2
   exact .inl h2.symm
end
end Go.Pl

set_option linter.unusedSimpArgs false
set_option linter.unusedVariables false
namespace Go.Pl
open Go
section
variable {P : Program} {β : Beta} {M : Off} {bx bx' : Boxes} {w : World}
theorem fzD (hd : ∀ b, bx' b ≠ none → bx b ≠ none) {k : Nat} (hk : Fz β M bx w k) : Fz β M bx' w k := by
 obtain ⟨h1, h2, h3⟩ := hk
 exact ⟨h1, h2, fun b hb he => h3 b (hd b hb) he⟩
theorem repD (hd : ∀ b, bx' b ≠ none → bx b ≠ none) {v : V} {u : Value} (h : Rep β w (Fz β M bx w) v u) : Rep β w (Fz β M bx' w) v u :=
 h.mono (fun _ _ h => h) (fun k hk => ⟨fzD hd hk, rfl⟩) (fun _ _ h => h)
theorem frz_repD (hok : WOk β M bx w) (hd : ∀ b, bx' b ≠ none → bx b ≠ none) (d : Nat) : ∀ (v : V) (u : Value), Rep β w (Fz β M bx w) v u → Rep β w (Fz β M bx' w) (frz bx bx' d v) u := by
 induction d using Nat.strongRecOn with
 | _ d ih =>
   intro v u h
   cases d with
   | zero => simpa [frz] using (repD hd) h
   | succ d =>
     cases h with
     | own0 b sz hb =>
       simp only [frz]
       split
       · rename_i ty sz' es hb1 hb2
         split
         · rename_i hh
           have := Rep.sl (β := β) (w := w) (F := Fz β M bx' w) sz [] none 0 (fun _ => undef) (Nat.le_refl _) (by simp) (fun h => absurd rfl h) (fun e he => by cases he) (fun i e j c he => by simp at he) (fun i e j c he => by simp at he)
           simpa using this
         · exact .unk _
       · exact .unk _
     | own b sz o n k cap m ty hb hsh hm hn hmax =>
       simp only [frz]
       split
       · rename_i ty' sz' es hb1 hb2
         split
         · rename_i hh
           obtain ⟨e1, hpos, hle⟩ := hh
           subst e1
           rcases hok.live b _ hb1 with ⟨h1, _⟩ | ⟨k', h1, hklt, hM, cur, fr, hcur, hfr, hcl, hrow⟩
           · rw [hb] at h1; cases h1
           · rw [hb] at h1
             injection h1 with h1
             injection h1 with h1
             subst h1
             have hlen : (((es.drop o).take n).map (frz bx bx' d)).length = n := by simp; omega
             have hFk : Fz β M bx' w k := by
               refine ⟨hklt, hM, fun q hq he => ?_⟩
               have hqb : bx q ≠ none := hd _ hq
               have := hok.inj q b k hqb (by rw [hb1]; simp) he hb
               subst this
               exact hq hb2
             have hget : ∀ i e', (((es.drop o).take n).map (frz bx bx' d))[i]? = some e' → ∃ e, es[o + i]? = some e ∧ i < n ∧ e' = frz bx bx' d e := by
               intro i e' he
               rw [List.getElem?_map, List.getElem?_take] at he
               split at he
               · rename_i hi
                 rw [List.getElem?_drop] at he
                 simp only [Option.map_eq_some_iff] at he
                 obtain ⟨e, h5, rfl⟩ := he
                 exact ⟨e, h5, hi, rfl⟩
               · simp at he
             have hres := Rep.sl (β := β) (w := w) (F := Fz β M bx' w) sz (((es.drop o).take n).map (frz bx bx' d)) (some ⟨k, o * sz, none⟩) cap (fun m => cur.getD (o * sz + m) undef) (by rw [hlen]; exact hn) (by omega) (fun _ h => by cases h)
               (fun e' he => by
                 obtain ⟨i, hi⟩ := List.mem_iff_getElem?.1 he
                 obtain ⟨e, h5, _, rfl⟩ := hget i e' hi
                 rw [(frz_cells bx bx' d e).1]
                 exact (hrow _ e h5).1)
               (fun i e' j c he hc => by
                 obtain ⟨e, h5, hi, rfl⟩ := hget i e' he
                 obtain ⟨c0, d', _, h6, _⟩ := (frz_cells bx bx' d e).2 j c hc
                 obtain ⟨h7, h8⟩ := hrow _ e h5
                 have hj : j < sz := by have := (List.getElem?_eq_some_iff.1 h6).1; omega
                 have h9 := (h8 j c0 h6).1
                 have e2 : (o + i) * sz + j = o * sz + (i * sz + j) := by rw [Nat.add_mul]; omega
                 rw [e2] at h9
                 have hb' : o * sz + (i * sz + j) < cur.size := by
                   have : (o + i + 1) * sz ≤ es.length * sz := Nat.mul_le_mul_right _ (List.getElem?_eq_some_iff.1 h5).1
                   rw [Nat.succ_mul] at this
                   omega
                 refine ⟨_, rfl, hFk, ?_, h9⟩
                 rw [add_lit, cell_of_row w k _ cur ty' fr hcur]
                 simp [hb'])
               (fun i e' j c he hc => by
                 obtain ⟨e, h5, hi, rfl⟩ := hget i e' he
                 obtain ⟨c0, d', hd', h6, rfl⟩ := (frz_cells bx bx' d e).2 j c hc
                 have h9 := ((hrow _ e h5).2 j c0 h6).2
                 have e2 : (o + i) * sz + j = o * sz + (i * sz + j) := by rw [Nat.add_mul]; omega
                 rw [e2] at h9
                 exact ih d' (by omega) c0 _ h9)
             rw [hlen] at hres
             exact hres
         · exact .unk _
       · exact .unk _
     | agg cs us hl h1 hr =>
       simp only [frz]
       refine .agg _ _ (by simpa using hl) (fun i hi => h1 i (by simpa using hi)) (fun i c hc => ?_)
       rw [List.getElem?_map] at hc
       simp only [Option.map_eq_some_iff] at hc
       obtain ⟨c', hc', rfl⟩ := hc
       exact ih d (Nat.lt_succ_self _) c' _ (hr i c' hc')
     | tup cs us hl hr =>
       simp only [frz]
       refine .tup _ _ (by simpa using hl) (fun i c hc => ?_)
       rw [List.getElem?_map] at hc
       simp only [Option.map_eq_some_iff] at hc
       obtain ⟨c', hc', rfl⟩ := hc
       exact ih d (Nat.lt_succ_self _) c' _ (hr i c' hc')
     | iface t v u h =>
       simp only [frz]
       exact .iface t _ u (ih d (Nat.lt_succ_self _) v u h)
     | unk => exact .unk _
     | int => exact .int _ _
     | bool => exact .bool _
     | str => exact .str _
     | nils => exact .nils
     | sl sz es A cap u0 h1 h2 h3 h4 h5 h6 => exact (repD hd) (.sl sz es A cap u0 h1 h2 h3 h4 h5 h6)
     | ptr b sz i o k hb =>
       simp only [frz]
       split
       · rename_i ty' sz' es hb1 hb2
         split
         · rename_i hh
           obtain ⟨e1, hi⟩ := hh
           subst e1
           rcases hok.live b _ hb1 with ⟨h1, _⟩ | ⟨k', h1, hklt, hM, cur, fr, hcur, hfr, hcl, hrow⟩
           · rw [h1] at hb; cases hb
           · rw [hb] at h1; injection h1 with h1; injection h1 with h1; subst h1
             have he := List.getElem?_eq_getElem hi
             have hg : es.getD i .unk = es[i] := by simp [List.getD, he]
             rw [hg]
             obtain ⟨hlen, hcs⟩ := hrow i _ he
             have hFk : Fz β M bx' w k := by
               refine ⟨hklt, hM, fun q hq he => ?_⟩
               have hq' : bx q ≠ none := hd _ hq
               have := hok.inj q b k hq' (by rw [hb1]; simp) he hb
               subst this
               exact hq hb2
             have hres := Rep.ep (β := β) (w := w) (F := Fz β M bx' w) (frz bx bx' d es[i]) o ⟨k, i * sz, none⟩ (fun j => cur.getD (i * sz + j) undef)
               (fun j c hc => by
                 obtain ⟨c0, d', _, h6, _⟩ := (frz_cells bx bx' d es[i]).2 j c hc
                 have hj : j < sz := by have := (List.getElem?_eq_some_iff.1 h6).1; omega
                 have h9 := (hcs j c0 h6).1
                 have hb' : i * sz + j < cur.size := by
                   have : (i + 1) * sz ≤ es.length * sz := Nat.mul_le_mul_right _ hi
                   rw [Nat.succ_mul] at this
                   omega
                 refine ⟨_, rfl, hFk, ?_, h9⟩
                 rw [add_lit, cell_of_row w k _ cur ty' fr hcur]
                 simp [hb'])
               (fun j c hc => by
                 obtain ⟨c0, d', hd', h6, rfl⟩ := (frz_cells bx bx' d es[i]).2 j c hc
                 exact ih d' (by omega) c0 _ (hcs j c0 h6).2)
             rw [add_lit] at hres
             exact hres
         · exact .unk _
       · exact .ptr b sz i o k hb
     | ep e o a u0 h1 h2 => exact (repD hd) (.ep e o a u0 h1 h2)
     | nilp => exact .nilp
     | fn f caps us hl hr hy =>
       simp only [frz]
       refine .fn f _ _ (by simpa using hl) (fun i c hc => ?_) ?_
       · rw [List.getElem?_map] at hc
         simp only [Option.map_eq_some_iff] at hc
         obtain ⟨c', hc', rfl⟩ := hc
         exact ih d (Nat.lt_succ_self _) c' _ (hr i c' hc')
       · intro g r hf he
         rcases caps with _ | ⟨c, _ | ⟨c2, cs⟩⟩
         · simp at he
         · exact hy g c hf rfl
         · simp at he
     | bm f r u h =>
       simp only [frz, List.map_cons, List.map_nil]
       exact .bm f _ _ (ih d (Nat.lt_succ_self _) r _ h)
     | nilf => exact .nilf
     | nili => exact .nili
     | mp b k hb => exact .mp b k hb
     | nilm => exact .nilm
     | dead v => exact .dead v
     | yl b k hb => exact .yl b k hb
theorem AbsCall.thaw {f : FuncId} {args : List V} {bx bx' : Boxes} {Kc : V → Boxes → Prop} {br : Nat} {ty : TypeId} {sz : Nat} {cs : List V} (hs : 0 < sz) (hb : bx br = some (.row ty sz [.agg cs]))
   (hb' : bx' br = some (.row ty sz [.agg (cs.map (frz bx bx' 1))])) (ho : ∀ b, b ≠ br → bx' b = none ∨ bx' b = bx b) (h : AbsCall P f args bx' Kc) : AbsCall P f args bx Kc := by
 have hd : ∀ b, bx' b ≠ none → bx b ≠ none := fun b hne => by
   by_cases e : b = br
   · subst e; rw [hb]; simp
   · rcases ho b e with h1 | h1
     · exact absurd h1 hne
     · rw [← h1]; exact hne
 refine ⟨h.1, fun β M w vs hok hgl hvs hrep => ?_⟩
 have hok' : WOk β M bx' w := by
   refine ⟨hok.fin, hok.mlt, fun b box hbox => ?_, fun b1 b2 k h1 h2 h3 h4 => hok.inj b1 b2 k (hd _ h1) (hd _ h2) h3 h4⟩
   by_cases e : b = br
   · subst e
     rw [hb'] at hbox
     injection hbox with hbox
     subst hbox
     rcases hok.live b _ hb with ⟨_, h1⟩ | ⟨k, h1, h2, h3, cur, fr, g1, g2, g3, g4⟩
     · simp [Box.empty] at h1
     · refine .inr ⟨k, h1, h2, h3, cur, fr, g1, g2, by simpa using g3, fun i e he => ?_⟩
       rcases i with _ | i
       · simp at he
         subst he
         obtain ⟨a1, a2⟩ := g4 0 _ rfl
         refine ⟨by simpa [V.cells] using a1, fun j c hc => ?_⟩
         simp only [V.cells, List.getElem?_map, Option.map_eq_some_iff] at hc
         obtain ⟨c0, hc0, rfl⟩ := hc
         obtain ⟨b1, b2⟩ := a2 j c0 hc0
         exact ⟨b1, frz_repD hok hd 1 _ _ b2⟩
       · simp at he
   · rcases ho b e with h1 | h1
     · rw [h1] at hbox; cases hbox
     · rw [h1] at hbox
       rcases hok.live b box hbox with h2 | ⟨k, h2, h3, h4, h5⟩
       · exact .inl h2
       · exact .inr ⟨k, h2, h3, h4, boxAt_mono h5 rfl (fun _ _ h => h) (fun k hk => ⟨fzD hd hk, rfl⟩) (fun _ _ h => h)⟩
 have htr : Tr β bx w β bx' w := by
   refine ⟨rfl, rfl, rfl, fun _ => Nat.le_refl _, fun ⟨b, ty, h1⟩ => ⟨b, ty, ?_⟩, Nat.le_refl _, fun _ _ _ => rfl, fun _ _ h => h, fun _ _ h => h, fun b k h1 h2 => .inl ⟨b, hd b h1, h2⟩⟩
   by_cases e : b = br
   · subst e
     rw [hb'] at h1
     simp at h1
   · rcases ho b e with h2 | h2
     · rw [h2] at h1; cases h1
     · rw [← h2]; exact h1
 refine (h.2 β M w vs hok' (hgl.imp fun _ _ hh => repD hd hh) hvs (fun i c hc => repD hd (hrep i c hc))).mono ?_
 rintro e w' ⟨v, r, bx2, β2, rfl, hk, hok2, ht, hrep2⟩
 exact ⟨v, r, bx2, β2, rfl, hk, hok2, htr.trans ht, hrep2⟩
end
end Go.Pl

set_option linter.unusedSimpArgs false
set_option linter.unusedVariables false
namespace Go.Pl
open Go
section
variable {P : Program}
def mkOf (bx : Boxes) : Boxes := fun b => match bx b with
 | some (.row ty 0 []) => some (.row ty 0 [])
 | _ => none
theorem mkOf_some {bx : Boxes} {b : Nat} (h : mkOf bx b ≠ none) : ∃ ty, bx b = some (.row ty 0 []) ∧ mkOf bx b = some (.row ty 0 []) := by
 unfold mkOf at h ⊢
 split at h
 · rename_i ty e
   exact ⟨ty, e, rfl⟩
 · exact absurd rfl h
theorem mkOf_sub (bx : Boxes) : SubBx bx (mkOf bx) := fun b => by
 by_cases h : mkOf bx b = none
 · exact .inl h
 · obtain ⟨ty, h1, h2⟩ := mkOf_some h
   exact .inr (.inl (h2.trans h1.symm))
theorem mk_mkOf {bx : Boxes} (h : Mk bx) : Mk (mkOf bx) := by
 obtain ⟨b, ty, hb⟩ := h
 exact ⟨b, ty, by unfold mkOf; rw [hb]; rfl⟩
theorem mkOf_row {bx : Boxes} {b : Nat} {ty : TypeId} {sz : Nat} {es : List V} (h : bx b = some (.row ty sz es)) (hs : 0 < sz) : mkOf bx b = none := by
 unfold mkOf
 rw [h]
 split
 · rename_i e
   injection e with e
   injection e with _ e _
   omega
 · rfl
theorem PureCall.frameM {f : FuncId} {args args' : List V} {bx : Boxes} {r : V} (d : Nat) (h : PureCall P f args' (mkOf bx) r) (ha : args' = args.map (frz bx (mkOf bx) d))
   (hr : ∀ {β β' : Beta} {w w' : World} {F F' : Nat → Prop} {u : Value}, Rep β w F r u → Rep β' w' F' r u) : PureCall P f args bx r := by
 subst ha
 refine ⟨h.1, fun β M w vs hok hgl hsz hargs => ?_⟩
 have hs := mkOf_sub bx
 refine (h.2 β M w vs (hok.sub hs) (hgl.imp fun _ _ hh => hs.rep hh) (by simpa using hsz) fun i c hc => ?_).mono ?_
 · rw [List.getElem?_map, Option.map_eq_some_iff] at hc
   obtain ⟨c0, hc0, rfl⟩ := hc
   exact frz_rep hok hs d _ _ (hargs i c0 hc0)
 · rintro e w' ⟨v, r', bx', β', h1, ⟨rfl, rfl⟩, hok', htr, hrep⟩
   have hb : ∀ b k, bx b ≠ none → β' b = some (some k) → β b = some (some k) := by
     intro b k hb hk
     obtain ⟨box, hbox⟩ := Option.ne_none_iff_exists'.1 hb
     rcases hok.live b box hbox with ⟨h2, _⟩ | ⟨k', h2, _⟩
     · rw [htr.ext b _ h2] at hk; cases hk
     · rw [htr.ext b _ h2] at hk; rw [h2, hk]
   have hdom : ∀ b, mkOf bx b ≠ none → bx b ≠ none := fun b h2 => by
     obtain ⟨ty, h3, _⟩ := mkOf_some h2
     rw [h3]; simp
   have htr' : Tr β bx w β' bx w' := ⟨htr.os, htr.tape, htr.output, fun hn => htr.drawn (fun ⟨b, ty, h2⟩ => by
     obtain ⟨ty', h3, _⟩ := mkOf_some (bx := bx) (b := b) (by rw [h2]; simp)
     exact hn ⟨b, ty', h3⟩), fun h => h, htr.size, fun k hk h2 => htr.keep k hk (fun b hb => h2 b (hdom b hb)), htr.shape, htr.ext, fun b k h1 h2 => .inl ⟨b, h1, hb b k h1 h2⟩⟩
   refine ⟨v, r', bx, β', h1, ⟨rfl, rfl⟩, ?_, htr', hr hrep⟩
   refine ⟨hok'.fin, hok'.mlt, fun b box hbox => ?_, fun b b' k h1 h2 h3 h4 => hok.inj b b' k h1 h2 (hb b k h1 h3) (hb b' k h2 h4)⟩
   by_cases hmk : mkOf bx b = none
   · rcases hok.live b box hbox with ⟨h2, h3⟩ | ⟨k, h2, h3, h4, h5⟩
     · exact .inl ⟨htr.ext b _ h2, h3⟩
     · refine .inr ⟨k, htr.ext b _ h2, Nat.lt_of_lt_of_le h3 htr.size, h4, ?_⟩
       refine boxAt_mono h5 (htr.keep k h3 (fun b' hb' he => ?_)) htr.ext (fun k' hk' => htr'.fz hk') htr.shape
       have : b' = b := hok.inj b' b k (hdom b' hb') (by rw [hbox]; simp) he h2
       subst this
       exact hb' hmk
   · obtain ⟨ty, h2, h3⟩ := mkOf_some hmk
     rw [h2] at hbox
     injection hbox with hbox
     subst hbox
     rcases hok'.live b _ h3 with ⟨h4, h5⟩ | ⟨k, h4, h5, h6, cur, fr, k1, k2, k3, k4⟩
     · exact .inl ⟨h4, h5⟩
     · exact .inr ⟨k, h4, h5, h6, cur, fr, k1, k2, k3, fun i e he => by simp at he⟩
end
end Go.Pl
