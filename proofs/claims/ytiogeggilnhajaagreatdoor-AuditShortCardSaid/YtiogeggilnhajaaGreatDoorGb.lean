/- Texts of the proof, put together: PlMa, PlMb, PlM, PlN, PlO, PlQ, PlR, PlS, PlFr, PlX, PlRa. -/
import Derived.Test.YtiogeggilnhajaaGreatDoorGa
import Derived.Maps.RangeRun
import Derived.Orders
import Derived.Still
import Derived.OrdersIn
import Derived.TacticsIn
import Derived.Sort.LoopGhostIn
import Derived.RangeFuncLeaves
import Derived.RangeFuncRecord
import Derived.RangeFuncIn
import Derived.RangeFuncSeq

set_option linter.unusedSimpArgs false
set_option linter.unusedVariables false
namespace Go.Pl
open Go
section
variable {P : Program} {β : Beta} {M : Off} {bx : Boxes} {w : World}
def MapRep (β : Beta) (w : World) (F : Nat → Prop) (es : List (V × V)) (ms : Array MapEntry) (clock : Nat) : Prop :=
 ms.size = es.length ∧
   (∀ (i : Nat) (m : MapEntry), ms[i]? = some m → m.born < clock ∧ ∀ j m', ms[j]? = some m' → m'.born = m.born → j = i) ∧
   ∀ (i : Nat) (x : V × V) (m : MapEntry), es[i]? = some x → ms[i]? = some m → Rep β w F x.1 m.key ∧ Rep β w F x.2 m.val
theorem mapRep_mono {β β' : Beta} {w w' : World} {F F' : Nat → Prop} {es : List (V × V)} {ms : Array MapEntry} {c : Nat} (h : MapRep β w F es ms c) (hβ : ∀ b x, β b = some x → β' b = some x) (hF : ∀ k, F k → F' k ∧ w'.heap[k]? = w.heap[k]?) (hs : ∀ k x, w.shape? k = some x → w'.shape? k = some x) : MapRep β' w' F' es ms c :=
 ⟨h.1, h.2.1, fun i x m h1 h2 => ⟨(h.2.2 i x m h1 h2).1.mono hβ hF hs, (h.2.2 i x m h1 h2).2.mono hβ hF hs⟩⟩
def mset (w : World) (k : Nat) (ms : Array MapEntry) (c : Nat) : World := { w with heap := w.heap.setIfInBounds k (.map ms c) }
theorem mset_other (w : World) (k k' : Nat) (ms : Array MapEntry) (c : Nat) (h : k' ≠ k) : (mset w k ms c).heap[k']? = w.heap[k']? := by
 simp [mset, Array.getElem?_setIfInBounds_ne (Ne.symm h)]
theorem mset_at {w : World} {k : Nat} {o : Obj} (ms : Array MapEntry) (c : Nat) (h : w.heap[k]? = some o) : (mset w k ms c).heap[k]? = some (.map ms c) := by
 have hk : k < w.heap.size := (Array.getElem?_eq_some_iff.1 h).1
 simp [mset, hk]
theorem write_map (h : WOk β M bx w) {b k : Nat} {es : List (V × V)} (hb : bx b = some (.map es)) (hβ : β b = some (some k)) {ms : Array MapEntry} {c : Nat} (hcur : w.heap[k]? = some (.map ms c))
   (ms' : Array MapEntry) (c' : Nat) (es' : List (V × V)) (hr : MapRep β w (Fz β M bx w) es' ms' c') :
   WOk β M (upd bx b (some (.map es'))) (mset w k ms' c') ∧ Tr β bx w β (upd bx b (some (.map es'))) (mset w k ms' c') := by
 have hk : ∀ k', k' ≠ k → (mset w k ms' c').heap[k']? = w.heap[k']? := fun k' hne => mset_other w k k' ms' c' hne
 have hkk := mset_at ms' c' hcur
 have hsz : (mset w k ms' c').heap.size = w.heap.size := by simp [mset]
 have hs : ∀ k' x, w.shape? k' = some x → (mset w k ms' c').shape? k' = some x := fun k' x hx => by
   by_cases e : k' = k
   · subst e
     simp [World.shape?, hcur] at hx
   · rw [shape_heap (hk k' e)]; exact hx
 have hdom : ∀ b', upd bx b (some (.map es')) b' ≠ none ↔ bx b' ≠ none := by
   intro b'
   by_cases e : b' = b
   · subst e; simp [upd_eq, hb]
   · rw [upd_ne _ _ e]
 have hF : ∀ k', Fz β M bx w k' → Fz β M (upd bx b (some (.map es'))) (mset w k ms' c') k' ∧ (mset w k ms' c').heap[k']? = w.heap[k']? := by
   rintro k' ⟨h1, h2, h3⟩
   refine ⟨⟨by rw [hsz]; exact h1, h2, fun b' hb' he => h3 b' ((hdom b').1 hb') he⟩, hk k' ?_⟩
   rintro rfl
   exact h3 b (by simp [hb]) hβ
 constructor
 · refine ⟨h.fin, fun k' o hM => (hk k' (fun e => by
     subst e
     rcases h.live b _ hb with ⟨h1, _⟩ | ⟨k2, h1, _, h3, _⟩
     · rw [hβ] at h1; cases h1
     · rw [hβ] at h1; injection h1 with h1; injection h1 with h1; subst h1
       rw [h3] at hM; cases hM)).trans (h.mlt k' o hM), fun b' box hb' => ?_, fun b1 b2 k' h1 h2 h3 h4 => h.inj b1 b2 k' ((hdom _).1 h1) ((hdom _).1 h2) h3 h4⟩
   by_cases e : b' = b
   · subst e
     rw [upd_eq] at hb'
     injection hb' with hb'
     subst hb'
     rcases h.live b' _ hb with ⟨h1, _⟩ | ⟨k', h1, h2, h3, _⟩
     · rw [hβ] at h1; cases h1
     · rw [hβ] at h1; injection h1 with h1; injection h1 with h1; subst h1
       exact .inr ⟨k, hβ, by rw [hsz]; exact h2, h3, ms', c', hkk, mapRep_mono hr (fun _ _ h => h) hF hs⟩
   · rw [upd_ne _ _ e] at hb'
     rcases h.live b' box hb' with ⟨h1, h2⟩ | ⟨k', h1, h2, h3, h4⟩
     · exact .inl ⟨h1, h2⟩
     · refine .inr ⟨k', h1, by rw [hsz]; exact h2, h3, boxAt_mono h4 (hk k' ?_) (fun _ _ h => h) hF hs⟩
       rintro rfl
       exact e (h.inj b' b k' (by simp [hb']) (by simp [hb]) h1 hβ)
 · refine ⟨rfl, rfl, rfl, fun _ => Nat.le_refl _, fun ⟨b', ty', hm⟩ => ?_, by rw [hsz]; exact Nat.le_refl _, fun k' h1 h2 => hk k' ?_, hs, fun _ _ h => h, fun b' k' h1 h2 => .inl ⟨b', (hdom b').1 h1, h2⟩⟩
   · by_cases e : b' = b
     · subst e
       rw [upd_eq] at hm
       injection hm with hm
       cases hm
     · exact ⟨b', ty', by rwa [upd_ne _ _ e] at hm⟩
   rintro rfl
   exact h2 b (by simp [hb]) hβ
theorem alloc_map (h : WOk β M bx w) {b : Nat} (hβ : β b = none) (hb : bx b = none) :
   WOk (upd β b (some (some w.heap.size))) M (upd bx b (some (.map []))) (w.alloc (.map #[] 0)) ∧
   Tr β bx w (upd β b (some (some w.heap.size))) (upd bx b (some (.map []))) (w.alloc (.map #[] 0)) := by
 have hext : ∀ b' x, β b' = some x → upd β b (some (some w.heap.size)) b' = some x := by
   intro b' x hx
   rw [upd_ne _ _ (by rintro rfl; rw [hβ] at hx; cases hx)]; exact hx
 have hk : ∀ k, k < w.heap.size → (w.alloc (.map #[] 0)).heap[k]? = w.heap[k]? := fun k hk => Go.RowKit.Below.heap_alloc w _ k hk
 have hs : ∀ k x, w.shape? k = some x → (w.alloc (.map #[] 0)).shape? k = some x := fun k x hx => by
   have := shape_lt hx
   rw [shape_heap (hk k this)]; exact hx
 have hF : ∀ k, Fz β M bx w k → Fz (upd β b (some (some w.heap.size))) M (upd bx b (some (.map []))) (w.alloc (.map #[] 0)) k ∧ (w.alloc (.map #[] 0)).heap[k]? = w.heap[k]? := by
   rintro k ⟨h1, h2, h3⟩
   refine ⟨⟨by simp; omega, h2, fun b' hb' he => ?_⟩, hk k h1⟩
   by_cases e : b' = b
   · subst e; rw [upd_eq] at he; injection he with he; injection he with he; omega
   · rw [upd_ne _ _ e] at he hb'
     exact h3 b' hb' he
 constructor
 · refine ⟨?_, fun k o hM => (hk k (h.mlt' hM)).trans (h.mlt k o hM), fun b' box hb' => ?_, fun b1 b2 k h1 h2 h3 h4 => ?_⟩
   · obtain ⟨n, hn⟩ := h.fin
     refine ⟨max n (b + 1), fun b' hb' => ?_⟩
     rw [upd_ne _ _ (by omega)]
     exact hn b' (by omega)
   · by_cases e : b' = b
     · subst e
       rw [upd_eq] at hb'
       injection hb' with hb'
       subst hb'
       exact .inr ⟨w.heap.size, upd_eq _ _ _, by simp, h.mnone (Nat.le_refl _), #[], 0, heap_alloc_new w _, rfl, fun i m hi => by simp at hi, fun i x m hi => by simp at hi⟩
     · rw [upd_ne _ _ e] at hb'
       rcases h.live b' box hb' with ⟨h1, h2⟩ | ⟨k, h1, h2, h3, h4⟩
       · exact .inl ⟨hext _ _ h1, h2⟩
       · exact .inr ⟨k, hext _ _ h1, by simp; omega, h3, boxAt_mono h4 (hk k h2) hext hF hs⟩
   · have old : ∀ b', b' ≠ b → upd bx b (some (.map [])) b' ≠ none → upd β b (some (some w.heap.size)) b' = some (some k) → β b' = some (some k) ∧ bx b' ≠ none ∧ k < w.heap.size := by
       intro b' hne hb' he
       rw [upd_ne _ _ hne] at hb' he
       refine ⟨he, hb', ?_⟩
       obtain ⟨box, hbox⟩ := Option.ne_none_iff_exists'.1 hb'
       rcases h.live b' box hbox with ⟨h5, _⟩ | ⟨k', h5, h6, _⟩
       · rw [h5] at he; cases he
       · rw [h5] at he; injection he with he; injection he with he; omega
     by_cases e1 : b1 = b <;> by_cases e2 : b2 = b
     · rw [e1, e2]
     · obtain ⟨_, _, h5⟩ := old b2 e2 h2 h4
       rw [e1, upd_eq] at h3; injection h3 with h3; injection h3 with h3; omega
     · obtain ⟨_, _, h5⟩ := old b1 e1 h1 h3
       rw [e2, upd_eq] at h4; injection h4 with h4; injection h4 with h4; omega
     · obtain ⟨h5, h6, _⟩ := old b1 e1 h1 h3
       obtain ⟨h7, h8, _⟩ := old b2 e2 h2 h4
       exact h.inj b1 b2 k h6 h8 h5 h7
 · refine ⟨rfl, rfl, rfl, fun _ => Nat.le_refl _, fun hm => Mk.of_upd hm (fun ty e => by cases e), by simp, fun k h1 _ => hk k h1, hs, hext, fun b' k h1 h2 => ?_⟩
   by_cases e : b' = b
   · subst e
     rw [upd_eq] at h2
     injection h2 with h2; injection h2 with h2
     exact .inr (by omega)
   · rw [upd_ne _ _ e] at h1 h2
     exact .inl ⟨b', h1, h2⟩
theorem Rs.newMap {st : St} {a : Act} (h : Rs P β M st a w) {K : St → Prop} {K' : Act → World → Prop} (hK : ∀ st' β' a' w', K st' → Rs P β' M st' a' w' → Tr β st.bx w β' st'.bx w' → K' a' w')
   {dst : Option Tmp} (hd : dstOk st dst) (hk : ∀ b, st.bx b = none → K ((st.box b (some (.map []))).put dst (.mp b))) :
   K' (a.put dst (.map (some w.heap.size))) (w.alloc (.map #[] 0)) := by
 obtain ⟨b, h1, h2⟩ := h.ok.fresh
 obtain ⟨h3, h4⟩ := alloc_map h.ok h1 h2
 refine hK _ _ _ _ (hk b h2) (((h.step h3 h4)).put (st := { st with bx := _ }) ?_ (.mp b _ (upd_eq _ _ _))) ?_
 · cases dst <;> exact hd
 · cases dst <;> exact h4
theorem findV_some {a : V} : ∀ {es : List (V × V)} {i j : Nat} {v : V}, findV a es i = some (some (j, v)) → i ≤ j ∧ ∃ e, es[j - i]? = some e ∧ e.2 = v ∧ sameK a e.1 = some true
 | [], i, j, v, h => by simp [findV] at h
 | e :: es, i, j, v, h => by
   rw [findV] at h
   cases hs : sameK a e.1 with
   | none => rw [hs] at h; cases h
   | some c =>
     rw [hs] at h
     cases c with
     | true =>
       simp only [Option.some.injEq, Prod.mk.injEq] at h
       obtain ⟨rfl, rfl⟩ := h
       exact ⟨Nat.le_refl _, e, by simp, rfl, hs⟩
     | false =>
       obtain ⟨h1, e', h2, h3⟩ := findV_some h
       refine ⟨by omega, e', ?_, h3⟩
       rw [show j - i = (j - (i + 1)) + 1 from by omega, List.getElem?_cons_succ]
       exact h2
theorem key_same {F : Nat → Prop} {a b : V} {ua ub : Value} (h : sameK a b = some true) (ra : Rep β w F a ua) (rb : Rep β w F b ub) : ub = ua ∧ Instr.sameBits 10000 ub ua = true := by
 unfold sameK at h
 split at h
 · split at h
   · rename_i hk
     subst hk
     have he := Option.some.inj h
     rw [beq_iff_eq] at he
     subst he
     rw [ra.int_inv, rb.int_inv]
     exact ⟨rfl, by simp [Instr.sameBits]⟩
   · cases h
 · obtain ⟨x, rfl, rfl⟩ := ra.str_inv
   obtain ⟨y, rfl, rfl⟩ := rb.str_inv
   have he := Option.some.inj h
   rw [beq_iff_eq] at he
   have hxy : y = x := by
     obtain ⟨⟨x⟩⟩ := x
     obtain ⟨⟨y⟩⟩ := y
     simp at he
     rw [he]
   subst hxy
   exact ⟨rfl, by unfold Instr.sameBits; exact (Go.MapKept.bytes_beq _ _).2 rfl⟩
 · have he := Option.some.inj h
   rw [beq_iff_eq] at he
   subst he
   cases ra; cases rb
   exact ⟨rfl, by simp [Instr.sameBits]⟩
 · cases h
theorem run_update {F : Nat → Prop} {t kt et : TypeId} {a v : V} {k u : Value} {r c : Nat} {ms : Array MapEntry} {es es' : List (V × V)} (ht : knd P t = .map kt et) (hk : keyV (knd P kt) a = true) (ra : Rep β w F a k) (rv : Rep β w F v u)
   (hb : w.heap[r]? = some (.map ms c)) (hm : MapRep β w F es ms c) (hp : mapPut a v es = some es') :
   ∃ ms' c', (Instr.mapUpdate t (.map (some r)) k u).run P w = .ok () (mset w r ms' c') ∧ MapRep β w F es' ms' c' := by
 obtain ⟨d, hd, _⟩ := key_und hk
 obtain ⟨h1, h2, h3⟩ := hm
 have hf := fun r h => find_now hk hd ra es ms.toList 0 r (by simp [h1]) (fun j x m g1 g2 => h3 j x m g1 (by simpa using g2)) h
 unfold mapPut at hp
 split at hp
 · rename_i i x hfi
   injection hp with hp
   subst hp
   rcases hf _ hfi with ⟨h4, _⟩ | ⟨j, v', u', h4, h5, _⟩
   · cases h4
   · injection h4 with h4
     injection h4 with h4 h4'
     subst h4 h4'
     obtain ⟨_, e, he1, _, he2⟩ := findV_some hfi
     rw [Nat.sub_zero] at he1
     have hil : i < es.length := (List.getElem?_eq_some_iff.1 he1).1
     have him : i < ms.size := by omega
     obtain ⟨r1, _⟩ := h3 i e ms[i] he1 (Array.getElem?_eq_getElem him)
     obtain ⟨g1, g2⟩ := key_same he2 ra r1
     refine ⟨ms.modify i fun e => { e with key := k, val := u }, c, ?_, by simp [h1], ?_, ?_⟩
     · unfold Instr.mapUpdate Instr.findKey Instr.keyThatStays
       simp [run_underlying (knd_map ht), Go.MapKept.run_getObj_map hb, run_checkKey hk, run_underlying hd, h5, Go.MapKept.run_setObj_map _ hb, him, g2, mset]
     · have hborn : ∀ (q : Nat) (m : MapEntry), (ms.modify i fun e => { e with key := k, val := u })[q]? = some m → ∃ m0, ms[q]? = some m0 ∧ m.born = m0.born := by
         intro q m hq
         rw [Array.getElem?_modify] at hq
         split at hq
         · cases hms : ms[q]? with
           | none => rw [hms] at hq; cases hq
           | some m0 => rw [hms] at hq; exact ⟨m0, rfl, by rw [← Option.some.inj hq]⟩
         · exact ⟨m, hq, rfl⟩
       intro q m hq
       obtain ⟨m0, hq0, hb0⟩ := hborn q m hq
       obtain ⟨g3, g4⟩ := h2 q m0 hq0
       refine ⟨by rw [hb0]; exact g3, fun q' m' hq' hbb => ?_⟩
       obtain ⟨m1, hq1, hb1⟩ := hborn q' m' hq'
       exact g4 q' m1 hq1 (by rw [← hb1, hbb, hb0])
     · intro q x m hx hq
       rw [Array.getElem?_modify] at hq
       by_cases e : i = q
       · subst e
         rw [List.getElem?_set_self hil] at hx
         rw [if_pos rfl, Array.getElem?_eq_getElem him] at hq
         obtain rfl := Option.some.inj hx
         obtain rfl := Option.some.inj hq
         exact ⟨ra, rv⟩
       · rw [if_neg e] at hq
         rw [List.getElem?_set_ne e] at hx
         exact h3 q x m hx hq
 · rename_i hfi
   injection hp with hp
   subst hp
   rcases hf _ hfi with ⟨_, h5⟩ | ⟨j, v', u', h4, _⟩
   · refine ⟨ms.push { key := k, val := u, born := c }, c + 1, ?_, by simp [h1], ?_, ?_⟩
     · unfold Instr.mapUpdate Instr.findKey
       simp [run_underlying (knd_map ht), Go.MapKept.run_getObj_map hb, run_checkKey hk, run_underlying hd, h5, Go.MapKept.run_setObj_map _ hb, mset]
     · have hpu : ∀ (q : Nat) (m : MapEntry), (ms.push { key := k, val := u, born := c })[q]? = some m → (ms[q]? = some m ∧ m.born < c) ∨ (q = ms.size ∧ m.born = c) := by
         intro q m hq
         rw [Array.getElem?_push] at hq
         split at hq
         · rename_i e; exact .inr ⟨e, by rw [← Option.some.inj hq]⟩
         · exact .inl ⟨hq, (h2 q m hq).1⟩
       intro q m hq
       rcases hpu q m hq with ⟨g1, g2⟩ | ⟨g1, g2⟩
       · refine ⟨by omega, fun q' m' hq' hbb => ?_⟩
         rcases hpu q' m' hq' with ⟨g3, _⟩ | ⟨_, g4⟩
         · exact (h2 q m g1).2 q' m' g3 hbb
         · omega
       · refine ⟨by omega, fun q' m' hq' hbb => ?_⟩
         rcases hpu q' m' hq' with ⟨_, g4⟩ | ⟨g3, _⟩
         · omega
         · omega
     · intro q x m hx hq
       rw [Array.getElem?_push] at hq
       split at hq
       · rename_i e
         subst e
         obtain rfl := Option.some.inj hq
         rw [h1, List.getElem?_append_right (Nat.le_refl _)] at hx
         simp at hx
         subst hx
         exact ⟨ra, rv⟩
       · rename_i e
         have hql := (Array.getElem?_eq_some_iff.1 hq).1
         rw [List.getElem?_append_left (by omega)] at hx
         exact h3 q x m hx hq
   · cases h4
 · cases hp
theorem run_delete {F : Nat → Prop} {t t2 ty kt et : TypeId} {a : V} {k : Value} {r c : Nat} {ms : Array MapEntry} {es es' : List (V × V)} (ht : knd P t = .map kt et) (hk : keyV (knd P kt) a = true) (ra : Rep β w F a k)
   (hb : w.heap[r]? = some (.map ms c)) (hm : MapRep β w F es ms c) (hp : mapDel a es = some es') :
   ∃ ms' c', (Builtin.delete_ #[t, t2] ty #[.map (some r), k]).run P w = .ok (.tuple #[]) (mset w r ms' c') ∧ MapRep β w F es' ms' c' := by
 obtain ⟨d, hd, _⟩ := key_und hk
 obtain ⟨h1, h2, h3⟩ := hm
 have hf := fun r h => find_now hk hd ra es ms.toList 0 r (by simp [h1]) (fun j x m g1 g2 => h3 j x m g1 (by simpa using g2)) h
 unfold mapDel at hp
 split at hp
 · rename_i i x hfi
   injection hp with hp
   subst hp
   rcases hf _ hfi with ⟨h4, _⟩ | ⟨j, v', u', h4, h5, _⟩
   · cases h4
   · injection h4 with h4
     injection h4 with h4 h4'
     subst h4 h4'
     obtain ⟨_, e, he1, _, he2⟩ := findV_some hfi
     rw [Nat.sub_zero] at he1
     have hil : i < es.length := (List.getElem?_eq_some_iff.1 he1).1
     have him : i < ms.size := by omega
     have hget : ∀ q : Nat, (ms.eraseIdxIfInBounds i)[q]? = ms[if q < i then q else q + 1]? := by
       intro q
       rw [← Array.getElem?_toList, Array.eraseIdxIfInBounds_eq, dif_pos him, Array.toList_eraseIdx, List.getElem?_eraseIdx]
       split <;> simp
     refine ⟨ms.eraseIdxIfInBounds i, c, ?_, ?_, ?_, ?_⟩
     · unfold Builtin.delete_ Instr.findKey
       simp [run_underlying (knd_map ht), Go.MapKept.run_getObj_map hb, run_checkKey hk, run_underlying hd, h5, Go.MapKept.run_setObj_map _ hb, mset]
     · rw [Array.eraseIdxIfInBounds_eq, dif_pos him, Array.size_eraseIdx, List.length_eraseIdx_of_lt hil, h1]
     · intro q m hq
       rw [hget] at hq
       refine ⟨(h2 _ m hq).1, fun q' m' hq' hbb => ?_⟩
       rw [hget] at hq'
       have := (h2 _ m hq).2 _ m' hq' hbb
       split at this <;> split at this <;> omega
     · intro q x m hx hq
       rw [hget] at hq
       rw [List.getElem?_eraseIdx] at hx
       split at hx
       · rename_i hlt
         rw [if_pos hlt] at hq
         exact h3 _ x m hx hq
       · rename_i hlt
         rw [if_neg hlt] at hq
         exact h3 _ x m hx hq
 · rename_i hfi
   injection hp with hp
   subst hp
   rcases hf _ hfi with ⟨_, h5⟩ | ⟨j, v', u', h4, _⟩
   · refine ⟨ms, c, ?_, h1, h2, h3⟩
     unfold Builtin.delete_ Instr.findKey
     simp [run_underlying (knd_map ht), Go.MapKept.run_getObj_map hb, run_checkKey hk, run_underlying hd, h5, Go.MapKept.run_setObj_map _ hb, mset]
   · cases h4
 · cases hp
theorem run_entry {F : Nat → Prop} {t kt et : TypeId} {a : V} {k z : Value} {r c : Nat} {ms : Array MapEntry} {es es1 : List (V × V)} {j : Nat} {v : V} (ht : knd P t = .map kt et) (hz : tzero P et = some z) (hk : keyV (knd P kt) a = true) (ra : Rep β w F a k)
   (hb : w.heap[r]? = some (.map ms c)) (hm : MapRep β w F es ms c) (hp : entIdx a (ofValue z) es = some (es1, j, v)) :
   ∃ ms' c' m u, (Instr.mapEntry t (.map (some r)) k).run P w = .ok (.tuple #[u, .int .i64 (m.born : Int)]) (mset w r ms' c') ∧ MapRep β w F es1 ms' c' ∧ ms'[j]? = some m ∧ Rep β w F v u := by
 obtain ⟨d, hd, _⟩ := key_und hk
 obtain ⟨h1, h2, h3⟩ := hm
 have hf := fun r h => find_now hk hd ra es ms.toList 0 r (by simp [h1]) (fun j x m g1 g2 => h3 j x m g1 (by simpa using g2)) h
 unfold entIdx at hp
 split at hp
 · rename_i i x hfi
   injection hp with hp
   injection hp with e1 e2
   injection e2 with e2 e3
   subst e1 e2 e3
   rcases hf _ hfi with ⟨h4, _⟩ | ⟨j, v', u', h4, h5, h6⟩
   · cases h4
   · injection h4 with h4
     injection h4 with h4 h4'
     subst h4 h4'
     obtain ⟨_, e, he1, he3, he2⟩ := findV_some hfi
     rw [Nat.sub_zero] at he1
     have hil : i < es.length := (List.getElem?_eq_some_iff.1 he1).1
     have him : i < ms.size := by omega
     obtain ⟨r1, r2⟩ := h3 i e ms[i] he1 (Array.getElem?_eq_getElem him)
     obtain ⟨g1, g2⟩ := key_same he2 ra r1
     refine ⟨ms.modify i fun e => { e with key := k }, c, { ms[i] with key := k }, u', ?_, ⟨by simp [h1], ?_, ?_⟩, ?_, h6.1⟩
     · unfold Instr.mapEntry Instr.findKey Instr.keyThatStays
       simp [run_underlying (knd_map ht), Go.MapKept.run_getObj_map hb, run_checkKey hk, run_underlying hd, h5, Go.MapKept.run_setObj_map _ hb, him, g2, mset, goInt]
     · have hborn : ∀ (q : Nat) (m : MapEntry), (ms.modify i fun e => { e with key := k })[q]? = some m → ∃ m0, ms[q]? = some m0 ∧ m.born = m0.born := by
         intro q m hq
         rw [Array.getElem?_modify] at hq
         split at hq
         · cases hms : ms[q]? with
           | none => rw [hms] at hq; cases hq
           | some m0 => rw [hms] at hq; exact ⟨m0, rfl, by rw [← Option.some.inj hq]⟩
         · exact ⟨m, hq, rfl⟩
       intro q m hq
       obtain ⟨m0, hq0, hb0⟩ := hborn q m hq
       obtain ⟨g3, g4⟩ := h2 q m0 hq0
       refine ⟨by rw [hb0]; exact g3, fun q' m' hq' hbb => ?_⟩
       obtain ⟨m1, hq1, hb1⟩ := hborn q' m' hq'
       exact g4 q' m1 hq1 (by rw [← hb1, hbb, hb0])
     · intro q x m hx hq
       rw [Array.getElem?_modify] at hq
       by_cases e : i = q
       · subst e
         rw [if_pos rfl, Array.getElem?_eq_getElem him] at hq
         obtain rfl := Option.some.inj hq
         rw [he1] at hx
         obtain rfl := Option.some.inj hx
         exact ⟨by rw [← g1]; exact r1, r2⟩
       · rw [if_neg e] at hq
         exact h3 q x m hx hq
     · rw [Array.getElem?_modify, if_pos rfl, Array.getElem?_eq_getElem him]
       rfl
 · rename_i hfi
   injection hp with hp
   injection hp with e1 e2
   injection e2 with e2 e3
   subst e1 e2 e3
   rcases hf _ hfi with ⟨_, h5⟩ | ⟨j, v', u', h4, _⟩
   · refine ⟨ms.push { key := k, val := z, born := c }, c + 1, { key := k, val := z, born := c }, z, ?_, ⟨by simp [h1], ?_, ?_⟩, ?_, rep_ofValue z⟩
     · unfold Instr.mapEntry Instr.findKey
       simp [run_underlying (knd_map ht), Go.MapKept.run_getObj_map hb, run_checkKey hk, run_underlying hd, h5, Go.MapKept.run_setObj_map _ hb, mset, goInt, run_zero_at hz]
     · have hpu : ∀ (q : Nat) (m : MapEntry), (ms.push { key := k, val := z, born := c })[q]? = some m → (ms[q]? = some m ∧ m.born < c) ∨ (q = ms.size ∧ m.born = c) := by
         intro q m hq
         rw [Array.getElem?_push] at hq
         split at hq
         · rename_i e; exact .inr ⟨e, by rw [← Option.some.inj hq]⟩
         · exact .inl ⟨hq, (h2 q m hq).1⟩
       intro q m hq
       rcases hpu q m hq with ⟨g1, g2⟩ | ⟨g1, g2⟩
       · refine ⟨by omega, fun q' m' hq' hbb => ?_⟩
         rcases hpu q' m' hq' with ⟨g3, _⟩ | ⟨_, g4⟩
         · exact (h2 q m g1).2 q' m' g3 hbb
         · omega
       · refine ⟨by omega, fun q' m' hq' hbb => ?_⟩
         rcases hpu q' m' hq' with ⟨_, g4⟩ | ⟨g3, _⟩
         · omega
         · omega
     · intro q x m hx hq
       rw [Array.getElem?_push] at hq
       split at hq
       · rename_i e
         subst e
         obtain rfl := Option.some.inj hq
         rw [h1, List.getElem?_append_right (Nat.le_refl _)] at hx
         simp at hx
         subst hx
         exact ⟨ra, rep_ofValue z⟩
       · rename_i e
         have hql := (Array.getElem?_eq_some_iff.1 hq).1
         rw [List.getElem?_append_left (by omega)] at hx
         exact h3 q x m hx hq
     · rw [← h1, Array.getElem?_push, if_pos rfl]
   · cases h4
 · cases hp
end
end Go.Pl

set_option linter.unusedSimpArgs false
set_option linter.unusedVariables false
namespace Go.Pl
open Go
section
variable {P : Program} {β : Beta} {M : Off} {bx : Boxes} {w : World}
theorem box_block (h : WOk β M bx w) {b k : Nat} {box : Box} (hb : bx b = some box) (hβ : β b = some (some k)) : k < w.heap.size ∧ M k = none ∧ BoxAt β w (Fz β M bx w) k box := by
 rcases h.live b box hb with ⟨h1, _⟩ | ⟨k', h1, h2, h3, h4⟩
 · rw [hβ] at h1; cases h1
 · rw [hβ] at h1; injection h1 with h1; injection h1 with h1; subst h1
   exact ⟨h2, h3, h4⟩
theorem re_box (h : WOk β M bx w) {b k : Nat} {box box' : Box} (hb : bx b = some box) (hβ : β b = some (some k)) {w' : World} (hos : w'.os = w.os) (htp : w'.tape = w.tape) (hou : w'.output = w.output) (hdr : w.drawn ≤ w'.drawn) (hsz : w'.heap.size = w.heap.size)
   (hko : ∀ k', k' ≠ k → w'.heap[k']? = w.heap[k']?) (hsh : w.shape? k = none) (hnm : ∀ ty, some box' ≠ some (.row ty 0 []))
   (hbox : ∀ F', (∀ k', Fz β M bx w k' → F' k' ∧ w'.heap[k']? = w.heap[k']?) → (∀ k x, w.shape? k = some x → w'.shape? k = some x) → BoxAt β w' F' k box') :
   WOk β M (upd bx b (some box')) w' ∧ Tr β bx w β (upd bx b (some box')) w' := by
 have hs : ∀ k' x, w.shape? k' = some x → w'.shape? k' = some x := fun k' x hx => by
   by_cases e : k' = k
   · subst e; rw [hsh] at hx; cases hx
   · rw [shape_heap (hko k' e)]; exact hx
 have hdom : ∀ b', upd bx b (some box') b' ≠ none ↔ bx b' ≠ none := by
   intro b'
   by_cases e : b' = b
   · subst e; simp [upd_eq, hb]
   · rw [upd_ne _ _ e]
 obtain ⟨hlt, hMk, _⟩ := box_block h hb hβ
 have hF : ∀ k', Fz β M bx w k' → Fz β M (upd bx b (some box')) w' k' ∧ w'.heap[k']? = w.heap[k']? := by
   rintro k' ⟨h1, h2, h3⟩
   refine ⟨⟨by rw [hsz]; exact h1, h2, fun b' hb' he => h3 b' ((hdom b').1 hb') he⟩, hko k' ?_⟩
   rintro rfl
   exact h3 b (by simp [hb]) hβ
 constructor
 · refine ⟨h.fin, fun k' o hM => (hko k' (fun e => by subst e; rw [hMk] at hM; cases hM)).trans (h.mlt k' o hM), fun b' bx2 hb' => ?_, fun b1 b2 k' h1 h2 h3 h4 => h.inj b1 b2 k' ((hdom _).1 h1) ((hdom _).1 h2) h3 h4⟩
   by_cases e : b' = b
   · subst e
     rw [upd_eq] at hb'
     injection hb' with hb'
     subst hb'
     exact .inr ⟨k, hβ, by rw [hsz]; exact hlt, hMk, hbox _ hF hs⟩
   · rw [upd_ne _ _ e] at hb'
     rcases h.live b' bx2 hb' with ⟨h1, h2⟩ | ⟨k', h1, h2, h3, h4⟩
     · exact .inl ⟨h1, h2⟩
     · refine .inr ⟨k', h1, by rw [hsz]; exact h2, h3, boxAt_mono h4 (hko k' ?_) (fun _ _ h => h) hF hs⟩
       rintro rfl
       exact e (h.inj b' b k' (by simp [hb']) (by simp [hb]) h1 hβ)
 · exact ⟨hos, htp, hou, fun _ => hdr, fun hm => Mk.of_upd hm hnm, by rw [hsz]; exact Nat.le_refl _, fun k' h1 h2 => hko k' (fun e => by subst e; exact h2 b (by simp [hb]) hβ), hs, fun _ _ h => h, fun b' k' h1 h2 => .inl ⟨b', (hdom b').1 h1, h2⟩⟩
theorem alloc_o (h : WOk β M bx w) {b : Nat} (hβ : β b = none) (hb : bx b = none) (o : Obj) (box : Box) (hnm : ∀ ty, some box ≠ some (.row ty 0 []))
   (hbox : ∀ F', (∀ k, Fz β M bx w k → F' k ∧ (w.alloc o).heap[k]? = w.heap[k]?) → BoxAt (upd β b (some (some w.heap.size))) (w.alloc o) F' w.heap.size box) :
   WOk (upd β b (some (some w.heap.size))) M (upd bx b (some box)) (w.alloc o) ∧
   Tr β bx w (upd β b (some (some w.heap.size))) (upd bx b (some box)) (w.alloc o) := by
 have hext : ∀ b' x, β b' = some x → upd β b (some (some w.heap.size)) b' = some x := by
   intro b' x hx
   rw [upd_ne _ _ (by rintro rfl; rw [hβ] at hx; cases hx)]; exact hx
 have hk : ∀ k, k < w.heap.size → (w.alloc o).heap[k]? = w.heap[k]? := fun k hk => Go.RowKit.Below.heap_alloc w _ k hk
 have hs : ∀ k x, w.shape? k = some x → (w.alloc o).shape? k = some x := fun k x hx => by
   have := shape_lt hx
   rw [shape_heap (hk k this)]; exact hx
 have hF : ∀ k, Fz β M bx w k → Fz (upd β b (some (some w.heap.size))) M (upd bx b (some box)) (w.alloc o) k ∧ (w.alloc o).heap[k]? = w.heap[k]? := by
   rintro k ⟨h1, h2, h3⟩
   refine ⟨⟨by simp; omega, h2, fun b' hb' he => ?_⟩, hk k h1⟩
   by_cases e : b' = b
   · subst e
     rw [upd_eq] at he
     injection he with he; injection he with he
     omega
   · rw [upd_ne _ _ e] at he hb'
     exact h3 b' hb' he
 constructor
 · refine ⟨?_, fun k o' hM => (Go.RowKit.Below.heap_alloc w _ k (h.mlt' hM)).trans (h.mlt k o' hM), fun b' box' hb' => ?_, fun b1 b2 k h1 h2 h3 h4 => ?_⟩
   · obtain ⟨n, hn⟩ := h.fin
     refine ⟨max n (b + 1), fun b' hb' => ?_⟩
     rw [upd_ne _ _ (by omega)]
     exact hn b' (by omega)
   · by_cases e : b' = b
     · subst e
       rw [upd_eq] at hb'
       injection hb' with hb'
       subst hb'
       exact .inr ⟨w.heap.size, upd_eq _ _ _, by simp, h.mnone (Nat.le_refl _), hbox _ hF⟩
     · rw [upd_ne _ _ e] at hb'
       rcases h.live b' box' hb' with ⟨h1, h2⟩ | ⟨k, h1, h2, h3, h4⟩
       · exact .inl ⟨hext _ _ h1, h2⟩
       · exact .inr ⟨k, hext _ _ h1, by simp; omega, h3, boxAt_mono h4 (hk k h2) hext hF hs⟩
   · have old : ∀ b', b' ≠ b → upd bx b (some box) b' ≠ none → upd β b (some (some w.heap.size)) b' = some (some k) → β b' = some (some k) ∧ bx b' ≠ none ∧ k < w.heap.size := by
       intro b' hne hb' he
       rw [upd_ne _ _ hne] at hb' he
       refine ⟨he, hb', ?_⟩
       obtain ⟨box, hbox⟩ := Option.ne_none_iff_exists'.1 hb'
       exact (box_block h hbox he).1
     by_cases e1 : b1 = b <;> by_cases e2 : b2 = b
     · rw [e1, e2]
     · obtain ⟨_, _, h5⟩ := old b2 e2 h2 h4
       rw [e1, upd_eq] at h3; injection h3 with h3; injection h3 with h3; omega
     · obtain ⟨_, _, h5⟩ := old b1 e1 h1 h3
       rw [e2, upd_eq] at h4; injection h4 with h4; injection h4 with h4; omega
     · obtain ⟨h5, h6, _⟩ := old b1 e1 h1 h3
       obtain ⟨h7, h8, _⟩ := old b2 e2 h2 h4
       exact h.inj b1 b2 k h6 h8 h5 h7
 · refine ⟨rfl, rfl, rfl, fun _ => Nat.le_refl _, fun hm => Mk.of_upd hm hnm, by simp, fun k h1 _ => hk k h1, hs, hext, fun b' k h1 h2 => ?_⟩
   by_cases e : b' = b
   · subst e
     rw [upd_eq] at h2
     injection h2 with h2; injection h2 with h2
     exact .inr (by omega)
   · rw [upd_ne _ _ e] at h1 h2
     exact .inl ⟨b', h1, h2⟩
end
end Go.Pl

set_option linter.unusedSimpArgs false
set_option linter.unusedVariables false
namespace Go.Pl
open Go
section
variable {P : Program} {β : Beta} {M : Off} {w : World}
abbrev Kont (P : Program) (β : Beta) (M : Off) (st : St) (w : World) (K : St → Prop) (K' : Act → World → Prop) : Prop :=
 ∀ st' β' a' w', K st' → Rs P β' M st' a' w' → Tr β st.bx w β' st'.bx w' → K' a' w'
theorem Kont.put {st : St} {a : Act} {K : St → Prop} {K' : Act → World → Prop} (hK : Kont P β M st w K K') (hr : Rs P β M st a w) {dst : Option Tmp} (hd : dstOk st dst) {v : V} {u : Value} (hv : Rep β w (Fz β M st.bx w) v u) (h : K (st.put dst v)) : K' (a.put dst u) w :=
 hK _ _ _ _ h (hr.put hd hv) (by cases dst <;> exact Tr.refl _ _ _)
theorem Kont.trans {st st' : St} {β' : Beta} {w' : World} {K : St → Prop} {K' : Act → World → Prop} (hK : Kont P β M st w K K') (h : Tr β st.bx w β' st'.bx w') : Kont P β' M st' w' K K' :=
 fun st2 β2 a2 w2 hk hr ht => hK st2 β2 a2 w2 hk hr (h.trans ht)
theorem conv_grow {st : St} {a : Act} (hr : Rs P β M st a w) {s d e : TypeId} {x : V} {u : Value} (h1 : knd P s = .str) (h2 : knd P d = .slice e) (hc : (convV P s d x).1) (rx : Rep β w (Fz β M st.bx w) x u) :
   ∃ v w', (convert s d u).run P w = .ok v w' ∧ WOk β M st.bx w' ∧ Tr β st.bx w β st.bx w' ∧ Rep β w' (Fz β M st.bx w') (convV P s d x).2 v := by
 unfold convV at hc ⊢
 cases hx : x.strip with
 | str b =>
   simp only [h1, h2, hx] at hc ⊢
   obtain ⟨hl, hu, hn⟩ := hc
   obtain rfl := live_of hl hx
   obtain ⟨q, rfl, rfl⟩ := rx.str_inv
   have hq : q.size = q.data.toList.length := by show q.data.size = _; simp
   have hk : ∀ k, k < w.heap.size → (Lib.bytesWorld w e q).heap[k]? = w.heap[k]? := fun k hk => Lib.bytesWorld_at_old w e q k hk
   have hsz : w.heap.size ≤ (Lib.bytesWorld w e q).heap.size := by rw [Lib.bytesWorld_size]; omega
   have hok : WOk β M st.bx (Lib.bytesWorld w e q) := hr.ok.grown hsz hr.ok.fin (fun _ _ h => h) hk
   have htr : Tr β st.bx w β st.bx (Lib.bytesWorld w e q) := Tr.grown hr.ok rfl rfl rfl (Nat.le_succ w.drawn) hsz (fun _ _ h => h) hk
   refine ⟨_, _, Lib.run_convert_string_bytes w s d e q (knd_str h1) (knd_slice h2) (knd_int hu), hok, htr, ?_⟩
   have hcap : q.size ≤ grownCap w q.size 0 e ∧ grownCap w q.size 0 e ≤ maxLen := ⟨grownCap_ge w q.size 0 e, grownCap_le_maxLen w q.size 0 e (by rw [hq]; simpa [maxLen] using hn)⟩
   have hfz : Fz β M st.bx (Lib.bytesWorld w e q) w.heap.size := by
     refine ⟨by rw [Lib.bytesWorld_size]; omega, hr.ok.mnone (Nat.le_refl _), fun b hb he => ?_⟩
     obtain ⟨box, hbox⟩ := Option.ne_none_iff_exists'.1 hb
     rcases hr.ok.live b box hbox with ⟨h3, _⟩ | ⟨k', h3, h4, _⟩
     · rw [h3] at he; cases he
     · rw [h3] at he; injection he with he; injection he with he; omega
   have key := Rep.sl (β := β) (w := Lib.bytesWorld w e q) (F := Fz β M st.bx (Lib.bytesWorld w e q)) 1 (q.data.toList.map byteV) (some ⟨w.heap.size, 0, none⟩) (grownCap w q.size 0 e) (fun j => .int .u8 (q.data.toList.getD j 0).toNat)
     (by simpa [← hq] using hcap.1) hcap.2 (by simp) (by simp [byteV, V.cells]) ?_ ?_
   · simpa [← hq] using key
   · intro i c j c' hi hj
     simp only [List.getElem?_map, Option.map_eq_some_iff] at hi
     obtain ⟨y, hy, rfl⟩ := hi
     have hj0 : j = 0 := by
       have := (List.getElem?_eq_some_iff.1 hj).1
       simp [byteV, V.cells] at this
       exact this
     subst hj0
     have hiq : i < q.size := by rw [hq]; exact (List.getElem?_eq_some_iff.1 hy).1
     refine ⟨⟨w.heap.size, 0, none⟩, rfl, hfz, ?_, rfl⟩
     have := Lib.bytesWorld_cell w e q i hiq
     simp only [Nat.mul_one, Nat.add_zero]
     rw [show (⟨w.heap.size, 0, none⟩ : Addr).add i = ⟨w.heap.size, i, none⟩ by unfold Addr.add; by_cases h0 : i = 0 <;> simp [h0]]
     exact this
   · intro i c j c' hi hj
     simp only [List.getElem?_map, Option.map_eq_some_iff] at hi
     obtain ⟨y, hy, rfl⟩ := hi
     have hj0 : j = 0 := by
       have := (List.getElem?_eq_some_iff.1 hj).1
       simp [byteV, V.cells] at this
       exact this
     subst hj0
     obtain rfl : byteV y = c' := by simpa [byteV, V.cells] using hj
     have e1 : q.data.toList.getD i 0 = y := by simp only [List.getD, hy, Option.getD_some]
     simp only [Nat.mul_one, Nat.add_zero, e1]
     exact .int _ _
 | _ => simp [h1, h2, hx, evNo] at hc
theorem ev_wp {st : St} {a : Act} {o : Oper} {K' : Act → World → Prop} {Q : Exit → Act → World → Prop} (hr : Rs P β M st a w) (hc : (ev P st o).1)
   (h : ∀ u w', Rs P β M st a w' → Tr β st.bx w β st.bx w' → Rep β w' (Fz β M st.bx w') (ev P st o).2 u → K' (a.put o.dst u) w') : o.wp P a w K' Q := by
 have stay : ∀ v, (execOp a.eval o).run P w = .ok (.value v) w → Rep β w (Fz β M st.bx w) (ev P st o).2 v → o.wp P a w K' Q := by
   intro v h1 h2
   unfold Oper.wp
   rw [h1]
   exact h v w hr (Tr.refl _ _ _) h2
 by_cases hgr : growsB P o = false
 · obtain ⟨v, h1, h2⟩ := ev_sound (P := P) hr.slots hr.ok.bxOk hr.gl hgr hc
   exact stay v h1 h2
 · obtain ⟨dst, op, type, pos, after, guard⟩ := o
   unfold growsB at hgr
   simp only at hgr
   split at hgr
   · rename_i s d x
     split at hgr
     · rename_i e h1 h2
       obtain ⟨v, w', h3, h4, h5, h6⟩ := conv_grow hr h1 h2 hc (hr.get x)
       have hr' : Rs P β M st a w' := ⟨h4, fun t => h5.rep (hr.sl t), hr.sz, hr.df, Nat.le_trans hr.bs h5.size, hr.gl.imp (fun _ _ hh => h5.rep hh) h5.shape⟩
       unfold Oper.wp
       have : (execOp a.eval ⟨dst, .convert s d x, type, pos, after, guard⟩).run P w = .ok (.value v) w' := by
         show (do pure (Next.value (← convert s d (a.eval x))) : Sem Next).run P w = _
         rw [Sem.run_bind, h3]; rfl
       rw [this]
       exact h v w' hr' h5 h6
     · exact absurd rfl hgr
   · exact absurd rfl hgr
theorem call_run {a : Act} {dst : Option Tmp} {type : TypeId} {pos : String} {after : Array Edge} {guard : Option (Nat × Bool)} {c : Call} {f : Operand} (hc : c.callee = .value f) {g : FuncId} {fs us : Array Value}
   (hf : a.eval f = .func (.func g) fs us) (he : ∀ vs w, (callFunc g vs).run P w = .ok (.enter g vs) w) : (execOp a.eval ⟨dst, .call c, type, pos, after, guard⟩).run P w = .ok (.enter g (fs ++ c.args.map a.eval ++ us)) w := by
 obtain ⟨callee, args, ts⟩ := c
 subst hc
 simp [execOp, resolve, Deferred.ofValue, invoke, hf, he]
theorem args_rep {st : St} {a : Act} {F : Nat → Prop} {f : Operand} {args : Array Operand} {g : FuncId} {vs : List V} (h : callee st f args.toList = some (g, vs)) (hl : calleeLive st f args.toList)
   (hg : ∀ x, Rep β w F (st.get x) (a.eval x)) : ∃ fs us, a.eval f = .func (.func g) fs us ∧ (fs ++ args.map a.eval ++ us).size = vs.length ∧ ∀ (i : Nat) (c : V), vs[i]? = some c → Rep β w F c ((fs ++ args.map a.eval ++ us).getD i undef) := by
 unfold callee at h
 split at h
 · rename_i g' caps hf
   simp only [Option.some.injEq, Prod.mk.injEq] at h
   obtain ⟨rfl, rfl⟩ := h
   obtain ⟨h1, h2⟩ := hl
   have hfv := live_of h1 hf
   have rf := hg f
   rw [hfv] at rf
   generalize a.eval f = uf at rf
   cases rf with
   | fn _ _ us hl hr =>
     refine ⟨#[], us, rfl, by simp [hl], fun i c hc => ?_⟩
     rw [Array.empty_append]
     by_cases hi : i < args.size
     · rw [List.getElem?_append_left (by simpa using hi)] at hc
       simp only [List.getElem?_map, Array.getElem?_toList, Option.map_eq_some_iff] at hc
       obtain ⟨x, hx, rfl⟩ := hc
       rw [strip_live (h2 x (by simpa using Array.mem_of_getElem? hx))]
       have : (args.map a.eval ++ us).getD i undef = a.eval x := by
         have := (Array.getElem?_eq_some_iff.1 hx).2
         simp [Array.getElem?_append, hi, this]
       rw [this]
       exact hg x
     · rw [List.getElem?_append_right (by simpa using hi)] at hc
       have := hr _ c hc
       simp only [List.length_map, Array.length_toList] at this
       have e : (args.map a.eval ++ us).getD i undef = us.getD (i - args.size) undef := by
         simp [Array.getElem?_append, hi]
       rw [e]
       exact this
 · rename_i g' r hf
   simp only [Option.some.injEq, Prod.mk.injEq] at h
   obtain ⟨rfl, rfl⟩ := h
   obtain ⟨h1, h2⟩ := hl
   have hfv := live_of h1 hf
   have rf := hg f
   rw [hfv] at rf
   generalize a.eval f = uf at rf
   cases rf with
   | fn _ _ us hl hr hy => exact absurd rfl (hy _ _ rfl)
   | bm _ _ u hu =>
     refine ⟨#[u], #[], rfl, by simp; omega, fun i c hc => ?_⟩
     rw [Array.append_empty]
     rcases i with _ | i
     · simp at hc
       subst hc
       have : (#[u] ++ args.map a.eval).getD 0 undef = u := by simp [Array.getElem?_append]
       rw [this]; exact hu
     · simp only [List.getElem?_cons_succ, List.getElem?_map, Array.getElem?_toList, Option.map_eq_some_iff] at hc
       obtain ⟨x, hx, rfl⟩ := hc
       rw [strip_live (h2 x (by simpa using Array.mem_of_getElem? hx))]
       have hi : i < args.size := (Array.getElem?_eq_some_iff.1 hx).1
       have : (#[u] ++ args.map a.eval).getD (i + 1) undef = a.eval x := by
         have := (Array.getElem?_eq_some_iff.1 hx).2
         simp [Array.getElem?_append, hi, this]
       rw [this]
       exact hg x
 · cases h
theorem pure_wp {st : St} {a : Act} {o : Oper} {c : Call} (ho : o.op = .call c) {f : Operand} (hf : c.callee = .value f) {K' : Act → World → Prop} {Q : Exit → Act → World → Prop} (hr : Rs P β M st a w) {g : FuncId} {vs : List V} (hcal : callee st f c.args.toList = some (g, vs))
   (hl : calleeLive st f c.args.toList) {Kc : V → Boxes → Prop} (hcall : AbsCall P g vs st.bx Kc)
   (h : ∀ u r bx' β' w', Kc r bx' → WOk β' M bx' w' → Tr β st.bx w β' bx' w' → Rep β' w' (Fz β' M bx' w') r u → K' (a.put o.dst u) w') : o.wp P a w K' Q := by
 obtain ⟨dst, op, type, pos, after, guard⟩ := o
 simp only at ho
 subst ho
 obtain ⟨fs, us, h1, h2, h3⟩ := args_rep hcal hl (fun x => hr.get x)
 unfold Oper.wp
 rw [call_run hf h1 hcall.1]
 refine (hcall.2 β M w _ hr.ok hr.gl h2 h3).mono ?_
 rintro e w' ⟨v, r, bx', β', rfl, hk, hok, htr, hrep⟩
 exact h v r bx' β' w' hk hok htr hrep
theorem run_storeAt {t ty : TypeId} {u : Value} {k o : Nat} {cur : Array Value} {fr : Nat × Nat} (hty : tyOk P t = true) (hsz : u.cells.size = tsz P t) (hcur : w.heap[k]? = some (.cells cur ty fr)) (hfr : FrOk cur.size fr) (hfit : o + u.cells.size ≤ cur.size) (h1 : ∀ v, v ∈ u.cells.toList → v.oneCell' = true) :
   (Instr.storeAt t (.pointer (some ⟨k, o, none⟩)) u).run P w = .ok () (w.setRow k (cur.toList.take o ++ u.cells.toList ++ cur.toList.drop (o + u.cells.size)).toArray) := by
 obtain ⟨inf, hi1, hi2⟩ := tyOk_info hty
 have h2 := run_storeCells_fr (P := P) k o ty fr u.cells.toList 0 cur w hcur hfr (by simpa using hfit) h1
 simp only [Nat.add_zero, Array.length_toList] at h2
 unfold Instr.storeAt storeVar sizeOf typeInfo Instr.sureAddr
 simp [hi1, hsz, hi2, h2]
theorem cell_cells {F : Nat → Prop} {c : V} {u : Value} (h : Rep β w F c u) (h1 : u.oneCell' = true) : c.cells = [c] := by
 cases h <;> first | rfl | (simp [Value.oneCell'] at h1)
theorem store_elem {F : Nat → Prop} {e v : V} {u : Value} {sz o : Nat} (hl : e.cells.length = sz) (ho : okV v = true) (hfit : o + v.cells.length ≤ sz) (hpos : 0 < v.cells.length) (hr : Rep β w F v u) (cur cur' : Array Value) (base : Nat)
   (he : ∀ (j : Nat) (c : V), e.cells[j]? = some c → (cur.getD (base + j) undef).oneCell' = true ∧ Rep β w F c (cur.getD (base + j) undef))
   (hcur : ∀ m, base ≤ m → m < base + sz → cur'.getD m undef = if base + o ≤ m ∧ m < base + o + v.cells.length then u.cells.getD (m - (base + o)) undef else cur.getD m undef) :
   (setC e o v.cells).cells.length = sz ∧ ∀ (j : Nat) (c : V), (setC e o v.cells).cells[j]? = some c → (cur'.getD (base + j) undef).oneCell' = true ∧ Rep β w F c (cur'.getD (base + j) undef) := by
 have hu := okV_rep ho hr
 have main : ∀ ds : List V, ds.length = sz → (∀ (j : Nat) (c : V), ds[j]? = some c → (o ≤ j ∧ j < o + v.cells.length ∧ v.cells[j - o]? = some c) ∨ (¬ (o ≤ j ∧ j < o + v.cells.length) ∧ e.cells[j]? = some c)) →
     ∀ (j : Nat) (c : V), ds[j]? = some c → (cur'.getD (base + j) undef).oneCell' = true ∧ Rep β w F c (cur'.getD (base + j) undef) := by
   intro ds hds hd j c hc
   have hj := (List.getElem?_eq_some_iff.1 hc).1
   rw [hcur _ (by omega) (by omega)]
   rcases hd j c hc with ⟨h1, h2, h3⟩ | ⟨h1, h2⟩
   · rw [if_pos (by omega)]
     have e2 : base + j - (base + o) = j - o := by omega
     rw [e2]
     exact hu.2 _ c h3
   · rw [if_neg (by omega)]
     exact he j c h2
 have hsplice : ∀ cs : List V, cs = e.cells → (cs.take o ++ v.cells ++ cs.drop (o + v.cells.length)).length = sz ∧ (∀ (j : Nat) (c : V), (cs.take o ++ v.cells ++ cs.drop (o + v.cells.length))[j]? = some c → (o ≤ j ∧ j < o + v.cells.length ∧ v.cells[j - o]? = some c) ∨ (¬ (o ≤ j ∧ j < o + v.cells.length) ∧ e.cells[j]? = some c)) := by
   rintro cs rfl
   refine ⟨by simp; omega, fun j c hc => ?_⟩
   have hto : (e.cells.take o).length = o := by simp; omega
   by_cases h1 : j < o
   · rw [List.append_assoc, List.getElem?_append_left (by omega), List.getElem?_take, if_pos h1] at hc
     exact .inr ⟨by omega, hc⟩
   · by_cases h2 : j < o + v.cells.length
     · rw [List.append_assoc, List.getElem?_append_right (by omega), hto, List.getElem?_append_left (by omega)] at hc
       exact .inl ⟨by omega, h2, hc⟩
     · rw [List.getElem?_append_right (by simp; omega), List.getElem?_drop] at hc
       have e3 : o + v.cells.length + (j - (e.cells.take o ++ v.cells).length) = j := by simp; omega
       rw [e3] at hc
       exact .inr ⟨by omega, hc⟩
 have hset : ∀ (cs : List V) (v' : V), cs = e.cells → v.cells = [v'] → (cs.set o v').length = sz ∧ (∀ (j : Nat) (c : V), (cs.set o v')[j]? = some c → (o ≤ j ∧ j < o + v.cells.length ∧ v.cells[j - o]? = some c) ∨ (¬ (o ≤ j ∧ j < o + v.cells.length) ∧ e.cells[j]? = some c)) := by
   rintro cs v' rfl hv'
   refine ⟨by simpa using hl, fun j c hc => ?_⟩
   rw [hv'] at hfit
   simp only [hv', List.length_singleton] at hfit ⊢
   by_cases h1 : j = o
   · subst h1
     rw [List.getElem?_set_self (by omega)] at hc
     exact .inl ⟨Nat.le_refl _, by omega, by simpa using hc⟩
   · rw [List.getElem?_set_ne (Ne.symm h1)] at hc
     exact .inr ⟨by omega, hc⟩
 cases e with
 | agg cs =>
   cases hvc : v.cells with
   | nil => simp [hvc] at hpos
   | cons v' vs =>
     cases vs with
     | nil =>
       obtain ⟨h1, h2⟩ := hset cs v' rfl hvc
       have e1 : setC (.agg cs) o [v'] = .agg (cs.set o v') := rfl
       rw [e1]
       exact ⟨h1, main _ h1 h2⟩
     | cons v2 vs =>
       obtain ⟨h1, h2⟩ := hsplice cs rfl
       rw [hvc] at h1 h2
       have e1 : setC (.agg cs) o (v' :: v2 :: vs) = .agg (cs.take o ++ (v' :: v2 :: vs) ++ cs.drop (o + (v' :: v2 :: vs).length)) := rfl
       rw [e1]
       rw [← hvc] at h1 h2 ⊢
       exact ⟨h1, main _ h1 h2⟩
 | _ =>
   simp only [V.cells, List.length_singleton] at hl
   obtain ⟨v', hv'⟩ : ∃ v', v.cells = [v'] := by
     cases hvc : v.cells with
     | nil => simp [hvc] at hpos
     | cons v' vs =>
       cases vs with
       | nil => exact ⟨v', rfl⟩
       | cons v2 vs => simp [hvc] at hfit; omega
   have ho0 : o = 0 := by simp [hv'] at hfit; omega
   subst ho0
   have h3 := hu.2 0 v' (by rw [hv']; rfl)
   have h4 := cell_cells h3.2 h3.1
   have e1 : ∀ x : V, setC x 0 v.cells = v' ∨ ∃ cs, x = .agg cs := by
     intro x
     rw [hv']
     cases x <;> first | exact .inl rfl | exact .inr ⟨_, rfl⟩
   rcases e1 _ with h5 | ⟨cs, h5⟩
   · rw [h5, h4]
     refine ⟨by simpa using hl, fun j c hc => ?_⟩
     match j, hc with
     | 0, hc =>
       simp at hc
       subst hc
       rw [hcur _ (by omega) (by omega), if_pos (by rw [hv']; simp)]
       simpa using h3
     | j + 1, hc => simp at hc
   · cases h5
theorem splice_getD {cur us : Array Value} {p : Nat} (hfit : p + us.size ≤ cur.size) (m : Nat) : (cur.toList.take p ++ us.toList ++ cur.toList.drop (p + us.size)).toArray.getD m undef = if p ≤ m ∧ m < p + us.size then us.getD (m - p) undef else cur.getD m undef := by
 simp only [Array.getD_eq_getD_getElem?, List.getElem?_toArray]
 have hto : (cur.toList.take p).length = p := by simp; omega
 by_cases h1 : m < p
 · rw [if_neg (by omega), List.append_assoc, List.getElem?_append_left (by omega), List.getElem?_take, if_pos h1, Array.getElem?_toList]
 · by_cases h2 : m < p + us.size
   · rw [if_pos (by omega), List.append_assoc, List.getElem?_append_right (by omega), hto, List.getElem?_append_left (by simp; omega), Array.getElem?_toList]
   · rw [if_neg (by omega), List.getElem?_append_right (by simp; omega), List.getElem?_drop]
     have e3 : p + us.size + (m - (cur.toList.take p ++ us.toList).length) = m := by simp; omega
     rw [e3, Array.getElem?_toList]
theorem frz_heap {w : World} {k : Nat} {cur : Array Value} {ty : TypeId} {fr : Nat × Nat} (hcur : w.heap[k]? = some (.cells cur ty fr)) {m : Nat} (hfr : FrOk m fr) :
   (w.freeze ⟨k, m, none⟩ 1).heap[k]? = some (.cells cur ty (m, m + 1)) ∧ (∀ q, q ≠ k → (w.freeze ⟨k, m, none⟩ 1).heap[q]? = w.heap[q]?) ∧ (w.freeze ⟨k, m, none⟩ 1).heap.size = w.heap.size := by
 unfold World.freeze
 rw [if_neg (by decide)]
 refine ⟨?_, fun q hq => ?_, by simp⟩
 · simp only [Array.getElem?_modify, if_pos, hcur, Option.map_some]
   rcases hfr with rfl | rfl
   · rfl
   · simp
 · simp only [Array.getElem?_modify]
   rw [if_neg (Ne.symm hq)]
theorem box_mark {bx : Boxes} (h : WOk β M bx w) {b k : Nat} {ty : TypeId} {sz : Nat} {es : List V} (hb : bx b = some (.row ty sz es)) (hβ : β b = some (some k)) {cur : Array Value} {fr : Nat × Nat} (hcur : w.heap[k]? = some (.cells cur ty fr)) {m : Nat} (hfr : FrOk m fr) :
   WOk β M (upd bx b none) (w.freeze ⟨k, m, none⟩ 1) ∧ Tr β bx w β (upd bx b none) (w.freeze ⟨k, m, none⟩ 1) := by
 obtain ⟨hkk, hko, hsz⟩ := frz_heap hcur hfr
 have hos : (w.freeze ⟨k, m, none⟩ 1).os = w.os ∧ (w.freeze ⟨k, m, none⟩ 1).tape = w.tape ∧ (w.freeze ⟨k, m, none⟩ 1).output = w.output ∧ (w.freeze ⟨k, m, none⟩ 1).drawn = w.drawn := by
   unfold World.freeze; rw [if_neg (by decide)]; exact ⟨rfl, rfl, rfl, rfl⟩
 generalize w.freeze ⟨k, m, none⟩ 1 = w' at *
 have hlive := h.live b _ hb
 obtain ⟨hlt, hM⟩ : k < w.heap.size ∧ M k = none := by
   rcases hlive with ⟨h1, _⟩ | ⟨k', h1, h2, h3, _⟩
   · rw [hβ] at h1; cases h1
   · rw [hβ] at h1; injection h1 with h1; injection h1 with h1; subst h1; exact ⟨h2, h3⟩
 have hdom : ∀ b', upd bx b none b' ≠ none → bx b' ≠ none ∧ b' ≠ b := by
   intro b' hb'
   by_cases e : b' = b
   · subst e; simp [upd_eq] at hb'
   · rw [upd_ne _ _ e] at hb'; exact ⟨hb', e⟩
 have hs : ∀ q x, w.shape? q = some x → w'.shape? q = some x := by
   intro q x hx
   by_cases e : q = k
   · subst e; rw [shape_of hkk, ← shape_of hcur]; exact hx
   · rw [shape_heap (hko q e)]; exact hx
 have ht : Tr β bx w β (upd bx b none) w' :=
   ⟨hos.1, hos.2.1, hos.2.2.1, fun _ => by rw [hos.2.2.2]; exact Nat.le_refl _, fun hm => Mk.of_upd hm (fun _ h => by cases h), by omega, fun q h1 h2 => hko q (by rintro rfl; exact h2 b (by rw [hb]; simp) hβ), hs, fun _ _ h => h, fun b' q h1 h2 => .inl ⟨b', (hdom b' h1).1, h2⟩⟩
 refine ⟨⟨h.fin, fun q y hq => (hko q (by rintro rfl; rw [hM] at hq; cases hq)).trans (h.mlt q y hq), fun b' box' hb' => ?_, fun b1 b2 q h1 h2 h3 h4 => h.inj b1 b2 q (hdom _ h1).1 (hdom _ h2).1 h3 h4⟩, ht⟩
 have hne := (hdom b' (by rw [hb']; simp)).2
 rw [upd_ne _ _ hne] at hb'
 rcases h.live b' box' hb' with h1 | ⟨k', h1, h2, h3, h4⟩
 · exact .inl h1
 · have e : k' ≠ k := by rintro rfl; exact hne (h.inj b' b k' (by rw [hb']; simp) (by rw [hb]; simp) h1 hβ)
   exact .inr ⟨k', h1, by omega, h3, boxAt_mono h4 (hko k' e) (fun _ _ h => h) (fun _ hk => ht.fz hk) ht.shape⟩
theorem run_cvt {s e : TypeId} {k n cap : Nat} {ty : TypeId} {cur : Array Value} {fr : Nat × Nat} (h1 : P.underlying s = some (.slice e)) (h2 : P.underlying e = some (.int .u8)) (hcur : w.heap[k]? = some (.cells cur ty fr)) :
   (convert s s (.slice (some ⟨k, 0, none⟩) n cap)).run P w = .ok (.slice (some ⟨k, 0, none⟩) n cap) (w.freeze ⟨k, cur.size, none⟩ 1) := by
 have hsh := shape_of hcur
 simp [convert, run_underlying h1, run_underlying h2, markStringish, hsh]
theorem run_clear {t ty e : TypeId} {z : Value} (ht : P.underlying t = some (.slice e)) (hz : tzero P e = some z) {blk o n cap : Nat} (hz1 : ∀ v, v ∈ (Builtin.zeroCells z.cells n).toList → v.oneCell' = true) {ty' : TypeId} {cur : Array Value} {fr : Nat × Nat} (hn : 0 < n) (hcur : w.heap[blk]? = some (.cells cur ty' fr)) (hfr : FrOk cur.size fr) (hfit : o + (Builtin.zeroCells z.cells n).size ≤ cur.size) :
   (Builtin.clear_ #[t] ty #[.slice (some ⟨blk, o, none⟩) n cap]).run P w = .ok (.tuple #[]) (w.setRow blk (cur.toList.take o ++ (Builtin.zeroCells z.cells n).toList ++ cur.toList.drop (o + (Builtin.zeroCells z.cells n).size)).toArray) := by
 obtain ⟨i, h1, h2⟩ := zero_at hz
 have hst := run_storeCells_fr (P := P) blk o ty' fr (Builtin.zeroCells z.cells n).toList 0 cur w hcur hfr (by simpa using hfit) hz1
 simp only [Nat.add_zero, Array.length_toList] at hst
 obtain ⟨m, rfl⟩ : ∃ m, n = m + 1 := ⟨n - 1, by omega⟩
 simp [Builtin.clear_, run_underlying ht, zeroValue, typeInfo, h1, h2, hst]
theorem method_run {t : TypeId} {name : String} {g : FuncId} (h : methodV P t name = some g) (u : Value) (n : Nat) : (method (n + 1) t u name).run P w = .ok (g, u) w := by
 unfold methodV at h
 split at h
 · rename_i e i hk hi
   split at h
   · rename_i m hm
     split at h
     · rename_i hp
       split at h
       · rename_i f hf
         injection h with h
         subst h
         have hu : P.underlying t = some (.pointer e) := by
           unfold knd at hk; split at hk <;> simp_all
         have hpl : m.path.toList = [] := by simpa using hp
         unfold method typeInfo
         simp [hi, hm, hpl, follow, hf, receiverAt, run_underlying hu, Place.get]
       · cases h
     · cases h
   · cases h
 · cases h
theorem inv_wp {st : St} {a : Act} {o : Oper} {c : Call} (ho : o.op = .call c) {recv : Operand} {name : String} (hf : c.callee = .invoke recv name) {K' : Act → World → Prop} {Q : Exit → Act → World → Prop} (hr : Rs P β M st a w)
   {K : St → Prop} (hinv : invA P st o.dst (st.get recv) name (c.args.toList.map st.get) K) (hK : Kont P β M st w K K') : o.wp P a w K' Q := by
 obtain ⟨dst, op, type, pos, after, guard⟩ := o
 simp only at ho
 subst ho
 obtain ⟨callee, args, ts⟩ := c
 simp only at hf hinv
 subst hf
 unfold invA at hinv
 split at hinv
 · rename_i t v hrv
   split at hinv
   · rename_i g hg
     obtain ⟨hl, hd, hcall⟩ := hinv
     have rr := hr.get recv
     rw [hrv] at rr
     generalize hru : a.eval recv = ur at rr
     cases rr with
     | iface t v u ru =>
       have hrun : (execOp a.eval ⟨dst, .call ⟨.invoke recv name, args, ts⟩, type, pos, after, guard⟩).run P w = .ok (.enter g (#[u] ++ args.map a.eval)) w := by
         have h0 : (#[Value.iface t u] ++ args.map a.eval).extract 1 (args.size + 1) = args.map a.eval := by
           apply Array.toList_inj.1
           simp
           exact List.take_of_length_le (by simp)
         show (do let d ← resolve a.eval ⟨.invoke recv name, args, ts⟩ type; invoke d.target d.args : Sem Next).run P w = _
         simp only [resolve, Sem.run_bind, Sem.run_pure, Result.andThen_ok, invoke, hru]
         have h1 : (#[Value.iface t u] ++ args.map a.eval)[0]? = some (.iface t u) := by rw [Array.getElem?_append_left (by simp)]; rfl
         simp only [h1]
         have h2 : (#[Value.iface t u] ++ args.map a.eval).size = args.size + 1 := by simp; omega
         rw [h2, h0]
         unfold callMethod
         simp only [Sem.run_bind, Go.program, Sem.run, Result.andThen_ok]
         have h3 := fun n => method_run (w := w) hg u n
         have hdep : 0 < Made.depth := by decide
         have hds : P.types.size + Made.depth = (P.types.size + Made.depth - 1) + 1 := by omega
         rw [hds, h3]
         simp only [Result.andThen_ok]
         exact hcall.1 _ _
       unfold Oper.wp
       rw [hrun]
       refine (hcall.2 β M w _ hr.ok hr.gl (by simp; omega) (fun i x hx => ?_)).mono ?_
       · rcases i with _ | i
         · simp at hx
           subst hx
           have : (#[u] ++ args.map a.eval).getD 0 undef = u := by
             rw [Array.getD_eq_getD_getElem?, Array.getElem?_append_left (by simp)]; rfl
           rw [this]
           exact ru
         · simp only [List.getElem?_cons_succ, List.getElem?_map, Option.map_eq_some_iff] at hx
           obtain ⟨y, ⟨z, hz, rfl⟩, rfl⟩ := hx
           have hza : args[i]? = some z := by simpa using hz
           rw [strip_live (hl _ (List.mem_map.2 ⟨z, by simpa using Array.mem_of_getElem? hza, rfl⟩))]
           have : (#[u] ++ args.map a.eval).getD (i + 1) undef = a.eval z := by
             simp [Array.getD_eq_getD_getElem?, Array.getElem?_append, hza]
           rw [this]
           exact hr.get z
       · rintro e w' ⟨v', r, bx', β', rfl, hk, hok, htr, hrep⟩
         exact hK _ _ _ _ hk ((hr.step hok htr).put (by cases dst <;> exact hd) hrep) (by cases dst <;> exact htr)
   · exact hinv.elim
 · exact hinv.elim
theorem put_wp {st : St} {a : Act} {o : Oper} {t : TypeId} {m k x : Operand} (hdst : o.dst = none) (ho : (execOp a.eval o).run P w = (do Instr.mapUpdate t (a.eval m) (a.eval k) (a.eval x); pure Next.skip : Sem Next).run P w) {K' : Act → World → Prop} {Q : Exit → Act → World → Prop} (hr : Rs P β M st a w)
   {K : St → Prop} (hput : putA P st t (st.get m) (st.get k) (st.get x) K) (hK : Kont P β M st w K K') : o.wp P a w K' Q := by
 obtain ⟨dst, op, type, pos, after, guard⟩ := o
 simp only at hdst
 subst hdst
 unfold putA at hput
 split at hput
 · rename_i kt et b hk hm
   split at hput
   · rename_i es hb
     split at hput
     · rename_i es' hp
       obtain ⟨hl, hkk, hk'⟩ := hput
       rw [strip_live hl] at hkk hp
       have rm := hr.get m
       rw [hm] at rm
       generalize hmu : a.eval m = um at rm
       cases rm with
       | mp b k' hβ =>
         rcases hr.ok.live b _ hb with ⟨h1, _⟩ | ⟨k2, h1, _, _, hmap⟩
         · rw [hβ] at h1; cases h1
         · rw [hβ] at h1
           injection h1 with h1
           injection h1 with h1
           subst h1
           obtain ⟨ms, c, hcur, h2, h3, h4⟩ := hmap
           obtain ⟨ms', c', hrun, hrep⟩ := run_update hk hkk (hr.get k) (hr.get x) hcur ⟨h2, h3, h4⟩ hp
           obtain ⟨h5, h6⟩ := write_map hr.ok hb hβ hcur ms' c' es' hrep
           unfold Oper.wp
           rw [ho, hmu]
           simp only [Sem.run_bind, hrun, Result.andThen_ok, Sem.run_pure]
           exact hK _ _ _ _ hk' (hr.step h5 h6) h6
     · exact hput.elim
   · exact hput.elim
 · exact hput.elim
theorem ms_bs {β : Beta} {w : World} {F : Nat → Prop} {k : Nat} {es : List (V × V)} {bs : List Nat} {c : Nat} (h : MapSAt β w F k es bs c) : bs.length = es.length ∧ bs.Nodup ∧ ∀ q, q ∈ bs → q < c := by
 obtain ⟨ms, h1, rfl, h3, h4, h5⟩ := h
 refine ⟨by simp [h3], ?_, fun q hq => ?_⟩
 · rw [List.nodup_iff_pairwise_ne, List.pairwise_map, List.pairwise_iff_getElem]
   intro i j hi hj hij e
   have hi' : i < ms.size := by simpa using hi
   have hj' : j < ms.size := by simpa using hj
   have := (h4 i ms[i] (by simp [hi'])).2 j ms[j] (by simp [hj']) (by simpa using e.symm)
   omega
 · obtain ⟨m, hm, rfl⟩ := List.mem_map.1 hq
   obtain ⟨i, hi⟩ := List.getElem?_of_mem hm
   exact (h4 i m (by simpa using hi)).1
theorem entA_wp {st : St} {a : Act} {dst : Option Tmp} {t type : TypeId} {m k : Operand} {pos : String} {after : Array Edge} {guard : Option (Nat × Bool)} {K' : Act → World → Prop} {Q : Exit → Act → World → Prop} (hr : Rs P β M st a w)
   {K : St → Prop} (h : entA P st t (st.get m) (st.get k) dst K) (hK : Kont P β M st w K K') : (Oper.mk dst (.mapEntry t m k) type pos after guard).wp P a w K' Q := by
 unfold entA at h
 split at h
 · rename_i kt et b hk hx
   split at h
   · rename_i es z hb hz
     split at h
     · rename_i es1 j v hp
       obtain ⟨hl, hkk, hd, hk'⟩ := h
       rw [strip_live hl] at hkk hp
       have rx := hr.get m
       rw [hx] at rx
       generalize hux : a.eval m = ux at rx
       cases rx with
       | mp b kb hβ =>
         obtain ⟨hlt, hMk, ms, c, hcur, h2, h3, h4⟩ := box_block hr.ok hb hβ
         obtain ⟨ms', c', mm, u, hrun, ⟨g1, g2, g3⟩, g4, g5⟩ := run_entry hk hz hkk (hr.get k) hcur ⟨h2, h3, h4⟩ hp
         have hat := mset_at ms' c' hcur
         obtain ⟨q1, q2⟩ := re_box (w' := mset w kb ms' c') (box' := .mapS es1 (ms'.toList.map MapEntry.born) c') hr.ok hb hβ rfl rfl rfl (Nat.le_refl _) (by simp [mset]) (fun k' hne => mset_other w kb k' ms' c' hne) (by simp [World.shape?, hcur]) (fun ty e => by cases e)
           (fun F' hF hs => ⟨ms', hat, rfl, g1, g2, fun i x m hx hm => ⟨(g3 i x m hx hm).1.mono (fun _ _ h => h) hF hs, (g3 i x m hx hm).2.mono (fun _ _ h => h) hF hs⟩⟩)
         have hms := box_block q1 (upd_eq _ _ _) hβ
         obtain ⟨b1, b2, b3⟩ := ms_bs hms.2.2
         have hbj : (ms'.toList.map MapEntry.born)[j]? = some mm.born := by
           rw [List.getElem?_map]
           simp [g4]
         unfold Oper.wp execOp
         simp only [Sem.run_bind, hux, hrun, Result.andThen_ok, Sem.run_pure]
         refine hK _ _ _ _ (hk' (ms'.toList.map MapEntry.born) c' mm.born b1 b2 hbj) ((hr.step q1 q2).put (st := { st with bx := _ }) ?_ ?_) ?_
         · cases dst <;> exact hd
         · refine .tup [v, .int .i64 mm.born] #[u, .int .i64 mm.born] rfl fun i c hi => ?_
           rcases i with _ | _ | i
           · simp at hi; subst hi; exact q2.rep g5
           · simp at hi; subst hi; exact .int _ _
           · simp at hi
         · cases dst <;> exact q2
     · exact h.elim
   · exact h.elim
 · exact h.elim
theorem entStA_wp {st : St} {a : Act} {t type : TypeId} {m s x : Operand} {pos : String} {after : Array Edge} {guard : Option (Nat × Bool)} {K' : Act → World → Prop} {Q : Exit → Act → World → Prop} (hr : Rs P β M st a w)
   {K : St → Prop} (h : entStA st (st.get m) (st.get s) (st.get x) K) (hK : Kont P β M st w K K') : (Oper.mk none (.entryStore t m s x) type pos after guard).wp P a w K' Q := by
 unfold entStA at h
 split at h
 · rename_i b q hm hs
   split at h
   · rename_i es bs c hb
     obtain ⟨i, q', e, rfl, h1, h2, hk'⟩ := h
     have rm := hr.get m
     rw [hm] at rm
     have rs := hr.get s
     rw [hs] at rs
     generalize hux : a.eval m = ux at rm
     have hus := rs.int_inv
     cases rm with
     | mp b kb hβ =>
       obtain ⟨hlt, hMk, ms, hcur, rfl, g2, g3, g4⟩ := box_block hr.ok hb hβ
       have hil : i < ms.size := by
         have := (List.getElem?_eq_some_iff.1 h1).1
         simpa using this
       have hborn : ms[i].born = q' := by
         rw [List.getElem?_map] at h1
         simp [hil] at h1
         exact h1
       have hfind : ms.findIdx? (fun e => (e.born : Int) == (q' : Int)) = some i := by
         rw [Array.findIdx?_eq_some_iff_getElem]
         refine ⟨hil, by simp [hborn], fun j hj => ?_⟩
         have hjl : j < ms.size := by omega
         have := (g3 i ms[i] (Array.getElem?_eq_getElem hil)).2 j ms[j] (Array.getElem?_eq_getElem hjl)
         simp only [beq_iff_eq]
         intro hh
         have : j = i := this (by rw [hborn]; omega)
         omega
       have hat : (mset w kb (ms.modify i fun e => { e with val := a.eval x }) c).heap[kb]? = _ := mset_at _ c hcur
       have hborn2 : ∀ (q : Nat) (m : MapEntry), (ms.modify i fun e => { e with val := a.eval x })[q]? = some m → ∃ m0, ms[q]? = some m0 ∧ m.born = m0.born := by
         intro q m hq
         rw [Array.getElem?_modify] at hq
         split at hq
         · cases hms : ms[q]? with
           | none => rw [hms] at hq; cases hq
           | some m0 => rw [hms] at hq; exact ⟨m0, rfl, by rw [← Option.some.inj hq]⟩
         · exact ⟨m, hq, rfl⟩
       obtain ⟨q1, q2⟩ := re_box (w' := mset w kb (ms.modify i fun e => { e with val := a.eval x }) c) (box' := .map (es.set i (e.1, st.get x))) hr.ok hb hβ rfl rfl rfl (Nat.le_refl _) (by simp [mset]) (fun k' hne => mset_other w kb k' _ c hne) (by simp [World.shape?, hcur]) (fun ty e => by cases e)
         (fun F' hF hs => ⟨_, c, hat, by simp [g2], fun q m hq => by
           obtain ⟨m0, hq0, hb0⟩ := hborn2 q m hq
           obtain ⟨g5, g6⟩ := g3 q m0 hq0
           refine ⟨by rw [hb0]; exact g5, fun q' m' hq' hbb => ?_⟩
           obtain ⟨m1, hq1, hb1⟩ := hborn2 q' m' hq'
           exact g6 q' m1 hq1 (by rw [← hb1, hbb, hb0]), fun q y m hy hq => by
           rw [Array.getElem?_modify] at hq
           by_cases e0 : i = q
           · subst e0
             rw [List.getElem?_set_self (by omega)] at hy
             rw [if_pos rfl, Array.getElem?_eq_getElem hil] at hq
             obtain rfl := Option.some.inj hy
             obtain rfl := Option.some.inj hq
             exact ⟨(g4 i e ms[i] h2 (Array.getElem?_eq_getElem hil)).1.mono (fun _ _ h => h) hF hs, (hr.get x).mono (fun _ _ h => h) hF hs⟩
           · rw [if_neg e0] at hq
             rw [List.getElem?_set_ne e0] at hy
             exact ⟨(g4 q y m hy hq).1.mono (fun _ _ h => h) hF hs, (g4 q y m hy hq).2.mono (fun _ _ h => h) hF hs⟩⟩)
       unfold Oper.wp execOp
       have hrun : (Instr.entryStore t (.map (some kb)) (a.eval s) (a.eval x)).run P w = .ok () (mset w kb (ms.modify i fun e => { e with val := a.eval x }) c) := by
         unfold Instr.entryStore
         rw [hus]
         simp [Go.MapKept.run_getObj_map hcur, asInt, asIntOf, hfind, Go.MapKept.run_setObj_map _ hcur, mset]
       simp only [Sem.run_bind, hux, hrun, Result.andThen_ok, Sem.run_pure]
       exact hK _ _ _ _ hk' (hr.step q1 q2) q2
   · exact h.elim
 · exact h.elim
theorem range_wp {st : St} {a : Act} {dst : Option Tmp} {t type : TypeId} {x : Operand} {pos : String} {after : Array Edge} {guard : Option (Nat × Bool)} {K' : Act → World → Prop} {Q : Exit → Act → World → Prop} (hr : Rs P β M st a w)
   {K : St → Prop} (h : rangeA P st t (st.get x) dst K) (hK : Kont P β M st w K K') : (Oper.mk dst (.range t x) type pos after guard).wp P a w K' Q := by
 unfold rangeA at h
 split at h
 · rename_i kt et b hk hx
   split at h
   · rename_i es hb
     obtain ⟨hd, _, hk'⟩ := h
     have rx := hr.get x
     rw [hx] at rx
     generalize hux : a.eval x = ux at rx
     cases rx with
     | mp b kb hβ =>
       obtain ⟨hlt, hMk, ms, c, hcur, h2, h3, h4⟩ := box_block hr.ok hb hβ
       have hS : ∀ F', (∀ k', Fz β M st.bx w k' → F' k' ∧ w.heap[k']? = w.heap[k']?) → MapSAt β w F' kb es (ms.toList.map MapEntry.born) c := fun F' hF =>
         ⟨ms, hcur, rfl, h2, h3, fun i x m hx hm => ⟨(h4 i x m hx hm).1.mono (fun _ _ h => h) hF (fun _ _ h => h), (h4 i x m hx hm).2.mono (fun _ _ h => h) hF (fun _ _ h => h)⟩⟩
       obtain ⟨g1, g2⟩ := re_box (w' := w) (box' := .mapS es (ms.toList.map MapEntry.born) c) hr.ok hb hβ rfl rfl rfl (Nat.le_refl _) rfl (fun _ _ => rfl) (by simp [World.shape?, hcur]) (fun ty e => by cases e) (fun F' hF _ => hS F' hF)
       obtain ⟨q1, q2, q3⟩ := ms_bs (hS _ fun _ hk => ⟨hk, rfl⟩)
       obtain ⟨b', e1, e2⟩ := g1.fresh
       have hbb : b' ≠ b := by rintro rfl; rw [hβ] at e1; cases e1
       obtain ⟨g3, g4⟩ := alloc_o g1 e1 e2 (.mapIter (some kb) c #[] c) (.iter b c c []) (fun ty e => by cases e) (fun F' hF => ⟨kb, by rw [upd_ne _ _ (Ne.symm hbb)]; exact hβ, heap_alloc_new w _, Nat.le_refl _⟩)
       unfold Oper.wp execOp
       simp only [Sem.run_bind, hux, run_range_map w t kt et kb ms c (knd_map hk) hcur, Result.andThen_ok, Sem.run_pure]
       refine hK _ _ _ _ (hk' (ms.toList.map MapEntry.born) c b' q1 q2 q3 e2) (((hr.step (g3) (g2.trans g4))).put (st := { st with bx := _ }) ?_ ?_) ?_
       · cases dst <;> exact hd
       · have := Rep.ptr (β := upd β b' (some (some w.heap.size))) (w := w.alloc (.mapIter (some kb) c #[] c)) (F := Fz (upd β b' (some (some w.heap.size))) M (upd (upd st.bx b (some (.mapS es (ms.toList.map MapEntry.born) c))) b' (some (.iter b c c []))) (w.alloc (.mapIter (some kb) c #[] c))) b' 1 0 0 w.heap.size (upd_eq _ _ _)
         simpa using this
       · cases dst <;> exact g2.trans g4
   · exact h.elim
 · exact h.elim
theorem next_wp {st : St} {a : Act} {dst : Option Tmp} {type : TypeId} {x : Operand} {pos : String} {after : Array Edge} {guard : Option (Nat × Bool)} {K' : Act → World → Prop} {Q : Exit → Act → World → Prop} (hr : Rs P β M st a w)
   {K : St → Prop} (h : nextA st (st.get x) dst K) (hK : Kont P β M st w K K') : (Oper.mk dst (.next x false) type pos after guard).wp P a w K' Q := by
 unfold nextA at h
 split at h
 · rename_i b' hx
   split at h
   · rename_i b since c0 seen hb'
     split at h
     · rename_i es bs c hb
       obtain ⟨hd, hold, hsc, hk1, hk2⟩ := h
       have rx := hr.get x
       rw [hx] at rx
       generalize hux : a.eval x = ux at rx
       cases rx with
       | ptr _ _ _ _ k hβ =>
         obtain ⟨hlt, hMk, kb, hβb, hit, hs0⟩ := box_block hr.ok hb' hβ
         obtain ⟨hltb, hMkb, ms, hcur, hbs, h2, h3, h4⟩ := box_block hr.ok hb hβb
         have hold' : ∀ m, m ∈ ms.toList → m.born < since := fun m hm => hold _ (by rw [hbs]; exact List.mem_map.2 ⟨m, hm, rfl⟩)
         unfold Oper.wp execOp
         simp only [Sem.run_bind, hux, Nat.zero_mul, Nat.add_zero]
         rcases run_next_at (P := P) w type k kb since c0 seen.toArray ms c hit hcur hold' hs0 with ⟨g0, hrun⟩ | ⟨e, he, w1, hal, hrun⟩
         · simp only [hrun, Result.andThen_ok, Sem.run_pure]
           refine hK.put hr hd ?_ (hk1 fun q hq => ?_)
           · exact .tup [.bool false] #[.bool false] rfl fun i c hi => by
               rcases i with _ | i
               · simp at hi; subst hi; exact .bool _
               · simp at hi
           · rw [hbs] at hq
             obtain ⟨m, hm, rfl⟩ := List.mem_map.1 hq
             have := all_seen ms seen.toArray g0 m hm
             simpa using this
         · simp only [hrun, Result.andThen_ok, Sem.run_pure]
           obtain ⟨hem, hes⟩ := mem_left he
           obtain ⟨i, hi⟩ := List.getElem?_of_mem hem
           have him : ms[i]? = some e := by simpa using hi
           have hil : i < es.length := by have := (Array.getElem?_eq_some_iff.1 him).1; omega
           have hq : bs[i]? = some e.born := by rw [hbs, List.getElem?_map, hi]; rfl
           have hei : es[i]? = some es[i] := by simp [hil]
           have hns : ¬ e.born ∈ seen := by simpa using hes
           have hw1 : w1.heap = w.heap := by rcases hal with rfl | rfl <;> rfl
           have hko : ∀ k', k' ≠ k → (Go.ChangeMaps.setBlock w1 k (.mapIter (some kb) since (seen.toArray.push e.born) c)).heap[k']? = w.heap[k']? := fun k' hne => by
             simp [Go.ChangeMaps.setBlock, Array.getElem?_setIfInBounds_ne (Ne.symm hne), hw1]
           have hat : (Go.ChangeMaps.setBlock w1 k (.mapIter (some kb) since (seen.toArray.push e.born) c)).heap[k]? = some (.mapIter (some kb) since (seen.toArray.push e.born) c) := by
             simp [Go.ChangeMaps.setBlock, hw1, hlt]
           obtain ⟨r1, r2⟩ := re_box (w' := Go.ChangeMaps.setBlock w1 k (.mapIter (some kb) since (seen.toArray.push e.born) c)) (box' := .iter b since c (seen ++ [e.born])) hr.ok hb' hβ (by rcases hal with rfl | rfl <;> rfl) (by rcases hal with rfl | rfl <;> rfl) (by rcases hal with rfl | rfl <;> rfl)
             (by rcases hal with rfl | rfl
                 · exact Nat.le_refl _
                 · exact Nat.le_succ _) (by simp [Go.ChangeMaps.setBlock, hw1]) hko (by simp [World.shape?, hit]) (fun ty e => by cases e)
             (fun F' hF _ => ⟨kb, hβb, by rw [hat]; simp, hsc⟩)
           have hkv := h4 i es[i] e hei him
           refine hK _ _ _ _ (hk2 i e.born es[i] hq hei hns) ((hr.step r1 r2).put (st := { st with bx := _ }) ?_ ?_) ?_
           · cases dst <;> exact hd
           · refine .tup [.bool true, es[i].1, es[i].2] #[.bool true, e.key, e.val] rfl fun j c hj => ?_
             rcases j with _ | _ | _ | j
             · simp at hj; subst hj; exact .bool _
             · simp at hj; subst hj; exact r2.rep hkv.1
             · simp at hj; subst hj; exact r2.rep hkv.2
             · simp at hj
           · cases dst <;> exact r2
     · exact h.elim
   · exact h.elim
 · exact h.elim
theorem entry_wp {st : St} {a : Act} {dst : Option Tmp} {type : TypeId} {x : Operand} {pos : String} {after : Array Edge} {guard : Option (Nat × Bool)} {K' : Act → World → Prop} {Q : Exit → Act → World → Prop} (hr : Rs P β M st a w)
   {K : St → Prop} (h : entryA st (st.get x) dst K) (hK : Kont P β M st w K K') : (Oper.mk dst (.entry x) type pos after guard).wp P a w K' Q := by
 unfold entryA at h
 split at h
 · rename_i b' hx
   split at h
   · rename_i b since c0 seen hb'
     split at h
     · rename_i es bs c hb
       obtain ⟨hd, rfl, i, ex, pre, q, rfl, hq, hei, hk'⟩ := h
       have rx := hr.get x
       rw [hx] at rx
       generalize hux : a.eval x = ux at rx
       cases rx with
       | ptr _ _ _ _ k hβ =>
         obtain ⟨hlt, hMk, kb, hβb, hit, hs0⟩ := box_block hr.ok hb' hβ
         have hblk := box_block hr.ok hb hβb
         have hnd := (ms_bs hblk.2.2).2.1
         obtain ⟨hltb, hMkb, ms, hcur, hbs, h2, h3, h4⟩ := hblk
         have hil : i < es.length := (List.getElem?_eq_some_iff.1 hei).1
         have him : ms[i]? = some ms[i] := by simp [h2, hil]
         have hqe : q = ms[i].born := by
           rw [hbs, List.getElem?_map] at hq
           simp [h2, hil] at hq
           exact hq.symm
         subst hqe
         have hkv := h4 i ex ms[i] hei him
         have hit' : w.heap[k]? = some (.mapIter (some kb) since (pre.toArray.push ms[i].born) c0) := by rw [hit]; simp
         unfold Oper.wp execOp
         have hrun := run_entry_at (P := P) w k kb since pre.toArray ms c0 ms[i] hit' hcur (by simp) (by rw [← hbs]; exact hnd)
         simp only [Sem.run_bind, hux, Nat.zero_mul, Nat.add_zero, hrun, Result.andThen_ok, Sem.run_pure]
         refine hK.put hr hd ?_ hk'
         refine .tup [ex.1, ex.2] #[ms[i].key, ms[i].val] rfl fun j c hj => ?_
         rcases j with _ | _ | j
         · simp at hj; subst hj; exact hkv.1
         · simp at hj; subst hj; exact hkv.2
         · simp at hj
     · exact h.elim
   · exact h.elim
 · exact h.elim
theorem cvt_wp {st : St} {a : Act} {dst : Option Tmp} {s t type : TypeId} {x : Operand} {pos : String} {after : Array Edge} {guard : Option (Nat × Bool)} {K' : Act → World → Prop} {Q : Exit → Act → World → Prop} (hr : Rs P β M st a w)
   {K : St → Prop} (h : cvtP P s t (st.get x) dst K st) (hK : Kont P β M st w K K') : (Oper.mk dst (.convert s t x) type pos after guard).wp P a w K' Q := by
 unfold cvtP at h
 split at h
 · rename_i e bs h1 h2 hx
   obtain ⟨⟨hu, hn⟩, hd, _, hk⟩ := h
   have rx := hr.get x
   rw [hx] at rx
   generalize hux : a.eval x = ux at rx
   obtain ⟨q, rfl, rfl⟩ := rx.str_inv
   have hq : q.size = q.data.toList.length := by show q.data.size = _; simp
   have hrun := Lib.run_convert_string_bytes (P := P) w s t e q (knd_str h1) (knd_slice h2) (knd_int hu)
   have hcell := fun i hi => Lib.bytesWorld_cell w e q i hi
   have hnew := Lib.bytesWorld_at_new w e q
   have hkold : ∀ k, k < w.heap.size → (Lib.bytesWorld w e q).heap[k]? = w.heap[k]? := fun k hk => Lib.bytesWorld_at_old w e q k hk
   have hsz := Lib.bytesWorld_size w e q
   have hcap : q.size ≤ grownCap w q.size 0 e ∧ grownCap w q.size 0 e ≤ maxLen := ⟨grownCap_ge w q.size 0 e, grownCap_le_maxLen w q.size 0 e (by rw [hq]; simpa [maxLen] using hn)⟩
   have hcs : (Lib.bytesCells w e q).size = grownCap w q.size 0 e := by
     unfold Lib.bytesCells
     simp only [Array.size_append, Array.size_map, Array.size_replicate]
     have : q.data.size = q.size := rfl
     omega
   have hshape : ∀ k y, w.shape? k = some y → (Lib.bytesWorld w e q).shape? k = some y := fun k y hy => by
     rw [shape_heap (hkold k (shape_lt hy))]; exact hy
   have hos : (Lib.bytesWorld w e q).os = w.os ∧ (Lib.bytesWorld w e q).tape = w.tape ∧ (Lib.bytesWorld w e q).output = w.output ∧ w.drawn ≤ (Lib.bytesWorld w e q).drawn := ⟨rfl, rfl, rfl, Nat.le_succ w.drawn⟩
   obtain ⟨b, e1, e2⟩ := hr.ok.fresh
   unfold Oper.wp execOp
   simp only [Sem.run_bind, hux, hrun, Result.andThen_ok, Sem.run_pure]
   generalize Lib.bytesWorld w e q = w' at *
   obtain ⟨h3, h4⟩ := rebox hr.ok b e1 hos.1 hos.2.1 hos.2.2.1 hos.2.2.2 (by omega) (fun k hk _ => hkold k hk) hshape (some w.heap.size) e 1 (q.data.toList.map byteV) (.inl (by decide)) (fun h => by cases h) (fun g hg => by
     injection hg with hg
     subst hg
     refine ⟨.inl (Nat.le_refl _), by omega, _, _, hnew, .inr rfl, by rw [hcs]; simpa [← hq] using hcap.1, fun i c hi => ?_⟩
     simp only [List.getElem?_map, Option.map_eq_some_iff] at hi
     obtain ⟨y, hy, rfl⟩ := hi
     refine ⟨rfl, fun j c hj => ?_⟩
     have hj0 : j = 0 := by
       have := (List.getElem?_eq_some_iff.1 hj).1
       simp [byteV, V.cells] at this
       exact this
     subst hj0
     obtain rfl : byteV y = c := by simpa [byteV, V.cells] using hj
     have hiq : i < q.size := by rw [hq]; exact (List.getElem?_eq_some_iff.1 hy).1
     have e3 : q.data.toList.getD i 0 = y := by simp only [List.getD, hy, Option.getD_some]
     have hc := hcell i hiq
     have hcur : (Lib.bytesCells w e q).getD (i * 1 + 0) undef = .int .u8 y.toNat := by
       simp only [World.cell?, hnew] at hc
       rw [Nat.mul_one, Nat.add_zero, Array.getD_eq_getD_getElem?]
       have hc2 : (Lib.bytesCells w e q)[i]? = some (.int .u8 (q.data.toList.getD i 0).toNat) := by simpa using hc
       rw [hc2, e3]
       rfl
     rw [hcur]
     exact ⟨rfl, .int _ _⟩)
   have e4 : upd (upd st.bx b none) b (some (.row e 1 (q.data.toList.map byteV))) = upd st.bx b (some (.row e 1 (q.data.toList.map byteV))) := by
     funext d
     by_cases hd : d = b
     · subst hd; rw [upd_eq, upd_eq]
     · rw [upd_ne _ _ hd, upd_ne _ _ hd, upd_ne _ _ hd]
   rw [e4] at h3 h4
   refine hK _ _ _ _ (hk b e2) ((hr.step h3 h4).put (st := { st with bx := _ }) (by cases dst <;> exact hd) ?_) (by cases dst <;> exact h4)
   have := Rep.own (β := upd β b (some (some w.heap.size))) (w := w') (F := Fz (upd β b (some (some w.heap.size))) M (upd st.bx b (some (.row e 1 (q.data.toList.map byteV)))) w') b 1 0 q.size w.heap.size (grownCap w q.size 0 e) _ e (upd_eq _ _ _) (shape_of hnew) (by rw [hcs]; omega) hcap.1 (by simpa using hcap.2)
   rw [Nat.zero_mul, hq] at this
   rw [hq]
   exact this
 · exact h.elim
theorem absOp_sound {d : Bool} {o : Oper} {K : St → Prop} {st : St} {a : Act} {K' : Act → World → Prop} {Q : Exit → Act → World → Prop} (h : absOp P d o K st) (hr : Rs P β M st a w) (hK : Kont P β M st w K K') : o.wp P a w K' Q := by
 unfold absOp at h
 split at h
 · obtain ⟨hc, hd, hk⟩ := h
   exact ev_wp hr hc (fun u w' hr' ht hu => (hK.trans ht).put hr' hd hu hk)
 · rename_i hne0
   obtain ⟨dst, op, type, pos, after, guard⟩ := o
   simp only at h hne0
   split at h
   ·
     rename_i e
     split at h
     · rename_i z hz
       obtain ⟨⟨hty, ho, hl⟩, hd, _, hk⟩ := h
       unfold Oper.wp execOp
       simp only [Sem.run_bind, run_alloc hz, Result.andThen_ok, Sem.run_pure]
       refine hr.alloc hK z.cells e (tsz P e) [ofValue z] (.inr (by simp)) ?_ (rowRep_one ho hl (rep_ofValue z)) hd (fun b => .ptr b (tsz P e) 0 0) _ (fun b β' w' F h1 h2 => ?_) hk
       · rw [ofValue_size ho, hl]; simp
       · have := Rep.ptr (β := β') (w := w') (F := F) b (tsz P e) 0 0 _ h1
         simpa using this
     · exact h.elim
   ·
     rename_i e x
     obtain ⟨⟨hty, ho, hl⟩, hd, _, hk⟩ := h
     unfold Oper.wp execOp
     simp only [Sem.run_bind, run_box, Result.andThen_ok, Sem.run_pure]
     refine hr.alloc hK _ e (tsz P e) [st.get x] (.inr (by simp)) ?_ (rowRep_one ho hl (hr.get x)) hd (fun b => .ptr b (tsz P e) 0 0) _ (fun b β' w' F h1 h2 => ?_) hk
     · rw [(okV_rep ho (hr.get x)).1, hl]; simp
     · have := Rep.ptr (β := β') (w := w') (F := F) b (tsz P e) 0 0 _ h1
       simpa using this
   ·
     rename_i t len parts
     split at h
     · rename_i e hk
       split at h
       · rename_i z hz
         obtain ⟨⟨hty, ho, hl⟩, hpos, hsmall, hparts, hd, _, hk'⟩ := h
         obtain ⟨i, hi, hi2⟩ := zero_at hz
         have hsz : i.size = tsz P e := by simp [tsz, hi]
         have hzz : z.cells.size = tsz P e := by rw [ofValue_size ho, hl]
         by_cases hlen : len = 0
         · subst hlen
           have hp : parts.toList = [] := by
             cases hq : parts.toList with
             | nil => rfl
             | cons p ps => have := (hparts p (by rw [hq]; simp)).1; omega
           have hp' : parts = #[] := by simpa using hp
           subst hp'
           have hrun : (Instr.buildSlice t 0 #[]).run P w = .ok (.slice (some ⟨w.heap.size, 0, none⟩) 0 0) (w.alloc (.cells #[] e)) := by
             simp [Instr.buildSlice, run_underlying (knd_slice hk), sizeOf, typeInfo, hi, Instr.fill, newRow, Array.range_zero']
           unfold Oper.wp execOp
           simp only [Sem.run_bind, List.map_toArray, List.map_nil, hrun, Result.andThen_ok, Sem.run_pure]
           refine hr.alloc hK #[] e (tsz P e) [] (.inl hpos) (by simp) (fun i e he => by simp at he) hd (fun b => .own b (tsz P e) 0 0) _ (fun b β' w' F h1 h2 => ?_) (by simpa [fillV] using hk')
           have := Rep.own (β := β') (w := w') (F := F) b (tsz P e) 0 0 _ 0 0 e h1 h2 (by simp) (Nat.le_refl _) (by simp)
           simpa using this
         · have hcur := zeros_at z (tsz P e) (len * tsz P e) hpos hzz
           have hrep0 := replicate_rep (β := β) (w := w) (F := Fz β M st.bx w) (len := len) ho hl hpos ((Array.range (len * tsz P e)).map (z.cells[· % z.cells.size]!)) (Nat.le_refl _) hcur
           obtain ⟨cur', h1, h2, h3, h4⟩ := fill_sound (fun x => hr.get x) rfl parts.toList (List.replicate len (ofValue z)) _ (by simp) (by simp) hrep0 hparts
           have hrun := run_buildSlice (P := P) w t e len (parts.map fun (i, x) => (i, a.eval x)) cur' i z (knd_slice hk) hi hi2 (by rw [hsz]; omega) (by rw [hsz]; have := Nat.mul_pos (Nat.pos_of_ne_zero hlen) hpos; omega) (by rw [hsz, Array.toList_map]; exact h1)
           unfold Oper.wp execOp
           simp only [Sem.run_bind, hrun, Result.andThen_ok, Sem.run_pure]
           refine hr.alloc hK cur' e (tsz P e) _ (.inl hpos) (by rw [h4, h2]; simp) h3 hd (fun b => .own b (tsz P e) 0 len) _ (fun b β' w' F h5 h6 => ?_) hk'
           have hcs : cur'.size = len * tsz P e := by rw [h2]; simp
           have hlm : len ≤ maxLen := by
             have : len * 1 ≤ len * tsz P e := Nat.mul_le_mul_left _ hpos
             simp only [maxLen]
             omega
           have := Rep.own (β := β') (w := w') (F := F) b (tsz P e) 0 len _ len _ e h5 h6 (by rw [hcs]; simp) (Nat.le_refl _) (by simpa using hlm)
           simpa using this
       · exact h.elim
     · exact h.elim
   ·
     rename_i t l c
     split at h
     · rename_i e kl l' kc c' hk hl' hc'
       split at h
       · rename_i z hz
         obtain ⟨hll, hlc, ⟨hty, ho, hl⟩, hpos, rfl, h0, hby, h63, hd, _, hk'⟩ := h
         obtain ⟨i, hi, hi2⟩ := zero_at hz
         have hsz : i.size = tsz P e := by simp [tsz, hi]
         have hbb : i.bytes = tby P e := by simp [tby, hi]
         have hzz : z.cells.size = tsz P e := by rw [ofValue_size ho, hl]
         have rl := hr.get l
         rw [live_of hll hl'] at rl
         have rc := hr.get c
         rw [live_of hlc hc'] at rc
         have hrun := run_make (P := P) w t e i z (knd_slice hk) hi hi2 kl kc l' l' h0 (Int.le_refl _) (by rw [hbb]; exact hby) h63
         unfold Oper.wp execOp
         simp only [rl.int_inv, rc.int_inv, Sem.run_bind, hrun, Result.andThen_ok, Sem.run_pure]
         have hms : (madeCells z.cells (l'.toNat * i.size)).size = l'.toNat * tsz P e := by rw [size_madeCells, hsz]
         refine hr.alloc hK _ e (tsz P e) (List.replicate l'.toNat (ofValue z)) (.inl hpos) (by rw [hms]; simp) ?_ hd (fun b => .own b (tsz P e) 0 l'.toNat) _ (fun b β' w' F h5 h6 => ?_) hk'
         · refine replicate_rep ho hl hpos _ (Nat.le_refl _) (fun m hm => ?_)
           have := zeros_at z (tsz P e) (l'.toNat * tsz P e) hpos hzz m hm
           rw [← hsz] at this ⊢
           exact this
         · have := Rep.own (β := β') (w := w') (F := F) b (tsz P e) 0 l'.toNat _ l'.toNat _ e h5 h6 (by rw [hms]; simp) (Nat.le_refl _) (by simp only [maxLen]; omega)
           simpa using this
       · exact h.elim
     · exact h.elim
   ·
     rename_i t ad x
     split at h
     · rename_i b sz i o' hget
       split at h
       · rename_i ty sz' es hb
         obtain ⟨rfl, hi, ⟨hty, ho, hl⟩, hpos, hfit, hdst, hk⟩ := h
         subst hdst
         have ra := hr.get ad
         rw [hget] at ra
         cases hua : a.eval ad with
         | pointer p =>
           rw [hua] at ra
           cases ra with
           | ptr b sz i o' k hβ =>
             rcases hr.ok.live b _ hb with ⟨h1, _⟩ | ⟨k', h1, _, _, cur, fr, hcur, hfr, hcl, hrow⟩
             · rw [hβ] at h1; cases h1
             · rw [hβ] at h1
               injection h1 with h1
               injection h1 with h1
               subst h1
               obtain ⟨hel, hec⟩ := hrow i _ (by simp [List.getD, List.getElem?_eq_getElem hi] : es[i]? = some (es.getD i .unk))
               have hu := okV_rep ho (hr.get x)
               have hbound : (i + 1) * sz ≤ es.length * sz := Nat.mul_le_mul_right _ hi
               rw [Nat.succ_mul] at hbound
               have hone : ∀ v, v ∈ (a.eval x).cells.toList → v.oneCell' = true := by
                 intro v hv
                 obtain ⟨m, hm⟩ := List.mem_iff_getElem?.1 hv
                 have hml := (List.getElem?_eq_some_iff.1 hm).1
                 simp only [Array.length_toList] at hml
                 have := (hu.2 m _ (List.getElem?_eq_getElem (by omega))).1
                 simp only [Array.getElem?_toList] at hm
                 simpa [hm] using this
               have hrun := run_storeAt (P := P) (w := w) (t := t) (o := i * sz + o') hty (by rw [hu.1, hl]) hcur hfr (by rw [hu.1]; omega) hone
               have hsize : (cur.toList.take (i * sz + o') ++ (a.eval x).cells.toList ++ cur.toList.drop (i * sz + o' + (a.eval x).cells.size)).toArray.size = cur.size := by
                 simp
                 have := hu.1
                 omega
               have hrow' : RowRep β w (Fz β M st.bx w) sz (es.set i (setC (es.getD i .unk) o' (st.get x).cells)) (cur.toList.take (i * sz + o') ++ (a.eval x).cells.toList ++ cur.toList.drop (i * sz + o' + (a.eval x).cells.size)).toArray := by
                 have hsp := fun m => splice_getD (cur := cur) (us := (a.eval x).cells) (p := i * sz + o') (by rw [hu.1]; omega) m
                 intro i' e' he'
                 by_cases e1 : i' = i
                 · subst e1
                   rw [List.getElem?_set_self hi] at he'
                   injection he' with he'
                   subst he'
                   refine store_elem hel ho (by omega) hpos (hr.get x) cur _ (i' * sz) (fun j c hc => hec j c hc) (fun m h5 h6 => ?_)
                   rw [hsp, hu.1]
                 · rw [List.getElem?_set_ne (Ne.symm e1)] at he'
                   obtain ⟨h5, h6⟩ := hrow i' e' he'
                   refine ⟨h5, fun j c hc => ?_⟩
                   have hj : j < sz := by have := (List.getElem?_eq_some_iff.1 hc).1; omega
                   have hfit2 : i * sz + o' + (st.get x).cells.length ≤ i * sz + sz := by omega
                   rw [hsp, hu.1, if_neg ?_]
                   · exact h6 j c hc
                   · rintro ⟨h7, h8⟩
                     rcases Nat.lt_or_gt_of_ne e1 with h9 | h9
                     · have : (i' + 1) * sz ≤ i * sz := Nat.mul_le_mul_right _ h9
                       rw [Nat.succ_mul] at this
                       omega
                     · have : (i + 1) * sz ≤ i' * sz := Nat.mul_le_mul_right _ h9
                       rw [Nat.succ_mul] at this
                       omega
               obtain ⟨h3, h4⟩ := write_box hr.ok hb hβ hcur hfr _ hsize _ (by simp) (by rw [hsize]; simpa using hcl) hrow'
               unfold Oper.wp execOp
               simp only [Sem.run_bind, hua, hrun, Result.andThen_ok, Sem.run_pure]
               exact hK _ _ _ _ hk (hr.step h3 h4) h4
         | _ => rw [hua] at ra; cases ra
       · exact h.elim
     · exact h.elim
   ·
     rename_i t
     obtain ⟨hd, _, hk⟩ := h
     unfold Oper.wp execOp
     have hrun : (Instr.makeMap t none).run P w = .ok (.map (some w.heap.size)) (w.alloc (.map #[] 0)) := by
       unfold Instr.makeMap newObj
       simp [Sem.run]
     simp only [Option.map_none, Sem.run_bind, hrun, Result.andThen_ok, Sem.run_pure]
     exact hr.newMap hK hd hk
   · rename_i t x
     exact range_wp hr h.2 hK
   · rename_i x
     exact next_wp hr h.2 hK
   · rename_i x
     exact entry_wp hr h.2 hK
   · rename_i t m k x
     obtain ⟨rfl, hput⟩ := h
     exact put_wp (t := t) (m := m) (k := k) (x := x) rfl rfl hr hput hK
   · rename_i t m k x
     obtain ⟨rfl, hput⟩ := h
     exact put_wp (t := t) (m := m) (k := k) (x := x) rfl rfl hr hput hK
   · exact entA_wp hr h hK
   · obtain ⟨rfl, h⟩ := h
     exact entStA_wp hr h hK
   ·
     rename_i s d' x
     have hsd : s = d' := by simpa [isEv] using hne0
     subst hsd
     split at h
     · rename_i e b sz n hk hget
       split at h
       · rename_i ty sz' es hb
         obtain ⟨he, rfl, rfl, hn, h0, hall, hd, hK0⟩ := h
         have rx := hr.get x
         rw [hget] at rx
         generalize hux : a.eval x = ux at rx
         cases rx with
         | own0 => exact absurd h0 (by omega)
         | own _ _ _ _ k cap m ty' hβ hs hm hcn hmax =>
           rcases hr.ok.live b _ hb with ⟨h1, _⟩ | ⟨k', h1, hlt, hMn, cur, fr, hcur, hfr, hcl, hrow⟩
           · rw [hβ] at h1; cases h1
           · rw [hβ] at h1; injection h1 with h1; injection h1 with h1; subst h1
             have hrun := run_cvt (P := P) (w := w) (n := n) (cap := cap) (knd_slice hk) (knd_int he) hcur
             obtain ⟨hok', htr⟩ := box_mark hr.ok hb hβ hcur hfr
             unfold Oper.wp execOp
             simp only [Nat.zero_mul] at hux
             simp only [Sem.run_bind, hux, Nat.zero_mul, hrun, Result.andThen_ok, Sem.run_pure]
             obtain ⟨hkk, _, _⟩ := frz_heap hcur hfr
             generalize w.freeze ⟨k, cur.size, none⟩ 1 = w' at *
             refine hK _ _ _ _ hK0 (((hr.step hok' htr)).put (st := { st with bx := _ }) ?_ ?_) ?_
             · cases dst <;> exact hd
             · have hfz : Fz β M (upd st.bx b none) w' k := by
                 refine ⟨by have := htr.size; omega, hMn, fun b' hb' he' => ?_⟩
                 by_cases e1 : b' = b
                 · subst e1; simp [upd_eq] at hb'
                 · rw [upd_ne _ _ e1] at hb'
                   exact e1 (hr.ok.inj b' b k hb' (by rw [hb]; simp) he' hβ)
               have hint : ∀ (i : Nat) (c : V), es[i]? = some c → ∃ z, c = .int .u8 z := by
                 intro i c hi
                 have := List.all_eq_true.1 hall c (List.mem_of_getElem? hi)
                 unfold isU8 at this
                 split at this
                 · exact ⟨_, rfl⟩
                 · cases this
               have hcell : ∀ (i : Nat) (c : V), es[i]? = some c → (cur.getD i undef).oneCell' = true ∧ ∃ z, c = .int .u8 z ∧ cur.getD i undef = .int .u8 z ∧ i < cur.size := by
                 intro i c hi
                 obtain ⟨z, rfl⟩ := hint i c hi
                 obtain ⟨g1, g2⟩ := (hrow i _ hi).2 0 (.int .u8 z) rfl
                 simp only [Nat.mul_one, Nat.add_zero] at g1 g2
                 have := (List.getElem?_eq_some_iff.1 hi).1
                 exact ⟨g1, z, rfl, g2.int_inv, by omega⟩
               subst hn
               refine .sl 1 es _ cap (fun j => cur.getD j undef) hcn (by simpa using hmax) (fun _ h => by cases h) (fun e1 h1 => ?_) (fun i e1 j c hi hj => ?_) (fun i e1 j c hi hj => ?_)
               · obtain ⟨i, hi⟩ := List.getElem?_of_mem h1
                 obtain ⟨z, rfl⟩ := hint i _ hi
                 rfl
               · obtain ⟨g1, z, rfl, g2, g3⟩ := hcell i _ hi
                 have hj0 : j = 0 := by rcases j with _ | j; rfl; simp [V.cells] at hj
                 subst hj0
                 refine ⟨_, rfl, hfz, ?_, by simpa using g1⟩
                 have e2 : (⟨k, 0, none⟩ : Addr).add i = ⟨k, i, none⟩ := by unfold Addr.add; by_cases h : i = 0 <;> simp [h]
                 simp only [Nat.mul_one, Nat.add_zero, e2]
                 simp [World.cell?, hkk, g3]
               · obtain ⟨g1, z, rfl, g2, g3⟩ := hcell i _ hi
                 have hj0 : j = 0 := by rcases j with _ | j; rfl; simp [V.cells] at hj
                 subst hj0
                 simp [V.cells] at hj
                 subst hj
                 simp only [Nat.mul_one, Nat.add_zero, g2]
                 exact .int _ _
             · cases dst <;> exact htr
       · exact h.elim
     · exact h.elim
   ·
     rename_i c
     split at h
     · rename_i s x t t' h1 h2 h3
       obtain ⟨htt, h⟩ := h
       obtain ⟨callee, args, ts⟩ := c
       simp only at h1 h2 h3
       subst h1
       obtain rfl : args = #[s, x] := by rw [← Array.toArray_toList (xs := args), h2]
       obtain rfl : ts = #[t, t'] := by rw [← Array.toArray_toList (xs := ts), h3]
       obtain ⟨v, w', h4, h5⟩ := append_sound (ty := type) h htt hr (hr.get s) (hr.get x) hK
       unfold Oper.wp
       have : (execOp a.eval { dst := dst, op := .call { callee := .builtin .append, args := #[s, x], argTypes := #[t, t'] }, type := type, pos := pos, after := after, guard := guard }).run P w = .ok (.value v) w' := by
         show (do let d ← resolve a.eval _ type; invoke d.target d.args : Sem Next).run P w = _
         simp only [resolve, invoke, builtin, Sem.run_bind, Sem.run_pure, Result.andThen_ok, List.map_toArray, List.map_cons, List.map_nil, h4]
       rw [this]
       exact h5
     · rename_i x t h1 h2 h3
       obtain ⟨_, rfl, h⟩ := h
       obtain ⟨callee, args, ts⟩ := c
       simp only at h1 h2 h3
       subst h1
       obtain rfl : args = #[x] := by rw [← Array.toArray_toList (xs := args), h2]
       obtain rfl : ts = #[t] := by rw [← Array.toArray_toList (xs := ts), h3]
       unfold clearA at h
       split at h
       · rename_i e b sz o n hk hx
         split at h
         · rename_i z e' sz' es hz hb
           obtain ⟨hty, hpos, hsz1, hsz2, hn, hle, hK0⟩ := h
           subst hsz1 hsz2
           have rx := hr.get x
           rw [hx] at rx
           generalize hux : a.eval x = ux at rx
           have hzs : z.cells.size = tsz P e := by rw [ofValue_size hty.2.1]; exact hty.2.2
           have hus : (Builtin.zeroCells z.cells n).size = n * tsz P e := by rw [size_zeroCells, hzs]
           have hzr : RowRep β w (Fz β M st.bx w) (tsz P e) (List.replicate n (ofValue z)) (Builtin.zeroCells z.cells n) := by
             refine replicate_rep hty.2.1 hty.2.2 hpos _ (Nat.le_refl _) (fun m hm => ?_)
             simp only [Builtin.zeroCells, Array.getD_eq_getD_getElem?]
             have hm2 : m < n * z.cells.size := by rw [hzs]; exact hm
             have hm3 : m % z.cells.size < z.cells.size := Nat.mod_lt _ (by omega)
             rw [Array.getElem?_map, Array.getElem?_range, if_pos hm2]
             rw [← hzs]
             simp [hm3]
           cases rx with
           | own0 => omega
           | own _ _ _ _ blk cap m ty' hβ hs hm hcn hmax =>
             rcases hr.ok.live b _ hb with ⟨h1, _⟩ | ⟨blk', h1, hlt, hMn, cur, fr, hcur, hfr, hcl, hrow⟩
             · rw [hβ] at h1; cases h1
             · rw [hβ] at h1; injection h1 with h1; injection h1 with h1; subst h1
               have hfit : o * tsz P e + n * tsz P e ≤ cur.size := by
                 rw [← Nat.add_mul]; exact Nat.le_trans (Nat.mul_le_mul_right _ hle) hcl
               have hone : ∀ v, v ∈ (Builtin.zeroCells z.cells n).toList → v.oneCell' = true := by
                 intro v hv
                 obtain ⟨q, hq, rfl⟩ := List.getElem_of_mem hv
                 rw [Array.length_toList, hus] at hq
                 have hq1 : q / tsz P e < n := (Nat.div_lt_iff_lt_mul hpos).2 hq
                 have hq2 : q % tsz P e < tsz P e := Nat.mod_lt _ hpos
                 have hq3 : q / tsz P e * tsz P e + q % tsz P e = q := by rw [Nat.mul_comm]; exact Nat.div_add_mod _ _
                 have := (hzr (q / tsz P e) (ofValue z) (by rw [List.getElem?_replicate, if_pos hq1])).2 (q % tsz P e) _ (List.getElem?_eq_getElem (by rw [hty.2.2]; exact hq2))
                 rw [hq3] at this
                 have h3 := this.1
                 rw [Array.getD_eq_getD_getElem?, Array.getElem?_eq_getElem (by rw [hus]; exact hq)] at h3
                 simpa using h3
               have hrun := run_clear (P := P) (w := w) (ty := type) (o := o * tsz P e) (cap := cap) (knd_slice hk) hz hone hn hcur hfr (by rw [hus]; exact hfit)
               rw [hus] at hrun
               obtain ⟨hok', htr⟩ := write_box hr.ok hb hβ hcur hfr (cur.toList.take (o * tsz P e) ++ (Builtin.zeroCells z.cells n).toList ++ cur.toList.drop (o * tsz P e + n * tsz P e)).toArray (by simp [hus]; omega) (es.take o ++ List.replicate n (ofValue z) ++ es.drop (o + n)) (by simp; omega) (by
                 have e1 : (es.take o ++ List.replicate n (ofValue z) ++ es.drop (o + n)).length = es.length := by simp; omega
                 have e2 : (cur.toList.take (o * tsz P e) ++ (Builtin.zeroCells z.cells n).toList ++ cur.toList.drop (o * tsz P e + n * tsz P e)).toArray.size = cur.size := by simp [hus]; omega
                 rw [e1, e2]; exact hcl) (by
                 have hsp := fun m => splice_getD (cur := cur) (us := Builtin.zeroCells z.cells n) (p := o * tsz P e) (by rw [hus]; exact hfit) m
                 rw [hus] at hsp
                 intro i e0 hi
                 have hto : (es.take o).length = o := by simp; omega
                 have hcase : (¬ (o ≤ i ∧ i < o + n) ∧ es[i]? = some e0) ∨ ((o ≤ i ∧ i < o + n) ∧ e0 = ofValue z) := by
                   by_cases h1 : i < o
                   · rw [List.append_assoc, List.getElem?_append_left (by omega), List.getElem?_take, if_pos h1] at hi
                     exact .inl ⟨by omega, hi⟩
                   · by_cases h2 : i < o + n
                     · rw [List.append_assoc, List.getElem?_append_right (by omega), hto, List.getElem?_append_left (by simp; omega)] at hi
                       exact .inr ⟨by omega, (List.eq_of_mem_replicate (List.mem_of_getElem? hi))⟩
                     · rw [List.getElem?_append_right (by simp; omega), List.getElem?_drop] at hi
                       have e3 : o + n + (i - (es.take o ++ List.replicate n (ofValue z)).length) = i := by simp; omega
                       rw [e3] at hi
                       exact .inl ⟨by omega, hi⟩
                 rcases hcase with ⟨h1, h2⟩ | ⟨h1, rfl⟩
                 · obtain ⟨g1, g2⟩ := hrow i e0 h2
                   refine ⟨g1, fun j c hc => ?_⟩
                   have hj : j < tsz P e := by have := (List.getElem?_eq_some_iff.1 hc).1; omega
                   have hout : ¬ (o * tsz P e ≤ i * tsz P e + j ∧ i * tsz P e + j < o * tsz P e + n * tsz P e) := by
                     rw [← Nat.add_mul]
                     rintro ⟨k1, k2⟩
                     apply h1
                     constructor
                     · rcases Nat.lt_or_ge i o with h | h
                       · have := Nat.mul_le_mul_right (tsz P e) (show i + 1 ≤ o from h)
                         rw [Nat.succ_mul] at this; omega
                       · exact h
                     · rcases Nat.lt_or_ge i (o + n) with h | h
                       · exact h
                       · have := Nat.mul_le_mul_right (tsz P e) h; omega
                   rw [hsp, if_neg hout]
                   exact g2 j c hc
                 · refine ⟨hty.2.2, fun j c hc => ?_⟩
                   have hj : j < tsz P e := by have := (List.getElem?_eq_some_iff.1 hc).1; rw [hty.2.2] at this; exact this
                   have hin : o * tsz P e ≤ i * tsz P e + j ∧ i * tsz P e + j < o * tsz P e + n * tsz P e := by
                     rw [← Nat.add_mul]
                     have k1 := Nat.mul_le_mul_right (tsz P e) h1.1
                     have k2 := Nat.mul_le_mul_right (tsz P e) (show i + 1 ≤ o + n from h1.2)
                     rw [Nat.succ_mul] at k2
                     omega
                   have hsub : i * tsz P e + j - o * tsz P e = (i - o) * tsz P e + j := by
                     rw [Nat.sub_mul]
                     have k1 := Nat.mul_le_mul_right (tsz P e) h1.1
                     omega
                   rw [hsp, if_pos hin, hsub]
                   exact (hzr (i - o) (ofValue z) (by rw [List.getElem?_replicate, if_pos (by omega)])).2 j c hc)
               unfold Oper.wp
               have hx2 : (execOp a.eval { dst := none, op := .call { callee := .builtin .clear, args := #[x], argTypes := #[t] }, type := type, pos := pos, after := after, guard := guard }).run P w = .ok (.value (.tuple #[])) (w.setRow blk (cur.toList.take (o * tsz P e) ++ (Builtin.zeroCells z.cells n).toList ++ cur.toList.drop (o * tsz P e + n * tsz P e)).toArray) := by
                 show (do let d ← resolve a.eval _ type; invoke d.target d.args : Sem Next).run P w = _
                 simp only [resolve, invoke, builtin, Sem.run_bind, Sem.run_pure, Result.andThen_ok, List.map_toArray, List.map_cons, List.map_nil, hux, hrun]
               rw [hx2]
               exact hK _ _ _ _ hK0 (hr.step hok' htr) htr
         · exact h.elim
       · exact h.elim
     · rename_i m k t t2 h1 h2 h3
       obtain ⟨rfl, h⟩ := h
       obtain ⟨callee, args, ts⟩ := c
       simp only at h1 h2 h3
       subst h1
       obtain rfl : args = #[m, k] := by rw [← Array.toArray_toList (xs := args), h2]
       obtain rfl : ts = #[t, t2] := by rw [← Array.toArray_toList (xs := ts), h3]
       unfold delA at h
       split at h
       · rename_i kt et b hk hm
         split at h
         · rename_i es hb
           split at h
           · rename_i es' hp
             obtain ⟨hl, hkk, hk'⟩ := h
             rw [strip_live hl] at hkk hp
             have rm := hr.get m
             rw [hm] at rm
             generalize hmu : a.eval m = um at rm
             cases rm with
             | mp b k' hβ =>
               rcases hr.ok.live b _ hb with ⟨h1, _⟩ | ⟨k2, h1, _, _, hmap⟩
               · rw [hβ] at h1; cases h1
               · rw [hβ] at h1
                 injection h1 with h1
                 injection h1 with h1
                 subst h1
                 obtain ⟨ms, cl, hcur, g2, g3, g4⟩ := hmap
                 obtain ⟨ms', c', hrun, hrep⟩ := run_delete (t2 := t2) (ty := type) hk hkk (hr.get k) hcur ⟨g2, g3, g4⟩ hp
                 obtain ⟨h5, h6⟩ := write_map hr.ok hb hβ hcur ms' c' es' hrep
                 unfold Oper.wp
                 have hx2 : (execOp a.eval { dst := none, op := .call { callee := .builtin .delete, args := #[m, k], argTypes := #[t, t2] }, type := type, pos := pos, after := after, guard := guard }).run P w = .ok (.value (.tuple #[])) (mset w k' ms' c') := by
                   show (do let d ← resolve a.eval _ type; invoke d.target d.args : Sem Next).run P w = _
                   simp only [resolve, invoke, builtin, Sem.run_bind, Sem.run_pure, Result.andThen_ok, List.map_toArray, List.map_cons, List.map_nil, hmu, hrun]
                 rw [hx2]
                 exact hK _ _ _ _ hk' (hr.step h5 h6) h6
           · exact h.elim
         · exact h.elim
       · exact h.elim
     · rename_i recv name h1
       exact inv_wp (o := ⟨dst, .call c, type, pos, after, guard⟩) rfl h1 hr h.2 hK
     · rename_i f h1
       split at h
       · rename_i g vs hcal
         obtain ⟨hl, hd, h⟩ := h
         split at h
         · obtain ⟨r, hp, hk⟩ := h
           refine pure_wp (o := ⟨dst, .call c, type, pos, after, guard⟩) rfl h1 hr hcal hl hp (fun u r' bx' β' w' hkc hok htr hrep => ?_)
           obtain ⟨rfl, rfl⟩ := hkc
           exact hK _ _ _ _ hk ((hr.step hok htr).put hd hrep) (by cases dst <;> exact htr)
         · refine pure_wp (o := ⟨dst, .call c, type, pos, after, guard⟩) rfl h1 hr hcal hl h (fun u r' bx' β' w' hkc hok htr hrep => ?_)
           exact hK _ _ _ _ hkc ((hr.step hok htr).put (by cases dst <;> exact hd) hrep) (by cases dst <;> exact htr)
       · exact h.elim
     · exact h.elim
   · exact h.elim
end
end Go.Pl

set_option linter.unusedSimpArgs false
set_option linter.unusedVariables false
namespace Go.Pl
open Go
section
variable {P : Program} {β : Beta} {M : Off} {w : World}
theorem wanted_of {ops : Array Oper} {st : St} {a : Act} {o : Oper} {g : Nat} {want wb : Bool} (ho : o.guard = some (g, want)) (h : wantedV ops st g want = some wb) (hr : Rs P β M st a w) : Region.wanted o (yielded ops a.tmps) = wb := by
 unfold wantedV at h
 unfold Region.wanted yielded
 rw [ho]
 split at h
 · rename_i d hd
   split at h
   · rename_i c hs
     injection h with h
     subst h
     simp only [hd, Option.bind_some]
     have hrep := hr.sl d
     by_cases hl : (st.sl d).liveB = true
     · rw [live_of hl hs] at hrep
       have hu := hrep.bool_inv
       have hin : a.tmps[d]? = some (.bool c) := by
         rcases Nat.lt_or_ge d a.tmps.size with h1 | h1
         · simp [h1] at hu ⊢; exact hu
         · simp [Array.getElem?_eq_none h1] at hu; exact absurd hu (by intro h; cases h)
       rw [hin, hl]
       cases c <;> cases want <;> rfl
     · obtain ⟨v, hv⟩ : ∃ v, st.sl d = .dead v := by
         cases hq : st.sl d <;> rw [hq] at hl <;> simp [V.liveB] at hl
         exact ⟨_, rfl⟩
       rw [hv] at hrep
       have hu : a.tmps.getD d undef = undef := by
         generalize a.tmps.getD d undef = q at hrep
         cases hrep; rfl
       have hin : a.tmps[d]? = none ∨ a.tmps[d]? = some undef := by
         rcases Nat.lt_or_ge d a.tmps.size with h1 | h1
         · right; simp [h1] at hu ⊢; exact hu
         · left; exact Array.getElem?_eq_none h1
       have : (st.sl d).liveB = false := by simpa using hl
       rw [this]
       rcases hin with hin | hin <;> rw [hin] <;> rfl
   · cases h
 · cases h
def rf (ro : Option Nat) : Fence := { Fence.wide with round := ro }
theorem wp_in (ro : Option Nat) (n : Nat) {o : Oper} {a : Act} {K : Act → World → Prop} {Q : Exit → Act → World → Prop} (hd : ∀ c, o.op ≠ .defer c) (h : o.wp P a w K Q) : o.wpIn (rf ro) n P a w K Q := by
 unfold Oper.wpIn
 refine ⟨fun _ _ => trivial, ?_⟩
 rw [Oper.semAt_eq _ _ _ hd]
 unfold Oper.wp at h
 generalize (execOp a.eval o).run P w = r at h ⊢
 cases r with
 | ok x w' =>
   cases x with
   | value v => exact h
   | skip => exact h
   | defer d => exact h
   | enter f args => exact ⟨fun hd => by simp [rf, Fence.wide] at hd, callsIn_wide.2 h⟩
   | row r args => exact ⟨fun hd => by simp [rf, Fence.wide] at hd, fun c cs _ => by
       obtain ⟨v, w2, h1, h2⟩ := h c cs
       exact ⟨v, w2, h1, stepsIn_wide.2 h2⟩⟩
   | round l f tmps assign body => exact h.elim
   | _ => exact h.elim
 | halt x w' => cases x <;> first | exact h | exact h.elim
theorem ev_nd {o : Oper} (h : isEv o.op = true) : ∀ c, o.op ≠ .defer c := by
 intro c hc
 rw [hc] at h
 simp [isEv] at h
theorem absOp_nd {d : Bool} {o : Oper} {K : St → Prop} {st : St} (h : absOp P d o K st) : ∀ c, o.op ≠ .defer c := by
 intro c hc
 unfold absOp at h
 rw [hc] at h
 simp [isEv] at h
theorem absG_sound {ro : Option Nat} {n : Nat} {d : Bool} {ops : Array Oper} {o : Oper} {i : Nat} {K : St → Prop} {st : St} {a : Act} {K' : Act → World → Prop} {Q : Exit → Act → World → Prop} (hi : ops[i]? = some o) (h : absG P d ops o K st) (hr : Rs P β M st a w) (hK : Kont P β M st w K K') :
   wpOpIn (rf ro) n P ops Q i K' a w := by
 unfold wpOpIn
 simp only [hi]
 unfold absG at h
 split at h
 · rename_i hg
   have hw : Region.wanted o (yielded ops a.tmps) = true := by simp [Region.wanted, hg]
   rw [if_pos hw]
   exact wp_in ro n (absOp_nd h) (absOp_sound h hr hK)
 · rename_i g want hg
   split at h
   · rename_i wb hwb
     have hw := wanted_of hg hwb hr
     rw [hw]
     split at h
     · obtain ⟨hc, hd, hk⟩ := h
       cases wb
       · simp only [Bool.false_eq_true, if_false]
         exact ⟨fun _ _ => trivial, hK.put hr hd (.dead _) hk⟩
       · simp only [if_true]
         exact wp_in ro n (ev_nd (by assumption)) (ev_wp hr (hc rfl) (fun u w' hr' ht hu => (hK.trans ht).put hr' hd hu hk))
     · split at h
       · rename_i f args ts hop
         split at h
         · rename_i q vs hcal
           obtain ⟨hd, r, hc, hk⟩ := h
           cases wb
           · simp only [Bool.false_eq_true, if_false]
             exact ⟨fun _ _ => trivial, hK.put hr hd (.dead _) hk⟩
           · simp only [if_true]
             obtain ⟨hl, hp⟩ := hc rfl
             refine wp_in ro n (fun c hc => by rw [hop] at hc; cases hc) (pure_wp (o := o) hop rfl hr hcal hl hp (fun u r' bx' β' w' hkc hok htr hrep => ?_))
             obtain ⟨rfl, rfl⟩ := hkc
             exact hK _ _ _ _ hk ((hr.step hok htr).put hd hrep) (by cases o.dst <;> exact htr)
         · exact h.elim
       · cases wb
         · simp only [Bool.false_eq_true, if_false]
           obtain ⟨hd, hk⟩ := h.2 rfl
           exact ⟨fun _ _ => trivial, hK.put hr hd (.dead _) hk⟩
         · simp only [if_true]
           exact wp_in ro n (absOp_nd (h.1 rfl)) (absOp_sound (h.1 rfl) hr hK)
   · exact h.elim
theorem absOps_sound {ro : Option Nat} {n : Nat} {d : Bool} {ops : Array Oper} {K : St → Prop} {Q : Exit → Act → World → Prop} : ∀ (l : List Oper) (k : Nat) (st : St) (a : Act) (w : World) (β : Beta), (∀ j, l[j]? = ops[k + j]?) → absOps P d ops K l st → Rs P β M st a w → Kont P β M st w K (Q .normal) →
   wpOpsIn (rf ro) n P ops Q ((List.range' k l.length)) a w
 | [], k, st, a, w, β, _, h, hr, hK => by
   simp only [List.length_nil, List.range'_zero, wpOpsIn]
   exact hK st β a w h hr (Tr.refl _ _ _)
 | o :: l, k, st, a, w, β, hl, h, hr, hK => by
   have h0 : ops[k]? = some o := by simpa using (hl 0).symm
   simp only [List.length_cons, List.range'_succ, wpOpsIn_cons]
   refine absG_sound h0 h hr (fun st' β' a' w' hk hr' ht => ?_)
   exact absOps_sound l (k + 1) st' a' w' β' (fun j => by have := hl (j + 1); simpa [Nat.add_assoc, Nat.add_comm 1 j] using this) hk hr' (hK.trans ht)
end
end Go.Pl

set_option linter.unusedSimpArgs false
set_option linter.unusedVariables false
namespace Go.Pl
open Go
def St.at (st : St) (bx : Boxes) (dst : Option Tmp) (v : V) : St := ({ st with bx := bx } : St).put dst v
structure Agree (ops : Array Oper) (o : Oper) (st st2 : St) : Prop where
 sl : ∀ t, t ∈ o.looksAt ops → st2.sl t = st.sl t
 bx : st2.bx = st.bx
 n : st2.n = st.n
section
variable {P : Program} {ops : Array Oper} {o : Oper} {st st2 : St}
theorem Agree.get (h : Agree ops o st st2) (x : Operand) (hx : x ∈ o.op.operands) : st2.get x = st.get x := by
 cases x with
 | tmp t =>
   refine h.sl t (List.mem_append_left _ (List.mem_filterMap.2 ⟨.tmp t, by simpa using hx, rfl⟩))
 | _ => rfl
theorem Agree.dst (h : Agree ops o st st2) (d : Option Tmp) : dstOk st2 d ↔ dstOk st d := by
 cases d <;> simp [dstOk, h.n]
theorem Agree.gv (h : Agree ops o st st2) (x : Operand) (hx : x ∈ o.op.operands) : Pl.gv P st2 x = Pl.gv P st x := by
 cases x with
 | global g => rfl
 | tmp t => exact h.get (.tmp t) hx
 | const v => exact h.get (.const v) hx
 | func f => exact h.get (.func f) hx
theorem opt_map_get {x : Option Operand} (h : ∀ y, x = some y → st2.get y = st.get y) : x.map st2.get = x.map st.get := by
 cases x with
 | none => rfl
 | some y => simp [h y rfl]
theorem Agree.ev (h : Agree ops o st st2) : Pl.ev P st2 o = Pl.ev P st o := by
 obtain ⟨dst, op, type, pos, after, guard⟩ := o
 have hg := h.get
 have hb := h.bx
 simp only at hg
 unfold Pl.ev
 simp only
 split
 · exact congrArg _ (hg _ (by simp [Op.operands]))
 · exact congrArg _ (hg _ (by simp [Op.operands]))
 · rw [hg _ (by simp [Op.operands]), hg _ (by simp [Op.operands]), hg _ (by simp [Op.operands])]
 · rw [h.gv _ (by simp [Op.operands]), hb]
 · rw [hg _ (by simp [Op.operands])]
 · rw [h.gv _ (by simp [Op.operands]), hg _ (by simp [Op.operands])]
 · rw [hg _ (by simp [Op.operands])]
 · rw [hg _ (by simp [Op.operands]), hg _ (by simp [Op.operands])]
 · rw [hg _ (by simp [Op.operands])]
 · rw [hg _ (by simp [Op.operands]), hg _ (by simp [Op.operands])]
 · rw [hg _ (by simp [Op.operands])]
 · rw [hg _ (by simp [Op.operands])]
 · rw [hg _ (by simp [Op.operands]), opt_map_get (fun y hy => hg y (by simp [Op.operands, hy])), opt_map_get (fun y hy => hg y (by simp [Op.operands, hy]))]
 · rw [hg _ (by simp [Op.operands]), opt_map_get (fun y hy => hg y (by simp [Op.operands, hy])), hg _ (by simp [Op.operands]), hg _ (by simp [Op.operands])]
 · rename_i f first caps
   split
   · have : caps.toList.map st2.get = caps.toList.map st.get := List.map_congr_left fun x hx => hg x (by simp [Op.operands]; right; simpa using hx)
     rw [this]
   · rename_i x h0
     rw [hg x (by
       have : x ∈ first.toList := by rw [h0]; simp
       simp [Op.operands]; left; simpa using this)]
   · rfl
 · rename_i t parts
   have : (parts.toList.map fun p => (p.1, st2.get p.2)) = parts.toList.map fun p => (p.1, st.get p.2) := List.map_congr_left fun p hp => by
     rw [hg p.2 (by simp only [Op.operands, List.mem_toArray]; exact List.mem_map.2 ⟨p, hp, rfl⟩)]
   rw [this]
 · rename_i c
   have hargs : ∀ x, x ∈ c.args.toList → st2.get x = st.get x := fun x hx => hg x (by simp [Op.operands, Call.operands]; right; simpa using hx)
   unfold builtinV
   split
   · rename_i x t h0 h1 h2
     rw [hargs x (by simp [h1]), hb]
   · rename_i x y h0 h1
     rw [hargs x (by simp [h1]), hargs y (by simp [h1])]
   · rename_i x y h0 h1
     rw [hargs x (by simp [h1]), hargs y (by simp [h1])]
   · rfl
 · rw [hg _ (by simp [Op.operands]), hg _ (by simp [Op.operands]), hb]
 · rw [hg _ (by simp [Op.operands])]
 · rw [hg _ (by simp [Op.operands])]
 · rw [hg _ (by simp [Op.operands])]
 · rfl
def Targets (P : Program) (d : Bool) (ops : Array Oper) (o : Oper) (st : St) (K : St → Prop) (tr : (St → Prop) → St → Prop) : Prop :=
 ∃ T : Boxes → V → Prop, (∃ bx v, T bx v) ∧ (∀ bx v, T bx v → K (st.at bx o.dst v)) ∧
   ∀ (st2 : St) (K2 : St → Prop), Agree ops o st st2 → (∀ bx v, T bx v → K2 (st2.at bx o.dst v)) → tr K2 st2
theorem fin_fresh {bx : Boxes} (h : FinB bx) : ∃ b, bx b = none := by
 obtain ⟨n, hn⟩ := h
 exact ⟨n, hn n (Nat.le_refl _)⟩
theorem targets_one {d : Bool} {K : St → Prop} {tr : (St → Prop) → St → Prop} (v : V) (hk : K (st.put o.dst v)) (h : ∀ (st2 : St) (K2 : St → Prop), Agree ops o st st2 → K2 (st2.put o.dst v) → tr K2 st2) : Targets P d ops o st K tr := by
 refine ⟨fun bx u => bx = st.bx ∧ u = v, ⟨_, _, rfl, rfl⟩, ?_, fun st2 K2 ha hT => h st2 K2 ha ?_⟩
 · rintro bx u ⟨rfl, rfl⟩; exact hk
 · have := hT st.bx v ⟨rfl, rfl⟩
   rw [← ha.bx] at this
   exact this
theorem targets_new {d : Bool} {K : St → Prop} {tr : (St → Prop) → St → Prop} (box : Box) (v : Nat → V) (hf : FinB st.bx) (hk : ∀ b, st.bx b = none → K ((st.box b (some box)).put o.dst (v b)))
   (h : ∀ (st2 : St) (K2 : St → Prop), Agree ops o st st2 → (∀ b, st2.bx b = none → K2 ((st2.box b (some box)).put o.dst (v b))) → tr K2 st2) : Targets P d ops o st K tr := by
 refine ⟨fun bx u => ∃ b, st.bx b = none ∧ bx = upd st.bx b (some box) ∧ u = v b, ?_, ?_, fun st2 K2 ha hT => h st2 K2 ha fun b hb => ?_⟩
 · obtain ⟨b, hb⟩ := fin_fresh hf
   exact ⟨_, _, b, hb, rfl, rfl⟩
 · rintro bx u ⟨b, hb, rfl, rfl⟩; exact hk b hb
 · have := hT _ _ ⟨b, by rw [← ha.bx]; exact hb, rfl, rfl⟩
   rw [← ha.bx] at this
   exact this
theorem putA_targets {t : TypeId} {m k v : V} {K : St → Prop} {tr : (St → Prop) → St → Prop} (hd : o.dst = none) (h : putA P st t m k v K)
   (hk : ∀ (st2 : St) (K2 : St → Prop), Agree ops o st st2 → putA P st2 t m k v K2 → tr K2 st2) : Targets P true ops o st K tr := by
 unfold putA at h
 split at h
 · rename_i kt et b hkn
   split at h
   · rename_i es hb
     split at h
     · rename_i es' hp
       obtain ⟨h1, h2, h3⟩ := h
       refine ⟨fun bx u => bx = upd st.bx b (some (.map es')) ∧ u = .unk, ⟨_, _, rfl, rfl⟩, ?_, fun st2 K2 ha hT => hk st2 K2 ha ?_⟩
       · rintro bx u ⟨rfl, rfl⟩
         rw [hd]
         exact h3
       · unfold putA
         simp only [hkn, ha.bx, hb, hp]
         refine ⟨h1, h2, ?_⟩
         have := hT _ _ ⟨rfl, rfl⟩
         rw [hd] at this
         unfold St.box
         rw [ha.bx]
         exact this
     · exact h.elim
   · exact h.elim
 · exact h.elim
theorem entIdx_lt {a z : V} {es es1 : List (V × V)} {j : Nat} {v : V} (h : entIdx a z es = some (es1, j, v)) : ∃ e, es1[j]? = some e ∧ e.2 = v := by
 unfold entIdx at h
 split at h
 · rename_i i x hf
   injection h with h
   injection h with h1 h2
   injection h2 with h2 h3
   subst h1 h2 h3
   obtain ⟨_, e, he, h4, _⟩ := findV_some hf
   exact ⟨e, by simpa using he, h4⟩
 · injection h with h
   injection h with h1 h2
   injection h2 with h2 h3
   subst h1 h2 h3
   exact ⟨(a, z), by simp, rfl⟩
 · cases h
theorem entA_targets {t : TypeId} {m k : V} {K : St → Prop} {tr : (St → Prop) → St → Prop} (h : entA P st t m k o.dst K)
   (hk : ∀ (st2 : St) (K2 : St → Prop), Agree ops o st st2 → entA P st2 t m k o.dst K2 → tr K2 st2) : Targets P true ops o st K tr := by
 unfold entA at h
 split at h
 · rename_i kt et b hkn
   split at h
   · rename_i es z hb hz
     split at h
     · rename_i es1 j v hp
       obtain ⟨h1, h2, h3, h4⟩ := h
       obtain ⟨e, he, _⟩ := entIdx_lt hp
       have hj := (List.getElem?_eq_some_iff.1 he).1
       refine ⟨fun bx u => ∃ (bs : List Nat) (c q : Nat), bs.length = es1.length ∧ bs.Nodup ∧ bs[j]? = some q ∧ bx = upd st.bx b (some (.mapS es1 bs c)) ∧ u = .tup [v, .int .i64 q], ⟨_, _, List.range es1.length, 0, j, by simp, List.nodup_range, by simp [hj], rfl, rfl⟩, ?_, fun st2 K2 ha hT => hk st2 K2 ha ?_⟩
       · rintro bx u ⟨bs, c, q, g1, g2, g3, rfl, rfl⟩
         exact h4 bs c q g1 g2 g3
       · unfold entA
         simp only [hkn, ha.bx, hb, hz, hp]
         refine ⟨h1, h2, (ha.dst _).2 h3, fun bs c q g1 g2 g3 => ?_⟩
         have := hT _ _ ⟨bs, c, q, g1, g2, g3, rfl, rfl⟩
         unfold St.box
         rw [ha.bx]
         exact this
     · exact h.elim
   · exact h.elim
 · exact h.elim
theorem entStA_targets {m s x : V} {K : St → Prop} {tr : (St → Prop) → St → Prop} (hd : o.dst = none) (h : entStA st m s x K)
   (hk : ∀ (st2 : St) (K2 : St → Prop), Agree ops o st st2 → entStA st2 m s x K2 → tr K2 st2) : Targets P true ops o st K tr := by
 unfold entStA at h
 split at h
 · rename_i b q
   split at h
   · rename_i es bs c hb
     obtain ⟨i, q', e, h1, h2, h3, h4⟩ := h
     refine ⟨fun bx u => bx = upd st.bx b (some (.map (es.set i (e.1, x)))) ∧ u = .unk, ⟨_, _, rfl, rfl⟩, ?_, fun st2 K2 ha hT => hk st2 K2 ha ?_⟩
     · rintro bx u ⟨rfl, rfl⟩
       rw [hd]
       exact h4
     · unfold entStA
       simp only [ha.bx, hb]
       refine ⟨i, q', e, h1, h2, h3, ?_⟩
       have := hT _ _ ⟨rfl, rfl⟩
       rw [hd] at this
       unfold St.box
       rw [ha.bx]
       exact this
   · exact h.elim
 · exact h.elim
theorem delA_targets {t : TypeId} {m k : V} {K : St → Prop} {tr : (St → Prop) → St → Prop} (hd : o.dst = none) (h : delA P st t m k K)
   (hk : ∀ (st2 : St) (K2 : St → Prop), Agree ops o st st2 → delA P st2 t m k K2 → tr K2 st2) : Targets P true ops o st K tr := by
 unfold delA at h
 split at h
 · rename_i kt et b hkn
   split at h
   · rename_i es hb
     split at h
     · rename_i es' hp
       obtain ⟨h1, h2, h3⟩ := h
       refine ⟨fun bx u => bx = upd st.bx b (some (.map es')) ∧ u = .unk, ⟨_, _, rfl, rfl⟩, ?_, fun st2 K2 ha hT => hk st2 K2 ha ?_⟩
       · rintro bx u ⟨rfl, rfl⟩
         rw [hd]
         exact h3
       · unfold delA
         simp only [hkn, ha.bx, hb, hp]
         refine ⟨h1, h2, ?_⟩
         have := hT _ _ ⟨rfl, rfl⟩
         rw [hd] at this
         unfold St.box
         rw [ha.bx]
         exact this
     · exact h.elim
   · exact h.elim
 · exact h.elim
theorem absOp_targets {K : St → Prop} (h : absOp P true o K st) : Targets P true ops o st K (absOp P true o) := by
 unfold absOp at h
 split at h
 · rename_i he
   obtain ⟨h1, h2, h3⟩ := h
   refine targets_one _ h3 fun st2 K2 ha hk => ?_
   unfold absOp
   rw [if_pos he, ha.ev]
   exact ⟨h1, (ha.dst _).2 h2, hk⟩
 · rename_i he
   obtain ⟨dst, op, type, pos, after, guard⟩ := o
   simp only at h he ⊢
   have unf : ∀ (K2 : St → Prop) (st2 : St), absOp P true ⟨dst, op, type, pos, after, guard⟩ K2 st2 = _ := fun K2 st2 => by rw [absOp, if_neg he]
   split at h
   · split at h
     · rename_i z hz
       obtain ⟨h1, h2, h3, h4⟩ := h
       refine targets_new _ _ h3 h4 fun st2 K2 ha hk => ?_
       rw [unf]
       simp only [hz]
       exact ⟨h1, (ha.dst _).2 h2, by rw [ha.bx]; exact h3, hk⟩
     · exact h.elim
   · rename_i e x
     obtain ⟨h1, h2, h3, h4⟩ := h
     refine targets_new _ _ h3 h4 fun st2 K2 ha hk => ?_
     rw [unf]
     have hg := ha.get x (by simp [Op.operands])
     simp only [hg]
     exact ⟨h1, (ha.dst _).2 h2, by rw [ha.bx]; exact h3, hk⟩
   · rename_i t len parts
     split at h
     · rename_i e hk
       split at h
       · rename_i z hz
         obtain ⟨h1, h2, h3, h4, h5, h6, h7⟩ := h
         refine targets_new _ _ h6 h7 fun st2 K2 ha hk2 => ?_
         rw [unf]
         have hg : ∀ p, p ∈ parts.toList → st2.get p.2 = st.get p.2 := fun p hp => ha.get _ (by simp [Op.operands]; exact ⟨p.1, by simpa using hp⟩)
         have hfill : ∀ (ps : List (Nat × Operand)) (es : List V), (∀ p, p ∈ ps → st2.get p.2 = st.get p.2) → fillV st2 es ps = fillV st es ps := by
           intro ps
           induction ps with
           | nil => intro es _; rfl
           | cons p ps ih =>
             intro es hp
             obtain ⟨i, x⟩ := p
             simp only [fillV]
             rw [hp (i, x) (by simp), ih _ (fun p hp' => hp p (by simp [hp']))]
         simp only [hk, hz]
         refine ⟨h1, h2, h3, fun p hp => by rw [hg p hp]; exact h4 p hp, (ha.dst _).2 h5, by rw [ha.bx]; exact h6, ?_⟩
         rw [hfill _ _ hg]
         exact hk2
       · exact h.elim
     · exact h.elim
   · rename_i t l c
     split at h
     · rename_i e kl l' kc c' hk hl' hc'
       split at h
       · rename_i z hz
         obtain ⟨h1, h2, h3, h4, h5, h6, h7, h8, h9, h10, h11⟩ := h
         refine targets_new _ _ h10 h11 fun st2 K2 ha hk2 => ?_
         rw [unf]
         have hg1 := ha.get l (by simp [Op.operands])
         have hg2 := ha.get c (by simp [Op.operands])
         simp only [hg1, hg2, hk, hl', hc', hz]
         exact ⟨h1, h2, h3, h4, h5, h6, h7, h8, (ha.dst _).2 h9, by rw [ha.bx]; exact h10, hk2⟩
       · exact h.elim
     · exact h.elim
   · rename_i t ad x
     split at h
     · rename_i b sz i o' hget
       split at h
       · rename_i ty sz' es hb
         obtain ⟨h1, h2, h3, h4, h5, h6, h7⟩ := h
         subst h6
         refine ⟨fun bx v => bx = upd st.bx b (some (.row ty sz (es.set i (setC (es.getD i .unk) o' (st.get x).cells)))), ⟨_, .unk, rfl⟩, ?_, fun st2 K2 ha hT => ?_⟩
         · rintro bx v rfl; exact h7
         · rw [unf]
           have hg1 := ha.get ad (by simp [Op.operands])
           have hg2 := ha.get x (by simp [Op.operands])
           simp only [hg1, hg2, hget, ha.bx, hb]
           refine ⟨h1, h2, h3, h4, h5, trivial, ?_⟩
           have := hT _ .unk rfl
           unfold St.box
           rw [ha.bx]
           exact this
       · exact h.elim
     · exact h.elim
   · obtain ⟨h1, h2, h3⟩ := h
     refine targets_new _ _ h2 h3 fun st2 K2 ha hk => ?_
     rw [unf]
     exact ⟨(ha.dst _).2 h1, by rw [ha.bx]; exact h2, hk⟩
   · exact absurd h.1 (by simp)
   · exact absurd h.1 (by simp)
   · exact absurd h.1 (by simp)
   · rename_i t m k x
     obtain ⟨hd, h⟩ := h
     refine putA_targets hd h fun st2 K2 ha hk => ?_
     rw [unf]
     refine ⟨hd, ?_⟩
     rw [ha.get m (by simp [Op.operands]), ha.get k (by simp [Op.operands]), ha.get x (by simp [Op.operands])]
     exact hk
   · rename_i t m k x
     obtain ⟨hd, h⟩ := h
     refine putA_targets hd h fun st2 K2 ha hk => ?_
     rw [unf]
     refine ⟨hd, ?_⟩
     rw [ha.get m (by simp [Op.operands]), ha.get k (by simp [Op.operands]), ha.get x (by simp [Op.operands])]
     exact hk
   · rename_i t m k
     refine entA_targets h fun st2 K2 ha hk => ?_
     rw [unf]
     show entA P st2 t (st2.get m) (st2.get k) dst K2
     rw [ha.get m (by simp [Op.operands]), ha.get k (by simp [Op.operands])]
     exact hk
   · rename_i t m s x
     obtain ⟨hd, h⟩ := h
     refine entStA_targets hd h fun st2 K2 ha hk => ?_
     rw [unf]
     refine ⟨hd, ?_⟩
     rw [ha.get m (by simp [Op.operands]), ha.get s (by simp [Op.operands]), ha.get x (by simp [Op.operands])]
     exact hk
   · rename_i s d x
     split at h
     · rename_i e b sz n hk hget
       split at h
       · rename_i ty sz' es hb
         obtain ⟨h1, h2, h3, h4, h5, h6, h7, h8⟩ := h
         refine ⟨fun bx v => bx = upd st.bx b none ∧ v = .sl 1 es, ⟨_, _, rfl, rfl⟩, ?_, fun st2 K2 ha hT => ?_⟩
         · rintro bx v ⟨rfl, rfl⟩; exact h8
         · rw [unf]
           have hg1 := ha.get x (by simp [Op.operands])
           simp only [hg1, hk, hget, ha.bx, hb]
           refine ⟨h1, h2, h3, h4, h5, h6, (ha.dst _).2 h7, ?_⟩
           have := hT _ _ ⟨rfl, rfl⟩
           unfold St.box
           rw [ha.bx]
           exact this
       · exact h.elim
     · exact h.elim
   · rename_i c
     split at h
     · rename_i s x t t' h1 h2 h3
       obtain ⟨h0, h⟩ := h
       have hgs : ∀ st2, Agree ops ⟨dst, .call c, type, pos, after, guard⟩ st st2 → st2.get s = st.get s := fun st2 ha => ha.get s (by simp [Op.operands, Call.operands]; right; rw [← Array.mem_toList_iff, h2]; simp)
       have hgx : ∀ st2, Agree ops ⟨dst, .call c, type, pos, after, guard⟩ st st2 → st2.get x = st.get x := fun st2 ha => ha.get x (by simp [Op.operands, Call.operands]; right; rw [← Array.mem_toList_iff, h2]; simp)
       have hsrc : ∀ st2, Agree ops ⟨dst, .call c, type, pos, after, guard⟩ st st2 → ∀ q u, srcEls st2 q u = srcEls st q u := fun st2 ha q u => by unfold srcEls; rw [ha.bx]
       have unf2 : ∀ K2 st2, Agree ops ⟨dst, .call c, type, pos, after, guard⟩ st st2 → appendA P st2 dst t (st.get s) (st.get x) K2 → absOp P true ⟨dst, .call c, type, pos, after, guard⟩ K2 st2 := by
         intro K2 st2 ha hq
         rw [unf]
         simp only [h1, h2, h3]
         rw [hgs st2 ha, hgx st2 ha]
         exact ⟨h0, hq⟩
       unfold appendA at h
       split at h
       · rename_i e hk
         split at h
         · rename_i news z hn hz
           obtain ⟨g1, g2, g3, g4, h⟩ := h
           split at h
           · rename_i hs
             obtain ⟨g5, g6, g7⟩ := h
             refine targets_new _ _ g4 g7 fun st2 K2 ha hk2 => unf2 K2 st2 ha ?_
             unfold appendA
             simp only [hk, hsrc st2 ha, hn, hz, hs]
             exact ⟨g1, g2, (ha.dst _).2 g3, by rw [ha.bx]; exact g4, g5, g6, hk2⟩
           · rename_i b sz n hs
             split at h
             · rename_i e' sz' es hb
               obtain ⟨g5, g6, g7, g8, g9, g10, g11⟩ := h
               refine ⟨fun bx u => ∃ b', upd st.bx b none b' = none ∧ bx = upd (upd st.bx b none) b' (some (.row e (tsz P e) (es.take n ++ news))) ∧ u = .own b' (tsz P e) 0 (n + news.length), ?_, ?_, fun st2 K2 ha hT => unf2 K2 st2 ha ?_⟩
               · exact ⟨_, _, b, upd_eq _ _ _, rfl, rfl⟩
               · rintro bx u ⟨b', hb', rfl, rfl⟩
                 exact g11 b' hb'
               · unfold appendA
                 simp only [hk, hsrc st2 ha, hn, hz, hs, ha.bx, hb]
                 refine ⟨g1, g2, (ha.dst _).2 g3, g4, g5, g6, g7, g8, g9, g10, fun b' hb' => ?_⟩
                 have := hT _ _ ⟨b', hb', rfl, rfl⟩
                 unfold St.box
                 simp only [ha.bx]
                 exact this
             · exact h.elim
           · exact h.elim
         · exact h.elim
       · exact h.elim
     · exact absurd h.1 (by simp)
     · rename_i m k t t2 h1 h2 h3
       obtain ⟨hd, h⟩ := h
       refine delA_targets hd h fun st2 K2 ha hk => ?_
       rw [unf]
       have g1 : st2.get m = st.get m := ha.get m (by
         have : m ∈ c.args.toList := by rw [h2]; simp
         simp [Op.operands, Call.operands]; right; simpa using this)
       have g2 : st2.get k = st.get k := ha.get k (by
         have : k ∈ c.args.toList := by rw [h2]; simp
         simp [Op.operands, Call.operands]; right; simpa using this)
       simp only [h1, h2, h3, g1, g2]
       exact ⟨hd, hk⟩
     · exact absurd h.1 (by simp)
     · rename_i f h1
       split at h
       · rename_i g vs hcal
         obtain ⟨h2, h3, h4⟩ := h
         rw [if_pos trivial] at h4
         obtain ⟨r, h5, h6⟩ := h4
         refine targets_one r h6 fun st2 K2 ha hk2 => ?_
         rw [unf]
         have hgf : st2.get f = st.get f := ha.get f (by simp [Op.operands, Call.operands, h1])
         have hga : ∀ x, x ∈ c.args.toList → st2.get x = st.get x := fun x hx => ha.get x (by simp [Op.operands, Call.operands]; right; simpa using hx)
         have hcal2 : callee st2 f c.args.toList = callee st f c.args.toList := by
           unfold callee
           rw [hgf]
           have : (c.args.toList.map fun x => (st2.get x).strip) = c.args.toList.map fun x => (st.get x).strip := List.map_congr_left fun x hx => by rw [hga x hx]
           rw [this]
         simp only [h1, hcal2, hcal]
         refine ⟨⟨by rw [hgf]; exact h2.1, fun x hx => by rw [hga x hx]; exact h2.2 x hx⟩, (ha.dst _).2 h3, ?_⟩
         simp only [if_true]
         exact ⟨r, by rw [ha.bx]; exact h5, hk2⟩
       · exact h.elim
     · exact h.elim
   · exact h.elim
theorem Agree.wanted (h : Agree ops o st st2) {g : Nat} {want : Bool} (ho : o.guard = some (g, want)) : wantedV ops st2 g want = wantedV ops st g want := by
 unfold wantedV
 cases hd : (ops[g]?).bind (·.dst) with
 | none => rfl
 | some d =>
   have : st2.sl d = st.sl d := h.sl d (by simp [Oper.looksAt, ho, hd])
   simp only [this]
theorem absG_targets {K : St → Prop} (h : absG P true ops o K st) : Targets P true ops o st K (absG P true ops o) := by
 unfold absG at h
 split at h
 · rename_i hg
   obtain ⟨T, h1, h2, h3⟩ := absOp_targets (ops := ops) h
   refine ⟨T, h1, h2, fun st2 K2 ha hT => ?_⟩
   unfold absG
   simp only [hg]
   exact h3 st2 K2 ha hT
 · rename_i g want hg
   split at h
   · rename_i wb hwb
     split at h
     · rename_i he
       obtain ⟨h1, h2, h3⟩ := h
       refine targets_one _ h3 fun st2 K2 ha hk => ?_
       unfold absG
       simp only [hg, ha.wanted hg, hwb]
       rw [if_pos he, ha.ev]
       exact ⟨h1, (ha.dst _).2 h2, hk⟩
     · rename_i he
       split at h
       · rename_i f args ts hop
         split at h
         · rename_i q vs hcal
           obtain ⟨h1, r, h2, h3⟩ := h
           refine targets_one _ h3 fun st2 K2 ha hk => ?_
           have hgf : st2.get f = st.get f := ha.get f (by simp [hop, Op.operands, Call.operands])
           have hga : ∀ x, x ∈ args.toList → st2.get x = st.get x := fun x hx => ha.get x (by simp [hop, Op.operands, Call.operands]; right; simpa using hx)
           have hcal2 : callee st2 f args.toList = callee st f args.toList := by
             unfold callee
             rw [hgf]
             have : (args.toList.map fun x => (st2.get x).strip) = args.toList.map fun x => (st.get x).strip := List.map_congr_left fun x hx => by rw [hga x hx]
             rw [this]
           unfold absG
           simp only [hg, ha.wanted hg, hwb]
           rw [if_neg he]
           simp only [hop, hcal2, hcal]
           refine ⟨(ha.dst _).2 h1, r, fun hw => ?_, hk⟩
           obtain ⟨h4, h5⟩ := h2 hw
           exact ⟨⟨by rw [hgf]; exact h4.1, fun x hx => by rw [hga x hx]; exact h4.2 x hx⟩, by rw [ha.bx]; exact h5⟩
         · exact h.elim
       · rename_i hop
         have unf : ∀ (K2 : St → Prop) (st2 : St), Agree ops o st st2 → ((wb = true → absOp P true o K2 st2) ∧ (wb = false → dstOk st2 o.dst ∧ K2 (st2.put o.dst (.dead .unk)))) → absG P true ops o K2 st2 := by
           intro K2 st2 ha hq
           unfold absG
           simp only [hg, ha.wanted hg, hwb]
           rw [if_neg he]
           exact hq
         cases wb
         · obtain ⟨h1, h2⟩ := h.2 rfl
           exact targets_one _ h2 fun st2 K2 ha hk => unf K2 st2 ha ⟨(fun h => by cases h), fun _ => ⟨(ha.dst _).2 h1, hk⟩⟩
         · obtain ⟨T, h1, h2, h3⟩ := absOp_targets (ops := ops) (h.1 rfl)
           exact ⟨T, h1, h2, fun st2 K2 ha hT => unf K2 st2 ha ⟨fun _ => h3 st2 K2 ha hT, fun h => by cases h⟩⟩
   · exact h.elim
theorem putA_mono {t : TypeId} {m k v : V} {K K2 : St → Prop} (hm : ∀ s, K s → K2 s) (h : putA P st t m k v K) : putA P st t m k v K2 := by
 unfold putA at h ⊢
 split at h
 · split at h
   · split at h
     · exact ⟨h.1, h.2.1, hm _ h.2.2⟩
     · exact h.elim
   · exact h.elim
 · exact h.elim
theorem entA_mono {t : TypeId} {m k : V} {d : Option Tmp} {K K2 : St → Prop} (hm : ∀ s, K s → K2 s) (h : entA P st t m k d K) : entA P st t m k d K2 := by
 unfold entA at h ⊢
 split at h
 · split at h
   · split at h
     · exact ⟨h.1, h.2.1, h.2.2.1, fun bs c q g1 g2 g3 => hm _ (h.2.2.2 bs c q g1 g2 g3)⟩
     · exact h.elim
   · exact h.elim
 · exact h.elim
theorem entStA_mono {m s x : V} {K K2 : St → Prop} (hm : ∀ s, K s → K2 s) (h : entStA st m s x K) : entStA st m s x K2 := by
 unfold entStA at h ⊢
 split at h
 · split at h
   · obtain ⟨i, q', e, h1, h2, h3, h4⟩ := h
     exact ⟨i, q', e, h1, h2, h3, hm _ h4⟩
   · exact h.elim
 · exact h.elim
theorem delA_mono {t : TypeId} {m k : V} {K K2 : St → Prop} (hm : ∀ s, K s → K2 s) (h : delA P st t m k K) : delA P st t m k K2 := by
 unfold delA at h ⊢
 split at h
 · split at h
   · split at h
     · exact ⟨h.1, h.2.1, hm _ h.2.2⟩
     · exact h.elim
   · exact h.elim
 · exact h.elim
theorem invA_mono {o : Option Tmp} {r : V} {name : String} {args : List V} {K K2 : St → Prop} (hm : ∀ s, K s → K2 s) (h : invA P st o r name args K) : invA P st o r name args K2 := by
 unfold invA at h ⊢
 split at h
 · split at h
   · obtain ⟨h1, h2, h3⟩ := h
     refine ⟨h1, h2, h3.1, fun β M w vs h4 h4g h5 h6 => (h3.2 β M w vs h4 h4g h5 h6).mono ?_⟩
     rintro e w' ⟨v, r, bx', β', h7, h8, h9⟩
     exact ⟨v, r, bx', β', h7, hm _ h8, h9⟩
   · exact h.elim
 · exact h.elim
theorem absOp_mono {d : Bool} {K K2 : St → Prop} (hm : ∀ s, K s → K2 s) (h : absOp P d o K st) : absOp P d o K2 st := by
 unfold absOp at h ⊢
 split at h
 · rename_i he
   rw [if_pos he]
   exact ⟨h.1, h.2.1, hm _ h.2.2⟩
 · rename_i he
   rw [if_neg he]
   split at h
   · split at h
     · exact ⟨h.1, h.2.1, h.2.2.1, fun b hb => hm _ (h.2.2.2 b hb)⟩
     · exact h.elim
   · exact ⟨h.1, h.2.1, h.2.2.1, fun b hb => hm _ (h.2.2.2 b hb)⟩
   · split at h
     · split at h
       · obtain ⟨h1, h2, h3, h4, h5, h6, h7⟩ := h
         exact ⟨h1, h2, h3, h4, h5, h6, fun b hb => hm _ (h7 b hb)⟩
       · exact h.elim
     · exact h.elim
   · split at h
     · split at h
       · obtain ⟨h1, h2, h3, h4, h5, h6, h7, h8, h9, h10, h11⟩ := h
         exact ⟨h1, h2, h3, h4, h5, h6, h7, h8, h9, h10, fun b hb => hm _ (h11 b hb)⟩
       · exact h.elim
     · exact h.elim
   · split at h
     · split at h
       · obtain ⟨h1, h2, h3, h4, h5, h6, h7⟩ := h
         exact ⟨h1, h2, h3, h4, h5, h6, hm _ h7⟩
       · exact h.elim
     · exact h.elim
   · exact ⟨h.1, h.2.1, fun b hb => hm _ (h.2.2 b hb)⟩
   · refine ⟨h.1, ?_⟩
     have h := h.2
     unfold rangeA at h ⊢
     split at h
     · split at h
       · exact ⟨h.1, h.2.1, fun bs c b' h1 h2 h3 h4 => hm _ (h.2.2 bs c b' h1 h2 h3 h4)⟩
       · exact h.elim
     · exact h.elim
   · refine ⟨h.1, ?_⟩
     have h := h.2
     unfold nextA at h ⊢
     split at h
     · split at h
       · split at h
         · exact ⟨h.1, h.2.1, h.2.2.1, fun h1 => hm _ (h.2.2.2.1 h1), fun i q e h1 h2 h3 => hm _ (h.2.2.2.2 i q e h1 h2 h3)⟩
         · exact h.elim
       · exact h.elim
     · exact h.elim
   · refine ⟨h.1, ?_⟩
     have h := h.2
     unfold entryA at h ⊢
     split at h
     · split at h
       · split at h
         · obtain ⟨h1, h2, i, e, pre, q, h3, h4, h5, h6⟩ := h
           exact ⟨h1, h2, i, e, pre, q, h3, h4, h5, hm _ h6⟩
         · exact h.elim
       · exact h.elim
     · exact h.elim
   · exact ⟨h.1, putA_mono hm h.2⟩
   · exact ⟨h.1, putA_mono hm h.2⟩
   · exact entA_mono hm h
   · exact ⟨h.1, entStA_mono hm h.2⟩
   · split at h
     · split at h
       · obtain ⟨h1, h2, h3, h4, h5, h6, h7, h8⟩ := h
         exact ⟨h1, h2, h3, h4, h5, h6, h7, hm _ h8⟩
       · exact h.elim
     · exact h.elim
   · split at h
     · obtain ⟨h0, h⟩ := h
       refine ⟨h0, ?_⟩
       unfold appendA at h ⊢
       split at h
       · split at h
         · obtain ⟨g1, g2, g3, g4, h⟩ := h
           refine ⟨g1, g2, g3, g4, ?_⟩
           split at h
           · exact ⟨h.1, h.2.1, fun b hb => hm _ (h.2.2 b hb)⟩
           · split at h
             · obtain ⟨g5, g6, g7, g8, g9, g10, g11⟩ := h
               exact ⟨g5, g6, g7, g8, g9, g10, fun b hb => hm _ (g11 b hb)⟩
             · exact h.elim
           · exact h.elim
         · exact h.elim
       · exact h.elim
     · obtain ⟨h1, h2, h⟩ := h
       refine ⟨h1, h2, ?_⟩
       unfold clearA at h ⊢
       split at h
       · split at h
         · exact ⟨h.1, h.2.1, h.2.2.1, h.2.2.2.1, h.2.2.2.2.1, h.2.2.2.2.2.1, hm _ h.2.2.2.2.2.2⟩
         · exact h.elim
       · exact h.elim
     · exact ⟨h.1, delA_mono hm h.2⟩
     · exact ⟨h.1, invA_mono hm h.2⟩
     · split at h
       · obtain ⟨h1, h2, h3⟩ := h
         refine ⟨h1, h2, ?_⟩
         split at h3
         · rename_i hd
           obtain ⟨r, h4, h5⟩ := h3
           rw [if_pos hd]
           exact ⟨r, h4, hm _ h5⟩
         · rename_i hd
           rw [if_neg hd]
           refine ⟨h3.1, fun β M w vs h4 h4g h5 h6 => (h3.2 β M w vs h4 h4g h5 h6).mono ?_⟩
           rintro e w' ⟨v, r, bx', β', h7, h8, h9⟩
           exact ⟨v, r, bx', β', h7, hm _ h8, h9⟩
       · exact h.elim
     · exact h.elim
   · exact h.elim
theorem absG_mono {d : Bool} {K K2 : St → Prop} (hm : ∀ s, K s → K2 s) (h : absG P d ops o K st) : absG P d ops o K2 st := by
 unfold absG at h ⊢
 split at h
 · exact absOp_mono hm h
 · split at h
   · split at h
     · rename_i he
       rw [if_pos he]
       exact ⟨h.1, h.2.1, hm _ h.2.2⟩
     · rename_i he
       rw [if_neg he]
       split at h
       · split at h
         · obtain ⟨h1, r, h2, h3⟩ := h
           exact ⟨h1, r, h2, hm _ h3⟩
         · exact h.elim
       · exact ⟨fun hw => absOp_mono hm (h.1 hw), fun hw => ⟨(h.2 hw).1, hm _ (h.2 hw).2⟩⟩
   · exact h.elim
end
end Go.Pl

set_option linter.unusedSimpArgs false
set_option linter.unusedVariables false
namespace Go.Pl
open Go
def cls0 (o : Oper) : Bool :=
 match o.op with
 | .move _ | .assign _ | .pick .. | .fieldAddr .. | .indexAddr .. | .field .. | .index .. | .extract .. | .binOp .. | .unOp .. | .slice .. | .makeFunc .. | .makeInterface .. | .typeAssert .. | .nilCheck _ => true
 | .convert s d _ => s != d
 | _ => false
def steadyB (o : Oper) : Bool :=
 isEv o.op || match o.op with
 | .call { callee := .value _, .. } => true
 | _ => false
def apartC (ops : Array Oper) (i j : Oper) : Bool := i.apart ops j && (cls0 i || cls0 j || (steadyB i && steadyB j))
def maskAt (ms : List Nat) (o : Oper) : Nat := o.after.toList.foldl (fun acc e => if Region.binds .any e = true then acc ||| (2 ^ e.on ||| ms.getD e.on 0) else acc) 0
def masksFrom : List Oper → List Nat → List Nat
 | [], ms => ms
 | o :: os, ms => masksFrom os (ms ++ [maskAt ms o])
def masks (ops : Array Oper) : List Nat := masksFrom ops.toList []
def lexC (ops : Array Oper) : Bool :=
 let ms := masks ops
 (List.range ops.size).all fun k => match ops[k]? with
   | some ok => ok.after.all (fun e => !Region.binds .any e || decide (e.on < k)) &&
       (List.range ops.size).all fun j => decide (j ≤ k) || match ops[j]? with
         | some oj => (ms.getD j 0).testBit k || apartC ops ok oj
         | none => true
   | none => true
section
variable {P : Program} {ops : Array Oper} {st : St}
theorem put_put (st : St) (bx : Boxes) {d1 d2 : Option Tmp} (v1 v2 : V) (h : ∀ d, d1 = some d → d2 ≠ some d) : (st.put d1 v1).at bx d2 v2 = (st.at bx d2 v2).put d1 v1 := by
 cases d1 with
 | none => rfl
 | some a =>
   cases d2 with
   | none => rfl
   | some b =>
     have hne : a ≠ b := fun e => h a rfl (by rw [e])
     simp only [St.at, St.put]
     congr 1
     funext y
     simp only [upd]
     by_cases e1 : y = b <;> by_cases e2 : y = a
     · exact absurd (e2.symm.trans e1) hne
     · simp [e1, Ne.symm hne]
     · simp [e2, hne]
     · simp [e1, e2]
theorem at_self (st : St) (d : Option Tmp) (v : V) : st.at st.bx d v = st.put d v := rfl
theorem agree_put {o : Oper} {d : Option Tmp} {v : V} (h : ∀ x, d = some x → x ∉ o.looksAt ops) : Agree ops o st (st.put d v) := by
 cases d with
 | none => exact ⟨fun _ _ => rfl, rfl, rfl⟩
 | some x => exact ⟨fun t ht => upd_ne _ _ (fun e => h x rfl (e ▸ ht)), rfl, rfl⟩
theorem agree_put' {o : Oper} {d : Option Tmp} {v : V} (h : ∀ x, d = some x → x ∉ o.looksAt ops) : Agree ops o (st.put d v) st := by
 obtain ⟨h1, h2, h3⟩ := agree_put (ops := ops) (o := o) (st := st) (v := v) h
 exact ⟨fun t ht => (h1 t ht).symm, h2.symm, h3.symm⟩
theorem steady_targets {o : Oper} (hs : steadyB o = true) {K : St → Prop} (h : absG P true ops o K st) :
   ∃ v, K (st.put o.dst v) ∧ ∀ (st2 : St) (K2 : St → Prop), Agree ops o st st2 → K2 (st2.put o.dst v) → absG P true ops o K2 st2 := by
 unfold absG at h
 split at h
 · rename_i hg
   unfold absOp at h
   split at h
   · rename_i he
     refine ⟨_, h.2.2, fun st2 K2 ha hk => ?_⟩
     unfold absG
     simp only [hg]
     unfold absOp
     rw [if_pos he, ha.ev]
     exact ⟨h.1, (ha.dst _).2 h.2.1, hk⟩
   · rename_i he
     obtain ⟨dst, op, type, pos, after, guard⟩ := o
     simp only [steadyB, Bool.or_eq_true] at hs
     simp only at he hg
     rcases hs with hs | hs
     · exact absurd hs he
     · split at hs
       · rename_i f args ts
         simp only at h
         split at h
         · rename_i g vs hcal
           obtain ⟨h3, h4, h5⟩ := h
           rw [if_pos trivial] at h5
           obtain ⟨r, h6, h7⟩ := h5
           refine ⟨r, h7, fun st2 K2 ha hk => ?_⟩
           have hgf : st2.get f = st.get f := ha.get f (by simp [Op.operands, Call.operands])
           have hga : ∀ x, x ∈ args.toList → st2.get x = st.get x := fun x hx => ha.get x (by simp [Op.operands, Call.operands]; right; simpa using hx)
           have hcal2 : callee st2 f args.toList = callee st f args.toList := by
             unfold callee
             rw [hgf]
             have : (args.toList.map fun x => (st2.get x).strip) = args.toList.map fun x => (st.get x).strip := List.map_congr_left fun x hx => by rw [hga x hx]
             rw [this]
           unfold absG
           simp only [hg]
           unfold absOp
           rw [if_neg he]
           simp only [hcal2, hcal, if_true]
           exact ⟨⟨by rw [hgf]; exact h3.1, fun x hx => by rw [hga x hx]; exact h3.2 x hx⟩, (ha.dst _).2 h4, r, by rw [ha.bx]; exact h6, hk⟩
         · exact h.elim
       · cases hs
 · rename_i g want hg
   split at h
   · rename_i wb hwb
     split at h
     · rename_i he
       refine ⟨_, h.2.2, fun st2 K2 ha hk => ?_⟩
       unfold absG
       simp only [hg, ha.wanted hg, hwb]
       rw [if_pos he, ha.ev]
       exact ⟨h.1, (ha.dst _).2 h.2.1, hk⟩
     · rename_i he
       split at h
       · rename_i f args ts hop
         split at h
         · rename_i q vs hcal
           obtain ⟨h3, r, h4, h5⟩ := h
           refine ⟨_, h5, fun st2 K2 ha hk => ?_⟩
           have hgf : st2.get f = st.get f := ha.get f (by simp [hop, Op.operands, Call.operands])
           have hga : ∀ x, x ∈ args.toList → st2.get x = st.get x := fun x hx => ha.get x (by simp [hop, Op.operands, Call.operands]; right; simpa using hx)
           have hcal2 : callee st2 f args.toList = callee st f args.toList := by
             unfold callee
             rw [hgf]
             have : (args.toList.map fun x => (st2.get x).strip) = args.toList.map fun x => (st.get x).strip := List.map_congr_left fun x hx => by rw [hga x hx]
             rw [this]
           unfold absG
           simp only [hg, ha.wanted hg, hwb]
           rw [if_neg he]
           simp only [hop, hcal2, hcal]
           refine ⟨(ha.dst _).2 h3, r, fun hw => ?_, hk⟩
           obtain ⟨h6, h7⟩ := h4 hw
           exact ⟨⟨by rw [hgf]; exact h6.1, fun x hx => by rw [hga x hx]; exact h6.2 x hx⟩, by rw [ha.bx]; exact h7⟩
         · exact h.elim
       · rename_i hop
         simp only [steadyB, Bool.or_eq_true] at hs
         rcases hs with hs | hs
         · exact absurd hs he
         · cases hs
   · exact h.elim
theorem cls0_ev {o : Oper} (h : cls0 o = true) (bx : Boxes) : isEv o.op = true ∧ ev P { st with bx := bx } o = ev P st o := by
 obtain ⟨dst, op, type, pos, after, guard⟩ := o
 have hg : ∀ x, ({ st with bx := bx } : St).get x = st.get x := fun x => by cases x <;> rfl
 have hg2 : ∀ x : Option Operand, x.map ({ st with bx := bx } : St).get = x.map st.get := fun x => by cases x <;> simp [hg]
 have hg3 : ({ st with bx := bx } : St).get = st.get := funext hg
 have hg4 : ∀ x, gv P { st with bx := bx } x = gv P st x := fun x => by cases x <;> rfl
 cases op
 case slice t x lo hi mx => refine ⟨rfl, ?_⟩; cases mx <;> cases hi <;> simp only [ev, hg3]
 case indexAddr t x ix => exact ⟨rfl, by simp only [ev, hg3]; rw [hg4]⟩
 case convert s d x => exact ⟨h, by simp only [ev, hg3]⟩
 all_goals simp only [cls0] at h
 all_goals first | (cases h; done) | (exact ⟨rfl, by simp only [ev, hg3]⟩) | (refine ⟨rfl, ?_⟩; simp only [ev]; split <;> rw [hg3])
def Y0 (P : Program) (ops : Array Oper) (o : Oper) (st : St) (v : V) : Prop :=
 match o.guard with
 | none => (ev P st o).1 ∧ v = (ev P st o).2
 | some (g, want) => ∃ wb, wantedV ops st g want = some wb ∧ (wb = true → (ev P st o).1) ∧ v = mkOpt wb (ev P st o).2
theorem Y0.fn {o : Oper} {v v' : V} (h : Y0 P ops o st v) (h' : Y0 P ops o st v') : v = v' := by
 unfold Y0 at h h'
 split at h
 · rename_i hg; simp only [hg] at h'; rw [h.2, h'.2]
 · rename_i hg
   simp only [hg] at h'
   obtain ⟨wb, h1, _, h2⟩ := h
   obtain ⟨wb', h3, _, h4⟩ := h'
   rw [h1] at h3
   injection h3 with h3
   subst h3
   rw [h2, h4]
theorem y0_none {o : Oper} (hg : o.guard = none) {v : V} : Y0 P ops o st v ↔ (ev P st o).1 ∧ v = (ev P st o).2 := by unfold Y0; simp only [hg]
theorem y0_some {o : Oper} {g : Nat} {want : Bool} (hg : o.guard = some (g, want)) {v : V} : Y0 P ops o st v ↔ ∃ wb, wantedV ops st g want = some wb ∧ (wb = true → (ev P st o).1) ∧ v = mkOpt wb (ev P st o).2 := by unfold Y0; simp only [hg]
theorem y0_iff {o : Oper} (hc : cls0 o = true) {K : St → Prop} : absG P true ops o K st ↔ ∃ v, Y0 P ops o st v ∧ dstOk st o.dst ∧ K (st.put o.dst v) := by
 have he := (cls0_ev (P := P) (st := st) hc st.bx).1
 cases hg : o.guard with
 | none =>
   have e1 : absG P true ops o K st = ((ev P st o).1 ∧ dstOk st o.dst ∧ K (st.put o.dst (ev P st o).2)) := by
     unfold absG absOp
     simp only [hg]
     rw [if_pos he]
   rw [e1]
   constructor
   · rintro ⟨h1, h2, h3⟩; exact ⟨_, (y0_none hg).2 ⟨h1, rfl⟩, h2, h3⟩
   · rintro ⟨v, h1, h2, h3⟩
     obtain ⟨h4, rfl⟩ := (y0_none hg).1 h1
     exact ⟨h4, h2, h3⟩
 | some gw =>
   obtain ⟨g, want⟩ := gw
   cases hwb : wantedV ops st g want with
   | none =>
     have e1 : absG P true ops o K st = False := by
       unfold absG
       simp only [hg, hwb]
     rw [e1]
     constructor
     · exact fun h => h.elim
     · rintro ⟨v, h1, _⟩
       obtain ⟨wb, h0, _⟩ := (y0_some hg).1 h1
       rw [hwb] at h0
       cases h0
   | some wb =>
     have e1 : absG P true ops o K st = ((wb = true → (ev P st o).1) ∧ dstOk st o.dst ∧ K (st.put o.dst (mkOpt wb (ev P st o).2))) := by
       unfold absG
       simp only [hg, hwb]
       rw [if_pos he]
     rw [e1]
     constructor
     · rintro ⟨h1, h2, h3⟩; exact ⟨_, (y0_some hg).2 ⟨wb, hwb, h1, rfl⟩, h2, h3⟩
     · rintro ⟨v, h1, h2, h3⟩
       obtain ⟨wb', h0, h4, rfl⟩ := (y0_some hg).1 h1
       rw [hwb] at h0
       injection h0 with h0
       subst h0
       exact ⟨h4, h2, h3⟩
theorem Y0.agree {o : Oper} (hc : cls0 o = true) {st2 : St} (hs : ∀ t, t ∈ o.looksAt ops → st2.sl t = st.sl t) (hn : st2.n = st.n) {v : V} (h : Y0 P ops o st v) : Y0 P ops o st2 v := by
 have ha : Agree ops o st { st2 with bx := st.bx } := ⟨hs, rfl, hn⟩
 have h1 : ev P st2 o = ev P st o := by
   have := (cls0_ev (P := P) (st := { st2 with bx := st.bx }) hc st2.bx).2
   rw [← ha.ev, ← this]
 unfold Y0 at h ⊢
 split
 · rename_i hg; simp only [hg] at h; rw [h1]; exact h
 · rename_i g want hg
   simp only [hg] at h
   obtain ⟨wb, h2, h3, h4⟩ := h
   refine ⟨wb, ?_, by rw [h1]; exact h3, by rw [h1]; exact h4⟩
   have := ha.wanted hg
   rw [← h2, ← this]
   rfl
theorem at_sl {bx : Boxes} {d : Option Tmp} {v : V} {t : Nat} (h : d ≠ some t) : (st.at bx d v).sl t = st.sl t := by
 cases d with
 | none => rfl
 | some x => exact upd_ne _ _ (fun e => h (by rw [e]))
theorem at_n {bx : Boxes} {d : Option Tmp} {v : V} : (st.at bx d v).n = st.n := by cases d <;> rfl
theorem at_dst {bx : Boxes} {d e : Option Tmp} {v : V} : dstOk (st.at bx d v) e ↔ dstOk st e := by cases e <;> simp [dstOk, at_n]
theorem comm_apart {i j : Oper} (h : apartC ops i j = true) {K : St → Prop} (hh : absG P true ops i (absG P true ops j K) st) : absG P true ops j (absG P true ops i K) st := by
 simp only [apartC, Bool.and_eq_true, Bool.or_eq_true] at h
 obtain ⟨hap, hcls⟩ := h
 obtain ⟨h1, h2, h3⟩ := Oper.apart_spec hap
 have h2' : ∀ d, j.dst = some d → i.dst ≠ some d := fun d hd he => h2 d he hd
 rcases hcls with (hc | hc) | ⟨hi, hj⟩
 ·
   obtain ⟨v, hy, hd, hk⟩ := (y0_iff hc).1 hh
   obtain ⟨T, _, hT, hT2⟩ := absG_targets hk
   refine hT2 st _ (agree_put' h1) (fun bx u hu => (y0_iff hc).2 ⟨v, hy.agree hc (fun t ht => at_sl (fun e => h3 t e ht)) at_n, at_dst.2 hd, ?_⟩)
   have := hT bx u hu
   rwa [put_put st bx v u h2] at this
 ·
   obtain ⟨T, ⟨bx0, u0, h0⟩, hT, hT2⟩ := absG_targets hh
   obtain ⟨v, hy, hd, _⟩ := (y0_iff hc).1 (hT bx0 u0 h0)
   have hy' : Y0 P ops j st v := hy.agree hc (fun t ht => (at_sl (fun e => h1 t e ht)).symm) at_n.symm
   refine (y0_iff hc).2 ⟨v, hy', at_dst.1 hd, hT2 _ _ (agree_put h3) (fun bx u hu => ?_)⟩
   obtain ⟨v', hy2, _, hk⟩ := (y0_iff hc).1 (hT bx u hu)
   have : v' = v := (hy2.agree (st2 := st) hc (fun t ht => (at_sl (fun e => h1 t e ht)).symm) at_n.symm).fn hy'
   subst this
   rw [put_put st bx v' u h2']
   exact hk
 · obtain ⟨v, hk, hv⟩ := steady_targets hi hh
   obtain ⟨u, hk2, hu⟩ := steady_targets hj hk
   refine hu st _ (agree_put' h1) (hv _ _ (agree_put h3) ?_)
   have := put_put st st.bx v u h2
   have e1 : (st.put i.dst v).at st.bx j.dst u = (st.put i.dst v).put j.dst u := by cases i.dst <;> rfl
   rw [e1, at_self] at this
   rw [← this]
   exact hk2
def absAny (P : Program) (ops : Array Oper) (K : St → Prop) : Nat → Array Bool → St → Prop
 | 0, listed, st => Region.ready .any ops listed = [] ∧ K st
 | fuel + 1, listed, st => (Region.ready .any ops listed = [] → K st) ∧
     ∀ i ∈ Region.ready .any ops listed, ∃ o, ops[i]? = some o ∧ absG P true ops o (absAny P ops K fuel (listed.setIfInBounds i true)) st
theorem absAny_sound {ro : Option Nat} {n : Nat} {K : St → Prop} {Q : Exit → Act → World → Prop} {M : Off} : ∀ (fuel : Nat) (listed : Array Bool) (st : St) (a : Act) (w : World) (β : Beta), absAny P ops K fuel listed st → Rs P β M st a w → Kont P β M st w K (Q .normal) →
   wpAnyIn (rf ro) n P .any ops Q fuel listed a w
 | 0, listed, st, a, w, β, h, hr, hK => ⟨h.1, hK st β a w h.2 hr (Tr.refl _ _ _)⟩
 | fuel + 1, listed, st, a, w, β, h, hr, hK => ⟨fun h0 => hK st β a w (h.1 h0) hr (Tr.refl _ _ _), fun i hi => by
     obtain ⟨o, ho, hg⟩ := h.2 i hi
     exact absG_sound ho hg hr (fun st' β' a' w' hk hr' ht => absAny_sound fuel _ st' a' w' β' hk hr' (hK.trans ht))⟩
def Waits (ms : List Nat) (j i : Nat) : Prop := (ms.getD j 0).testBit i = true
theorem testBit_foldl (ms : List Nat) (i : Nat) : ∀ (es : List Edge) (acc : Nat), (es.foldl (fun acc e => if Region.binds .any e = true then acc ||| (2 ^ e.on ||| ms.getD e.on 0) else acc) acc).testBit i = true →
   acc.testBit i = true ∨ ∃ e, e ∈ es ∧ Region.binds .any e = true ∧ (e.on = i ∨ (ms.getD e.on 0).testBit i = true)
 | [], acc, h => .inl h
 | e :: es, acc, h => by
   simp only [List.foldl_cons] at h
   rcases testBit_foldl ms i es _ h with h1 | ⟨e', h1, h2⟩
   · split at h1
     · rename_i hb
       simp only [Nat.testBit_or, Bool.or_eq_true, Nat.testBit_two_pow, decide_eq_true_eq] at h1
       rcases h1 with h1 | h1 | h1
       · exact .inl h1
       · exact .inr ⟨e, by simp, hb, .inl h1⟩
       · exact .inr ⟨e, by simp, hb, .inr h1⟩
     · exact .inl h1
   · exact .inr ⟨e', by simp [h1], h2⟩
theorem masksFrom_spec : ∀ (l : List Oper) (ms : List Nat), (∀ j, j < ms.length → (masksFrom l ms)[j]? = ms[j]?) ∧ ∀ j o, l[j]? = some o → (masksFrom l ms)[ms.length + j]? = some (maskAt ((masksFrom l ms).take (ms.length + j)) o)
 | [], ms => ⟨fun _ _ => rfl, fun j o h => by simp at h⟩
 | o :: l, ms => by
   obtain ⟨h1, h2⟩ := masksFrom_spec l (ms ++ [maskAt ms o])
   simp only [masksFrom]
   refine ⟨fun j hj => ?_, fun j o' ho => ?_⟩
   · rw [h1 j (by simp; omega), List.getElem?_append_left hj]
   · match j, ho with
     | 0, ho =>
       simp at ho
       subst ho
       have e1 := h1 ms.length (by simp)
       have e2 : (masksFrom l (ms ++ [maskAt ms o])).take ms.length = ms := by
         apply List.ext_getElem?
         intro k
         rw [List.getElem?_take]
         split
         · rename_i hk
           rw [h1 k (by simp; omega), List.getElem?_append_left hk]
         · rw [List.getElem?_eq_none (by omega)]
       rw [Nat.add_zero, e2, e1]
       simp
     | j + 1, ho =>
       have := h2 j o' (by simpa using ho)
       simp only [List.length_append, List.length_singleton] at this
       rw [show ms.length + (j + 1) = ms.length + 1 + j by omega]
       exact this
theorem masks_spec {j : Nat} {o : Oper} (h : ops[j]? = some o) : (masks ops)[j]? = some (maskAt ((masks ops).take j) o) := by
 have := (masksFrom_spec ops.toList []).2 j o (by simpa using h)
 simpa [masks] using this
def Closed (ops : Array Oper) (listed : Array Bool) : Prop := ∀ j o, ops[j]? = some o → listed.getD j false = true → ∀ e ∈ o.after, Region.binds .any e = true → listed.getD e.on false = true
theorem waits_listed {listed : Array Bool} (hc : Closed ops listed) : ∀ (j : Nat) (o : Oper) (i : Nat), ops[j]? = some o → (∀ e ∈ o.after, Region.binds .any e = true → listed.getD e.on false = true) → Waits (masks ops) j i → listed.getD i false = true := by
 intro j
 induction j using Nat.strongRecOn with
 | _ j ih =>
   intro o i ho hd hw
   unfold Waits at hw
   have hm := masks_spec ho
   rw [List.getD_eq_getElem?_getD, hm] at hw
   simp only [Option.getD_some, maskAt] at hw
   rcases testBit_foldl _ i o.after.toList 0 hw with h1 | ⟨e, h1, h2, h3⟩
   · simp at h1
   · have hl := hd e (by simpa using h1) h2
     rcases h3 with h3 | h3
     · rw [← h3]; exact hl
     · by_cases hlt : e.on < j
       · have hlen : e.on < (masks ops).length := by
           have := (List.getElem?_eq_some_iff.1 hm).1
           omega
         have h4 : Waits (masks ops) e.on i := by
           unfold Waits
           rw [List.getD_eq_getElem?_getD, List.getElem?_take, if_pos hlt] at h3
           rw [List.getD_eq_getElem?_getD]
           exact h3
         have hops : e.on < ops.size := by
           have := (Array.getElem?_eq_some_iff.1 ho).1
           omega
         have ho' : ops[e.on]? = some ops[e.on] := Array.getElem?_eq_getElem hops
         exact ih e.on hlt _ i ho' (hc e.on _ ho' hl) h4
       · rw [List.getD_eq_getElem?_getD, List.getElem?_take, if_neg hlt] at h3
         simp at h3
theorem any_first {K : St → Prop} {i : Nat} {oi : Oper} (hi : ops[i]? = some oi) : ∀ (fuel : Nat) (listed : Array Bool) (st : St), Closed ops listed →
     (∀ j oj, ops[j]? = some oj → j ≠ i → listed.getD j true = false → ¬ Waits (masks ops) j i → apartC ops oi oj = true) →
     i ∈ Region.ready .any ops listed → absG P true ops oi (absAny P ops K fuel (listed.setIfInBounds i true)) st → absAny P ops K (fuel + 1) listed st := by
 intro fuel
 induction fuel with
 | zero =>
   intro listed st _ _ hr H
   refine ⟨fun h => (by rw [h] at hr; cases hr), fun j hj => ?_⟩
   by_cases hji : j = i
   · subst hji; exact ⟨oi, hi, H⟩
   · obtain ⟨T, ⟨bx, v, h0⟩, hT, _⟩ := absG_targets H
     have := ready_mono hj hji
     rw [(hT bx v h0).1] at this
     cases this
 | succ fuel ih =>
   intro listed st hcl hfree hr H
   refine ⟨fun h => (by rw [h] at hr; cases hr), fun j hj => ?_⟩
   by_cases hji : j = i
   · subst hji; exact ⟨oi, hi, H⟩
   · obtain ⟨hjun, oj, hoj, hall⟩ := mem_ready.1 hj
     have hiun := (mem_ready.1 hr).1
     have hnw : ¬ Waits (masks ops) j i := fun hw => by
       have h1 := waits_listed hcl j oj i hoj hall hw
       rcases Nat.lt_or_ge i listed.size with h' | h'
       · simp [h'] at h1 hiun; rw [hiun] at h1; cases h1
       · simp [Array.getElem?_eq_none h'] at h1
     have hap := hfree j oj hoj hji hjun hnw
     have h1 : absG P true ops oi (absG P true ops oj (absAny P ops K fuel ((listed.setIfInBounds i true).setIfInBounds j true))) st :=
       absG_mono (fun s hs => by
         obtain ⟨o', ho', hg⟩ := hs.2 j (ready_mono hj hji)
         rw [hoj] at ho'
         injection ho' with ho'
         subst ho'
         exact hg) H
     have h2 := comm_apart hap h1
     refine ⟨oj, hoj, absG_mono (fun s hs => ?_) h2⟩
     refine ih (listed.setIfInBounds j true) s ?_ ?_ (ready_mono hr (Ne.symm hji)) ?_
     · intro k ok hk hkl e he hb
       by_cases hkj : k = j
       · subst hkj
         rw [hoj] at hk
         injection hk with hk
         subst hk
         exact getD_set_true (hall e he hb)
       · rw [getD_set_ne false (Ne.symm hkj)] at hkl
         exact getD_set_true (hcl k ok hk hkl e he hb)
     · intro k ok hk hki hun hnw'
       refine hfree k ok hk hki ?_ hnw'
       by_cases hjk : j = k
       · subst hjk; exact hjun
       · rw [getD_set_ne true hjk] at hun; exact hun
     · rw [Array.setIfInBounds_comm _ _ hji]
       exact hs
end
end Go.Pl

set_option linter.unusedSimpArgs false
set_option linter.unusedVariables false
namespace Go.Pl
open Go
section
variable {P : Program} {ops : Array Oper} {M : Off}
theorem lexC_at (h : lexC ops = true) {k : Nat} {ok : Oper} (hk : ops[k]? = some ok) :
   (∀ e ∈ ok.after, Region.binds .any e = true → e.on < k) ∧ ∀ j oj, ops[j]? = some oj → k < j → ¬ Waits (masks ops) j k → apartC ops ok oj = true := by
 have hlt := (Array.getElem?_eq_some_iff.1 hk).1
 simp only [lexC, List.all_eq_true, List.mem_range] at h
 have h1 := h k hlt
 simp only [hk, Bool.and_eq_true] at h1
 obtain ⟨h2, h3⟩ := h1
 refine ⟨fun e he hb => ?_, fun j oj hj hkj hw => ?_⟩
 · have := Array.all_eq_true_iff_forall_mem.1 h2 e he
   simpa [hb] using this
 · have hjlt := (Array.getElem?_eq_some_iff.1 hj).1
   have h4 := List.all_eq_true.1 h3 j (List.mem_range.2 hjlt)
   simp only [hj, Bool.or_eq_true, decide_eq_true_eq] at h4
   rcases h4 with h4 | h4 | h4
   · omega
   · exact absurd h4 hw
   · exact h4
theorem absAny_lex (hB : lexC ops = true) {K : St → Prop} : ∀ (l : List Oper) (k : Nat) (listed : Array Bool) (st : St), (∀ j, l[j]? = ops[k + j]?) → listed.size = ops.size → k + l.length = ops.size → (∀ j, j < ops.size → (listed.getD j false = decide (j < k)) ∧ (listed.getD j true = decide (j < k))) →
   absOps P true ops K l st → absAny P ops K l.length listed st
 | [], k, listed, st, hl, hsz, hk, hlist, h => by
   refine ⟨?_, h⟩
   apply List.eq_nil_iff_forall_not_mem.2
   intro j hj
   obtain ⟨h1, o, ho, _⟩ := mem_ready.1 hj
   have hlt := (Array.getElem?_eq_some_iff.1 ho).1
   rw [(hlist j hlt).2] at h1
   simp at h1 hk
   omega
 | o :: l, k, listed, st, hl, hsz, hk, hlist, h => by
   have h0 : ops[k]? = some o := by simpa using (hl 0).symm
   have hklt := (Array.getElem?_eq_some_iff.1 h0).1
   obtain ⟨hdep, hap⟩ := lexC_at hB h0
   simp only [List.length_cons] at hk ⊢
   refine any_first h0 l.length listed st ?_ ?_ ?_ ?_
   · intro j oj hj hjl e he hb
     have hjlt := (Array.getElem?_eq_some_iff.1 hj).1
     rw [(hlist j hjlt).1] at hjl
     have hjk : j < k := by simpa using hjl
     have := (lexC_at hB hj).1 e he hb
     rw [(hlist e.on (by omega)).1]
     simp; omega
   · intro j oj hj hne hun hw
     have hjlt := (Array.getElem?_eq_some_iff.1 hj).1
     rw [(hlist j hjlt).2] at hun
     simp at hun
     exact hap j oj hj (by omega) hw
   · refine mem_ready.2 ⟨by rw [(hlist k hklt).2]; simp, o, h0, fun e he hb => ?_⟩
     have := hdep e he hb
     rw [(hlist e.on (by omega)).1]
     simp; omega
   · refine absG_mono (fun s hs => absAny_lex hB l (k + 1) _ s (fun j => by have := hl (j + 1); simpa [Nat.add_assoc, Nat.add_comm 1 j] using this) (by simpa using hsz) (by omega) (fun j hj => ?_) hs) h
     by_cases e : k = j
     · subst e
       have : k < listed.size := by omega
       simp [this]
     · rw [getD_set_ne false e, getD_set_ne true e, (hlist j hj).1, (hlist j hj).2]
       have : (j < k) ↔ (j < k + 1) := by omega
       simp [this]
def SubBx (bx bx' : Boxes) : Prop := ∀ b, bx' b = none ∨ bx' b = bx b ∨ (∃ es bs c, bx b = some (.mapS es bs c) ∧ bx' b = some (.map es)) ∨ ∃ ty sz es n, 0 < sz ∧ bx b = some (.row ty sz es) ∧ bx' b = some (.row ty sz (es.take n))
theorem SubBx.refl (bx : Boxes) : SubBx bx bx := fun _ => .inr (.inl rfl)
theorem SubBx.none_ (bx : Boxes) : SubBx bx fun _ => none := fun _ => .inl rfl
variable {β : Beta} {bx bx' : Boxes} {w : World}
theorem SubBx.dom (h : SubBx bx bx') {b : Nat} (hb : bx' b ≠ none) : bx b ≠ none := by
 rcases h b with h4 | h4 | ⟨es, bs, c, h4, h5⟩ | ⟨ty, sz, es, n, _, h4, _⟩
 · exact absurd h4 hb
 · rw [← h4]; exact hb
 · rw [h4]; simp
 · rw [h4]; simp
theorem SubBx.fz (h : SubBx bx bx') {k : Nat} (hk : Fz β M bx w k) : Fz β M bx' w k := by
 obtain ⟨h1, h2, h3⟩ := hk
 exact ⟨h1, h2, fun b hb he => h3 b (h.dom hb) he⟩
theorem WOk.sub (h : WOk β M bx w) (hs : SubBx bx bx') : WOk β M bx' w := by
 refine ⟨h.fin, h.mlt, fun b box hb => ?_, fun b1 b2 k h1 h2 h3 h4 => h.inj b1 b2 k (hs.dom h1) (hs.dom h2) h3 h4⟩
 rcases hs b with h4 | h4 | ⟨es, bs, c, h4, h5⟩ | ⟨ty, sz, es, n, _, h4, h5⟩
 · rw [h4] at hb; cases hb
 · rw [h4] at hb
   rcases h.live b box hb with h1 | ⟨k, h1, h2, h3, h4⟩
   · exact .inl h1
   · exact .inr ⟨k, h1, h2, h3, boxAt_mono h4 rfl (fun _ _ h => h) (fun k hk => ⟨hs.fz hk, rfl⟩) (fun _ _ h => h)⟩
 · rw [h5] at hb
   injection hb with hb
   subst hb
   rcases h.live b _ h4 with ⟨_, h1⟩ | ⟨k, h1, h2, h3, h6⟩
   · exact h1.elim
   · obtain ⟨ms, g1, g2, g3, g4, g5⟩ := boxAt_mono h6 rfl (fun _ _ h => h) (fun k hk => ⟨hs.fz hk, rfl⟩) (fun _ _ h => h)
     exact .inr ⟨k, h1, h2, h3, ms, c, g1, g3, g4, g5⟩
 · rw [h5] at hb
   injection hb with hb
   subst hb
   rcases h.live b _ h4 with ⟨h1, h2⟩ | ⟨k, h1, h2, h3, h6⟩
   · have h2 : es = [] := h2
     subst h2
     exact .inl ⟨h1, by simp [Box.empty]⟩
   · obtain ⟨cur, fr, g1, g2, g3, g4⟩ := boxAt_mono h6 rfl (fun _ _ h => h) (fun k hk => ⟨hs.fz hk, rfl⟩) (fun _ _ h => h)
     refine .inr ⟨k, h1, h2, h3, cur, fr, g1, g2, Nat.le_trans (Nat.mul_le_mul_right _ (by rw [List.length_take]; exact Nat.min_le_right _ _)) g3, fun i e he => g4 i e ?_⟩
     rw [List.getElem?_take] at he
     split at he
     · exact he
     · cases he
theorem SubBx.tr (hs : SubBx bx bx') : Tr β bx w β bx' w := by
 refine ⟨rfl, rfl, rfl, fun _ => Nat.le_refl _, fun ⟨b, ty, hb⟩ => ⟨b, ty, ?_⟩, Nat.le_refl _, fun _ _ _ => rfl, fun _ _ h => h, fun _ _ h => h, fun b k h1 h2 => .inl ⟨b, hs.dom h1, h2⟩⟩
 rcases hs b with h4 | h4 | ⟨es, bs, c, h4, h5⟩ | ⟨ty', sz, es, n, h3, h4, h5⟩
 · rw [h4] at hb; cases hb
 · rw [← h4]; exact hb
 · rw [h5] at hb; cases hb
 · rw [h5] at hb
   injection hb with hb
   injection hb with _ hb _
   omega
theorem SubBx.rep (hs : SubBx bx bx') {v : V} {u : Value} (h : Rep β w (Fz β M bx w) v u) : Rep β w (Fz β M bx' w) v u :=
 h.mono (fun _ _ h => h) (fun k hk => ⟨hs.fz hk, rfl⟩) (fun _ _ h => h)
def frz (bx bx' : Boxes) : Nat → V → V
 | d + 1, .own b sz o n =>
   match bx b, bx' b with
   | some (.row _ sz' es), none => if sz = sz' ∧ 0 < sz ∧ o + n ≤ es.length then .sl sz (((es.drop o).take n).map (frz bx bx' d)) else .unk
   | _, _ => .unk
 | d + 1, .agg cs => .agg (cs.map (frz bx bx' d))
 | d + 1, .tup cs => .tup (cs.map (frz bx bx' d))
 | d + 1, .iface t v => .iface t (frz bx bx' d v)
 | d + 1, .fn f caps => .fn f (caps.map (frz bx bx' d))
 | d + 1, .ptr b sz i o =>
   match bx b, bx' b with
   | some (.row _ sz' es), none => if sz = sz' ∧ i < es.length then .ep (frz bx bx' d (es.getD i .unk)) o else .unk
   | _, _ => .ptr b sz i o
 | _, v => v
theorem frz_cells (bx bx' : Boxes) (d : Nat) (e : V) : (frz bx bx' d e).cells.length = e.cells.length ∧ ∀ (j : Nat) (c' : V), (frz bx bx' d e).cells[j]? = some c' → ∃ c d', d' ≤ d ∧ e.cells[j]? = some c ∧ c' = frz bx bx' d' c := by
 have same : ∀ e : V, e.cells.length = e.cells.length ∧ ∀ (j : Nat) (c' : V), e.cells[j]? = some c' → ∃ c d', d' ≤ d ∧ e.cells[j]? = some c ∧ c' = frz bx bx' d' c :=
   fun e => ⟨rfl, fun j c' h => ⟨c', 0, Nat.zero_le _, h, by simp [frz]⟩⟩
 have one : ∀ e q : V, e.cells = [e] → q.cells = [q] → q = frz bx bx' d e → q.cells.length = e.cells.length ∧ ∀ (j : Nat) (c' : V), q.cells[j]? = some c' → ∃ c d', d' ≤ d ∧ e.cells[j]? = some c ∧ c' = frz bx bx' d' c := by
   intro e q h1 h2 h3
   rw [h1, h2]
   refine ⟨rfl, fun j c' h => ?_⟩
   match j, h with
   | 0, h => simp at h; subst h; exact ⟨e, d, Nat.le_refl _, rfl, h3⟩
   | j + 1, h => simp at h
 cases d with
 | zero => exact same e
 | succ d =>
   cases e with
   | own b sz o n =>
     refine one _ _ rfl ?_ rfl
     simp only [frz]
     split
     · split <;> rfl
     · rfl
   | agg cs =>
     refine ⟨by simp [frz, V.cells], fun j c' h => ?_⟩
     simp only [frz, V.cells, List.getElem?_map, Option.map_eq_some_iff] at h
     obtain ⟨c, hc, rfl⟩ := h
     exact ⟨c, d, Nat.le_succ _, hc, rfl⟩
   | tup cs => exact one _ _ rfl rfl rfl
   | iface t v => exact one _ _ rfl rfl rfl
   | fn f caps => exact one _ _ rfl rfl rfl
   | ptr b sz i o =>
     refine one _ _ rfl ?_ rfl
     simp only [frz]
     split
     · split <;> rfl
     · rfl
   | _ => exact same _
theorem frz_rep (hok : WOk β M bx w) (hs : SubBx bx bx') (d : Nat) : ∀ (v : V) (u : Value), Rep β w (Fz β M bx w) v u → Rep β w (Fz β M bx' w) (frz bx bx' d v) u := by
 induction d using Nat.strongRecOn with
 | _ d ih =>
   intro v u h
   cases d with
   | zero => simpa [frz] using hs.rep h
   | succ d =>
     cases h with
     | own0 b sz hb =>
       simp only [frz]
       split
       · rename_i ty sz' es hb1 hb2
         split
         · rename_i hh
           have := Rep.sl (β := β) (w := w) (F := Fz β M bx' w) sz [] none 0 (fun _ => undef) (Nat.le_refl _) (by simp) (fun h => absurd rfl h) (fun e he => by cases he) (fun i e j c he => by simp at he) (fun i e j c he => by simp at he)
           simpa using this
         · exact .unk _
       · exact .unk _
     | own b sz o n k cap m ty hb hsh hm hn hmax =>
       simp only [frz]
       split
       · rename_i ty' sz' es hb1 hb2
         split
         · rename_i hh
           obtain ⟨e1, hpos, hle⟩ := hh
           subst e1
           rcases hok.live b _ hb1 with ⟨h1, _⟩ | ⟨k', h1, hklt, hM, cur, fr, hcur, hfr, hcl, hrow⟩
           · rw [hb] at h1; cases h1
           · rw [hb] at h1
             injection h1 with h1
             injection h1 with h1
             subst h1
             have hlen : (((es.drop o).take n).map (frz bx bx' d)).length = n := by simp; omega
             have hFk : Fz β M bx' w k := by
               refine ⟨hklt, hM, fun q hq he => ?_⟩
               have hqb : bx q ≠ none := hs.dom hq
               have := hok.inj q b k hqb (by rw [hb1]; simp) he hb
               subst this
               exact hq hb2
             have hget : ∀ i e', (((es.drop o).take n).map (frz bx bx' d))[i]? = some e' → ∃ e, es[o + i]? = some e ∧ i < n ∧ e' = frz bx bx' d e := by
               intro i e' he
               rw [List.getElem?_map, List.getElem?_take] at he
               split at he
               · rename_i hi
                 rw [List.getElem?_drop] at he
                 simp only [Option.map_eq_some_iff] at he
                 obtain ⟨e, h5, rfl⟩ := he
                 exact ⟨e, h5, hi, rfl⟩
               · simp at he
             have hres := Rep.sl (β := β) (w := w) (F := Fz β M bx' w) sz (((es.drop o).take n).map (frz bx bx' d)) (some ⟨k, o * sz, none⟩) cap (fun m => cur.getD (o * sz + m) undef) (by rw [hlen]; exact hn) (by omega) (fun _ h => by cases h)
               (fun e' he => by
                 obtain ⟨i, hi⟩ := List.mem_iff_getElem?.1 he
                 obtain ⟨e, h5, _, rfl⟩ := hget i e' hi
                 rw [(frz_cells bx bx' d e).1]
                 exact (hrow _ e h5).1)
               (fun i e' j c he hc => by
                 obtain ⟨e, h5, hi, rfl⟩ := hget i e' he
                 obtain ⟨c0, d', _, h6, _⟩ := (frz_cells bx bx' d e).2 j c hc
                 obtain ⟨h7, h8⟩ := hrow _ e h5
                 have hj : j < sz := by have := (List.getElem?_eq_some_iff.1 h6).1; omega
                 have h9 := (h8 j c0 h6).1
                 have e2 : (o + i) * sz + j = o * sz + (i * sz + j) := by rw [Nat.add_mul]; omega
                 rw [e2] at h9
                 have hb' : o * sz + (i * sz + j) < cur.size := by
                   have : (o + i + 1) * sz ≤ es.length * sz := Nat.mul_le_mul_right _ (List.getElem?_eq_some_iff.1 h5).1
                   rw [Nat.succ_mul] at this
                   omega
                 refine ⟨_, rfl, hFk, ?_, h9⟩
                 rw [add_lit, cell_of_row w k _ cur ty' fr hcur]
                 simp [hb'])
               (fun i e' j c he hc => by
                 obtain ⟨e, h5, hi, rfl⟩ := hget i e' he
                 obtain ⟨c0, d', hd', h6, rfl⟩ := (frz_cells bx bx' d e).2 j c hc
                 have h9 := ((hrow _ e h5).2 j c0 h6).2
                 have e2 : (o + i) * sz + j = o * sz + (i * sz + j) := by rw [Nat.add_mul]; omega
                 rw [e2] at h9
                 exact ih d' (by omega) c0 _ h9)
             rw [hlen] at hres
             exact hres
         · exact .unk _
       · exact .unk _
     | agg cs us hl h1 hr =>
       simp only [frz]
       refine .agg _ _ (by simpa using hl) (fun i hi => h1 i (by simpa using hi)) (fun i c hc => ?_)
       rw [List.getElem?_map] at hc
       simp only [Option.map_eq_some_iff] at hc
       obtain ⟨c', hc', rfl⟩ := hc
       exact ih d (Nat.lt_succ_self _) c' _ (hr i c' hc')
     | tup cs us hl hr =>
       simp only [frz]
       refine .tup _ _ (by simpa using hl) (fun i c hc => ?_)
       rw [List.getElem?_map] at hc
       simp only [Option.map_eq_some_iff] at hc
       obtain ⟨c', hc', rfl⟩ := hc
       exact ih d (Nat.lt_succ_self _) c' _ (hr i c' hc')
     | iface t v u h =>
       simp only [frz]
       exact .iface t _ u (ih d (Nat.lt_succ_self _) v u h)
     | unk => exact .unk _
     | int => exact .int _ _
     | bool => exact .bool _
     | str => exact .str _
     | nils => exact .nils
     | sl sz es A cap u0 h1 h2 h3 h4 h5 h6 => exact hs.rep (.sl sz es A cap u0 h1 h2 h3 h4 h5 h6)
     | ptr b sz i o k hb =>
       simp only [frz]
       split
       · rename_i ty' sz' es hb1 hb2
         split
         · rename_i hh
           obtain ⟨e1, hi⟩ := hh
           subst e1
           rcases hok.live b _ hb1 with ⟨h1, _⟩ | ⟨k', h1, hklt, hM, cur, fr, hcur, hfr, hcl, hrow⟩
           · rw [h1] at hb; cases hb
           · rw [hb] at h1; injection h1 with h1; injection h1 with h1; subst h1
             have he := List.getElem?_eq_getElem hi
             have hg : es.getD i .unk = es[i] := by simp [List.getD, he]
             rw [hg]
             obtain ⟨hlen, hcs⟩ := hrow i _ he
             have hFk : Fz β M bx' w k := by
               refine ⟨hklt, hM, fun q hq he => ?_⟩
               have hq' : bx q ≠ none := hs.dom hq
               have := hok.inj q b k hq' (by rw [hb1]; simp) he hb
               subst this
               exact hq hb2
             have hres := Rep.ep (β := β) (w := w) (F := Fz β M bx' w) (frz bx bx' d es[i]) o ⟨k, i * sz, none⟩ (fun j => cur.getD (i * sz + j) undef)
               (fun j c hc => by
                 obtain ⟨c0, d', _, h6, _⟩ := (frz_cells bx bx' d es[i]).2 j c hc
                 have hj : j < sz := by have := (List.getElem?_eq_some_iff.1 h6).1; omega
                 have h9 := (hcs j c0 h6).1
                 have hb' : i * sz + j < cur.size := by
                   have : (i + 1) * sz ≤ es.length * sz := Nat.mul_le_mul_right _ hi
                   rw [Nat.succ_mul] at this
                   omega
                 refine ⟨_, rfl, hFk, ?_, h9⟩
                 rw [add_lit, cell_of_row w k _ cur ty' fr hcur]
                 simp [hb'])
               (fun j c hc => by
                 obtain ⟨c0, d', hd', h6, rfl⟩ := (frz_cells bx bx' d es[i]).2 j c hc
                 exact ih d' (by omega) c0 _ (hcs j c0 h6).2)
             rw [add_lit] at hres
             exact hres
         · exact .unk _
       · exact .ptr b sz i o k hb
     | ep e o a u0 h1 h2 => exact hs.rep (.ep e o a u0 h1 h2)
     | nilp => exact .nilp
     | fn f caps us hl hr hy =>
       simp only [frz]
       refine .fn f _ _ (by simpa using hl) (fun i c hc => ?_) ?_
       · rw [List.getElem?_map] at hc
         simp only [Option.map_eq_some_iff] at hc
         obtain ⟨c', hc', rfl⟩ := hc
         exact ih d (Nat.lt_succ_self _) c' _ (hr i c' hc')
       · intro g r hf he
         rcases caps with _ | ⟨c, _ | ⟨c2, cs⟩⟩
         · simp at he
         · exact hy g c hf rfl
         · simp at he
     | bm f r u h =>
       simp only [frz, List.map_cons, List.map_nil]
       exact .bm f _ _ (ih d (Nat.lt_succ_self _) r _ h)
     | nilf => exact .nilf
     | nili => exact .nili
     | mp b k hb => exact .mp b k hb
     | nilm => exact .nilm
     | dead v => exact .dead v
     | yl b k hb => exact .yl b k hb
end
end Go.Pl

set_option linter.unusedSimpArgs false
set_option linter.unusedVariables false
namespace Go.Pl
open Go
structure Cov (s s' : St) : Prop where
 n : s'.n ≤ s.n
 sl : ∀ t, s'.sl t = .unk ∨ s'.sl t = s.sl t ∨ (∃ d, s'.sl t = frz s.bx s'.bx d (s.sl t)) ∨ ∃ d, ∀ β w F u, Rep β w F (frz s.bx s'.bx d (s.sl t)) u → Rep β w F (s'.sl t) u
 bx : SubBx s.bx s'.bx
def thenQ (next : St → Prop) (Q : Exit → St → Prop) : Exit → St → Prop
 | .normal, st => next st
 | e, st => Q e st
def blockQ (id : Nat) (Q : Exit → St → Prop) : Exit → St → Prop
 | .exit id', st => if id' = id then Q .normal st else Q (.exit id') st
 | e, st => Q e st
section
variable {P : Program} {M : Off}
theorem Cov.rs {β : Beta} {s s' : St} {a : Act} {w : World} (h : Cov s s') (hr : Rs P β M s a w) : Rs P β M s' a w := by
 refine ⟨hr.ok.sub h.bx, fun t => ?_, Nat.le_trans h.n hr.sz, hr.df, hr.bs, hr.gl.imp fun _ _ hh => h.bx.rep hh⟩
 rcases h.sl t with h1 | h1 | ⟨d, h1⟩ | ⟨d, h1⟩
 · rw [h1]; exact .unk _
 · rw [h1]; exact h.bx.rep (hr.sl t)
 · rw [h1]; exact frz_rep hr.ok h.bx d _ _ (hr.sl t)
 · exact h1 _ _ _ _ (frz_rep hr.ok h.bx d _ _ (hr.sl t))
structure MExt (M M' : Off) (w : World) : Prop where
 le : ∀ k o, M k = some o → M' k = some o
 new : ∀ k, M k = none → M' k ≠ none → w.heap.size ≤ k
 base : M'.base = M.base
 df : M'.df = M.df
theorem MExt.refl (M : Off) (w : World) : MExt M M w := ⟨fun _ _ h => h, fun _ h h' => absurd h h', rfl, rfl⟩
theorem MExt.trans {M M' M'' : Off} {w w' : World} (h : MExt M M' w) (h' : MExt M' M'' w') (hs : w.heap.size ≤ w'.heap.size) : MExt M M'' w := by
 refine ⟨fun k o hk => h'.le k o (h.le k o hk), fun k h1 h2 => ?_, h'.base.trans h.base, h'.df.trans h.df⟩
 cases hm : M' k with
 | none => exact Nat.le_trans hs (h'.new k hm h2)
 | some o => exact h.new k h1 (by rw [hm]; simp)
theorem WOk.shrink {β : Beta} {M M' : Off} {bx : Boxes} {w : World} (h : WOk β M' bx w) (hm : ∀ k o, M k = some o → M' k = some o) : WOk β M bx w := by
 have hn : ∀ k, M' k = none → M k = none := fun k hk => by
   cases e : M k with
   | none => rfl
   | some o => rw [hm k o e] at hk; cases hk
 refine ⟨h.fin, fun k o hk => h.mlt k o (hm k o hk), fun b box hb => ?_, h.inj⟩
 rcases h.live b box hb with h1 | ⟨k, h1, h2, h3, h4⟩
 · exact .inl h1
 · exact .inr ⟨k, h1, h2, hn k h3, boxAt_mono h4 rfl (fun _ _ h => h) (fun k hk => ⟨⟨hk.1, hn k hk.2.1, hk.2.2⟩, rfl⟩) (fun _ _ h => h)⟩
theorem rep_shrink {β : Beta} {M M' : Off} {bx : Boxes} {w : World} (hm : ∀ k o, M k = some o → M' k = some o) {v : V} {u : Value} (h : Rep β w (Fz β M' bx w) v u) : Rep β w (Fz β M bx w) v u := by
 have hn : ∀ k, M' k = none → M k = none := fun k hk => by
   cases e : M k with
   | none => rfl
   | some o => rw [hm k o e] at hk; cases hk
 exact h.mono (fun _ _ h => h) (fun k hk => ⟨⟨hk.1, hn k hk.2.1, hk.2.2⟩, rfl⟩) (fun _ _ h => h)
def Says (P : Program) (M : Off) (ro : Option Nat) (c : Code) (Q : Exit → St → Prop) (st : St) : Prop :=
 ∀ (n : Nat) (β : Beta) (a : Act) (w : World), Rs P β M st a w → c.wpIn (rf ro) n P (fun e a' w' => ∃ M' st' β', Q e st' ∧ MExt M M' w ∧ Rs P β' M' st' a' w' ∧ Tr β st.bx w β' st'.bx w') a w
theorem says_region (hm : P.follows .mixedOrders = true) {ro : Option Nat} {id : Nat} {ops : Array Oper} {draw : Bool} {Q : Exit → St → Prop} {st : St} (hl : draw = true → lexC ops = true) (h : absOps P draw ops (Q .normal) ops.toList st) : Says P M ro (.region id ops draw) Q st := by
 intro n β a w hr
 cases draw with
 | false =>
   refine wpIn_region ?_
   have h1 := absOps_sound (ro := ro) (n := n) (M := M) (Q := fun e a' w' => ∃ M' st' β', Q e st' ∧ MExt M M' w ∧ Rs P β' M' st' a' w' ∧ Tr β st.bx w β' st'.bx w') ops.toList 0 st a w β (fun j => by simp) h hr (fun st' β' a' w' hk hr' ht => ⟨M, st', β', hk, MExt.refl _ _, hr', ht⟩)
   simpa [List.range_eq_range'] using h1
 | true =>
   refine wpIn_region_any hm ?_
   have hr' : Rs P β M st a w.drew := ⟨hr.ok.drew, fun t => (Tr.drew hr.ok).rep (hr.sl t), hr.sz, hr.df, hr.bs, hr.gl.imp fun _ _ hh => (Tr.drew hr.ok).rep hh⟩
   have hl' := hl rfl
   have h1 := absAny_lex (P := P) hl' ops.toList 0 (Array.replicate ops.size false) st (fun j => by simp) (by simp) (by simp) (fun j hj => by simp [hj]) h
   have h2 := absAny_sound (ro := ro) (n := n) (M := M) (Q := fun e a' w' => ∃ M' st' β', Q e st' ∧ MExt M M' w ∧ Rs P β' M' st' a' w' ∧ Tr β st.bx w β' st'.bx w') _ _ st a w.drew β h1 hr' (fun st' β' a' w' hk hr2 ht => ⟨M, st', β', hk, MExt.refl _ _, hr2, (Tr.drew hr.ok).trans ht⟩)
   simpa using h2
def initSl : Nat → List V → (Nat → V)
 | _, [] => fun _ => .unk
 | k, v :: vs => upd (initSl (k + 1) vs) k v
def initSt (n : Nat) (args : List V) (bx : Boxes) : St := { n := n, sl := initSl 0 args, bx := bx }
theorem initSl_at : ∀ (args : List V) (k t : Nat), initSl k args t = if k ≤ t then args.getD (t - k) .unk else .unk
 | [], k, t => by simp [initSl]
 | v :: vs, k, t => by
   simp only [initSl, upd]
   by_cases h : t = k
   · subst h; simp
   · rw [if_neg h, initSl_at vs (k + 1) t]
     by_cases h1 : k ≤ t
     · rw [if_pos h1, if_pos (by omega)]
       have : t - k = (t - (k + 1)) + 1 := by omega
       rw [this]
       simp
     · rw [if_neg h1, if_neg (by omega)]
def resEv (P : Program) (st : St) : ResultVar → Ev
 | .tmp t => (True, st.sl t)
 | .cell a t => loadV P st.bx t (st.sl a)
def resV (P : Program) (st : St) (rs : List ResultVar) : V :=
 match rs with
 | [r] => (resEv P st r).2
 | rs => .tup (rs.map fun r => (resEv P st r).2)
def Ret (P : Program) (rs : List ResultVar) (Kc : V → Boxes → Prop) (st : St) : Prop :=
 (∀ r, r ∈ rs → (resEv P st r).1) ∧ ∃ bx' r, SubBx st.bx bx' ∧ (r = resV P st rs ∨ ∃ d, r = frz st.bx bx' d (resV P st rs)) ∧ Kc r bx'
theorem load_ptr {β : Beta} {w : World} {F : Nat → Prop} {bx : Boxes} {t : TypeId} {x : V} {u : Value} (hc : (loadV P bx t x).1) (hr : Rep β w F x u) : ∃ ad, u = .pointer (some ad) := by
 unfold loadV at hc
 split at hc
 · rename_i e o hs
   have hl : x.liveB = true := by unfold partV at hc; split at hc <;> exact hc.1
   exact ptr_some hr (.inr ⟨e, o, live_of hl hs⟩)
 · rename_i b sz i o hs
   split at hc
   · have hl : x.liveB = true := by unfold partV at hc; split at hc <;> exact hc.1.1
     exact ptr_some hr (.inl ⟨b, sz, i, o, live_of hl hs⟩)
   · exact hc.elim
 · exact hc.elim
theorem res_one {β : Beta} {st : St} {a : Act} {w : World} (hr : Rs P β M st a w) {r : ResultVar} (hc : (resEv P st r).1) :
   ∃ u, ((match r with | .tmp t => pure (a.tmps.getD t undef) | .cell q t => do loadVar t (← asAddr (a.tmps.getD q undef)) : Sem Value)).run P w = .ok u w ∧ Rep β w (Fz β M st.bx w) (resEv P st r).2 u := by
 cases r with
 | tmp t => exact ⟨_, rfl, hr.sl t⟩
 | cell q t =>
   have hc' : (loadV P st.bx t (st.sl q)).1 := hc
   obtain ⟨v, h1, h2⟩ := load_sound (P := P) hc' hr.ok.bxOk (hr.sl q)
   obtain ⟨ad, had⟩ := load_ptr hc' (hr.sl q)
   refine ⟨v, ?_, h2⟩
   show (do loadVar t (← asAddr (a.tmps.getD q undef)) : Sem Value).run P w = _
   rw [had] at h1 ⊢
   exact h1
theorem res_list {β : Beta} {st : St} {a : Act} {w : World} (hr : Rs P β M st a w) : ∀ (rs : List ResultVar), (∀ r, r ∈ rs → (resEv P st r).1) →
   ∃ us : List Value, (rs.mapM fun | .tmp t => pure (a.tmps.getD t undef) | .cell q t => do loadVar t (← asAddr (a.tmps.getD q undef)) : Sem (List Value)).run P w = .ok us w ∧ us.length = rs.length ∧ ∀ (i : Nat) (r : ResultVar), rs[i]? = some r → Rep β w (Fz β M st.bx w) (resEv P st r).2 (us.getD i undef)
 | [], _ => ⟨[], rfl, rfl, fun i r h => by simp at h⟩
 | r :: rs, hc => by
   obtain ⟨u, h1, h2⟩ := res_one (P := P) hr (hc r (by simp))
   obtain ⟨us, h3, h4, h5⟩ := res_list hr rs (fun q hq => hc q (by simp [hq]))
   refine ⟨u :: us, ?_, by simp [h4], fun i q hq => ?_⟩
   · rw [List.mapM_cons, Sem.run_bind, h1, Result.andThen_ok, Sem.run_bind, h3]
     rfl
   · match i, hq with
     | 0, hq => simp at hq; subst hq; simpa using h2
     | i + 1, hq => simpa using h5 i q (by simpa using hq)
theorem results_sound {β : Beta} {st : St} {a : Act} {w : World} (hr : Rs P β M st a w) (fn : Func) (hc : ∀ r, r ∈ fn.results.toList → (resEv P st r).1) :
   ∃ v, (results fn a.tmps).run P w = .ok v w ∧ Rep β w (Fz β M st.bx w) (resV P st fn.results.toList) v := by
 obtain ⟨us, h1, h2, h3⟩ := res_list (P := P) hr fn.results.toList hc
 refine ⟨if h : us.toArray.size = 1 then us.toArray[0] else .tuple us.toArray, ?_, ?_⟩
 · unfold results
   rw [Array.mapM_eq_mapM_toList, Sem.run_bind, Sem.run_map]
   erw [h1]
   rfl
 · unfold resV
   split
   · rename_i r hrs
     rw [hrs] at h2 h3
     have h4 := h3 0 r rfl
     match us, h2 with
     | [u], _ => simpa using h4
   · rename_i hne
     have hlen : us.length ≠ 1 := by
       intro h
       rw [h2] at h
       match hq : fn.results.toList, h with
       | [r], _ => exact hne r hq
     rw [dif_neg (by simpa using hlen)]
     refine .tup _ _ (by simp [h2]) (fun i c hc' => ?_)
     rw [List.getElem?_map] at hc'
     simp only [Option.map_eq_some_iff] at hc'
     obtain ⟨r, hr', rfl⟩ := hc'
     simpa using h3 i r hr'
theorem shape_put {w : World} {D k : Nat} {o' : Obj} (hs : w.shape? D = none) {x : TypeId × Nat} (h : w.shape? k = some x) : (w.putObj D o').shape? k = some x := by
 by_cases e : k = D
 · subst e; rw [hs] at h; cases h
 · rw [shape_heap (World.putObj_heap_other e)]; exact h
def Off.set (M : Off) (D : Nat) (x : Option Obj) : Off := { M with obj := upd M.obj D x }
theorem Off.set_eq (M : Off) (D : Nat) (x : Option Obj) : (M.set D x) D = x := upd_eq _ _ _
theorem Off.set_ne (M : Off) {D k : Nat} (x : Option Obj) (h : k ≠ D) : (M.set D x) k = M k := upd_ne _ _ h
theorem WOk.putOff {β : Beta} {M : Off} {bx : Boxes} {w : World} {D : Nat} {o o' : Obj} {x : Option Obj} (h : WOk β M bx w) (hD : M D = some o) (hx : ∀ y, x = some y → y = o') (hs : w.shape? D = none) :
   WOk β (M.set D x) bx (w.putObj D o') ∧ (∀ {v : V} {u : Value}, Rep β w (Fz β M bx w) v u → Rep β (w.putObj D o') (Fz β (M.set D x) bx (w.putObj D o')) v u) := by
 have hlt := h.mlt' hD
 have hF : ∀ k, Fz β M bx w k → Fz β (M.set D x) bx (w.putObj D o') k ∧ (w.putObj D o').heap[k]? = w.heap[k]? := by
   rintro k ⟨h1, h2, h3⟩
   have e : k ≠ D := by rintro rfl; rw [h2] at hD; cases hD
   exact ⟨⟨by simpa using h1, by rw [Off.set_ne _ _ e]; exact h2, h3⟩, World.putObj_heap_other e⟩
 refine ⟨⟨h.fin, fun k y hk => ?_, fun b box hb => ?_, h.inj⟩, fun hr => hr.mono (fun _ _ h => h) hF (fun _ _ h => shape_put hs h)⟩
 · by_cases e : k = D
   · subst e
     rw [Off.set_eq] at hk
     rw [hx y hk]
     exact World.putObj_heap_same hlt
   · rw [Off.set_ne _ _ e] at hk
     exact (World.putObj_heap_other e).trans (h.mlt k y hk)
 · rcases h.live b box hb with h1 | ⟨k, h1, h2, h3, h4⟩
   · exact .inl h1
   · have e : k ≠ D := by rintro rfl; rw [h3] at hD; cases hD
     exact .inr ⟨k, h1, by simpa using h2, by rw [Off.set_ne _ _ e]; exact h3, boxAt_mono h4 (World.putObj_heap_other e) (fun _ _ h => h) hF (fun _ _ h => shape_put hs h)⟩
theorem Tr.putOff {β β' : Beta} {bx bx' : Boxes} {w w' : World} {D : Nat} {o' : Obj} (h : Tr β bx w β' bx' w') (hD : w.heap.size ≤ D) (hs : w'.shape? D = none) : Tr β bx w β' bx' (w'.putObj D o') :=
 ⟨h.os, h.tape, h.output, h.drawn, h.nomk, by simpa using h.size, fun k hk hb => (World.putObj_heap_other (by omega)).trans (h.keep k hk hb), fun k x hx => shape_put hs (h.shape k x hx), h.ext, h.news⟩
def CallM (P : Program) (M : Off) (f : FuncId) (args : List V) (bx : Boxes) (Kc : V → Boxes → Prop) : Prop :=
 ∀ (β : Beta) (w : World) (vs : Array Value), WOk β M bx w → GlOk P β w (Fz β M bx w) → vs.size = args.length →
   (∀ (i : Nat) (c : V), args[i]? = some c → Rep β w (Fz β M bx w) c (vs.getD i undef)) →
   Calls P f vs w fun e w' => ∃ v r bx' β', e = .returned v ∧ Kc r bx' ∧ WOk β' M bx' w' ∧ Tr β bx w β' bx' w' ∧ Rep β' w' (Fz β' M bx' w') r v
theorem leave_ms {M : Off} {fn : Func} {tmps : Array Value} {n : Nat} {β β' : Beta} {bx : Boxes} {w : World} {st' : St} {rest : List Deferred} {R : Ending → World → Prop} {cv : List V} {us : Array Value}
   (hfin : ∀ (M' : Off) (w' : World), (∀ (i : Nat) (c : V), cv[i]? = some c → Rep β' w' (Fz β' M' st'.bx w') c (us.getD i undef)) → (∀ k o, M k = some o → M' k = some o) → M'.base = w.heap.size → M'.df = rest → Rs P β' M' st' { tmps := tmps, defers := rest } w' → Tr β bx w β' st'.bx w' → LeavesInM Fence.wide n P fn tmps R rest .returning w') :
   ∀ (ms : List Deferred) (M' : Off) (w' : World), (∀ (i : Nat) (c : V), cv[i]? = some c → Rep β' w' (Fz β' M' st'.bx w') c (us.getD i undef)) → (∀ k o, M k = some o → M' k = some o) → (∀ k o, M k = some o → k < w.heap.size) → M'.base = w.heap.size → M'.df = rest → Marks M'.base M'.obj ms → Rs P β' M' st' { tmps := tmps, defers := ms ++ rest } w' → Tr β bx w β' st'.bx w' →
   LeavesInM Fence.wide n P fn tmps R (ms ++ rest) .returning w'
 | [], M', w', hcv, hm, hlt, hB, hdf, hmk, hr', ht => hfin M' w' hcv hm hB hdf hr' ht
 | d :: ds, M', w', hcv, hm, hlt, hB, hdf, hmk, hr', ht => by
   obtain ⟨D, rfl, hD1, hD2, hD3⟩ := hmk
   have hh := hr'.ok.mlt D _ hD2
   have hs : w'.shape? D = none := by simp [World.shape?, hh]
   have hput := hr'.ok.putOff (x := none) (o' := .deferred none) hD2 (fun y hy => by cases hy) hs
   refine ⟨by simp, .inl ⟨D, _, rfl, run_takeDeferred hh, leave_ms hfin ds (M'.set D none) _ (fun i c hc => hput.2 (hcv i c hc)) (fun k o hk => ?_) hlt hB hdf hD3 ⟨hput.1, fun t => hput.2 (hr'.sl t), hr'.sz, ⟨ds, by rw [show (M'.set D none).df = M'.df from rfl, hdf], hD3⟩, by rw [World.putObj_size]; exact hr'.bs, hr'.gl.imp (fun _ _ hh => hput.2 hh) (fun _ _ h => shape_put hs h)⟩ (ht.putOff (by rw [← hB]; exact hD1) hs)⟩⟩
   have hk1 := hlt k o hk
   rw [Off.set_ne _ _ (by rw [hB] at hD1; omega)]
   exact hm k o hk
theorem leave_marks {M : Off} {fn : Func} {tmps : Array Value} {n : Nat} {β β' : Beta} {bx : Boxes} {w : World} {st' : St} {Kc : V → Boxes → Prop} (hret : Ret P fn.results.toList Kc st')
   (ds : List Deferred) (M' : Off) (w' : World) (hm : ∀ k o, M k = some o → M' k = some o) (hlt : ∀ k o, M k = some o → k < w.heap.size) (hB : M'.base = w.heap.size) (hdf : M'.df = []) (hr' : Rs P β' M' st' { tmps := tmps, defers := ds } w') (ht : Tr β bx w β' st'.bx w') :
   LeavesInM Fence.wide n P fn tmps (fun e w' => ∃ v r bx' β', e = .returned v ∧ Kc r bx' ∧ WOk β' M bx' w' ∧ Tr β bx w β' bx' w' ∧ Rep β' w' (Fz β' M bx' w') r v) ds .returning w' := by
 obtain ⟨ms, hms, hmk⟩ := hr'.df
 rw [hdf, List.append_nil] at hms
 dsimp only at hms
 subst hms
 have h := leave_ms (M := M) (rest := []) (n := n) (fn := fn) (R := fun e w' => ∃ v r bx' β', e = .returned v ∧ Kc r bx' ∧ WOk β' M bx' w' ∧ Tr β bx w β' bx' w' ∧ Rep β' w' (Fz β' M bx' w') r v) (cv := []) (us := #[]) (fun M' w' _ hm hB hdf hr' ht => by
   obtain ⟨hres, bx', r, hsub, hrv, hk⟩ := hret
   obtain ⟨v, h1, h2⟩ := results_sound (P := P) hr' fn hres
   refine ⟨v, h1, v, r, bx', β', rfl, hk, (hr'.ok.shrink hm).sub hsub, ht.trans hsub.tr, ?_⟩
   rcases hrv with rfl | ⟨d, rfl⟩
   · exact hsub.rep (rep_shrink hm h2)
   · exact frz_rep (hr'.ok.shrink hm) hsub d _ _ (rep_shrink hm h2)) ds M' w' (fun i c hc => by simp at hc) hm hlt hB hdf hmk (by rw [List.append_nil]; exact hr') ht
 rw [List.append_nil] at h
 exact h
theorem callM_of_says {M : Off} {f : FuncId} {fn : Func} {c : Code} (hf : P.funcs[f]? = some fn) (hb : fn.body = some c)
   {args : List V} {bx : Boxes} {Kc : V → Boxes → Prop} (h : ∀ B, Says P ⟨M.obj, B, []⟩ none c (fun e st => (e = .normal ∨ e = .ret) ∧ Ret P fn.results.toList Kc st) (initSt fn.ntmps args bx)) : CallM P M f args bx Kc := by
 intro β w vs hok hgl hsz hargs
 refine (callsIn_wide (n := 0)).1 (callsIn_of_wp_marks hf hb trivial ?_)
 have hok1 : WOk β ⟨M.obj, w.heap.size, []⟩ bx w := ⟨hok.fin, hok.mlt, hok.live, hok.inj⟩
 have hr : Rs P β ⟨M.obj, w.heap.size, []⟩ (initSt fn.ntmps args bx) { tmps := vs ++ Array.replicate (fn.ntmps - vs.size) undef, defers := [] } w := by
   refine ⟨hok1, fun t => ?_, by simp [initSt]; omega, ⟨[], rfl, trivial⟩, Nat.le_refl _, hgl⟩
   simp only [initSt, initSl_at, Nat.zero_le, if_true, Nat.sub_zero]
   by_cases ht : t < args.length
   · have h1 : Rep β w (Fz β ⟨M.obj, w.heap.size, []⟩ bx w) args[t] (vs.getD t undef) := hargs t args[t] (List.getElem?_eq_getElem ht)
     have h2 : (vs ++ Array.replicate (fn.ntmps - vs.size) undef).getD t undef = vs.getD t undef := by
       simp [Array.getElem?_append, show t < vs.size by omega]
     rw [h2]
     simpa [List.getD, List.getElem?_eq_getElem ht] using h1
   · simp only [List.getD, List.getElem?_eq_none (Nat.le_of_not_lt ht), Option.getD_none]
     exact .unk _
 refine wpIn_mono (h _ 0 β _ w hr) ?_
 rintro e a' w' ⟨M', st', β', ⟨he, hret⟩, hx, hr', ht⟩
 have fin := leave_marks (M := M) (n := 0) hret a'.defers M' w' hx.le (fun k o hk => hok.mlt' hk) hx.base hx.df hr' ht
 rcases he with rfl | rfl
 · exact fin
 · exact fin
theorem absCall_of_says {f : FuncId} {fn : Func} {c : Code} (hf : P.funcs[f]? = some fn) (hb : fn.body = some c) (hent : ∀ vs w, (callFunc f vs).run P w = .ok (.enter f vs) w)
   {args : List V} {bx : Boxes} {Kc : V → Boxes → Prop} (h : ∀ M, Says P M none c (fun e st => (e = .normal ∨ e = .ret) ∧ Ret P fn.results.toList Kc st) (initSt fn.ntmps args bx)) : AbsCall P f args bx Kc :=
 ⟨hent, fun β M w vs hok hgl hsz hargs => callM_of_says (M := M) hf hb (fun B => h ⟨M.obj, B, []⟩) β w vs hok hgl hsz hargs⟩
end
end Go.Pl

set_option linter.unusedSimpArgs false
set_option linter.unusedVariables false
namespace Go.Pl
open Go Classical
theorem live_block {β : Beta} {M : Off} {bx : Boxes} {w : World} (h : WOk β M bx w) {b k : Nat} {box : Box} (hb : bx b = some box) (hβ : β b = some (some k)) : k < w.heap.size ∧ M k = none ∧ BoxAt β w (Fz β M bx w) k box := by
 rcases h.live b box hb with ⟨h1, _⟩ | ⟨k', h1, h2, h3, h4⟩
 · rw [hβ] at h1; cases h1
 · rw [hβ] at h1; injection h1 with h1; injection h1 with h1; subst h1
   exact ⟨h2, h3, h4⟩
def ov (bxc bxi : Boxes) : Boxes := fun b => match bxi b with
 | some x => some x
 | none => bxc b
structure Dj (bxc bxi : Boxes) : Prop where
 dj : ∀ b, bxi b ≠ none → bxc b = none
 ne : ∀ b box, bxi b = some box → ¬ box.empty
theorem ov_some {bxc bxi : Boxes} {b : Nat} (h : bxi b ≠ none) : ov bxc bxi b = bxi b := by
 unfold ov
 cases e : bxi b with
 | none => exact absurd e h
 | some x => rfl
theorem ov_none {bxc bxi : Boxes} {b : Nat} (h : bxi b = none) : ov bxc bxi b = bxc b := by
 unfold ov; rw [h]
section
variable {P : Program} {β : Beta} {M : Off} {bxc bxi : Boxes} {w : World}
noncomputable def offOf (M : Off) (β : Beta) (bxi : Boxes) (w : World) : Off :=
 { M with obj := fun k => if ∃ b, bxi b ≠ none ∧ β b = some (some k) then w.heap[k]? else M k }
theorem frame_pre (h : WOk β M (ov bxc bxi) w) (hd : Dj bxc bxi) : WOk β (offOf M β bxi w) bxc w ∧ (∀ k, Fz β M (ov bxc bxi) w k ↔ Fz β (offOf M β bxi w) bxc w k) := by
 have hb : ∀ b box, bxc b = some box → ov bxc bxi b = some box := by
   intro b box hb
   have : bxi b = none := by
     cases e : bxi b with
     | none => rfl
     | some x => rw [hd.dj b (by rw [e]; simp)] at hb; cases hb
   rw [ov_none this]; exact hb
 have hin : ∀ k, (∃ b, bxi b ≠ none ∧ β b = some (some k)) → k < w.heap.size := by
   rintro k ⟨b, h1, h2⟩
   obtain ⟨box, hbox⟩ := Option.ne_none_iff_exists'.1 h1
   exact (live_block h (by rw [ov_some h1]; exact hbox) h2).1
 have hF : ∀ k, Fz β M (ov bxc bxi) w k ↔ Fz β (offOf M β bxi w) bxc w k := by
   intro k
   constructor
   · rintro ⟨h1, h2, h3⟩
     refine ⟨h1, ?_, fun b hb' he => h3 b ?_ he⟩
     · show (if ∃ b, bxi b ≠ none ∧ β b = some (some k) then w.heap[k]? else M k) = none
       rw [if_neg]
       · exact h2
       · rintro ⟨b, h4, h5⟩
         exact h3 b (by rw [ov_some h4]; exact h4) h5
     · obtain ⟨box, hbox⟩ := Option.ne_none_iff_exists'.1 hb'
       rw [hb b box hbox]; simp
   · rintro ⟨h1, h2, h3⟩
     have h2' : (if ∃ b, bxi b ≠ none ∧ β b = some (some k) then w.heap[k]? else M k) = none := h2
     split at h2'
     · simp [h1] at h2'
     · rename_i hno
       refine ⟨h1, h2', fun b hb' he => ?_⟩
       cases e : bxi b with
       | none => rw [ov_none e] at hb'; exact h3 b hb' he
       | some x => exact hno ⟨b, by rw [e]; simp, he⟩
 refine ⟨⟨h.fin, fun k o hk => ?_, fun b box hbox => ?_, fun b b' k h1 h2 h3 h4 => ?_⟩, hF⟩
 · have hk' : (if ∃ b, bxi b ≠ none ∧ β b = some (some k) then w.heap[k]? else M k) = some o := hk
   split at hk'
   · exact hk'
   · exact h.mlt k o hk'
 · rcases h.live b box (hb b box hbox) with h1 | ⟨k, h1, h2, h3, h4⟩
   · exact .inl h1
   · refine .inr ⟨k, h1, h2, ?_, boxAt_mono h4 rfl (fun _ _ h => h) (fun k hk => ⟨(hF k).1 hk, rfl⟩) (fun _ _ h => h)⟩
     show (if ∃ b, bxi b ≠ none ∧ β b = some (some k) then w.heap[k]? else M k) = none
     rw [if_neg]
     · exact h3
     · rintro ⟨b2, h5, h6⟩
       have : b = b2 := h.inj b b2 k (by rw [hb b box hbox]; simp) (by rw [ov_some h5]; exact h5) h1 h6
       subst this
       rw [hd.dj b h5] at hbox; cases hbox
 · obtain ⟨x1, hx1⟩ := Option.ne_none_iff_exists'.1 h1
   obtain ⟨x2, hx2⟩ := Option.ne_none_iff_exists'.1 h2
   exact h.inj b b' k (by rw [hb b x1 hx1]; simp) (by rw [hb b' x2 hx2]; simp) h3 h4
theorem frame_post (h : WOk β M (ov bxc bxi) w) (hd : Dj bxc bxi) {β' : Beta} {bxc' : Boxes} {w' : World} (h' : WOk β' (offOf M β bxi w) bxc' w') (ht : Tr β bxc w β' bxc' w') :
   Dj bxc' bxi ∧ WOk β' M (ov bxc' bxi) w' ∧ Tr β (ov bxc bxi) w β' (ov bxc' bxi) w' ∧ ∀ k, Fz β' (offOf M β bxi w) bxc' w' k → Fz β' M (ov bxc' bxi) w' k := by
 obtain ⟨hw, hF⟩ := frame_pre h hd
 have hi : ∀ b, bxi b ≠ none → ∃ k box, bxi b = some box ∧ β b = some (some k) ∧ k < w.heap.size ∧ M k = none ∧ BoxAt β w (Fz β M (ov bxc bxi) w) k box ∧ (offOf M β bxi w) k = w.heap[k]? ∧ w'.heap[k]? = w.heap[k]? := by
   intro b hb
   obtain ⟨box, hbox⟩ := Option.ne_none_iff_exists'.1 hb
   rcases h.live b box (by rw [ov_some hb]; exact hbox) with ⟨_, h1⟩ | ⟨k, h1, h2, h3, h4⟩
   · exact absurd h1 (hd.ne b box hbox)
   · have he : (offOf M β bxi w) k = w.heap[k]? := by
       show (if ∃ b, bxi b ≠ none ∧ β b = some (some k) then w.heap[k]? else M k) = _
       rw [if_pos ⟨b, hb, h1⟩]
     have hs : w.heap[k]? = some (w.heap[k]) := Array.getElem?_eq_getElem h2
     exact ⟨k, box, hbox, h1, h2, h3, h4, he, (h'.mlt k _ (he.trans hs)).trans hs.symm⟩
 have hnot : ∀ k, (offOf M β bxi w) k = none → k < w.heap.size → (¬ ∃ b, bxi b ≠ none ∧ β b = some (some k)) ∧ M k = none := by
   intro k hk hlt
   have hk' : (if ∃ b, bxi b ≠ none ∧ β b = some (some k) then w.heap[k]? else M k) = none := hk
   split at hk'
   · simp [hlt] at hk'
   · rename_i hno; exact ⟨hno, hk'⟩
 have hnot2 : ∀ k, (offOf M β bxi w) k = none → (¬ ∃ b, bxi b ≠ none ∧ β b = some (some k)) ∧ M k = none := by
   intro k hk
   rcases Nat.lt_or_ge k w.heap.size with hlt | hge
   · exact hnot k hk hlt
   · refine ⟨fun ⟨b, h1, h2⟩ => ?_, h.mnone hge⟩
     obtain ⟨k2, box, _, h3, h4, _⟩ := hi b h1
     rw [h3] at h2; injection h2 with h2; injection h2 with h2; omega
 have hdj : Dj bxc' bxi := by
   refine ⟨fun b hb => ?_, hd.ne⟩
   obtain ⟨k, box, hbox, h1, h2, h3, h4, h5, h6⟩ := hi b hb
   cases e : bxc' b with
   | none => rfl
   | some x =>
     have := (live_block h' e (ht.ext _ _ h1)).2.1
     exact absurd ⟨b, hb, h1⟩ (hnot k this h2).1
 have hF' : ∀ k, Fz β' (offOf M β bxi w) bxc' w' k → Fz β' M (ov bxc' bxi) w' k := by
   rintro k ⟨h1, h2, h3⟩
   refine ⟨h1, (hnot2 k h2).2, fun b hb he => ?_⟩
   by_cases e : bxi b = none
   · rw [ov_none e] at hb; exact h3 b hb he
   · obtain ⟨k2, _, _, h5, _⟩ := hi b e
     have := ht.ext _ _ h5
     rw [he] at this; injection this with this; injection this with this; subst this
     exact (hnot2 k h2).1 ⟨b, e, h5⟩
 have hlive' : ∀ b box, ov bxc' bxi b = some box → (bxi b ≠ none) ∨ (bxi b = none ∧ bxc' b = some box) := by
   intro b box hb
   by_cases e : bxi b = none
   · rw [ov_none e] at hb; exact .inr ⟨e, hb⟩
   · exact .inl e
 refine ⟨hdj, ⟨h'.fin, fun k o hk => ?_, fun b box hb => ?_, fun b b' k h1 h2 h3 h4 => ?_⟩, ?_, hF'⟩
 · refine h'.mlt k o ?_
   show (if ∃ b, bxi b ≠ none ∧ β b = some (some k) then w.heap[k]? else M k) = some o
   rw [if_neg]
   · exact hk
   · rintro ⟨b, h1, h2⟩
     obtain ⟨k2, box, _, h3, h4, h5, _⟩ := hi b h1
     rw [h3] at h2; injection h2 with h2; injection h2 with h2; subst h2
     rw [h5] at hk; cases hk
 · rcases hlive' b box hb with e | ⟨e, e2⟩
   · obtain ⟨k, box2, h0, h1, h2, h3, h4, h5, h6⟩ := hi b e
     rw [ov_some e, h0] at hb
     injection hb with hb
     subst hb
     refine .inr ⟨k, ht.ext _ _ h1, Nat.lt_of_lt_of_le h2 ht.size, h3, boxAt_mono h4 h6 ht.ext (fun k hk => ?_) ht.shape⟩
     obtain ⟨h7, h8⟩ := ht.fz ((hF k).1 hk)
     exact ⟨hF' k h7, h8⟩
   · rcases h'.live b box e2 with h1 | ⟨k, h1, h2, h3, h4⟩
     · exact .inl h1
     · exact .inr ⟨k, h1, h2, (hnot2 k h3).2, boxAt_mono h4 rfl (fun _ _ h => h) (fun k hk => ⟨hF' k hk, rfl⟩) (fun _ _ h => h)⟩
 · have side : ∀ b, ov bxc' bxi b ≠ none → β' b = some (some k) → bxi b = none → (offOf M β bxi w) k = none := by
     intro b hb he e
     rw [ov_none e] at hb
     obtain ⟨x, hx⟩ := Option.ne_none_iff_exists'.1 hb
     exact (live_block h' hx he).2.1
   have side2 : ∀ b, bxi b ≠ none → β' b = some (some k) → β b = some (some k) := by
     intro b hb he
     obtain ⟨k2, _, _, h5, _⟩ := hi b hb
     rw [ht.ext _ _ h5] at he; rw [h5]; exact he
   by_cases e1 : bxi b = none <;> by_cases e2 : bxi b' = none
   · rw [ov_none e1] at h1; rw [ov_none e2] at h2
     exact h'.inj b b' k h1 h2 h3 h4
   · exact absurd ⟨b', e2, side2 b' e2 h4⟩ (hnot2 k (side b h1 h3 e1)).1
   · exact absurd ⟨b, e1, side2 b e1 h3⟩ (hnot2 k (side b' h2 h4 e2)).1
   · exact h.inj b b' k (by rw [ov_some e1]; exact e1) (by rw [ov_some e2]; exact e2) (side2 b e1 h3) (side2 b' e2 h4)
 · have hm1 : Mk bxc → Mk (ov bxc bxi) := fun ⟨b, ty, hb⟩ => ⟨b, ty, by
     by_cases e : bxi b = none
     · rw [ov_none e]; exact hb
     · exact absurd hb (by rw [hd.dj b e]; simp)⟩
   refine ⟨ht.os, ht.tape, ht.output, fun hn => ht.drawn (fun hm => hn (hm1 hm)), fun ⟨b, ty, hb⟩ => ?_, ht.size, fun k hk hb => ht.keep k hk (fun b hb' => hb b ?_), ht.shape, ht.ext, fun b k hb he => ?_⟩
   · by_cases e : bxi b = none
     · rw [ov_none e] at hb
       exact hm1 (ht.nomk ⟨b, ty, hb⟩)
     · rw [ov_some e] at hb
       exact ⟨b, ty, by rw [ov_some e]; exact hb⟩
   · by_cases e : bxi b = none
     · rw [ov_none e]; exact hb'
     · rw [ov_some e]; exact e
   · by_cases e : bxi b = none
     · rw [ov_none e] at hb
       rcases ht.news b k hb he with ⟨b2, h5, h6⟩ | h5
       · refine .inl ⟨b2, ?_, h6⟩
         by_cases e2 : bxi b2 = none
         · rw [ov_none e2]; exact h5
         · rw [ov_some e2]; exact e2
       · exact .inr h5
     · obtain ⟨k2, _, _, h5, _⟩ := hi b e
       refine .inl ⟨b, by rw [ov_some e]; exact e, ?_⟩
       rw [ht.ext _ _ h5] at he; rw [h5]; exact he
theorem AbsCall.frame {f : FuncId} {args : List V} {Kc : V → Boxes → Prop} (h : AbsCall P f args bxc Kc) (hd : Dj bxc bxi) : AbsCall P f args (ov bxc bxi) fun r bx' => ∃ bxc', Kc r bxc' ∧ Dj bxc' bxi ∧ bx' = ov bxc' bxi := by
 refine ⟨h.1, fun β M w vs hok hgl hvs hreps => ?_⟩
 obtain ⟨hw, hF⟩ := frame_pre hok hd
 refine (h.2 β _ w vs hw (hgl.imp fun _ _ hh => hh.mono (fun _ _ h => h) (fun k hk => ⟨(hF k).1 hk, rfl⟩) (fun _ _ h => h)) hvs (fun i c hc => (hreps i c hc).mono (fun _ _ h => h) (fun k hk => ⟨(hF k).1 hk, rfl⟩) (fun _ _ h => h))).mono ?_
 rintro e w' ⟨v, r, bx', β', rfl, hk, hok', htr, hrep⟩
 obtain ⟨a1, a2, a3, a4⟩ := frame_post hok hd hok' htr
 exact ⟨v, r, _, β', rfl, ⟨bx', hk, a1, rfl⟩, a2, a3, hrep.mono (fun _ _ h => h) (fun k hk => ⟨a4 k hk, rfl⟩) (fun _ _ h => h)⟩
end
end Go.Pl

set_option linter.unusedSimpArgs false
set_option linter.unusedVariables false
namespace Go.Pl
open Go
section
variable {β : Beta} {M : Off} {bx : Boxes} {w : World}
theorem Tr.fzx {β' : Beta} {M' : Off} {bx' : Boxes} {w' : World} (h : Tr β bx w β' bx' w') (hx : MExt M M' w) {k : Nat} (hk : Fz β M bx w k) : Fz β' M' bx' w' k ∧ w'.heap[k]? = w.heap[k]? := by
 obtain ⟨h1, h2⟩ := h.fz (M := M) hk
 refine ⟨⟨h1.1, ?_, h1.2.2⟩, h2⟩
 cases hm : M' k with
 | none => rfl
 | some o =>
   have := hx.new k hk.2.1 (by rw [hm]; simp)
   have := hk.1
   omega
theorem Tr.repx {β' : Beta} {M' : Off} {bx' : Boxes} {w' : World} (h : Tr β bx w β' bx' w') (hx : MExt M M' w) {v : V} {u : Value} (hr : Rep β w (Fz β M bx w) v u) : Rep β' w' (Fz β' M' bx' w') v u :=
 hr.mono h.ext (fun _ hk => h.fzx hx hk) h.shape
theorem alloc_any (h : WOk β M bx w) {b : Nat} (hβ : β b = none) (hb : bx b = none) (o : Obj) (box : Box) (hnm : ∀ ty, some box ≠ some (.row ty 0 []))
   (hbox : ∀ F', (∀ k, Fz β M bx w k → F' k ∧ (w.alloc o).heap[k]? = w.heap[k]?) → BoxAt (upd β b (some (some w.heap.size))) (w.alloc o) F' w.heap.size box) :
   WOk (upd β b (some (some w.heap.size))) M (upd bx b (some box)) (w.alloc o) ∧
   Tr β bx w (upd β b (some (some w.heap.size))) (upd bx b (some box)) (w.alloc o) := by
 have hext : ∀ b' x, β b' = some x → upd β b (some (some w.heap.size)) b' = some x := by
   intro b' x hx
   rw [upd_ne _ _ (by rintro rfl; rw [hβ] at hx; cases hx)]; exact hx
 have hk : ∀ k, k < w.heap.size → (w.alloc o).heap[k]? = w.heap[k]? := fun k hk => Go.RowKit.Below.heap_alloc w _ k hk
 have hs : ∀ k x, w.shape? k = some x → (w.alloc o).shape? k = some x := fun k x hx => by
   have : k < w.heap.size := by
     rcases Nat.lt_or_ge k w.heap.size with h1 | h1
     · exact h1
     · simp [World.shape?, Array.getElem?_eq_none h1] at hx
   rw [shape_heap (hk k this)]; exact hx
 have hF : ∀ k, Fz β M bx w k → Fz (upd β b (some (some w.heap.size))) M (upd bx b (some box)) (w.alloc o) k ∧ (w.alloc o).heap[k]? = w.heap[k]? := by
   rintro k ⟨h1, h2, h3⟩
   refine ⟨⟨by simp; omega, h2, fun b' hb' he => ?_⟩, hk k h1⟩
   by_cases e : b' = b
   · subst e
     rw [upd_eq] at he
     injection he with he; injection he with he
     omega
   · rw [upd_ne _ _ e] at he hb'
     exact h3 b' hb' he
 constructor
 · refine ⟨?_, fun k o' hM => (Go.RowKit.Below.heap_alloc w _ k (h.mlt' hM)).trans (h.mlt k o' hM), fun b' box' hb' => ?_, fun b1 b2 k h1 h2 h3 h4 => ?_⟩
   · obtain ⟨n, hn⟩ := h.fin
     refine ⟨max n (b + 1), fun b' hb' => ?_⟩
     rw [upd_ne _ _ (by omega)]
     exact hn b' (by omega)
   · by_cases e : b' = b
     · subst e
       rw [upd_eq] at hb'
       injection hb' with hb'
       subst hb'
       exact .inr ⟨w.heap.size, upd_eq _ _ _, by simp, h.mnone (Nat.le_refl _), hbox _ hF⟩
     · rw [upd_ne _ _ e] at hb'
       rcases h.live b' box' hb' with ⟨h1, h2⟩ | ⟨k, h1, h2, h3, h4⟩
       · exact .inl ⟨hext _ _ h1, h2⟩
       · exact .inr ⟨k, hext _ _ h1, by simp; omega, h3, boxAt_mono h4 (hk k h2) hext hF hs⟩
   · have old : ∀ b', b' ≠ b → upd bx b (some box) b' ≠ none → upd β b (some (some w.heap.size)) b' = some (some k) → β b' = some (some k) ∧ bx b' ≠ none ∧ k < w.heap.size := by
       intro b' hne hb' he
       rw [upd_ne _ _ hne] at hb' he
       refine ⟨he, hb', ?_⟩
       obtain ⟨box, hbox⟩ := Option.ne_none_iff_exists'.1 hb'
       exact (live_block h hbox he).1
     by_cases e1 : b1 = b <;> by_cases e2 : b2 = b
     · rw [e1, e2]
     · obtain ⟨_, _, h5⟩ := old b2 e2 h2 h4
       rw [e1, upd_eq] at h3; injection h3 with h3; injection h3 with h3; omega
     · obtain ⟨_, _, h5⟩ := old b1 e1 h1 h3
       rw [e2, upd_eq] at h4; injection h4 with h4; injection h4 with h4; omega
     · obtain ⟨h5, h6, _⟩ := old b1 e1 h1 h3
       obtain ⟨h7, h8, _⟩ := old b2 e2 h2 h4
       exact h.inj b1 b2 k h6 h8 h5 h7
 · refine ⟨rfl, rfl, rfl, fun _ => Nat.le_refl _, fun hm => Mk.of_upd hm hnm, by simp, fun k h1 _ => hk k h1, hs, hext, fun b' k h1 h2 => ?_⟩
   by_cases e : b' = b
   · subst e
     rw [upd_eq] at h2
     injection h2 with h2; injection h2 with h2
     exact .inr (by omega)
   · rw [upd_ne _ _ e] at h1 h2
     exact .inl ⟨b', h1, h2⟩
theorem alloc_off (h : WOk β M bx w) (o : Obj) : WOk β (M.set w.heap.size (some o)) bx (w.alloc o) ∧ Tr β bx w β bx (w.alloc o) ∧ MExt M (M.set w.heap.size (some o)) w := by
 have hk : ∀ k, k < w.heap.size → (w.alloc o).heap[k]? = w.heap[k]? := fun k hk => Go.RowKit.Below.heap_alloc w _ k hk
 have ht : Tr β bx w β bx (w.alloc o) := Tr.grown h rfl rfl rfl (Nat.le_refl _) (by simp) (fun _ _ h => h) hk
 have hx : MExt M (M.set w.heap.size (some o)) w := by
   refine ⟨fun k o' hM => ?_, fun k h1 h2 => ?_, rfl, rfl⟩
   · rw [Off.set_ne _ _ (by have := h.mlt' hM; omega)]; exact hM
   · by_cases e : k = w.heap.size
     · omega
     · rw [Off.set_ne _ _ e] at h2; exact absurd h1 h2
 refine ⟨⟨h.fin, fun k o' hM => ?_, fun b box hb => ?_, h.inj⟩, ht, hx⟩
 · by_cases e : k = w.heap.size
   · subst e; rw [Off.set_eq] at hM; rw [← hM]; exact World.alloc_heap_new w o
   · rw [Off.set_ne _ _ e] at hM
     exact (hk k (h.mlt' hM)).trans (h.mlt k o' hM)
 · rcases h.live b box hb with h1 | ⟨k, h1, h2, h3, h4⟩
   · exact .inl h1
   · exact .inr ⟨k, h1, by simp; omega, by rw [Off.set_ne _ _ (by omega)]; exact h3, boxAt_mono h4 (hk k h2) (fun _ _ h => h) (fun k hk => ht.fzx hx hk) ht.shape⟩
theorem box_put (h : WOk β M bx w) {b k : Nat} {box : Box} (hb : bx b = some box) (hβ : β b = some (some k)) (hs : w.shape? k = none) (o' : Obj) :
   WOk β M (upd bx b none) (w.putObj k o') ∧ Tr β bx w β (upd bx b none) (w.putObj k o') := by
 obtain ⟨hlt, hM, _⟩ := live_block h hb hβ
 have hdom : ∀ b', upd bx b none b' ≠ none → bx b' ≠ none ∧ b' ≠ b := by
   intro b' hb'
   by_cases e : b' = b
   · subst e; simp [upd_eq] at hb'
   · rw [upd_ne _ _ e] at hb'; exact ⟨hb', e⟩
 have ht : Tr β bx w β (upd bx b none) (w.putObj k o') :=
   ⟨rfl, rfl, rfl, fun _ => Nat.le_refl _, fun hm => Mk.of_upd hm (fun _ h => by cases h), by simp, fun k' h1 h2 => World.putObj_heap_other (by rintro rfl; exact h2 b (by rw [hb]; simp) hβ), fun _ _ h => shape_put hs h, fun _ _ h => h, fun b' k' h1 h2 => .inl ⟨b', (hdom b' h1).1, h2⟩⟩
 refine ⟨⟨h.fin, fun k' y hk => (World.putObj_heap_other (by rintro rfl; rw [hM] at hk; cases hk)).trans (h.mlt k' y hk), fun b' box' hb' => ?_, fun b1 b2 k h1 h2 h3 h4 => h.inj b1 b2 k (hdom _ h1).1 (hdom _ h2).1 h3 h4⟩, ht⟩
 have hne := (hdom b' (by rw [hb']; simp)).2
 rw [upd_ne _ _ hne] at hb'
 rcases h.live b' box' hb' with h1 | ⟨k', h1, h2, h3, h4⟩
 · exact .inl h1
 · have e : k' ≠ k := by rintro rfl; exact hne (h.inj b' b k' (by rw [hb']; simp) (by rw [hb]; simp) h1 hβ)
   exact .inr ⟨k', h1, by simpa using h2, h3, boxAt_mono h4 (World.putObj_heap_other e) (fun _ _ h => h) (fun _ hk => ht.fz hk) ht.shape⟩
end
end Go.Pl

set_option linter.unusedSimpArgs false
set_option linter.unusedVariables false
namespace Go.Pl
open Go
section
variable {ops : Array Oper}
def anyT (ops : Array Oper) (T : Nat → (St → Prop) → St → Prop) (K : St → Prop) : Nat → Array Bool → St → Prop
 | 0, listed, st => Region.ready .any ops listed = [] ∧ K st
 | fuel + 1, listed, st => (Region.ready .any ops listed = [] → K st) ∧ ∀ i ∈ Region.ready .any ops listed, T i (anyT ops T K fuel (listed.setIfInBounds i true)) st
def chainT (T : Nat → (St → Prop) → St → Prop) (K : St → Prop) : Nat → Nat → St → Prop
 | _, 0, st => K st
 | k, n + 1, st => T k (chainT T K (k + 1) n) st
structure TOk (T : Nat → (St → Prop) → St → Prop) : Prop where
 mono : ∀ i (K K2 : St → Prop) st, (∀ s, K s → K2 s) → T i K st → T i K2 st
 live : ∀ i (K : St → Prop) st, T i K st → ∃ s, K s
theorem any_firstT {T : Nat → (St → Prop) → St → Prop} (hT : TOk T) {K : St → Prop} {i : Nat} {oi : Oper} (hi : ops[i]? = some oi) : ∀ (fuel : Nat) (listed : Array Bool) (st : St), Closed ops listed →
     (∀ j oj, ops[j]? = some oj → j ≠ i → listed.getD j true = false → ¬ Waits (masks ops) j i → ∀ K st, T i (T j K) st → T j (T i K) st) →
     i ∈ Region.ready .any ops listed → T i (anyT ops T K fuel (listed.setIfInBounds i true)) st → anyT ops T K (fuel + 1) listed st := by
 intro fuel
 induction fuel with
 | zero =>
   intro listed st _ _ hr H
   refine ⟨fun h => (by rw [h] at hr; cases hr), fun j hj => ?_⟩
   by_cases hji : j = i
   · subst hji; exact H
   · obtain ⟨s, hs⟩ := hT.live _ _ _ H
     have := ready_mono hj hji
     rw [hs.1] at this
     cases this
 | succ fuel ih =>
   intro listed st hcl hfree hr H
   refine ⟨fun h => (by rw [h] at hr; cases hr), fun j hj => ?_⟩
   by_cases hji : j = i
   · subst hji; exact H
   · obtain ⟨hjun, oj, hoj, hall⟩ := mem_ready.1 hj
     have hiun := (mem_ready.1 hr).1
     have hnw : ¬ Waits (masks ops) j i := fun hw => by
       have h1 := waits_listed hcl j oj i hoj hall hw
       rcases Nat.lt_or_ge i listed.size with h' | h'
       · simp [h'] at h1 hiun; rw [hiun] at h1; cases h1
       · simp [Array.getElem?_eq_none h'] at h1
     have hap := hfree j oj hoj hji hjun hnw
     have h1 : T i (T j (anyT ops T K fuel ((listed.setIfInBounds i true).setIfInBounds j true))) st :=
       hT.mono _ _ _ _ (fun s hs => hs.2 j (ready_mono hj hji)) H
     have h2 := hap _ _ h1
     refine hT.mono _ _ _ _ (fun s hs => ?_) h2
     refine ih (listed.setIfInBounds j true) s ?_ ?_ (ready_mono hr (Ne.symm hji)) ?_
     · intro k ok hk hkl e he hb
       by_cases hkj : k = j
       · subst hkj
         rw [hoj] at hk
         injection hk with hk
         subst hk
         exact getD_set_true (hall e he hb)
       · rw [getD_set_ne false (Ne.symm hkj)] at hkl
         exact getD_set_true (hcl k ok hk hkl e he hb)
     · intro k ok hk hki hun hnw'
       refine hfree k ok hk hki ?_ hnw'
       by_cases hjk : j = k
       · subst hjk; exact hjun
       · rw [getD_set_ne true hjk] at hun; exact hun
     · rw [Array.setIfInBounds_comm _ _ hji]
       exact hs
structure LexT (ops : Array Oper) (T : Nat → (St → Prop) → St → Prop) : Prop where
 dep : ∀ k ok, ops[k]? = some ok → ∀ e ∈ ok.after, Region.binds .any e = true → e.on < k
 comm : ∀ k ok, ops[k]? = some ok → ∀ j oj, ops[j]? = some oj → k < j → ¬ Waits (masks ops) j k → ∀ K st, T k (T j K) st → T j (T k K) st
theorem anyT_lex {T : Nat → (St → Prop) → St → Prop} (hT : TOk T) (hB : LexT ops T) {K : St → Prop} : ∀ (n k : Nat) (listed : Array Bool) (st : St), listed.size = ops.size → k + n = ops.size → (∀ j, j < ops.size → (listed.getD j false = decide (j < k)) ∧ (listed.getD j true = decide (j < k))) →
   chainT T K k n st → anyT ops T K n listed st
 | 0, k, listed, st, hsz, hk, hlist, h => by
   refine ⟨?_, h⟩
   apply List.eq_nil_iff_forall_not_mem.2
   intro j hj
   obtain ⟨h1, o, ho, _⟩ := mem_ready.1 hj
   have hlt := (Array.getElem?_eq_some_iff.1 ho).1
   rw [(hlist j hlt).2] at h1
   simp at h1 hk
   omega
 | n + 1, k, listed, st, hsz, hk, hlist, h => by
   have hklt : k < ops.size := by omega
   have h0 : ops[k]? = some ops[k] := Array.getElem?_eq_getElem hklt
   refine any_firstT hT h0 n listed st ?_ ?_ ?_ ?_
   · intro j oj hj hjl e he hb
     have hjlt := (Array.getElem?_eq_some_iff.1 hj).1
     rw [(hlist j hjlt).1] at hjl
     have hjk : j < k := by simpa using hjl
     have := hB.dep j oj hj e he hb
     rw [(hlist e.on (by omega)).1]
     simp; omega
   · intro j oj hj hne hun hw
     have hjlt := (Array.getElem?_eq_some_iff.1 hj).1
     rw [(hlist j hjlt).2] at hun
     simp at hun
     exact hB.comm k _ h0 j oj hj (by omega) hw
   · refine mem_ready.2 ⟨by rw [(hlist k hklt).2]; simp, _, h0, fun e he hb => ?_⟩
     have := hB.dep k _ h0 e he hb
     rw [(hlist e.on (by omega)).1]
     simp; omega
   · refine hT.mono _ _ _ _ (fun s hs => anyT_lex hT hB n (k + 1) _ s (by simpa using hsz) (by omega) (fun j hj => ?_) hs) h
     by_cases e : k = j
     · subst e
       have : k < listed.size := by omega
       simp [this]
     · rw [getD_set_ne false e, getD_set_ne true e, (hlist j hj).1, (hlist j hj).2]
       have : (j < k) ↔ (j < k + 1) := by omega
       simp [this]
theorem anyT_sound {P : Program} {T : Nat → (St → Prop) → St → Prop} {ro : Option Nat} {n : Nat} {K : St → Prop} {Q : Exit → Act → World → Prop} {M : Off}
   (hs : ∀ (i : Nat) (o : Oper) (K : St → Prop) (st : St) (a : Act) (w : World) (β : Beta) (K' : Act → World → Prop), ops[i]? = some o → T i K st → Rs P β M st a w → Kont P β M st w K K' → wpOpIn (rf ro) n P ops Q i K' a w) :
   ∀ (fuel : Nat) (listed : Array Bool) (st : St) (a : Act) (w : World) (β : Beta), anyT ops T K fuel listed st → Rs P β M st a w → Kont P β M st w K (Q .normal) →
   wpAnyIn (rf ro) n P .any ops Q fuel listed a w
 | 0, listed, st, a, w, β, h, hr, hK => ⟨h.1, hK st β a w h.2 hr (Tr.refl _ _ _)⟩
 | fuel + 1, listed, st, a, w, β, h, hr, hK => ⟨fun h0 => hK st β a w (h.1 h0) hr (Tr.refl _ _ _), fun i hi => by
     obtain ⟨_, o, ho, _⟩ := mem_ready.1 hi
     exact hs i o _ st a w β _ ho (h.2 i hi) hr (fun st' β' a' w' hk hr' ht => anyT_sound hs fuel _ st' a' w' β' hk hr' (hK.trans ht))⟩
end
end Go.Pl
