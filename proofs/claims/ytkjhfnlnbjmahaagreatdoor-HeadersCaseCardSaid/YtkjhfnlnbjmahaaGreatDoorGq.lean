/- Texts of the proof, put together: JA, JB, JC, FT, JD, FU, JE, FV, JF, JG, JH, JI, JK, JL, JM, FX, JN, JO. -/
import Derived.Test.YtkjhfnlnbjmahaaGreatDoorGk
import Derived.Test.YtkjhfnlnbjmahaaGreatDoorGp
import Derived.Test.YtkjhfnlnbjmahaaGreatDoorGe
import Derived.Test.YtkjhfnlnbjmahaaGreatDoorGo
import Derived.Test.YtkjhfnlnbjmahaaGreatDoorGm

set_option linter.unusedSimpArgs false
set_option linter.unusedVariables false
set_option maxRecDepth 100000
namespace Go.Proofs
open Go Go.Pl Go.RowKit
end Go.Proofs

set_option linter.unusedSimpArgs false
set_option linter.unusedVariables false
set_option maxRecDepth 100000
namespace Go.Proofs
open Go Go.Pl Go.RowKit
end Go.Proofs

set_option linter.unusedSimpArgs false
set_option linter.unusedVariables false
set_option maxRecDepth 100000
namespace Go.Proofs
open Go Go.Pl Go.RowKit
end Go.Proofs

set_option linter.unusedSimpArgs false
set_option linter.unusedVariables false
set_option maxRecDepth 100000
namespace Go.Proofs
open Go Go.Pl Go.RowKit
end Go.Proofs

set_option linter.unusedSimpArgs false
set_option linter.unusedVariables false
set_option maxRecDepth 100000
namespace Go.Proofs
open Go Go.Pl Go.RowKit
def getF (l : List Fd) (nm : List UInt8) : List (List UInt8) × Int := if askE l nm = 0 then (getL l nm, 0) else ([], askE l nm)
theorem getF_wk (l : List Fd) (nm : List UInt8) : Wk (getR l nm) (resS (getF l nm)) := by
 unfold getR getF resS
 by_cases h : askE l nm = 0
 · rw [if_pos h, if_pos h]; exact Wk.refl _
 · rw [if_neg h, if_neg h]; exact wk_tup2 (wk_nils 1) (Wk.refl _)
theorem Tryz.Get_s {bx : Boxes} (hm : Mk bx) (l : List Fd) (hl : Small l) (nm : List UInt8) (hn : nm.length ≤ 100000) : PureCall Tryz.prog 23 [.sl 2 (l.map fdV), .str nm] bx (resS (getF l nm)) :=
 PureCall.wk (AbsCall.mono (Tryz.Get_c hm l hl nm hn) fun r bx' h => ⟨by rw [h.1]; exact getF_wk l nm, h.2⟩)
theorem getF_len (l : List Fd) (hl : l.length ≤ 1000) (nm : List UInt8) : (getF l nm).1.length ≤ 1000 := by
 unfold getF
 split
 · exact Nat.le_trans (getL_len l nm) hl
 · simp
end Go.Proofs

set_option linter.unusedVariables false
set_option linter.unusedSimpArgs false
set_option maxRecDepth 100000
namespace Go.Proofs
open Go Go.Pl
structure OkF (f : Fd) : Prop where
 tok : tokB f.1 = true
 pl : plainB f.2 = true
 tr : trimB f.2 = f.2
 len : f.2.length ≤ 2000
theorem chkF_ok {f : Fd} (h : chkF f = 0) : OkF f := by
 unfold chkF at h
 split at h
 · rename_i h1
   split at h
   · cases h
   · rename_i h2
     simp at h1
     exact ⟨h1.1.1, h1.1.2, h1.2, by omega⟩
 · cases h
theorem OkF.chk {f : Fd} (h : OkF f) : chkF f = 0 := by
 unfold chkF
 rw [if_pos (by simp [h.tok, h.pl, h.tr]), if_neg (by have := h.len; omega)]
theorem chkL_of {l : List Fd} (h1 : l.length ≤ 100) (h2 : ∀ f, f ∈ l → OkF f) : chkL l = if 8192 < sumF l then 3 else 0 := by
 unfold chkL
 rw [if_neg (by omega), List.find?_eq_none.2 fun f hf => by simp [(h2 f hf).chk]]
theorem chkL_ok {l : List Fd} (h : chkL l = 0) : l.length ≤ 100 ∧ (∀ f, f ∈ l → OkF f) ∧ sumF l ≤ 8192 := by
 refine ⟨?_, fun f hf => ?_, chkL_sum h⟩
 · unfold chkL at h
   by_cases h1 : 100 < l.length
   · rw [if_pos h1] at h; cases h
   · omega
 · refine chkF_ok ?_
   unfold chkL at h
   split at h
   · cases h
   · split at h
     · rename_i g hg
       have := List.find?_some hg
       simp at this
       exact absurd h this
     · rename_i hn
       have := List.find?_eq_none.1 hn f hf
       simpa using this
theorem sumF_cons (f : Fd) (l : List Fd) : sumF (f :: l) = sizF f + sumF l := by simp [sumF]; omega
end Go.Proofs

set_option linter.unusedSimpArgs false
set_option linter.unusedVariables false
set_option maxRecDepth 100000
namespace Go.Proofs
open Go Go.Pl Go.RowKit
theorem getL_app (a b : List Fd) (o : List UInt8) : getL (a ++ b) o = getL a o ++ getL b o := by unfold getL; rw [List.filter_append, List.map_append]
theorem getL_no {a : List Fd} {o : List UInt8} (h : ∀ f, f ∈ a → isN f o = false) : getL a o = [] := by
 unfold getL
 rw [List.filter_eq_nil_iff.2 fun f hf => by simp [h f hf]]
 rfl
theorem isN_self (x : Fd) : isN x x.1 = true := by simp [isN]
structure SetOk (l : List Fd) (x : Fd) (a : List Fd) : Prop where
 cl : chkL l = 0
 ca : chkL a = 0
 form : ∃ A B, a = A ++ x :: B ∧ (∀ f, f ∈ A → isN f x.1 = false) ∧ (∀ f, f ∈ B → isN f x.1 = false)
 oth : ∀ o, Lib.toLowerA o ≠ Lib.toLowerA x.1 → getL a o = getL l o
theorem SetOk.tok {l a : List Fd} {x : Fd} (h : SetOk l x a) : tokB x.1 = true := by
 obtain ⟨A, B, rfl, _⟩ := h.form
 exact ((chkL_ok h.ca).2.1 x (by simp)).tok
theorem SetOk.get {l a : List Fd} {x : Fd} (h : SetOk l x a) : getF a x.1 = ([x.2], 0) := by
 have ha : askE a x.1 = 0 := by unfold askE; rw [if_neg (by simp [h.ca]), if_pos h.tok]
 unfold getF
 rw [if_pos ha]
 obtain ⟨A, B, rfl, h1, h2⟩ := h.form
 have : getL (x :: B) x.1 = [x.2] := by
   have := getL_no h2
   unfold getL at this ⊢
   simp [isN_self] at this ⊢
   exact this
 rw [getL_app, getL_no h1, this]
 rfl
end Go.Proofs

set_option linter.unusedSimpArgs false
set_option linter.unusedVariables false
set_option maxRecDepth 100000
namespace Go.Proofs
open Go Go.Pl Go.RowKit
theorem okL_small {l : List Fd} (h : ∀ f, f ∈ l → OkF f) : Small l := fun f hf => by
 have h1 := (h f hf).len
 have h2 := (h f hf).tok
 unfold tokB at h2
 simp at h2
 omega
end Go.Proofs

set_option linter.unusedSimpArgs false
set_option linter.unusedVariables false
set_option maxRecDepth 100000
namespace Go.Proofs
open Go Go.Pl Go.RowKit
theorem chk_small {s : List Fd} (h : chkL s = 0) : Small s := okL_small (chkL_ok h).2.1
end Go.Proofs

set_option linter.unusedSimpArgs false
set_option linter.unusedVariables false
set_option maxRecDepth 100000
namespace Go.Proofs
open Go Go.Pl Go.RowKit
theorem Tryz.sEq_c (l m : List (List UInt8)) (hl : l.length ≤ 1000000) (bx : Boxes) : PureCall Tryz.prog 51 [.sl 1 (l.map .str), .sl 1 (m.map .str)] bx (.bool (decide (l = m))) := by
 refine Tryz.ctr51 fun hf => ?_
 by_cases he : l.length = m.length
 · have he' : (l.length : Int) = m.length := by omega
   simp [go_sem, Tryz.C51, hf, he']
   refine pw_find l.length (fun i => decide (l.getD i [] ≠ m.getD i [])) (fun k => ⟨26, slk [(0, .sl 1 (l.map .str)), (1, .sl 1 (m.map .str)), (12, .int .i64 l.length), (13, .int .i64 k)], bx⟩) (cov_look (by simp [go_sem, he'])) (fun k hk hJ N hN => ?_) (fun hJ N => ?_)
   · have hw := wr_succ (k := k) (by omega)
     have hkm : k < m.length := by omega
     have g1 : l.getD k [] = l[k] := by simp [hk]
     have g2 : m.getD k [] = m[k] := by simp [hkm]
     rw [g1, g2] at hN
     simp [go_sem, Tryz.L51_0, hf, hk, hkm]
     refine ⟨fun c => ret_pure (by simp [go_sem]) ?_, fun c => hN _ (by simp [c]) (cov_look (by simp [go_sem, hw]))⟩
     have hne : l ≠ m := fun e => by subst e; simp at c
     simp [go_sem, hne]
   · have hlm : l = m := by
       apply List.ext_getElem he
       intro i h1 h2
       have := hJ i h1
       simp [h1, h2] at this
       exact this
     subst hlm
     simp [go_sem, Tryz.L51_0, hf]
     exact ret_pure (by simp [go_sem]) ⟨by simp [go_sem], rfl⟩
 · have he' : ¬ (l.length : Int) = m.length := by omega
   have hne : l ≠ m := fun e => he (by rw [e])
   simp [go_sem, Tryz.C51, hf, he']
   exact ret_pure (by simp [go_sem]) ⟨by simp [go_sem, hne], rfl⟩
def sameB (a b : List Fd) : Bool := (a ++ b).all fun f => decide (getL a f.1 = getL b f.1)
def sameF (a b : List Fd) : Bool × Int := if chkL a ≠ 0 then (false, chkL a) else if chkL b ≠ 0 then (false, chkL b) else (sameB a b, 0)
def resB (x : Bool × Int) : V := .tup [.bool x.1, .int .i64 x.2]
set_option maxHeartbeats 2000000 in
theorem Tryz.rSame_c (a b : List Fd) (ha : Small a) (hb : Small b) (bx : Boxes) : PureCall Tryz.prog 18 [.sl 2 (a.map fdV), .sl 2 (b.map fdV)] bx (resB (sameF a b)) := by
 refine Tryz.ctr18 fun hf => ?_
 simp [go_sem, Tryz.C18, hf]
 refine callK_pure (Tryz.rCheck_c a ha bx) ?_
 by_cases h : chkL a = 0
 · simp [go_sem, h]
   refine callK_pure (Tryz.rCheck_c b hb bx) ?_
   by_cases h2 : chkL b = 0
   · have hla := chkL_len h
     have hlb := chkL_len h2
     simp [go_sem, h2, hf]
     intro b1 hb1
     refine Tryz.appH (bx := bx) (es := []) (news := a.map fdV) (acc_new hb1 hf 38 2 [] 0 rfl) (Ext.refl _) (by simp [finB_upd, hf]) (by simp [go_sem, srcEls]) (by simp; omega) (by decide) ?_
     intro v1 bx1 hA
     simp [go_sem, hA.fin, hA.cells, hA.strip, hA.live]
     refine Tryz.appH (es := a.map fdV) (news := b.map fdV) hA (Ext.refl _) hA.fin (by simp [srcEls, fdV]) (by simp; omega) (by decide) ?_
     intro v2 bx2 hB
     simp [go_sem, hB.fin, hB.cells, hB.strip, hB.live]
     have e1 : a.map fdV ++ b.map fdV = (a ++ b).map fdV := by simp
     rw [e1] at hB
     have hab : Small (a ++ b) := fun f hf => by
       rcases List.mem_append.1 hf with hf | hf
       · exact ha f hf
       · exact hb f hf
     have hunf : sameF a b = (sameB a b, 0) := by unfold sameF; rw [if_neg (by simp [h]), if_neg (by simp [h2])]
     rw [hunf]
     unfold sameB
     have hlen : (a ++ b).length ≤ 200 := by simp; omega
     generalize a ++ b = c at *
     refine pw_find c.length (fun i => decide (getL a (c.getD i ([], [])).1 ≠ getL b (c.getD i ([], [])).1)) (fun k => ⟨45, slk [(0, .sl 2 (a.map fdV)), (1, .sl 2 (b.map fdV)), (7, .sl 2 (c.map fdV)), (8, .int .i64 k)], bx⟩) (cov_wk hB.ext (fun p hp => ?_)) (fun k hk hJ N hN => ?_) (fun hJ N => ?_)
     · simp at hp
       rcases hp with rfl | rfl | rfl | rfl
       · exact .inl (by simp [go_sem])
       · exact .inl (by simp [go_sem])
       · exact .inr ⟨1, by simpa [go_sem] using acc_frzB hB (by decide)⟩
       · exact .inl (by simp [go_sem])
     · have hw := wr_succ (k := k) (by omega)
       have g1 : c.getD k ([], []) = c[k] := by simp [hk]
       rw [g1] at hN
       obtain ⟨hs1, hs2⟩ := hab c[k] (List.getElem_mem hk)
       have hga := getL_len a c[k].1
       simp [go_sem, Tryz.L18_0, hf, hk, fdV]
       refine callK_pure (Tryz.rget_c a ha (by omega) _ hs1 bx) ?_
       simp [go_sem, hk, fdV]
       refine callK_pure (Tryz.rget_c b hb (by omega) _ hs1 bx) ?_
       simp [go_sem]
       refine callK_pure (Tryz.Strings_c _ _ (by omega) bx) ?_
       by_cases hE : getL a c[k].1 = getL b c[k].1
       · simp [go_sem, hE]
         exact hN _ (by simp [hE]) (cov_look (by simp [go_sem, hw, fdV]))
       · simp [go_sem, hE]
         refine ret_pure (by simp [go_sem]) ⟨?_, rfl⟩
         have : (c.all fun f => decide (getL a f.1 = getL b f.1)) = false := by
           rw [List.all_eq_false]
           exact ⟨c[k], List.getElem_mem hk, by simp [hE]⟩
         rw [this]
         simp [go_sem, resB]
     · have : (c.all fun f => decide (getL a f.1 = getL b f.1)) = true := by
         rw [List.all_eq_true]
         intro f hf
         obtain ⟨j, hj, rfl⟩ := List.mem_iff_getElem.1 hf
         have := hJ j hj
         simp [hj] at this
         simp [this]
       rw [this]
       simp [go_sem, Tryz.L18_0, hf]
       exact ret_pure (by simp [go_sem]) ⟨by simp [go_sem, resB], rfl⟩
   · simp [go_sem, h2]
     exact ret_pure (by simp [go_sem]) ⟨by simp [go_sem, resB, sameF, h, h2], rfl⟩
 · simp [go_sem, h]
   exact ret_pure (by simp [go_sem]) ⟨by simp [go_sem, resB, sameF, h], rfl⟩
end Go.Proofs

set_option linter.unusedSimpArgs false
set_option linter.unusedVariables false
set_option maxRecDepth 100000
namespace Go.Proofs
open Go Go.Pl Go.RowKit
abbrev Grp := List (List UInt8 × List (List UInt8))
def valsL (l : List Fd) (k : List UInt8) : List (List UInt8) := (l.filter fun f => decide (Lib.toLowerA f.1 = k)).map (·.2)
theorem getL_vals (l : List Fd) (nm : List UInt8) : getL l nm = valsL l (Lib.toLowerA nm) := rfl
theorem valsL_snoc (l : List Fd) (s : List UInt8) {k : Nat} (hk : k < l.length) : valsL (l.take (k + 1)) s = if Lib.toLowerA l[k].1 = s then valsL (l.take k) s ++ [l[k].2] else valsL (l.take k) s := by
 unfold valsL
 rw [List.take_succ_eq_append_getElem hk, List.filter_append, List.map_append]
 by_cases h : Lib.toLowerA l[k].1 = s <;> simp [h]
theorem valsL_len (l : List Fd) (s : List UInt8) : (valsL l s).length ≤ l.length := by
 unfold valsL
 rw [List.length_map]
 exact List.length_filter_le _ _
def keyAt (E : Grp) (s : List UInt8) : Option Nat := E.findIdx? fun x => decide (x.1 = s)
def putE (E : Grp) (s v : List UInt8) : Grp := match keyAt E s with
 | some j => E.set j (s, (E.getD j ([], [])).2 ++ [v])
 | none => E ++ [(s, [v])]
theorem keyAt_some {E : Grp} {s : List UInt8} {j : Nat} (h : keyAt E s = some j) : ∃ hj : j < E.length, E[j].1 = s ∧ ∀ i (hi : i < j), (E[i]'(by omega)).1 ≠ s := by
 unfold keyAt at h
 rw [List.findIdx?_eq_some_iff_getElem] at h
 obtain ⟨h1, h2, h3⟩ := h
 exact ⟨h1, by simpa using h2, fun i hi => by simpa using h3 i hi⟩
theorem keyAt_none {E : Grp} {s : List UInt8} (h : keyAt E s = none) : ∀ x, x ∈ E → x.1 ≠ s := by
 unfold keyAt at h
 rw [List.findIdx?_eq_none_iff] at h
 exact fun x hx => by simpa using h x hx
structure GE (l : List Fd) (E : Grp) : Prop where
 nd : (E.map (·.1)).Nodup
 val : ∀ x, x ∈ E → x.2 = valsL l x.1 ∧ x.2 ≠ []
 all : ∀ f, f ∈ l → Lib.toLowerA f.1 ∈ E.map (·.1)
theorem ge_nil : GE [] [] := ⟨by simp, fun x hx => (by cases hx), fun f hf => (by cases hf)⟩
theorem ge_put {l : List Fd} {E : Grp} {k : Nat} (hk : k < l.length) (h : GE (l.take k) E) : GE (l.take (k + 1)) (putE E (Lib.toLowerA l[k].1) l[k].2) := by
 have hsn := fun s => valsL_snoc l s hk
 unfold putE
 cases hf : keyAt E (Lib.toLowerA l[k].1) with
 | none =>
   have hno := keyAt_none hf
   have hnm : Lib.toLowerA l[k].1 ∉ E.map (·.1) := fun hm => by
     obtain ⟨x, hx, he⟩ := List.mem_map.1 hm
     exact hno x hx he
   have hv0 : valsL (l.take k) (Lib.toLowerA l[k].1) = [] := by
     unfold valsL
     rw [List.filter_eq_nil_iff.2 fun f hf2 => by
       have := h.all f hf2
       simp
       intro e
       exact hnm (e ▸ this)]
     rfl
   refine ⟨?_, fun x hx => ?_, fun f hf2 => ?_⟩
   · rw [List.map_append, List.nodup_append]
     exact ⟨h.nd, by simp, fun a ha b hb => by simp at hb; subst hb; exact fun e => hnm (e ▸ ha)⟩
   · rcases List.mem_append.1 hx with hx | hx
     · rw [hsn, if_neg (fun e => hno x hx e.symm)]
       exact h.val x hx
     · simp at hx
       subst hx
       rw [hsn, if_pos rfl, hv0]
       simp
   · rw [List.take_succ_eq_append_getElem hk] at hf2
     rw [List.map_append]
     rcases List.mem_append.1 hf2 with hf2 | hf2
     · exact List.mem_append_left _ (h.all f hf2)
     · simp at hf2
       subst hf2
       simp
 | some j =>
   obtain ⟨hj, he, hlt⟩ := keyAt_some hf
   have hg : E.getD j ([], []) = E[j] := by simp [hj]
   dsimp only
   rw [hg]
   have hmap : (E.set j (Lib.toLowerA l[k].1, E[j].2 ++ [l[k].2])).map (·.1) = E.map (·.1) := by
     apply List.ext_getElem (by simp)
     intro i h1 h2
     simp [List.getElem_set]
     intro e
     subst e
     exact he.symm
   refine ⟨by rw [hmap]; exact h.nd, fun x hx => ?_, fun f hf2 => ?_⟩
   · obtain ⟨i, hi, rfl⟩ := List.mem_iff_getElem.1 hx
     have hi' : i < E.length := by simpa using hi
     rw [List.getElem_set]
     by_cases hij : j = i
     · subst hij
       rw [if_pos rfl]
       have := h.val E[j] (List.getElem_mem hj)
       rw [he] at this
       rw [hsn, if_pos rfl, ← this.1]
       simp
     · rw [if_neg hij]
       have hne : E[i].1 ≠ Lib.toLowerA l[k].1 := fun e => by
         have h5 : (E.map (·.1))[i]'(by simpa using hi') = (E.map (·.1))[j]'(by simpa using hj) := by simp [e, he]
         exact hij ((List.getElem_inj h.nd).1 h5).symm
       rw [hsn, if_neg (fun e => hne e.symm)]
       exact h.val _ (List.getElem_mem hi')
   · rw [hmap]
     rw [List.take_succ_eq_append_getElem hk] at hf2
     rcases List.mem_append.1 hf2 with hf2 | hf2
     · exact h.all f hf2
     · simp at hf2
       subst hf2
       rw [← he]
       exact List.mem_map.2 ⟨E[j], List.getElem_mem hj, rfl⟩
theorem GE.key {l : List Fd} {E : Grp} (h : GE l E) {x : List UInt8 × List (List UInt8)} (hx : x ∈ E) : ∃ f, f ∈ l ∧ Lib.toLowerA f.1 = x.1 := by
 obtain ⟨h1, h2⟩ := h.val x hx
 rw [h1] at h2
 unfold valsL at h2
 have h3 : (l.filter fun f => decide (Lib.toLowerA f.1 = x.1)) ≠ [] := fun e => h2 (by rw [e]; rfl)
 obtain ⟨f, hf⟩ := List.exists_mem_of_ne_nil _ h3
 have := List.mem_filter.1 hf
 exact ⟨f, this.1, by simpa using this.2⟩
def eqE (X Y : Grp) : Bool := decide (X.length = Y.length) && X.all fun x => decide (∃ y, y ∈ Y ∧ y.1 = x.1 ∧ y.2 = x.2)
theorem vals_mem {l : List Fd} {s : List UInt8} (h : valsL l s ≠ []) : ∃ f, f ∈ l ∧ Lib.toLowerA f.1 = s := by
 unfold valsL at h
 have h3 : (l.filter fun f => decide (Lib.toLowerA f.1 = s)) ≠ [] := fun e => h (by rw [e]; rfl)
 obtain ⟨f, hf⟩ := List.exists_mem_of_ne_nil _ h3
 have := List.mem_filter.1 hf
 exact ⟨f, this.1, by simpa using this.2⟩
theorem GE.at {l : List Fd} {E : Grp} (h : GE l E) {s : List UInt8} (hs : s ∈ E.map (·.1)) : ∃ x, x ∈ E ∧ x.1 = s ∧ x.2 = valsL l s := by
 obtain ⟨x, hx, rfl⟩ := List.mem_map.1 hs
 exact ⟨x, hx, rfl, (h.val x hx).1⟩
theorem same_sub {a b : List Fd} {X Y : Grp} (ha : GE a X) (hb : GE b Y) (h : ∀ f, f ∈ a → valsL a (Lib.toLowerA f.1) = valsL b (Lib.toLowerA f.1)) : ∀ x, x ∈ X → ∃ y, y ∈ Y ∧ y.1 = x.1 ∧ y.2 = x.2 := fun x hx => by
 obtain ⟨f, hf, he⟩ := ha.key hx
 have h1 := h f hf
 rw [he] at h1
 obtain ⟨h2, h3⟩ := ha.val x hx
 rw [h2, h1] at h3
 obtain ⟨g, hg, he2⟩ := vals_mem h3
 obtain ⟨y, hy, hy1, hy2⟩ := hb.at (he2 ▸ hb.all g hg)
 exact ⟨y, hy, hy1, by rw [hy2, h2, h1]⟩
theorem eqE_same {a b : List Fd} {X Y : Grp} (ha : GE a X) (hb : GE b Y) : eqE X Y = sameB a b := by
 have hs : sameB a b = true ↔ ∀ f, f ∈ a ++ b → valsL a (Lib.toLowerA f.1) = valsL b (Lib.toLowerA f.1) := by
   unfold sameB
   rw [List.all_eq_true]
   exact ⟨fun h f hf => of_decide_eq_true (h f hf), fun h f hf => decide_eq_true (h f hf)⟩
 have he : eqE X Y = true ↔ X.length = Y.length ∧ ∀ x, x ∈ X → ∃ y, y ∈ Y ∧ y.1 = x.1 ∧ y.2 = x.2 := by
   unfold eqE
   rw [Bool.and_eq_true, List.all_eq_true]
   exact ⟨fun h => ⟨by simpa using h.1, fun x hx => by simpa using h.2 x hx⟩, fun h => ⟨by simpa using h.1, fun x hx => by simpa using h.2 x hx⟩⟩
 rw [Bool.eq_iff_iff, hs, he]
 constructor
 · rintro ⟨h1, h2⟩
   have hsub : ∀ s, s ∈ X.map (·.1) → s ∈ Y.map (·.1) := fun s hs => by
     obtain ⟨x, hx, rfl⟩ := List.mem_map.1 hs
     obtain ⟨y, hy, hy1, _⟩ := h2 x hx
     exact List.mem_map.2 ⟨y, hy, hy1⟩
   have hsub2 : ∀ s, s ∈ Y.map (·.1) → s ∈ X.map (·.1) := fun s hs => by
     apply Classical.byContradiction
     intro hn
     have h3 : (s :: X.map (·.1)).length ≤ (Y.map (·.1)).length := List.Nodup.length_le_of_subset (List.nodup_cons.2 ⟨hn, ha.nd⟩) fun t ht => by
       rcases List.mem_cons.1 ht with rfl | ht
       · exact hs
       · exact hsub t ht
     simp at h3
     omega
   have hkey : ∀ s, s ∈ X.map (·.1) → valsL a s = valsL b s := fun s hs => by
     obtain ⟨x, hx, hx1, hx2⟩ := ha.at hs
     obtain ⟨y, hy, hy1, hy2⟩ := h2 x hx
     have h3 := (hb.val y hy).1
     rw [← hx2, ← hy2, h3, hy1, hx1]
   intro f hf
   rcases List.mem_append.1 hf with hf | hf
   · exact hkey _ (ha.all f hf)
   · exact hkey _ (hsub2 _ (hb.all f hf))
 · intro h
   have h1 := same_sub ha hb fun f hf => h f (List.mem_append_left _ hf)
   have h2 := same_sub hb ha fun f hf => (h f (List.mem_append_right _ hf)).symm
   refine ⟨?_, h1⟩
   have l1 : (X.map (·.1)).length ≤ (Y.map (·.1)).length := List.Nodup.length_le_of_subset ha.nd fun s hs => by
     obtain ⟨x, hx, rfl⟩ := List.mem_map.1 hs
     obtain ⟨y, hy, hy1, _⟩ := h1 x hx
     exact List.mem_map.2 ⟨y, hy, hy1⟩
   have l2 : (Y.map (·.1)).length ≤ (X.map (·.1)).length := List.Nodup.length_le_of_subset hb.nd fun s hs => by
     obtain ⟨x, hx, rfl⟩ := List.mem_map.1 hs
     obtain ⟨y, hy, hy1, _⟩ := h2 x hx
     exact List.mem_map.2 ⟨y, hy, hy1⟩
   simp at l1 l2
   omega
end Go.Proofs

set_option linter.unusedSimpArgs false
set_option linter.unusedVariables false
set_option maxRecDepth 100000
namespace Go.Proofs
open Go Go.Pl Go.RowKit
def mapE (E : Grp) (vs : List V) : List (V × V) := List.zipWith (fun x v => (V.str x.1, v)) E vs
theorem mapE_len {E : Grp} {vs : List V} (h : vs.length = E.length) : (mapE E vs).length = E.length := by simp [mapE, h]
theorem mapE_at {E : Grp} {vs : List V} (h : vs.length = E.length) {j : Nat} (hj : j < E.length) : (mapE E vs)[j]? = some (.str E[j].1, vs[j]'(by omega)) := by
 rw [List.getElem?_eq_getElem (by rw [mapE_len h]; exact hj)]
 simp [mapE]
theorem find_no {s : List UInt8} : ∀ (E : Grp) (vs : List V) (i : Nat), vs.length = E.length → (∀ x, x ∈ E → x.1 ≠ s) → findV (.str s) (mapE E vs) i = some none
 | [], vs, i, _, _ => by simp [mapE, findV]
 | x :: E, [], i, h, _ => by simp at h
 | x :: E, v :: vs, i, h, hn => by
   have h1 : (s == x.1) = false := by simp; exact fun e => hn x (by simp) e.symm
   show findV (.str s) ((.str x.1, v) :: mapE E vs) i = _
   rw [findV]
   simp only [sameK, h1]
   exact find_no E vs (i + 1) (by simpa using h) fun y hy => hn y (by simp [hy])
theorem find_yes {s : List UInt8} : ∀ (E : Grp) (vs : List V) (i j : Nat) (hl : vs.length = E.length) (hj : j < E.length), E[j].1 = s → (∀ k (hk : k < j), (E[k]'(by omega)).1 ≠ s) → findV (.str s) (mapE E vs) i = some (some (i + j, vs[j]'(by omega)))
 | [], vs, i, j, _, hj, _, _ => by simp at hj
 | x :: E, [], i, j, h, _, _, _ => by simp at h
 | x :: E, v :: vs, i, 0, h, hj, he, hn => by
   show findV (.str s) ((.str x.1, v) :: mapE E vs) i = _
   have h1 : (s == x.1) = true := by simp at he ⊢; exact he.symm
   rw [findV]
   simp only [sameK, h1]
   rfl
 | x :: E, v :: vs, i, j + 1, h, hj, he, hn => by
   have h1 : (s == x.1) = false := by simp; exact fun e => hn 0 (by omega) e.symm
   show findV (.str s) ((.str x.1, v) :: mapE E vs) i = _
   rw [findV]
   simp only [sameK, h1]
   have := find_yes (s := s) E vs (i + 1) j (by simpa using h) (by simpa using hj) (by simpa using he) fun k hk => by simpa using hn (k + 1) (by omega)
   rw [this]
   simp
   omega
structure GM (bx : Boxes) (e : TypeId) (c : Nat) (E : Grp) (vs : List V) (bx' : Boxes) : Prop where
 ext : Ext bx bx'
 fin : FinB bx'
 new : bx c = none
 mp : bx' c = some (.map (mapE E vs))
 len : vs.length = E.length
 own : ∀ j (hj : j < E.length), ∃ b, bx b = none ∧ vs[j]? = some (V.own b 1 0 E[j].2.length) ∧ bx' b = some (.row e 1 (E[j].2.map .str))
 inj : ∀ (i j b n m : Nat), vs[i]? = some (V.own b 1 0 n) → vs[j]? = some (V.own b 1 0 m) → i = j
theorem GM.start {bx : Boxes} {e : TypeId} {c : Nat} (hc : bx c = none) (hf : FinB bx) : GM bx e c [] [] (upd bx c (some (.map []))) :=
 ⟨(Ext.refl _).new hc _, by simp [finB_upd, hf], hc, upd_eq _ _ _, rfl, fun j hj => by simp at hj, fun i j b n m h => by simp at h⟩
theorem putE_none {E : Grp} {s v : List UInt8} (h : keyAt E s = none) : putE E s v = E ++ [(s, [v])] := by unfold putE; rw [h]
theorem putE_some {E : Grp} {s v : List UInt8} {j : Nat} (h : keyAt E s = some j) (hj : j < E.length) : putE E s v = E.set j (s, E[j].2 ++ [v]) := by unfold putE; rw [h]; simp [hj]
theorem mapE_new {E : Grp} {vs : List V} (h : vs.length = E.length) (x : List UInt8 × List (List UInt8)) (v : V) : mapE (E ++ [x]) (vs ++ [v]) = mapE E vs ++ [(.str x.1, v)] := by
 unfold mapE
 rw [List.zipWith_append h.symm]
 rfl
theorem mapE_set {E : Grp} {vs : List V} (h : vs.length = E.length) (j : Nat) (x : List UInt8 × List (List UInt8)) (v : V) : mapE (E.set j x) (vs.set j v) = (mapE E vs).set j (.str x.1, v) := by
 unfold mapE
 apply List.ext_getElem (by simp)
 intro i h1 h2
 simp [List.getElem_set]
 by_cases hij : j = i <;> simp [hij]
theorem GM.put_new {bx : Boxes} {e : TypeId} {c : Nat} {E : Grp} {vs : List V} {bx1 bx3 : Boxes} {s v : List UInt8} {v' : V} (h : GM bx e c E vs bx1) (hk : keyAt E s = none) (ha : Acc bx1 e 1 [.str v] v' bx3) :
   mapPut (.str s) v' (mapE E vs) = some (mapE (putE E s v) (vs ++ [v'])) ∧ bx3 c = some (.map (mapE E vs)) ∧ GM bx e c (putE E s v) (vs ++ [v']) (upd bx3 c (some (.map (mapE (putE E s v) (vs ++ [v']))))) := by
 have hno := keyAt_none hk
 rw [putE_none hk]
 obtain ⟨b, hb0, rfl, hb1⟩ := ha.row (by simp)
 have hc3 : bx3 c = some (.map (mapE E vs)) := by rw [ha.ext c (by rw [h.mp]; simp), h.mp]
 have hbc : b ≠ c := by rintro rfl; rw [h.mp] at hb0; cases hb0
 refine ⟨?_, hc3, ⟨fun d hd => ?_, by simp [finB_upd, ha.fin], h.new, upd_eq _ _ _, by simp [h.len], fun j hj => ?_, fun i j b' n m h1 h2 => ?_⟩⟩
 · unfold mapPut
   rw [find_no E vs 0 h.len hno, mapE_new h.len]
 · have hdc : d ≠ c := by rintro rfl; exact hd h.new
   have h1 := h.ext d hd
   rw [upd_ne _ _ hdc, ha.ext d (by rw [h1]; exact hd), h1]
 · by_cases hj2 : j < E.length
   · obtain ⟨b', g1, g2, g3⟩ := h.own j hj2
     have hb'c : b' ≠ c := by rintro rfl; rw [h.mp] at g3; cases g3
     refine ⟨b', g1, ?_, ?_⟩
     · rw [List.getElem?_append_left (by rw [h.len]; exact hj2), List.getElem_append_left hj2, g2]
     · rw [upd_ne _ _ hb'c, ha.ext b' (by rw [g3]; simp), g3, List.getElem_append_left hj2]
   · have hj3 : j = E.length := by simp at hj; omega
     subst hj3
     refine ⟨b, ?_, ?_, ?_⟩
     · cases hx : bx b with
       | none => rfl
       | some y => have := h.ext b (by rw [hx]; simp); rw [hb0, hx] at this; cases this
     · have hl : (vs ++ [V.own b 1 0 [V.str v].length])[E.length]? = some (V.own b 1 0 1) := by
         rw [← h.len, List.getElem?_concat_length]
         rfl
       rw [hl]
       simp
     · rw [upd_ne _ _ hbc, hb1]
       simp
 · have hlen := h.len
   have one : ∀ (i : Nat) (n : Nat), (vs ++ [V.own b 1 0 [V.str v].length])[i]? = some (V.own b' 1 0 n) → (i < E.length ∧ vs[i]? = some (V.own b' 1 0 n) ∧ bx1 b' ≠ none) ∨ (i = E.length ∧ b' = b) := fun i n hi => by
     by_cases hiE : i < E.length
     · rw [List.getElem?_append_left (by omega)] at hi
       obtain ⟨b2, g1, g2, g3⟩ := h.own i hiE
       rw [g2] at hi
       injection hi with hi
       injection hi with e1
       subst e1
       refine .inl ⟨hiE, ?_, by rw [g3]; simp⟩
       rename_i e2
       rw [g2, e2]
     · have hi2 := (List.getElem?_eq_some_iff.1 hi).1
       simp at hi2
       have : i = vs.length := by omega
       subst this
       rw [List.getElem?_concat_length] at hi
       injection hi with hi
       injection hi with e1
       exact .inr ⟨hlen, e1.symm⟩
   rcases one i n h1 with ⟨a1, a2, a3⟩ | ⟨a1, a2⟩ <;> rcases one j m h2 with ⟨c1, c2, c3⟩ | ⟨c1, c2⟩
   · exact h.inj i j b' n m a2 c2
   · subst c2; exact absurd hb0 a3
   · subst a2; exact absurd hb0 c3
   · omega
theorem GM.acc {bx : Boxes} {e : TypeId} {c : Nat} {E : Grp} {vs : List V} {bx1 : Boxes} (h : GM bx e c E vs bx1) {j : Nat} (hj : j < E.length) : ∃ b, bx b = none ∧ vs[j]? = some (V.own b 1 0 E[j].2.length) ∧ bx1 b = some (.row e 1 (E[j].2.map .str)) ∧ Acc (upd bx1 b none) e 1 (E[j].2.map .str) (.own b 1 0 E[j].2.length) bx1 := by
 obtain ⟨b, g1, g2, g3⟩ := h.own j hj
 refine ⟨b, g1, g2, g3, ⟨fun d hd => ?_, h.fin, .inr ⟨b, upd_eq _ _ _, by simp, g3⟩⟩⟩
 by_cases hdb : d = b
 · subst hdb; rw [upd_eq] at hd; exact absurd rfl hd
 · rw [upd_ne _ _ hdb]
theorem GM.put_old {bx : Boxes} {e : TypeId} {c : Nat} {E : Grp} {vs : List V} {bx1 bx3 : Boxes} {s v : List UInt8} {v' : V} (h : GM bx e c E vs bx1) {j : Nat} (hk : keyAt E s = some j) (hj : j < E.length) {b0 : Nat} (hb0 : bx b0 = none) (hv0 : vs[j]? = some (V.own b0 1 0 E[j].2.length)) (hb1 : bx1 b0 = some (.row e 1 (E[j].2.map .str))) (ha : Acc (upd bx1 b0 none) e 1 (E[j].2.map .str ++ [.str v]) v' bx3) :
   mapPut (.str s) v' (mapE E vs) = some (mapE (putE E s v) (vs.set j v')) ∧ bx3 c = some (.map (mapE E vs)) ∧ GM bx e c (putE E s v) (vs.set j v') (upd bx3 c (some (.map (mapE (putE E s v) (vs.set j v'))))) := by
 obtain ⟨_, hes, hlt⟩ := keyAt_some hk
 rw [putE_some hk hj]
 obtain ⟨b, hbn, rfl, hb3⟩ := ha.row (by simp)
 have hc0 : c ≠ b0 := by rintro rfl; rw [h.mp] at hb1; cases hb1
 have hc3 : bx3 c = some (.map (mapE E vs)) := by
   have := ha.ext c (by rw [upd_ne _ _ hc0, h.mp]; simp)
   rw [this, upd_ne _ _ hc0, h.mp]
 have hbc : b ≠ c := by
   rintro rfl
   rw [upd_ne _ _ hc0, h.mp] at hbn; cases hbn
 have hlv : j < vs.length := by rw [h.len]; exact hj
 have oth : ∀ i (hi : i < E.length), i ≠ j → ∃ b', bx b' = none ∧ vs[i]? = some (V.own b' 1 0 E[i].2.length) ∧ bx3 b' = some (.row e 1 (E[i].2.map .str)) ∧ b' ≠ b ∧ b' ≠ c := fun i hi hij => by
   obtain ⟨b', g1, g2, g3⟩ := h.own i hi
   have hne : b' ≠ b0 := by
     rintro rfl
     exact hij (h.inj i j _ _ _ g2 hv0)
   have hu : upd bx1 b0 none b' = some (.row e 1 (E[i].2.map .str)) := by rw [upd_ne _ _ hne, g3]
   refine ⟨b', g1, g2, by rw [ha.ext b' (by rw [hu]; simp), hu], ?_, ?_⟩
   · rintro rfl; rw [hu] at hbn; cases hbn
   · rintro rfl; rw [h.mp] at g3; cases g3
 have hbx : bx b = none := by
   cases hx : bx b with
   | none => rfl
   | some y =>
     have h1 := h.ext b (by rw [hx]; simp)
     have h2 : b ≠ b0 := by rintro rfl; rw [hb0] at hx; cases hx
     rw [upd_ne _ _ h2, h1, hx] at hbn; cases hbn
 refine ⟨?_, hc3, ⟨fun d hd => ?_, by simp [finB_upd, ha.fin], h.new, upd_eq _ _ _, by simp [h.len], fun i hi => ?_, fun i k b' n m h1 h2 => ?_⟩⟩
 · unfold mapPut
   have := find_yes E vs 0 j h.len hj hes hlt
   rw [this, mapE_set h.len, Nat.zero_add]
 · have hdc : d ≠ c := by rintro rfl; exact hd h.new
   have h1 := h.ext d hd
   have hd0 : d ≠ b0 := by rintro rfl; exact hd hb0
   rw [upd_ne _ _ hdc, ha.ext d (by rw [upd_ne _ _ hd0, h1]; exact hd), upd_ne _ _ hd0, h1]
 · have hi2 : i < E.length := by simpa using hi
   by_cases hij : i = j
   · subst hij
     refine ⟨b, hbx, ?_, ?_⟩
     · rw [List.getElem?_set_self hlv]
       simp
     · rw [upd_ne _ _ hbc, hb3]
       simp
   · obtain ⟨b', g1, g2, g3, g4, g5⟩ := oth i hi2 hij
     refine ⟨b', g1, ?_, ?_⟩
     · rw [List.getElem?_set_ne (Ne.symm hij), g2, List.getElem_set_ne (Ne.symm hij)]
     · rw [upd_ne _ _ g5, g3, List.getElem_set_ne (Ne.symm hij)]
 · have one : ∀ (i n : Nat), (vs.set j (V.own b 1 0 (E[j].2.map V.str ++ [V.str v]).length))[i]? = some (V.own b' 1 0 n) → (i ≠ j ∧ vs[i]? = some (V.own b' 1 0 n) ∧ b' ≠ b) ∨ (i = j ∧ b' = b) := fun i n hi => by
     by_cases hij : i = j
     · subst hij
       rw [List.getElem?_set_self hlv] at hi
       injection hi with hi
       injection hi with e1
       exact .inr ⟨rfl, e1.symm⟩
     · rw [List.getElem?_set_ne (Ne.symm hij)] at hi
       have hiE : i < E.length := by rw [← h.len]; exact (List.getElem?_eq_some_iff.1 hi).1
       obtain ⟨b2, g1, g2, g3, g4, g5⟩ := oth i hiE hij
       have g2' := g2
       rw [hi] at g2
       injection g2 with g2
       injection g2 with e1
       exact .inl ⟨hij, hi, by rw [e1]; exact g4⟩
   rcases one i n h1 with ⟨a1, a2, a3⟩ | ⟨a1, a2⟩ <;> rcases one k m h2 with ⟨c1, c2, c3⟩ | ⟨c1, c2⟩
   · exact h.inj i k b' n m a2 c2
   · exact absurd c2 a3
   · exact absurd a2 c3
   · omega
end Go.Proofs

set_option linter.unusedSimpArgs false
set_option linter.unusedVariables false
set_option maxRecDepth 100000
namespace Go.Proofs
open Go Go.Pl Go.RowKit
theorem Tryz.sEq_o {bx : Boxes} {b b2 : Nat} {l m : List (List UInt8)} {e e2 : TypeId} (h1 : bx b = some (.row e 1 (l.map .str))) (h2 : bx b2 = some (.row e2 1 (m.map .str))) (hl : l.length ≤ 1000000) : PureCall Tryz.prog 51 [.own b 1 0 l.length, .own b2 1 0 m.length] bx (.bool (decide (l = m))) :=
 PureCall.frame 1 (Tryz.sEq_c l m hl _) (by rw [List.map_cons, List.map_cons, List.map_nil, frz_own1 h1 rfl (by decide) (by simp), frz_own1 h2 rfl (by decide) (by simp)]) rfl
def goodE (Y : Grp) (x : List UInt8 × List (List UInt8)) : Prop := ∃ y, y ∈ Y ∧ y.1 = x.1 ∧ y.2 = x.2
theorem eqE_iff {X Y : Grp} : eqE X Y = true ↔ X.length = Y.length ∧ ∀ x, x ∈ X → goodE Y x := by
 unfold eqE goodE
 rw [Bool.and_eq_true, List.all_eq_true]
 exact ⟨fun h => ⟨by simpa using h.1, fun x hx => by simpa using h.2 x hx⟩, fun h => ⟨by simpa using h.1, fun x hx => by simpa using h.2 x hx⟩⟩
theorem eqE_no {X Y : Grp} {x : List UInt8 × List (List UInt8)} (hx : x ∈ X) (h : ¬ goodE Y x) : eqE X Y = false := by
 cases he : eqE X Y
 · rfl
 · exact absurd ((eqE_iff.1 he).2 x hx) h
def RowsE (e : TypeId) (X : Grp) (vs : List V) (bx : Boxes) : Prop := ∀ j (hj : j < X.length), ∃ b, vs[j]? = some (V.own b 1 0 X[j].2.length) ∧ bx b = some (.row e 1 (X[j].2.map .str))
set_option maxHeartbeats 2000000 in
theorem Tryz.EqualFunc_c {X Y : Grp} {vs ws : List V} {c1 c2 : Nat} {e : TypeId} {bx : Boxes} (hx : bx c1 = some (.map (mapE X vs))) (hy : bx c2 = some (.map (mapE Y ws))) (hc : c1 ≠ c2) (lx : vs.length = X.length) (ly : ws.length = Y.length) (rx : RowsE e X vs bx) (ry : RowsE e Y ws bx) (ny : (Y.map (·.1)).Nodup) (hX : X.length ≤ 1000) (hY : Y.length ≤ 1000) (hXl : ∀ x, x ∈ X → x.2.length ≤ 1000000) :
   PureCall Tryz.prog 50 [.mp c1, .mp c2, .fn (.func 51) []] bx (.bool (eqE X Y)) := by
 refine Tryz.ctr50 fun hf => ?_
 have lX := mapE_len lx
 have lY := mapE_len ly
 by_cases hlen : X.length = Y.length
 · have hlen' : (X.length : Int) = Y.length := by omega
   simp [go_sem, Tryz.C50, hf, hx, hy, lX, lY, hlen']
   intro bs c b' hl hnd hlt hb'
   have hl' : bs.length = X.length := hl
   have nb1 : b' ≠ c1 := (new_ne hb').1
   have hbb : bx b' = none := (new_ne hb').2
   have nb2 : b' ≠ c2 := by rintro rfl; rw [hbb] at hy; cases hy
   refine pw_loop (ι := List Nat × List Nat) (fun q => Seen X.length bs q.1 q.2 ∧ ∀ i (hi : i < X.length), i ∈ q.1 → goodE Y X[i]) (fun q => ⟨38, slk [(1, .mp c2), (2, .fn (.func 51) []), (17, .ptr b' 1 0 0)], upd (upd bx c1 (some (.mapS (mapE X vs) bs c))) b' (some (.iter c1 c c q.2))⟩) (fun q => X.length - q.1.length) ([], []) ⟨Seen.nil _ _, fun i hi h => by cases h⟩ (cov_look (by simp [go_sem])) ?_
   rintro ⟨is, seen⟩ ⟨hS, hG⟩
   dsimp only at hS hG ⊢
   have hi1 : upd (upd bx c1 (some (Box.mapS (mapE X vs) bs c))) b' (some (Box.iter c1 c c seen)) b' = some (Box.iter c1 c c seen) := upd_eq _ _ _
   have hi2 : upd (upd bx c1 (some (Box.mapS (mapE X vs) bs c))) b' (some (Box.iter c1 c c seen)) c1 = some (Box.mapS (mapE X vs) bs c) := by rw [upd_ne _ _ (Ne.symm nb1), upd_eq]
   have back : ∀ sn, SubBx (upd (upd bx c1 (some (Box.mapS (mapE X vs) bs c))) b' (some (Box.iter c1 c c sn))) bx := fun sn => sub_unS (b := c1) (by rw [upd_ne _ _ (Ne.symm nb1), upd_eq]) hx fun d hd => by
     by_cases ed : d = b'
     · subst ed; exact .inl hbb
     · exact .inr (by rw [upd_ne _ _ ed, upd_ne _ _ hd])
   simp [go_sem, Tryz.L50_0, hi1, hi2]
   refine ⟨hlt, fun hall => ?_, ?_⟩
   · have hp := hS.all hl' hnd hall
     have hT : eqE X Y = true := eqE_iff.2 ⟨hlen, fun x hx => by
       obtain ⟨i, hi, rfl⟩ := List.mem_iff_getElem.1 hx
       exact hG i hi (hp.mem_iff.2 (List.mem_range.2 hi))⟩
     refine ret_sub (by simp [go_sem]) (back seen) ⟨by simp [go_sem, hT], rfl⟩
   · intro i q a v hq hE hns
     obtain ⟨g1, g2, g3⟩ := hS.next hl' hq hns
     rw [mapE_at lx g2] at hE
     injection hE with hE
     injection hE with hE1 hE2
     subst hE1 hE2
     have hE3 := mapE_at lx g2
     rw [upd_ne _ _ (Ne.symm nb1), upd_eq]
     refine ⟨rfl, i, .str X[i].1, vs[i]'(by omega), seen, q, ⟨rfl, rfl⟩, hq, hE3, ?_⟩
     have hi3 : upd (upd bx c1 (some (Box.mapS (mapE X vs) bs c))) b' (some (Box.iter c1 c c (seen ++ [q]))) c2 = some (.map (mapE Y ws)) := by rw [upd_ne _ _ (Ne.symm nb2), upd_ne _ _ (Ne.symm hc), hy]
     have bxo : ∀ d es, bx d = some (Box.row e 1 es) → upd (upd bx c1 (some (Box.mapS (mapE X vs) bs c))) b' (some (Box.iter c1 c c (seen ++ [q]))) d = some (Box.row e 1 es) := fun d es hd => by
       have d1 : d ≠ c1 := by rintro rfl; rw [hd] at hx; cases hx
       have d2 : d ≠ b' := by rintro rfl; rw [hd] at hbb; cases hbb
       rw [upd_ne _ _ d2, upd_ne _ _ d1, hd]
     obtain ⟨b1, r1, r2⟩ := rx i g2
     have hv : vs[i]'(by omega) = V.own b1 1 0 X[i].2.length := (List.getElem?_eq_some_iff.1 r1).2
     rw [hv]
     have hXi := hXl X[i] (List.getElem_mem g2)
     cases hk : keyAt Y X[i].1 with
     | none =>
       have hno := keyAt_none hk
       have hF : eqE X Y = false := eqE_no (List.getElem_mem g2) fun ⟨y, hy1, hy2, _⟩ => hno y hy1 hy2
       have hfd := find_no (s := X[i].1) Y ws 0 ly hno
       simp [go_sem, hi3, hfd]
       refine gK_off (.bool false) (by simp [go_sem]) ?_
       simp [go_sem]
       exact ret_sub (by simp [go_sem]) (back _) ⟨by simp [go_sem, hF], rfl⟩
     | some j =>
       obtain ⟨hj, hej, hjl⟩ := keyAt_some hk
       have hfd := find_yes (s := X[i].1) Y ws 0 j ly hj hej hjl
       obtain ⟨b2, r3, r4⟩ := ry j hj
       have hw : ws[j]'(by omega) = V.own b2 1 0 Y[j].2.length := (List.getElem?_eq_some_iff.1 r3).2
       rw [hw] at hfd
       simp [go_sem, hi3, hfd]
       refine gK_pure (Tryz.sEq_o (bxo _ _ r2) (bxo _ _ r4) hXi) (by simp) (by simp [go_sem]) ?_
       by_cases hq2 : X[i].2 = Y[j].2
       · simp [go_sem, hq2]
         refine ⟨(is ++ [i], seen ++ [q]), ⟨g3, fun i2 hi2 hm => ?_⟩, cov_look (by simp [go_sem]), by have := g3.len; simp at this ⊢; omega⟩
         rcases List.mem_append.1 hm with hm | hm
         · exact hG i2 hi2 hm
         · simp at hm
           subst hm
           exact ⟨Y[j], List.getElem_mem hj, hej, hq2.symm⟩
       · have hF : eqE X Y = false := eqE_no (List.getElem_mem g2) fun ⟨y, hy1, hy2, hy3⟩ => by
           obtain ⟨k, hk2, rfl⟩ := List.mem_iff_getElem.1 hy1
           have h5 : (Y.map (·.1))[k]'(by simpa using hk2) = (Y.map (·.1))[j]'(by simpa using hj) := by simp [hy2, hej]
           have := (List.getElem_inj ny).1 h5
           subst this
           exact hq2 hy3.symm
         simp [go_sem, hq2]
         exact ret_sub (by simp [go_sem]) (back _) ⟨by simp [go_sem, hF], rfl⟩
 · have hlen' : ¬ (X.length : Int) = Y.length := by omega
   have hF : eqE X Y = false := by
     cases he : eqE X Y
     · rfl
     · exact absurd (eqE_iff.1 he).1 hlen
   simp [go_sem, Tryz.C50, hf, hx, hy, lX, lY, hlen', hF]
   exact ret_pure (by simp [go_sem]) ⟨by simp [go_sem], rfl⟩
end Go.Proofs

set_option linter.unusedSimpArgs false
set_option linter.unusedVariables false
set_option maxRecDepth 100000
namespace Go.Proofs
open Go Go.Pl Go.RowKit
theorem putE_len (E : Grp) (s v : List UInt8) : (putE E s v).length ≤ E.length + 1 := by unfold putE; split <;> simp
set_option maxHeartbeats 4000000 in
theorem Tryz.Same_c {bx : Boxes} (hm : Mk bx) (a b : List Fd) (ha : Small a) (hb : Small b) : PureCall Tryz.prog 17 [.sl 2 (a.map fdV), .sl 2 (b.map fdV)] bx (resB (sameF a b)) := by
 refine Tryz.ctry17 fun hf => ?_
 have cA := Tryz.Check_c hm a ha
 have cB := Tryz.Check_c hm b hb
 have w1 : IntKind.i64.wrap 1 = 1 := wr64 (by omega)
 have w2 : IntKind.i64.wrap 2 = 2 := wr64 (by omega)
 simp [go_sem, Tryz.Cy17, hf]
 refine pw_find 2 (fun i => decide (chkL (if i = 0 then a else b) ≠ 0)) (fun k => ⟨74, slk [(0, .sl 2 (a.map fdV)), (1, .sl 2 (b.map fdV)), (17, .sl 1 [.sl 2 (a.map fdV), .sl 2 (b.map fdV)]), (18, .int .i64 2), (19, .int .i64 k)], bx⟩) (cov_look (by simp [go_sem])) (fun k hk hJ N hN => ?_) (fun hJ N => ?_)
 · have hk2 : k = 0 ∨ k = 1 := by omega
   rcases hk2 with rfl | rfl
   · simp [go_sem, Tryz.Ly17_0, hf]
     refine callK_pure cA ?_
     by_cases h : chkL a = 0
     · simp [go_sem, h]
       exact hN _ (by simp [h]) (cov_look (by simp [go_sem, w1, w2]))
     · simp [go_sem, h]
       exact ret_pure (by simp [go_sem]) ⟨by simp [go_sem, resB, sameF, h], rfl⟩
   · have h0 : chkL a = 0 := by have := hJ 0 (by omega); simpa using this
     simp [go_sem, Tryz.Ly17_0, hf]
     refine callK_pure cB ?_
     by_cases h : chkL b = 0
     · simp [go_sem, h]
       exact hN _ (by simp [h]) (cov_look (by simp [go_sem, w1, w2]))
     · simp [go_sem, h]
       exact ret_pure (by simp [go_sem]) ⟨by simp [go_sem, resB, sameF, h0, h], rfl⟩
 · have hca : chkL a = 0 := by have := hJ 0 (by omega); simpa using this
   have hcb : chkL b = 0 := by have := hJ 1 (by omega); simpa using this
   have hla := chkL_len hca
   have hlb := chkL_len hcb
   simp [go_sem, Tryz.Ly17_0, hf]
   intro c1 hc1 c2 hc2
   obtain ⟨n21, hc2'⟩ := new_ne hc2
   have hcomm : upd (upd bx c1 (some (Box.map []))) c2 (some (Box.map [])) = upd (upd bx c2 (some (Box.map []))) c1 (some (Box.map [])) := upd_comm n21.symm _ _ _
   have hstart : GM (upd bx c2 (some (.map []))) 9 c1 [] [] (upd (upd bx c1 (some (Box.map []))) c2 (some (Box.map []))) := by
     rw [hcomm]
     exact GM.start (by rw [upd_ne _ _ n21.symm, hc1]) (by simp [finB_upd, hf])
   refine pw_for (ι := Boxes × List V × Grp) a.length (fun k i => GM (upd bx c2 (some (.map []))) 9 c1 i.2.2 i.2.1 i.1 ∧ GE (a.take k) i.2.2 ∧ i.2.2.length ≤ k) (fun k i => ⟨74, slk [(1, .sl 2 (b.map fdV)), (9, .mp c1), (10, .mp c2), (31, .sl 2 (a.map fdV)), (32, .int .i64 a.length), (33, .int .i64 k)], i.1⟩) (_, [], []) ⟨hstart, by simpa using ge_nil, by simp⟩ (cov_look (by simp [go_sem])) (fun k i hk hJ N hN => ?_) (fun i hJ N => ?_)
   · obtain ⟨bx1, vs, E⟩ := i
     obtain ⟨hM, hE, hEl⟩ := hJ
     dsimp only at hM hE hEl ⊢
     have hw := wr_succ (k := k) (by omega)
     obtain ⟨hs1, hs2⟩ := ha a[k] (List.getElem_mem hk)
     have hE' := ge_put hk hE
     have hel := putE_len E (Lib.toLowerA a[k].1) a[k].2
     simp [go_sem, Tryz.Ly17_1, hk, hM.fin, fdV]
     intro b0 hb0
     refine ⟨by simp [fzAt, clAt, fzb, callQ], ?_⟩
     refine callK_pure (Tryz.Fold_p _ _ hs1) ?_
     simp [go_sem, upd_none hb0]
     refine callK_pure (Tryz.Fold_p _ _ hs1) ?_
     have hvl : ∀ x, x ∈ E → x.2.length ≤ 100 := fun x hx => by
       rw [(hE.val x hx).1]
       refine Nat.le_trans (valsL_len _ _) ?_
       simp
       omega
     cases hky : keyAt E (Lib.toLowerA a[k].1) with
     | none =>
       have hfd := find_no E vs 0 hM.len (keyAt_none hky)
       simp [go_sem, hM.mp, hfd, hM.fin, upd_none hb0]
       refine acc_append (es := []) (news := [.str a[k].2]) (e := 9) (sz := 1) (.string ⟨#[]⟩) (acc_nil hM.fin _ _) (Ext.refl _) hM.fin Tryz.knd25 Tryz.tsz9 (by simp [srcEls]) Tryz.tzero9 (by simp [go_sem]) (by decide) (by simp [Tryz.tby9]) (by simp) (by simp [go_sem]) ?_
       intro v' bx3 ha'
       obtain ⟨_, p2, p3⟩ := hM.put_new hky ha'
       have hbox : mapE E vs ++ [(.str (Lib.toLowerA a[k].1), v')] = mapE (putE E (Lib.toLowerA a[k].1) a[k].2) (vs ++ [v']) := by rw [putE_none hky, mapE_new hM.len]
       simp [go_sem, p2, hfd, ha'.cells, ha'.strip, ha'.live, hw]
       rw [hbox]
       exact hN _ (_, vs ++ [v'], putE E (Lib.toLowerA a[k].1) a[k].2) ⟨p3, hE', Nat.le_trans hel (by omega)⟩ (cov_look (by simp [go_sem]))
     | some j =>
       obtain ⟨hj, hej, hjl⟩ := keyAt_some hky
       have hfd := find_yes E vs 0 j hM.len hj hej hjl
       obtain ⟨b1, r1, r2, r3, r4⟩ := hM.acc hj
       have hv : vs[j]'(by rw [hM.len]; exact hj) = V.own b1 1 0 E[j].2.length := (List.getElem?_eq_some_iff.1 r2).2
       rw [hv] at hfd
       have hEj := hvl E[j] (List.getElem_mem hj)
       simp [go_sem, hM.mp, hfd, hM.fin, upd_none hb0]
       refine acc_append (es := E[j].2.map .str) (news := [.str a[k].2]) (e := 9) (sz := 1) (.string ⟨#[]⟩) r4 (Ext.refl _) hM.fin Tryz.knd25 Tryz.tsz9 (by simp [srcEls]) Tryz.tzero9 (by simp [go_sem]) (by decide) (by simp [Tryz.tby9] <;> omega) (by simp <;> omega) (by simp [go_sem]) ?_
       intro v' bx3 ha'
       obtain ⟨_, p2, p3⟩ := hM.put_old hky hj r1 r2 r3 ha'
       have hbox : (mapE E vs).set j (.str (Lib.toLowerA a[k].1), v') = mapE (putE E (Lib.toLowerA a[k].1) a[k].2) (vs.set j v') := by rw [putE_some hky hj, mapE_set hM.len]
       simp [go_sem, p2, hfd, ha'.cells, ha'.strip, ha'.live, hw]
       rw [hbox]
       exact hN _ (_, vs.set j v', putE E (Lib.toLowerA a[k].1) a[k].2) ⟨p3, hE', Nat.le_trans hel (by omega)⟩ (cov_look (by simp [go_sem]))
   · obtain ⟨bx1, vs, E⟩ := i
     obtain ⟨hM, hE, hEl⟩ := hJ
     dsimp only at hM hE hEl ⊢
     rw [List.take_length] at hE
     have hy0 : bx1 c2 = some (.map []) := by rw [hM.ext c2 (by rw [upd_eq]; simp), upd_eq]
     have hstart2 : GM (upd bx1 c2 none) 9 c2 [] [] bx1 := ⟨fun d hd => (by
       by_cases e : d = c2
       · subst e; rw [upd_eq] at hd; exact absurd rfl hd
       · rw [upd_ne _ _ e]), hM.fin, upd_eq _ _ _, hy0, rfl, fun j hj => by simp at hj, fun i j b n m h => by simp at h⟩
     simp [go_sem, Tryz.Ly17_1, hM.fin]
     refine pw_for (ι := Boxes × List V × Grp) b.length (fun k i => GM (upd bx1 c2 none) 9 c2 i.2.2 i.2.1 i.1 ∧ GE (b.take k) i.2.2 ∧ i.2.2.length ≤ k) (fun k i => ⟨74, slk [(9, .mp c1), (10, .mp c2), (51, .sl 2 (b.map fdV)), (52, .int .i64 b.length), (53, .int .i64 k)], i.1⟩) (_, [], []) ⟨hstart2, by simpa using ge_nil, by simp⟩ (cov_look (by simp [go_sem])) (fun k i hk hJ N hN => ?_) (fun i hJ N => ?_)
     · obtain ⟨bx2, ws, F⟩ := i
       obtain ⟨hM2, hF, hFl⟩ := hJ
       dsimp only at hM2 hF hFl ⊢
       have hw := wr_succ (k := k) (by omega)
       obtain ⟨hs1, hs2⟩ := hb b[k] (List.getElem_mem hk)
       have hF' := ge_put hk hF
       have hel := putE_len F (Lib.toLowerA b[k].1) b[k].2
       simp [go_sem, Tryz.Ly17_2, hk, hM2.fin, fdV]
       intro b0 hb0
       refine ⟨by simp [fzAt, clAt, fzb, callQ], ?_⟩
       refine callK_pure (Tryz.Fold_p _ _ hs1) ?_
       simp [go_sem, upd_none hb0]
       refine callK_pure (Tryz.Fold_p _ _ hs1) ?_
       have hvl : ∀ x, x ∈ F → x.2.length ≤ 100 := fun x hx => by
         rw [(hF.val x hx).1]
         refine Nat.le_trans (valsL_len _ _) ?_
         simp
         omega
       cases hky : keyAt F (Lib.toLowerA b[k].1) with
       | none =>
         have hfd := find_no F ws 0 hM2.len (keyAt_none hky)
         simp [go_sem, hM2.mp, hfd, hM2.fin, upd_none hb0]
         refine acc_append (es := []) (news := [.str b[k].2]) (e := 9) (sz := 1) (.string ⟨#[]⟩) (acc_nil hM2.fin _ _) (Ext.refl _) hM2.fin Tryz.knd25 Tryz.tsz9 (by simp [srcEls]) Tryz.tzero9 (by simp [go_sem]) (by decide) (by simp [Tryz.tby9]) (by simp) (by simp [go_sem]) ?_
         intro v' bx3 ha'
         obtain ⟨_, p2, p3⟩ := hM2.put_new hky ha'
         have hbox : mapE F ws ++ [(.str (Lib.toLowerA b[k].1), v')] = mapE (putE F (Lib.toLowerA b[k].1) b[k].2) (ws ++ [v']) := by rw [putE_none hky, mapE_new hM2.len]
         simp [go_sem, p2, hfd, ha'.cells, ha'.strip, ha'.live, hw]
         rw [hbox]
         exact hN _ (_, ws ++ [v'], putE F (Lib.toLowerA b[k].1) b[k].2) ⟨p3, hF', Nat.le_trans hel (by omega)⟩ (cov_look (by simp [go_sem]))
       | some j =>
         obtain ⟨hj, hej, hjl⟩ := keyAt_some hky
         have hfd := find_yes F ws 0 j hM2.len hj hej hjl
         obtain ⟨b1, r1, r2, r3, r4⟩ := hM2.acc hj
         have hv : ws[j]'(by rw [hM2.len]; exact hj) = V.own b1 1 0 F[j].2.length := (List.getElem?_eq_some_iff.1 r2).2
         rw [hv] at hfd
         have hFj := hvl F[j] (List.getElem_mem hj)
         simp [go_sem, hM2.mp, hfd, hM2.fin, upd_none hb0]
         refine acc_append (es := F[j].2.map .str) (news := [.str b[k].2]) (e := 9) (sz := 1) (.string ⟨#[]⟩) r4 (Ext.refl _) hM2.fin Tryz.knd25 Tryz.tsz9 (by simp [srcEls]) Tryz.tzero9 (by simp [go_sem]) (by decide) (by simp [Tryz.tby9] <;> omega) (by simp <;> omega) (by simp [go_sem]) ?_
         intro v' bx3 ha'
         obtain ⟨_, p2, p3⟩ := hM2.put_old hky hj r1 r2 r3 ha'
         have hbox : (mapE F ws).set j (.str (Lib.toLowerA b[k].1), v') = mapE (putE F (Lib.toLowerA b[k].1) b[k].2) (ws.set j v') := by rw [putE_some hky hj, mapE_set hM2.len]
         simp [go_sem, p2, hfd, ha'.cells, ha'.strip, ha'.live, hw]
         rw [hbox]
         exact hN _ (_, ws.set j v', putE F (Lib.toLowerA b[k].1) b[k].2) ⟨p3, hF', Nat.le_trans hel (by omega)⟩ (cov_look (by simp [go_sem]))
     · obtain ⟨bx2, ws, F⟩ := i
       obtain ⟨hM2, hF, hFl⟩ := hJ
       dsimp only at hM2 hF hFl ⊢
       rw [List.take_length] at hF
       have keep : ∀ d, d ≠ c2 → bx1 d ≠ none → bx2 d = bx1 d := fun d h1 h2 => by rw [hM2.ext d (by rw [upd_ne _ _ h1]; exact h2), upd_ne _ _ h1]
       have hext : Ext bx bx2 := fun d hd => by
         have d2 : d ≠ c2 := by rintro rfl; exact hd hc2'
         have h1 : bx1 d = bx d := by rw [hM.ext d (by rw [upd_ne _ _ d2]; exact hd), upd_ne _ _ d2]
         rw [keep d d2 (by rw [h1]; exact hd), h1]
       have rx : RowsE 9 E vs bx2 := fun j hj => by
         obtain ⟨b0, g1, g2, g3⟩ := hM.own j hj
         have d2 : b0 ≠ c2 := by rintro rfl; rw [hy0] at g3; cases g3
         exact ⟨b0, g2, by rw [keep b0 d2 (by rw [g3]; simp), g3]⟩
       have ry : RowsE 9 F ws bx2 := fun j hj => by
         obtain ⟨b0, g1, g2, g3⟩ := hM2.own j hj
         exact ⟨b0, g2, g3⟩
       have cE := Tryz.EqualFunc_c (bx := bx2) (by rw [keep c1 n21.symm (by rw [hM.mp]; simp), hM.mp]) hM2.mp n21.symm hM.len hM2.len rx ry hF.nd (by omega) (by omega) (fun x hx => by rw [(hE.val x hx).1]; exact Nat.le_trans (valsL_len _ _) (by omega))
       rw [eqE_same hE hF] at cE
       simp [go_sem, Tryz.Ly17_2, hM2.fin]
       refine callK_pure cE ?_
       simp [go_sem]
       refine ret_drop (by simp [go_sem]) hext ⟨?_, rfl⟩
       simp [go_sem, resB, sameF, hca, hcb]
end Go.Proofs

set_option linter.unusedSimpArgs false
set_option linter.unusedVariables false
set_option maxRecDepth 100000
namespace Go.Proofs
open Go Go.Pl Go.RowKit
theorem stripF_len (l : List Fd) : (stripF l).1.length ≤ l.length := by
 unfold stripF
 split
 · split
   · exact List.length_filter_le _ _
   · simp
 · simp
theorem hopF_len (l : List Fd) : (hopF l).1.length ≤ l.length := by
 unfold hopF
 split
 · split
   · rename_i acc _
     dsimp only
     rw [(sortB_perm (metL l acc)).length_eq]
     exact metL_len l acc
   · simp
 · simp
set_option maxHeartbeats 4000000 in
theorem Tryz.headersHops_c {bx : Boxes} (hm : Mk bx) (l m : List Fd) : PureCall Tryz.prog 3 [.sl 2 (l.map fdV), .sl 2 (m.map fdV)] bx (.bool true) := by
 refine Tryz.ctrx3 fun hf => ?_
 simp [go_sem, Tryz.Cx3, hf]
 refine callK_pure (Tryz.far_c l bx) ?_
 have cA := Tryz.awake_c hm
 cases hfar : farB l
 · simp [go_sem]
   refine gK_pure (Tryz.far_c m bx) (by simp) (by simp [go_sem]) ?_
   cases hfar2 : farB m
   · obtain ⟨h1, h2, h3, h4⟩ := far_small hfar
     obtain ⟨k1, k2, k3, k4⟩ := far_small hfar2
     have c1 := Tryz.Hop_c hm l h2
     have c2 := Tryz.rHop_c l h2 bx
     have c3 := Tryz.Strip_c hm l h2
     have c4 := Tryz.rStrip_c l h2 bx
     have c5 := Tryz.Same_c hm l m h2 k2
     have c6 := Tryz.rSame_c l m h2 k2 bx
     have sl := stripF_len l
     have hl : (hopF l).1.length ≤ 1000000 := Nat.le_trans (hopF_len l) (by omega)
     generalize hopF l = H at *
     generalize stripF l = S at *
     generalize sameF l m = B at *
     obtain ⟨H1, H2⟩ := H
     obtain ⟨S1, S2⟩ := S
     obtain ⟨B1, B2⟩ := B
     unfold resS at c1 c2
     unfold resL at c3 c4
     unfold resB at c5 c6
     dsimp only at c1 c2 c3 c4 c5 c6 sl hl
     have q1 := Tryz.Strings_c H1 H1 hl bx
     have q2 := Tryz.Equal_c S1 S1 (by omega) bx
     simp [go_sem]
     refine callK_pure c1 ?_
     simp [go_sem]
     refine callK_pure c2 ?_
     simp [go_sem]
     refine callK_pure c3 ?_
     simp [go_sem]
     refine callK_pure c4 ?_
     simp [go_sem]
     refine callK_pure c5 ?_
     simp [go_sem]
     refine callK_pure c6 ?_
     simp [go_sem]
     refine callK_pure q1 ?_
     simp [go_sem]
     refine gK_pure q2 (by simp) (by simp [go_sem]) ?_
     simp [go_sem]
     refine gK_pure cA (by simp) (by simp [go_sem]) ?_
     simp [go_sem]
     exact ret_pure (by simp [go_sem]) ⟨by simp [go_sem], rfl⟩
   · simp [go_sem]
     refine callK_pure cA ?_
     simp [go_sem]
     exact ret_pure (by simp [go_sem]) ⟨by simp [go_sem], rfl⟩
 · simp [go_sem]
   refine gK_off (.bool false) (by simp [go_sem]) ?_
   simp [go_sem]
   refine callK_pure cA ?_
   simp [go_sem]
   exact ret_pure (by simp [go_sem]) ⟨by simp [go_sem], rfl⟩
end Go.Proofs

set_option linter.unusedSimpArgs false
set_option linter.unusedVariables false
set_option maxRecDepth 100000
namespace Go.Proofs
open Go Go.Pl Go.RowKit
def comR (l : List Fd) (nm : List UInt8) : V :=
 if askE l nm ≠ 0 then .tup [.str [], .int .i64 (askE l nm)]
 else if getL l nm = [] then .tup [.str [], .int .i64 4]
 else if Lib.toLowerA nm = [115, 101, 116, 45, 99, 111, 111, 107, 105, 101] then .tup [.str [], .int .i64 9]
 else if 2000 < (joinB [44, 32] (getL l nm)).length then .tup [.str [], .int .i64 3]
 else .tup [.str (joinB [44, 32] (getL l nm)), .int .i64 0]
theorem askE_chk {l : List Fd} {nm : List UInt8} (h : askE l nm = 0) : chkL l = 0 := by
 unfold askE at h
 by_cases h1 : chkL l = 0
 · exact h1
 · rw [if_pos h1] at h; exact h
theorem lenS_get (l : List Fd) (nm : List UInt8) : lenS (getL l nm) ≤ sumF l := by
 induction l with
 | nil => simp [getL, lenS]
 | cons f l ih =>
   rw [sumF_cons]
   unfold getL at ih ⊢
   rw [List.filter_cons]
   split
   · simp only [List.map_cons, lenS, List.sum_cons] at ih ⊢
     unfold sizF
     omega
   · omega
set_option maxHeartbeats 1000000 in
theorem Tryz.Combined_c {bx : Boxes} (hm : Mk bx) (l : List Fd) (hl : Small l) (nm : List UInt8) (hn : nm.length ≤ 100000) : PureCall Tryz.prog 24 [.sl 2 (l.map fdV), .str nm] bx (comR l nm) := by
 refine Tryz.ctr24 fun hf => ?_
 have cG := Tryz.Get_c hm l hl nm hn
 have cF := Tryz.Fold_p bx nm hn
 unfold getR at cG
 unfold comR
 by_cases hA : askE l nm = 0
 · rw [if_pos hA] at cG
   rw [if_neg (by simpa using hA)]
   have hck := chkL_ok (askE_chk hA)
   have hgl := getL_len l nm
   have hgs := lenS_get l nm
   have cJ := Tryz.Join_c (getL l nm) [44, 32] (by omega) (by omega) (by simp) (by simp) bx
   generalize getL l nm = L at *
   by_cases hL : L = []
   · rw [if_pos hL]
     simp [go_sem, Tryz.C24, hf]
     refine callK_pure cG ?_
     simp [go_sem, hL]
     exact ret_pure (by simp [go_sem]) ⟨by simp [go_sem], rfl⟩
   · rw [if_neg hL]
     have hL0 : ¬ (L.length : Int) = 0 := by
       intro e; exact hL (List.eq_nil_of_length_eq_zero (by omega))
     simp [go_sem, Tryz.C24, hf]
     refine callK_pure cG ?_
     simp [go_sem, hL, hL0]
     refine callK_pure cF ?_
     by_cases hck2 : Lib.toLowerA nm = [115, 101, 116, 45, 99, 111, 111, 107, 105, 101]
     · rw [if_pos hck2]
       simp [go_sem, hck2]
       exact ret_pure (by simp [go_sem]) ⟨by simp [go_sem], rfl⟩
     · rw [if_neg hck2]
       simp [go_sem, hck2]
       refine callK_pure cJ ?_
       generalize joinB [44, 32] L = J at *
       by_cases hJ : 2000 < J.length
       · have hJ' : (2000 : Int) < J.length := by omega
         rw [if_pos hJ]
         simp [go_sem, hJ']
         exact ret_pure (by simp [go_sem]) ⟨by simp [go_sem], rfl⟩
       · have hJ' : ¬ (2000 : Int) < J.length := by omega
         rw [if_neg hJ]
         simp [go_sem, hJ']
         exact ret_pure (by simp [go_sem]) ⟨by simp [go_sem], rfl⟩
 · rw [if_neg hA] at cG
   rw [if_pos (by simpa using hA)]
   simp [go_sem, Tryz.C24, hf]
   refine callK_pure cG ?_
   simp [go_sem, hA]
   exact ret_pure (by simp [go_sem]) ⟨by simp [go_sem], rfl⟩
end Go.Proofs

set_option linter.unusedSimpArgs false
set_option linter.unusedVariables false
set_option maxRecDepth 100000
namespace Go.Proofs
open Go Go.Pl Go.RowKit
def low1 (f : Fd) : Fd := (Lib.toLowerA f.1, f.2)
def lowL (l : List Fd) : List Fd := l.map low1
theorem u8_all (p : UInt8 → Bool) (h : ((List.range 256).all fun n => p (UInt8.ofNat n)) = true) (c : UInt8) : p c = true := by
 have := List.all_eq_true.1 h c.toNat (List.mem_range.2 c.toNat_lt)
 simpa using this
theorem lowerB_idem (c : UInt8) : Lib.lowerB (Lib.lowerB c) = Lib.lowerB c := of_decide_eq_true (u8_all (fun c => decide (Lib.lowerB (Lib.lowerB c) = Lib.lowerB c)) (by decide +kernel) c)
theorem letB_low (c : UInt8) : letB (Lib.lowerB c) = letB c := of_decide_eq_true (u8_all (fun c => decide (letB (Lib.lowerB c) = letB c)) (by decide +kernel) c)
theorem lower_idem (s : List UInt8) : Lib.toLowerA (Lib.toLowerA s) = Lib.toLowerA s := by
 unfold Lib.toLowerA
 rw [List.map_map]
 exact List.map_congr_left fun c _ => lowerB_idem c
theorem lower_len (s : List UInt8) : (Lib.toLowerA s).length = s.length := by simp [Lib.toLowerA]
theorem tok_low (s : List UInt8) : tokB (Lib.toLowerA s) = tokB s := by
 unfold tokB
 rw [lower_len]
 congr 1
 unfold Lib.toLowerA
 rw [List.all_map]
 congr 1
 funext c
 exact letB_low c
theorem sum_low : ∀ l : List Fd, sumF (lowL l) = sumF l
 | [] => rfl
 | f :: l => by
   have ih := sum_low l
   unfold lowL at ih ⊢
   rw [List.map_cons, sumF_cons, sumF_cons, ih]
   unfold sizF low1
   rw [lower_len]
theorem chk_low {l : List Fd} (h : chkL l = 0) : chkL (lowL l) = 0 := by
 obtain ⟨h1, h2, h3⟩ := chkL_ok h
 rw [chkL_of (by simp [lowL]; omega) (fun f hf => ?_), if_neg (by rw [sum_low]; omega)]
 obtain ⟨g, hg, rfl⟩ := List.mem_map.1 hf
 obtain ⟨k1, k2, k3, k4⟩ := h2 g hg
 exact ⟨by unfold low1; rw [tok_low]; exact k1, k2, k3, k4⟩
theorem vals_low (l : List Fd) (k : List UInt8) : valsL (lowL l) k = valsL l k := by
 unfold valsL lowL
 rw [List.filter_map, List.map_map]
 have : ((fun f : Fd => decide (Lib.toLowerA f.1 = k)) ∘ low1) = fun f : Fd => decide (Lib.toLowerA f.1 = k) := by
   funext f
   simp [low1, lower_idem]
 rw [this]
 rfl
theorem get_low (l : List Fd) (nm nm2 : List UInt8) (h : Lib.toLowerA nm2 = Lib.toLowerA nm) : getL (lowL l) nm2 = getL l nm := by rw [getL_vals, getL_vals, vals_low, h]
theorem ask_low {l : List Fd} (h : chkL l = 0) (nm : List UInt8) : askE (lowL l) (Lib.toLowerA nm) = askE l nm := by
 unfold askE
 rw [chk_low h, h, tok_low]
theorem getF_low {l : List Fd} (h : chkL l = 0) (nm : List UInt8) : getF (lowL l) (Lib.toLowerA nm) = getF l nm := by
 unfold getF
 rw [ask_low h, get_low l nm _ (lower_idem nm)]
theorem com_low {l : List Fd} (h : chkL l = 0) (nm : List UInt8) : comR (lowL l) (Lib.toLowerA nm) = comR l nm := by
 unfold comR
 rw [ask_low h, get_low l nm _ (lower_idem nm), lower_idem]
theorem hop_low {l : List Fd} (h : chkL l = 0) : hopF (lowL l) = hopF l := by
 have h1 : namesF (lowL l) = namesF l := by unfold namesF; rw [get_low l connB connB rfl]
 have h2 : ∀ acc, metL (lowL l) acc = metL l acc := fun acc => by
   unfold metL lowL
   rw [List.map_map]
   have : ((fun f : Fd => Lib.toLowerA f.1) ∘ low1) = fun f : Fd => Lib.toLowerA f.1 := by
     funext f
     simp [low1, lower_idem]
   rw [this]
 unfold hopF
 rw [chk_low h, h, h1]
 simp only [h2]
theorem same_low {l : List Fd} (h : chkL l = 0) : sameF l (lowL l) = (true, 0) := by
 unfold sameF
 rw [chk_low h, h]
 have : sameB l (lowL l) = true := List.all_eq_true.2 fun f _ => decide_eq_true (get_low l f.1 f.1 rfl).symm
 rw [this]
 rfl
theorem small_low {l : List Fd} (h : chkL l = 0) : Small (lowL l) := chk_small (chk_low h)
theorem low_snoc (l : List Fd) {k : Nat} (hk : k < l.length) : lowL (l.take (k + 1)) = lowL (l.take k) ++ [low1 l[k]] := by
 unfold lowL
 rw [List.take_succ_eq_append_getElem hk, List.map_append]
 rfl
end Go.Proofs

set_option linter.unusedSimpArgs false
set_option linter.unusedVariables false
set_option maxRecDepth 100000
namespace Go.Proofs
open Go Go.Pl Go.RowKit
set_option maxHeartbeats 4000000 in
theorem Tryz.headersCase_c {bx : Boxes} (hm : Mk bx) (l : List Fd) (nm : List UInt8) : PureCall Tryz.prog 4 [.sl 2 (l.map fdV), .str nm] bx (.bool true) := by
 refine Tryz.ctry4 fun hf => ?_
 simp [go_sem, Tryz.Cy4, hf]
 refine callK_pure (Tryz.far_c l bx) ?_
 have cA := Tryz.awake_c hm
 cases hfar : farB l
 · obtain ⟨h1, h2, h3, h4⟩ := far_small hfar
   by_cases hn : 200 < nm.length
   · have hn' : (200 : Int) < nm.length := by omega
     simp [go_sem, hn']
     refine gK_off (.int .i64 0) (by simp [go_sem]) ?_
     simp [go_sem]
     refine callK_pure cA ?_
     simp [go_sem]
     exact ret_pure (by simp [go_sem]) ⟨by simp [go_sem], rfl⟩
   have hn' : ¬ (200 : Int) < nm.length := by omega
   simp [go_sem, hn']
   refine gK_pure (Tryz.Check_c hm l h2) (by simp) (by simp [go_sem]) ?_
   by_cases hc : chkL l = 0
   · have hll := chkL_len hc
     have hsl := small_low hc
     simp [go_sem, hc]
     refine pw_for (ι := Boxes × V) l.length (fun k i => Acc bx 38 2 ((lowL (l.take k)).map fdV) i.2 i.1) (fun k i => ⟨135, slk [(0, .sl 2 (l.map fdV)), (1, .str nm), (5, i.2), (6, .int .i64 k)], i.1⟩) (bx, .nils) (acc_nil hf _ _) (cov_look (by simp [go_sem])) (fun k i hk hJ N hN => ?_) (fun i hJ N => ?_)
     · obtain ⟨bx1, v⟩ := i
       dsimp only at hJ ⊢
       have hw := wr_succ (k := k) (by omega)
       have hsn := low_snoc l hk
       obtain ⟨hs1, hs2⟩ := h2 l[k] (List.getElem_mem hk)
       have hle : (lowL (l.take k)).length ≤ k := by simp [lowL]; omega
       generalize hM : lowL (l.take k) = M at *
       simp [go_sem, Tryz.Ly4_0, hk, hJ.fin, fdV]
       refine callK_pure (Tryz.rFold_p _ _ hs1) ?_
       simp [go_sem, hJ.fin, hk, fdV]
       intro b' hb'
       refine Tryz.appH (es := M.map fdV) (news := [fdV (low1 l[k])]) hJ ((Ext.refl _).new hb' _) (by simp [finB_upd, hJ.fin]) (by simp [go_sem, srcEls, fdV, low1]) (by simp; omega) (by omega) ?_
       intro v' bx3 ha'
       simp [go_sem, ha'.fin, ha'.cells, hw]
       exact hN _ (bx3, v') (by rw [hsn, List.map_append]; exact ha') (cov_look (by simp [go_sem, fdV]))
     · obtain ⟨bx1, v⟩ := i
       dsimp only at hJ ⊢
       rw [List.take_length] at hJ
       simp [go_sem, Tryz.Ly4_0, hJ.fin]
       refine pw_wk (st' := ⟨135, slk [(0, .sl 2 (l.map fdV)), (1, .str nm), (5, .sl 2 ((lowL l).map fdV))], bx⟩) (cov_wk hJ.ext (fun p hp => ?_)) ?_
       · simp at hp
         rcases hp with rfl | rfl | rfl
         · exact .inl (by simp [go_sem])
         · exact .inl (by simp [go_sem])
         · exact .inr ⟨1, by simpa [go_sem] using acc_frzB hJ (by decide)⟩
       have c1 := Tryz.Get_s hm l h2 nm (by omega)
       have c2 := Tryz.Get_s hm (lowL l) hsl (Lib.toLowerA nm) (by rw [lower_len]; omega)
       have c3 := Tryz.Combined_c hm l h2 nm (by omega)
       have c4 := Tryz.Combined_c hm (lowL l) hsl (Lib.toLowerA nm) (by rw [lower_len]; omega)
       have c5 := Tryz.Hop_c hm l h2
       have c6 := Tryz.Hop_c hm (lowL l) hsl
       have c7 := Tryz.Same_c hm l (lowL l) h2 hsl
       have cF := Tryz.rFold_p bx nm (by omega)
       rw [getF_low hc] at c2
       rw [com_low hc] at c4
       rw [hop_low hc] at c6
       rw [same_low hc] at c7
       have lG := getF_len l (by omega) nm
       have lH := hopF_len l
       have e2 : ∃ s e, comR l nm = .tup [.str s, .int .i64 e] := by
         unfold comR
         repeat' split
         all_goals exact ⟨_, _, rfl⟩
       obtain ⟨s, e, hse⟩ := e2
       rw [hse] at c3 c4
       generalize lowL l = L at *
       generalize getF l nm = G at *
       generalize hopF l = H at *
       obtain ⟨G1, G2⟩ := G
       obtain ⟨H1, H2⟩ := H
       unfold resS at c1 c2 c5 c6
       unfold resB at c7
       dsimp only at c1 c2 c5 c6 c7 lG lH
       have q1 := Tryz.Strings_c G1 G1 (by omega) bx
       have q2 := Tryz.Strings_c H1 H1 (by omega) bx
       simp [go_sem]
       refine callK_pure c1 ?_
       simp [go_sem]
       refine callK_pure cF ?_
       simp [go_sem]
       refine callK_pure c2 ?_
       simp [go_sem]
       refine callK_pure c3 ?_
       simp [go_sem]
       refine callK_pure cF ?_
       simp [go_sem]
       refine callK_pure c4 ?_
       simp [go_sem]
       refine callK_pure c5 ?_
       simp [go_sem]
       refine callK_pure c6 ?_
       simp [go_sem]
       refine callK_pure c7 ?_
       simp [go_sem]
       refine callK_pure q1 ?_
       simp [go_sem]
       refine gK_pure q2 (by simp) (by simp [go_sem]) ?_
       simp [go_sem]
       refine gK_pure cA (by simp) (by simp [go_sem]) ?_
       simp [go_sem]
       exact ret_pure (by simp [go_sem]) ⟨by simp [go_sem], rfl⟩
   · simp [go_sem, hc]
     refine callK_pure cA ?_
     simp [go_sem]
     exact ret_pure (by simp [go_sem]) ⟨by simp [go_sem], rfl⟩
 · simp [go_sem]
   refine gK_off (.int .i64 0) (by simp [go_sem]) ?_
   simp [go_sem]
   refine callK_pure cA ?_
   simp [go_sem]
   exact ret_pure (by simp [go_sem]) ⟨by simp [go_sem], rfl⟩
end Go.Proofs
