/- Texts of the proof, put together: VM, UD, UE, UF, UG, UH, UI, UJ, UK, UL, UM, VN, VO, VP, VQ, VR, UN, UO. -/
import Derived.Test.YtiogeggilnhajaaGreatDoorGh
import Derived.Test.YtiogeggilnhajaaGreatDoorGe

set_option linter.unusedSimpArgs false
set_option linter.unusedVariables false
set_option maxRecDepth 100000
namespace Go.Pl
open Go
theorem AbsCall.pre {P : Program} {f : FuncId} {args : List V} {bx bx' : Boxes} {Kc : V → Boxes → Prop} (hs : SubBx bx bx') (h : AbsCall P f args bx' Kc) : AbsCall P f args bx Kc := by
 refine ⟨h.1, fun β M w vs hok hgl hvs hrep => ?_⟩
 refine (h.2 β M w vs (hok.sub hs) (hgl.imp fun _ _ hh => hs.rep hh) hvs (fun i c hc => hs.rep (hrep i c hc))).mono ?_
 rintro e w' ⟨v, r, bx2, β2, rfl, hk, hok2, ht, hrep2⟩
 exact ⟨v, r, bx2, β2, rfl, hk, hok2, hs.tr.trans ht, hrep2⟩
end Go.Pl
namespace Go.Proofs
open Go Go.Pl
def openR_ (r : Int × IR) : Bool := !r.2.ended
def busyB (b : IB) : Bool := decide (0 < b.conns)
def leftI (s : IW) : Bool := decide (0 < s.busy.length) || s.bks.any busyB || s.rqs.any openR_
def overI (s : IW) : IW × Bool := if s.stop then (s.faultIf (leftI s) 11, true) else (s, false)
theorem any_takeI {α : Type} (l : List α) (p : α → Bool) {j : Nat} (hj : j < l.length) : (l.take (j + 1)).any p = ((l.take j).any p || p l[j]) := by
 rw [List.take_succ_eq_append_getElem hj, List.any_append]
 simp
theorem any_range (l : List (Int × IR)) (is : List Nat) (h : is.Perm (List.range l.length)) : is.any (fun i => openR_ (l.getD i (0, ir0))) = l.any openR_ := by
 rw [Bool.eq_iff_iff, List.any_eq_true, List.any_eq_true]
 constructor
 · rintro ⟨i, hi, ho⟩
   have hil : i < l.length := List.mem_range.1 (h.mem_iff.1 hi)
   rw [List.getD_eq_getElem?_getD, List.getElem?_eq_getElem hil] at ho
   exact ⟨_, List.getElem_mem hil, ho⟩
 · rintro ⟨r, hr, ho⟩
   obtain ⟨i, hi, rfl⟩ := List.getElem_of_mem hr
   refine ⟨i, h.mem_iff.2 (List.mem_range.2 hi), ?_⟩
   rw [List.getD_eq_getElem?_getD, List.getElem?_eq_getElem hi]
   exact ho
set_option maxHeartbeats 2000000 in
theorem Tryz.over_i {bx0 bx : Boxes} {ad : Adr} {s : IW} (h : WI bx0 ad s bx) {p : Nat} (hp : ad .w = some p) (x : Ev) (bi : Int) (hl : s.flt.length ≤ 90000) (hbl : s.bks.length ≤ 1000) :
   AbsCall Tryz.prog 87 [.ptr p 13 0 0, evW x bi] bx (StepI bx0 ad (overI s)) := by
 refine Tryz.ctr87 fun hf => ?_
 obtain ⟨pb, pc, pr, pm, pw', hn⟩ := h.names hp
 have hrow := h.row hn
 unfold stV at hrow
 have hbk := h.bksR hn
 have hmr := h.mrR hn
 have hmb := h.mbR hn
 obtain ⟨z, hz⟩ : ∃ z, overI s = z := ⟨_, rfl⟩
 rw [hz]
 unfold overI at hz
 cases hst : s.stop
 · rw [hst] at hrow hz
   simp [go_sem, Tryz.C87, hf, hrow, evW, iI]
   exact ret_keep (by simp [go_sem]) (.of hz.symm ⟨by simp [go_sem], ad, Keep.refl _, h⟩)
 rw [hst] at hrow hz
 simp only [if_true] at hz
 have hml : (mapL s.busy ipV).length = s.busy.length := by simp [mapL]
 simp [go_sem, Tryz.C87, hf, hrow, evW, iI, hmb, hml]
 obtain ⟨B0, hB0⟩ : ∃ B, decide (0 < s.busy.length) = B := ⟨_, rfl⟩
 rw [hB0]
 refine pw_upto s.bks.length (fun j => ⟨57, slk [(0, .ptr p 13 0 0), (5, .bool (B0 || (s.bks.take j).any busyB)), (24, .own pb 6 0 s.bks.length), (25, .int .i64 s.bks.length), (26, .int .i64 j)], bx⟩) (cov_look (by simp [go_sem])) (fun j hj N hN => ?_) (fun N => ?_)
 · have hw := wr_succ (k := j) (by omega)
   rw [any_takeI _ _ hj, ← Bool.or_assoc] at hN
   cases ha : (B0 || (s.bks.take j).any busyB)
   · rw [ha] at hN
     simp only [Bool.false_or, busyB] at hN
     simp [go_sem, Tryz.L87_0, hj, hf, hw, hbk, ibW, ibV, iI]
     intro b hb
     rw [upd_self hb]
     exact hN _ (cov_look (by simp [go_sem]))
   · rw [ha] at hN
     simp only [Bool.true_or] at hN
     simp [go_sem, Tryz.L87_0, hj, hf, hw, hbk, ibW, ibV, iI]
     intro b hb
     rw [upd_self hb]
     exact hN _ (cov_look (by simp [go_sem]))
 rw [List.take_length]
 simp [go_sem, Tryz.L87_0, hf, hrow, hmr]
 obtain ⟨B1, hB1⟩ : ∃ B, (B0 || s.bks.any busyB) = B := ⟨_, rfl⟩
 rw [hB1]
 intro bs c b' hl2 hnd hlt hb'
 obtain ⟨E, hE⟩ : ∃ E, (mapE (s.rqs.map (fun x => x.1)) fun i => V.ptr (adr ad (.rq i)) 5 0 0) = E := ⟨_, rfl⟩
 have hmr' : bx pr = some (.map E) := by rw [hmr, ← hE]
 rw [hE] at hl2 hb' ⊢
 have hEl : E.length = s.rqs.length := by rw [← hE, mapE_len, List.length_map]
 rw [hEl] at hl2
 have nb1 : b' ≠ pr := (new_ne hb').1
 have hbb : bx b' = none := (new_ne hb').2
 have back : ∀ sn, SubBx (upd (upd bx pr (some (Box.mapS E bs c))) b' (some (Box.iter pr c c sn))) bx := fun sn => sub_unS (b := pr) (by rw [upd_ne _ _ (Ne.symm nb1), upd_eq]) hmr' fun d hd => by
   by_cases ed : d = b'
   · subst ed; exact .inl hbb
   · exact .inr (by rw [upd_ne _ _ ed, upd_ne _ _ hd])
 refine pw_loop (ι := List Nat × List Nat) (fun q => Seen s.rqs.length bs q.1 q.2) (fun q => ⟨57, slk [(0, .ptr p 13 0 0), (5, .bool (B1 || q.1.any (fun i => openR_ (s.rqs.getD i (0, ir0))))), (41, .ptr b' 1 0 0)], upd (upd bx pr (some (.mapS E bs c))) b' (some (.iter pr c c q.2))⟩) (fun q => s.rqs.length - q.1.length) ([], []) (Seen.nil _ _) (cov_look (by simp [go_sem])) ?_
 rintro ⟨is, seen⟩ hS
 dsimp only at hS ⊢
 have hi1 : upd (upd bx pr (some (Box.mapS E bs c))) b' (some (Box.iter pr c c seen)) b' = some (Box.iter pr c c seen) := upd_eq _ _ _
 have hi2 : upd (upd bx pr (some (Box.mapS E bs c))) b' (some (Box.iter pr c c seen)) pr = some (Box.mapS E bs c) := by rw [upd_ne _ _ (Ne.symm nb1), upd_eq]
 obtain ⟨B2, hB2⟩ : ∃ B, (B1 || is.any (fun i => openR_ (s.rqs.getD i (0, ir0)))) = B := ⟨_, rfl⟩
 rw [hB2]
 simp [go_sem, Tryz.L87_1, hi1, hi2]
 refine ⟨hlt, fun hall => ?_, ?_⟩
 · have hp2 := hS.all hl2 hnd hall
   have hD : B2 = leftI s := by rw [← hB2, any_range _ _ hp2, ← hB1, ← hB0]; rfl
   cases hlw : leftI s
   · rw [hlw] at hD hz
     subst hD
     simp [go_sem]
     exact ret_sub (by simp [go_sem]) (back seen) (.of hz.symm ⟨by simp [go_sem], ad, Keep.refl _, h⟩)
   · rw [hlw] at hD hz
     subst hD
     simp [go_sem]
     refine callK_abs (AbsCall.pre (back seen) (Tryz.fault_i h hp 11 (by omega))) ?_
     rintro r bx1 ⟨rfl, ad1, hk1, h1⟩
     have hf1 := h1.fin
     simp [go_sem, hf1]
     exact ret_keep (by simp [go_sem]) (.of hz.symm ⟨by simp [go_sem], ad1, hk1, h1⟩)
 · intro i q a v hq hE2 hns
   obtain ⟨g1, g2, g3⟩ := hS.next hl2 hq hns
   obtain ⟨br, hbr, hrr⟩ := h.rqR g2
   have hEi : E[i]? = some (iI s.rqs[i].1, .ptr br 5 0 0) := by
     rw [← hE]
     unfold mapE
     rw [List.getElem?_mapIdx, List.getElem?_map, List.getElem?_eq_getElem g2]
     simp [adr_of hbr]
   rw [hEi] at hE2
   injection hE2 with hE2
   injection hE2 with hE3 hE4
   subst hE3 hE4
   rw [upd_ne _ _ (Ne.symm nb1), upd_eq]
   have hbr1 : br ≠ pr := by rintro rfl; rw [hrr] at hmr'; cases hmr'
   have hbr2 : br ≠ b' := by rintro rfl; rw [hrr] at hbb; cases hbb
   have hrr2 : upd (upd bx pr (some (Box.mapS E bs c))) b' (some (Box.iter pr c c (seen ++ [q]))) br = some (.row tyIR 5 [irV s.rqs[i].2]) := by rw [upd_ne _ _ hbr2, upd_ne _ _ hbr1, hrr]
   refine ⟨rfl, i, iI s.rqs[i].1, .ptr br 5 0 0, seen, q, ⟨rfl, rfl⟩, hq, hEi, ?_⟩
   have hnew : (B1 || (is ++ [i]).any (fun i => openR_ (s.rqs[i]?.getD (0, ir0)))) = (B2 || !s.rqs[i].2.ended) := by
     rw [List.any_append, ← Bool.or_assoc, ← hB2]
     simp [openR_, g2]
   have hlen := g3.len
   rw [List.length_append, List.length_singleton] at hlen
   cases B2
   · cases he : s.rqs[i].2.ended
     all_goals (
       rw [he] at hnew
       simp [go_sem, hrr2, irV, iI, he]
       exact ⟨(is ++ [i], seen ++ [q]), g3, cov_look (by simp only [hnew]; simp [go_sem]), by simp; omega⟩)
   · simp [go_sem]
     exact ⟨(is ++ [i], seen ++ [q]), g3, cov_look (by simp only [hnew]; simp [go_sem]), by simp; omega⟩
end Go.Proofs

set_option linter.unusedSimpArgs false
set_option linter.unusedVariables false
set_option maxRecDepth 100000
namespace Go.Proofs
open Go Go.Pl
def RW.fault (w : RW) (k : Int) : RW := { w with flt := w.flt ++ [(k, w.ev)] }
def RW.faultIf (w : RW) (c : Bool) (k : Int) : RW := if c then w.fault k else w
def RW.setB (w : RW) (i : Nat) (b : RB) : RW := { w with bks := w.bks.set i b }
def RW.setR (w : RW) (i : Nat) (r : RR) : RW := { w with rqs := w.rqs.set i r }
def RW.setC (w : RW) (i : Nat) (c : RC) : RW := { w with cns := w.cns.set i c }
def StepR (bx0 : Boxes) (p : Nat) (z : RW × Bool) (r : V) (bx' : Boxes) : Prop := r = .bool z.2 ∧ ∃ n, n.p = p ∧ WR bx0 n z.1 bx'
structure Same (n n' : RN) : Prop where
 p : n'.p = n.p
 bb : n'.bb = n.bb
 cv : n'.cv = n.cv
 rv : n'.rv = n.rv
end Go.Proofs

set_option linter.unusedSimpArgs false
set_option linter.unusedVariables false
set_option maxRecDepth 100000
namespace Go.Proofs
open Go Go.Pl
theorem StepR.of {bx0 bx' : Boxes} {p : Nat} {z z' : RW × Bool} {r : V} (hz : z = z') (h : StepR bx0 p z' r bx') : StepR bx0 p z r bx' := hz ▸ h
def StepU (bx0 : Boxes) (p : Nat) (z : RW) (r : V) (bx' : Boxes) : Prop := r = .tup [] ∧ ∃ n, n.p = p ∧ WR bx0 n z bx'
theorem StepU.of {bx0 bx' : Boxes} {p : Nat} {z z' : RW} {r : V} (hz : z = z') (h : StepU bx0 p z' r bx') : StepU bx0 p z r bx' := hz ▸ h
end Go.Proofs

set_option linter.unusedSimpArgs false
set_option linter.unusedVariables false
set_option maxRecDepth 100000
namespace Go.Proofs
open Go Go.Pl
end Go.Proofs

set_option linter.unusedSimpArgs false
set_option linter.unusedVariables false
set_option maxRecDepth 100000
namespace Go.Proofs
open Go Go.Pl
end Go.Proofs

set_option linter.unusedSimpArgs false
set_option linter.unusedVariables false
set_option maxRecDepth 100000
namespace Go.Proofs
open Go Go.Pl
theorem OwnV.ext {bx bx' : Boxes} {e sz : Nat} {es : List V} {v : V} (h : OwnV bx e sz es v) (he : Ext bx bx') : OwnV bx' e sz es v := by
 rcases h with h | ⟨b, h1, h2⟩
 · exact .inl h
 · exact .inr ⟨b, h1, by rw [he b (by rw [h2]; simp), h2]⟩
theorem Ext.trans' {a b c : Boxes} (h : Ext a b) (h' : Ext b c) : Ext a c := fun x hx => by rw [h' x (by rw [h x hx]; exact hx), h x hx]
theorem WR.mono {bx0 bx bx' : Boxes} {n : RN} {w : RW} (h : WR bx0 n w bx) (he : Ext bx bx') (hf : FinB bx') : WR bx0 n w bx' :=
 ⟨hf, Ext.trans' h.ext he, h.np, h.nb, h.nc, h.nr, h.nf, h.nd, h.nw, by rw [he _ (by rw [h.row]; simp)]; exact h.row, by rw [he _ (by rw [h.bks]; simp)]; exact h.bks, h.cns.ext he, h.rqs.ext he, h.flt.ext he, fun i b hi => (h.dia i b hi).ext he, fun i b hi => (h.wai i b hi).ext he, h.dd, h.ww, h.dw, h.sm⟩
end Go.Proofs

set_option linter.unusedSimpArgs false
set_option linter.unusedVariables false
set_option maxRecDepth 100000
namespace Go.Proofs
open Go Go.Pl
end Go.Proofs

set_option linter.unusedSimpArgs false
set_option linter.unusedVariables false
set_option maxRecDepth 100000
namespace Go.Proofs
open Go Go.Pl
end Go.Proofs

set_option linter.unusedSimpArgs false
set_option linter.unusedVariables false
set_option maxRecDepth 100000
namespace Go.Proofs
open Go Go.Pl
def Begun (w : RW) : Prop := ∀ c, c ∈ w.cns → c.st = 1 → ∃ j, findR w c.call = some j
theorem own_at {w : RW} {x : Ev} {i : Nat} (h : ownR w x = some i) : ∃ c, w.cns[i]? = some c ∧ c.st = 1 ∧ c.call = x.call := by
 unfold ownR at h
 split at h
 · split at h
   · rename_i c hc
     split at h
     · rename_i hh
       injection h with h
       subst h
       exact ⟨c, hc, hh⟩
     · cases h
   · cases h
 · cases h
theorem Begun.own {w : RW} (h : Begun w) {x : Ev} {i : Nat} (hi : ownR w x = some i) : ∃ j, findR w x.call = some j := by
 obtain ⟨c, hc, h1, h2⟩ := own_at hi
 rw [← h2]
 exact h c (List.mem_of_getElem? hc) h1
end Go.Proofs

set_option linter.unusedSimpArgs false
set_option linter.unusedVariables false
set_option maxRecDepth 100000
namespace Go.Proofs
open Go Go.Pl
def insF (x : Int × Int) : List (Int × Int) → List (Int × Int)
 | [] => [x]
 | y :: l => if x.1 < y.1 then x :: y :: l else y :: insF x l
def srtF (l : List (Int × Int)) : List (Int × Int) := l.foldl (fun a x => insF x a) []
theorem insF_split (x : Int × Int) : ∀ (B C : List (Int × Int)), (∀ y, y ∈ B → y.1 ≤ x.1) → (∀ y, y ∈ C → x.1 < y.1) → insF x (B ++ C) = B ++ x :: C
 | [], [], _, _ => rfl
 | [], y :: C, _, h => by simp [insF, h y (by simp)]
 | y :: B, C, h1, h2 => by
   have h := h1 y (by simp)
   simp only [List.cons_append, insF, if_neg (show ¬ x.1 < y.1 by omega)]
   rw [insF_split x B C (fun z hz => h1 z (by simp [hz])) h2]
theorem insF_perm (x : Int × Int) : ∀ l : List (Int × Int), (insF x l).Perm (x :: l)
 | [] => .refl _
 | y :: l => by
   unfold insF
   split
   · exact .refl _
   · exact ((insF_perm x l).cons y).trans (.swap x y l)
theorem insF_sorted (x : Int × Int) : ∀ l : List (Int × Int), l.Pairwise (fun a b => a.1 ≤ b.1) → (insF x l).Pairwise (fun a b => a.1 ≤ b.1)
 | [], _ => List.pairwise_singleton _ _
 | y :: l, h => by
   rw [List.pairwise_cons] at h
   unfold insF
   split
   · rename_i hlt
     rw [List.pairwise_cons, List.pairwise_cons]
     refine ⟨fun z hz => ?_, h.1, h.2⟩
     rcases List.mem_cons.1 hz with rfl | hz
     · omega
     · have := h.1 z hz; omega
   · rename_i hlt
     rw [List.pairwise_cons]
     refine ⟨fun z hz => ?_, insF_sorted x l h.2⟩
     rcases List.mem_cons.1 ((insF_perm x l).mem_iff.1 hz) with rfl | hz
     · omega
     · exact h.1 z hz
theorem srtF_snoc (l : List (Int × Int)) (x : Int × Int) : srtF (l ++ [x]) = insF x (srtF l) := by unfold srtF; rw [List.foldl_append]; rfl
theorem srt_aux : ∀ (l acc : List (Int × Int)), acc.Pairwise (fun a b => a.1 ≤ b.1) → (l.foldl (fun a x => insF x a) acc).Perm (acc ++ l) ∧ (l.foldl (fun a x => insF x a) acc).Pairwise (fun a b => a.1 ≤ b.1)
 | [], acc, h => ⟨by simp, h⟩
 | x :: l, acc, h => by
   obtain ⟨h1, h2⟩ := srt_aux l (insF x acc) (insF_sorted x acc h)
   refine ⟨?_, h2⟩
   refine h1.trans (((insF_perm x acc).append_right l).trans ?_)
   simpa using (List.perm_middle (a := x) (l₁ := acc) (l₂ := l)).symm
theorem srtF_perm (l : List (Int × Int)) : (srtF l).Perm l := by unfold srtF; simpa using (srt_aux l [] .nil).1
theorem srtF_sorted (l : List (Int × Int)) : (srtF l).Pairwise (fun a b => a.1 ≤ b.1) := (srt_aux l [] .nil).2
theorem srtF_len (l : List (Int × Int)) : (srtF l).length = l.length := (srtF_perm l).length_eq
def dnF (A M : List (Int × Int)) (x : Int × Int) (D : List (Int × Int)) (j : Nat) : List (Int × Int) := A ++ (M.take (M.length - j) ++ (x :: (M.drop (M.length - j) ++ D)))
theorem dnF_zero (A M : List (Int × Int)) (x : Int × Int) (D : List (Int × Int)) : dnF A M x D 0 = A ++ (M ++ (x :: D)) := by simp [dnF]
theorem dnF_len (A M : List (Int × Int)) (x : Int × Int) (D : List (Int × Int)) (j : Nat) : (dnF A M x D j).length = A.length + M.length + 1 + D.length := by
 simp [dnF]; omega
theorem dnF_at (A M : List (Int × Int)) (x : Int × Int) (D : List (Int × Int)) {j : Nat} (hj : j ≤ M.length) : (dnF A M x D j)[A.length + M.length - j]? = some x := by
 unfold dnF
 rw [List.getElem?_append_right (by omega), List.getElem?_append_right (by simp; omega)]
 have : A.length + M.length - j - A.length - (M.take (M.length - j)).length = 0 := by simp; omega
 rw [this]
 rfl
theorem dnF_at' (A M : List (Int × Int)) (x : Int × Int) (D : List (Int × Int)) {j : Nat} (hj : j < M.length) : (dnF A M x D j)[A.length + M.length - j - 1]? = M[M.length - j - 1]? := by
 unfold dnF
 rw [List.getElem?_append_right (by omega), List.getElem?_append_left (by simp; omega), List.getElem?_take]
 rw [if_pos (by omega)]
 congr 1
 omega
theorem dnF_succ (A M : List (Int × Int)) (x : Int × Int) (D : List (Int × Int)) {j : Nat} (hj : j < M.length) (y : Int × Int) (hy : M[M.length - j - 1]? = some y) : ((dnF A M x D j).set (A.length + M.length - j) y).set (A.length + M.length - j - 1) x = dnF A M x D (j + 1) := by
 obtain ⟨p, hp⟩ : ∃ p, M.length - j = p + 1 := ⟨M.length - j - 1, by omega⟩
 have hpl : p < M.length := by omega
 have hyp : M[p] = y := by
   have : M.length - j - 1 = p := by omega
   rw [this, List.getElem?_eq_getElem hpl] at hy
   injection hy
 unfold dnF
 have e1 : M.length - (j + 1) = p := by omega
 rw [e1, hp, List.take_succ_eq_append_getElem hpl, hyp, List.drop_eq_getElem_cons hpl, hyp]
 have e2 : A.length + M.length - j = A.length + (p + 1) := by omega
 rw [e2]
 have e4 : A.length + (p + 1) - 1 = A.length + p := by omega
 rw [e4, List.set_append_right _ _ (by omega), List.set_append_right _ _ (by omega)]
 have e5 : A.length + p - A.length = p := by omega
 have e3 : A.length + (p + 1) - A.length = p + 1 := by omega
 have e7 : (M.take p).length = p := by rw [List.length_take]; omega
 rw [e5, e3, List.append_assoc, List.set_append_right _ _ (by omega), List.set_append_right _ _ (by omega), e7]
 simp
def stopF (M : List (Int × Int)) (x : Int × Int) (j : Nat) : Bool := match M[M.length - j - 1]? with | some y => decide (j < M.length → y.1 ≤ x.1) | none => true
theorem dnF_stop (A M : List (Int × Int)) (x : Int × Int) (D : List (Int × Int)) {j : Nat} (hj : j ≤ M.length) (hs : M.Pairwise (fun a b => a.1 ≤ b.1)) (h1 : j < M.length → stopF M x j = true) (h2 : ∀ i, i < j → stopF M x i = false) : dnF A M x D j = A ++ (insF x M ++ D) := by
 have hle : ∀ y, y ∈ M.take (M.length - j) → y.1 ≤ x.1 := by
   intro y hy
   obtain ⟨i, hi, rfl⟩ := List.getElem_of_mem hy
   have hi' : i < M.length - j ∧ i < M.length := by rw [List.length_take] at hi; omega
   rw [List.getElem_take]
   have hjl : j < M.length := by omega
   have hh := h1 hjl
   have hl : M.length - j - 1 < M.length := by omega
   unfold stopF at hh
   rw [List.getElem?_eq_getElem hl] at hh
   simp only [decide_eq_true_eq] at hh
   have hh := hh hjl
   rcases Nat.lt_or_ge i (M.length - j - 1) with h | h
   · have := (List.pairwise_iff_getElem.1 hs) i (M.length - j - 1) hi'.2 hl h
     omega
   · have : i = M.length - j - 1 := by omega
     subst this
     exact hh
 have hgt : ∀ y, y ∈ M.drop (M.length - j) → x.1 < y.1 := by
   intro y hy
   obtain ⟨i, hi, rfl⟩ := List.getElem_of_mem hy
   rw [List.length_drop] at hi
   rw [List.getElem_drop]
   have hh := h2 (j - 1 - i) (by omega)
   unfold stopF at hh
   have e : M.length - (j - 1 - i) - 1 = M.length - j + i := by omega
   rw [e, List.getElem?_eq_getElem (by omega)] at hh
   simp only [decide_eq_false_iff_not] at hh
   have : ¬ M[M.length - j + i].1 ≤ x.1 := fun hh2 => hh fun _ => hh2
   omega
 have h := insF_split x _ _ hle hgt
 rw [List.take_append_drop] at h
 rw [h]
 simp [dnF]
end Go.Proofs

set_option linter.unusedSimpArgs false
set_option linter.unusedVariables false
set_option maxRecDepth 100000
namespace Go.Proofs
open Go Go.Pl
theorem srt_step (A R : List (Int × Int)) {r : Nat} (hr : r < R.length) : A ++ (srtF (R.take r) ++ R.drop r) = dnF A (srtF (R.take r)) R[r] (R.drop (r + 1)) 0 ∧ A ++ (insF R[r] (srtF (R.take r)) ++ R.drop (r + 1)) = A ++ (srtF (R.take (r + 1)) ++ R.drop (r + 1)) := by
 refine ⟨?_, ?_⟩
 · rw [dnF_zero, ← List.drop_eq_getElem_cons hr]
 · rw [List.take_succ_eq_append_getElem hr, srtF_snoc]
end Go.Proofs

set_option linter.unusedSimpArgs false
set_option linter.unusedVariables false
set_option maxRecDepth 100000
namespace Go.Proofs
open Go Go.Pl
theorem Tryz.cmp_i (x y : Int × Int) (bx : Boxes) : PureCall Tryz.prog 124 [fltV x, fltV y] bx (.int .i64 (w64 (x.1 - y.1))) := by
 refine Tryz.ctr124 fun hf => ?_
 simp [go_sem, Tryz.C124, hf, fltV, iI]
 exact ret_pure (by simp [go_sem]) ⟨by simp [go_sem]; rfl, rfl⟩
theorem Tryz.len64_i (m : Nat) (hm : m ≤ 12) (bx : Boxes) : PureCall Tryz.prog 180 [.int .u64 m] bx (.int .i64 ([0, 1, 2, 2, 3, 3, 3, 3, 4, 4, 4, 4, 4].getD m 0)) := by
 refine Tryz.ctr180 fun hf => ?_
 have : m = 0 ∨ m = 1 ∨ m = 2 ∨ m = 3 ∨ m = 4 ∨ m = 5 ∨ m = 6 ∨ m = 7 ∨ m = 8 ∨ m = 9 ∨ m = 10 ∨ m = 11 ∨ m = 12 := by omega
 rcases this with rfl | rfl | rfl | rfl | rfl | rfl | rfl | rfl | rfl | rfl | rfl | rfl | rfl
 all_goals (
   simp [go_sem, Tryz.C180, hf]
   refine ⟨by decide, ?_⟩
   exact ret_pure (by simp [go_sem]) ⟨by simp [go_sem]; decide, rfl⟩)
theorem Tryz.len_i (m : Nat) (hm : m ≤ 12) (bx : Boxes) : PureCall Tryz.prog 155 [.int .u64 m] bx (.int .i64 ([0, 1, 2, 2, 3, 3, 3, 3, 4, 4, 4, 4, 4].getD m 0)) := by
 refine Tryz.ctr155 fun hf => ?_
 have hw : IntKind.u64.wrap (m : Int) = m := wru64 (by omega)
 simp [go_sem, Tryz.C155, hf, hw]
 refine callK_pure (Tryz.len64_i m hm bx) ?_
 simp [go_sem, hf]
 exact ret_pure (by simp [go_sem]) ⟨by simp [go_sem], rfl⟩
set_option maxHeartbeats 2000000 in
theorem Tryz.ins_i (A R : List (Int × Int)) (hA : A.length ≤ 100000) (hR : R.length ≤ 12) (hk : ∀ f, f ∈ R → 0 ≤ f.1 ∧ f.1 ≤ 100) {b : Nat} {bx : Boxes} (hb : bx b = some (.row tyF 2 ((A ++ R).map fltV))) :
   AbsCall Tryz.prog 171 [.own b 2 A.length R.length, .int .i64 0, .int .i64 R.length, .fn (.func 124) []] bx fun r bx' => r = .tup [] ∧ bx' = upd bx b (some (.row tyF 2 ((A ++ srtF R).map fltV))) := by
 refine Tryz.ctr171 fun hf => ?_
 have e0 : upd bx b (some (.row tyF 2 ((A ++ (srtF (R.take (0 + 1)) ++ R.drop (0 + 1))).map fltV))) = bx := by
   have : srtF (R.take (0 + 1)) ++ R.drop (0 + 1) = R := by cases R <;> rfl
   rw [this]
   funext c
   by_cases e : c = b
   · rw [e, upd_eq, hb]
   · rw [upd_ne _ _ e]
 simp [go_sem, Tryz.C171, hf]
 refine pw_upto (R.length - 1) (fun r => ⟨53, slk [(0, .own b 2 A.length R.length), (1, .int .i64 0), (2, .int .i64 R.length), (3, .fn (.func 124) []), (8, .int .i64 ((r + 1 : Nat) : Int))], upd bx b (some (.row tyF 2 ((A ++ (srtF (R.take (r + 1)) ++ R.drop (r + 1))).map fltV)))⟩) (by rw [e0]; exact cov_look (by simp [go_sem]; decide)) (fun r hr N hN => ?_) (fun N => ?_)
 · obtain ⟨s1, s2⟩ := srt_step A R (show r + 1 < R.length by omega)
   rw [← s2] at hN
   rw [s1]
   have hM := srtF_sorted (R.take (r + 1))
   have hMl : (srtF (R.take (r + 1))).length = r + 1 := by rw [srtF_len, List.length_take]; omega
   have hDl : (R.drop (r + 1 + 1)).length = R.length - (r + 1 + 1) := by rw [List.length_drop]
   have hMk : ∀ y, y ∈ srtF (R.take (r + 1)) → 0 ≤ y.1 ∧ y.1 ≤ 100 := fun y hy => hk y (List.mem_of_mem_take ((srtF_perm _).mem_iff.1 hy))
   have hxk := hk R[r + 1] (List.getElem_mem (show r + 1 < R.length by omega))
   clear s1 s2
   obtain ⟨M, hMe⟩ : ∃ M, srtF (R.take (r + 1)) = M := ⟨_, rfl⟩
   obtain ⟨x, hxe⟩ : ∃ x, R[r + 1]'(show r + 1 < R.length by omega) = x := ⟨_, rfl⟩
   obtain ⟨D, hDe⟩ : ∃ D, R.drop (r + 1 + 1) = D := ⟨_, rfl⟩
   rw [hMe] at hN hM hMl hMk ⊢
   rw [hxe] at hN hxk ⊢
   rw [hDe] at hN hDl ⊢
   have hri : ((r : Int) + 1) < R.length := by omega
   have hf1 : FinB (upd bx b (some (.row tyF 2 ((dnF A M x D 0).map fltV)))) := (finB_upd _ _ _).2 hf
   simp [go_sem, Tryz.L171_1, hf1, hri]
   refine pw_find M.length (stopF M x) (fun j => ⟨53, slk [(0, .own b 2 A.length R.length), (1, .int .i64 0), (2, .int .i64 R.length), (3, .fn (.func 124) []), (8, .int .i64 ((r + 1 : Nat) : Int)), (9, .int .i64 ((r + 1 - j : Nat) : Int))], upd bx b (some (.row tyF 2 ((dnF A M x D j).map fltV)))⟩) (cov_look (by simp [go_sem])) (fun j hj hJ N2 hN2 => ?_) (fun hJ N2 => ?_)
   · obtain ⟨p, hp⟩ : ∃ p, r + 1 - j = p + 1 := ⟨r + 1 - j - 1, by omega⟩
     rw [hp]
     have hp2 : r + 1 - (j + 1) = p := by omega
     rw [hp2] at hN2
     have d1 : (dnF A M x D j)[A.length + (p + 1)]? = some x := by
       have := dnF_at A M x D (j := j) (by omega)
       rwa [hMl, show A.length + (r + 1) - j = A.length + (p + 1) by omega] at this
     obtain ⟨y, hy⟩ : ∃ y, M[M.length - j - 1]? = some y := ⟨_, List.getElem?_eq_getElem (by omega)⟩
     have d2 : (dnF A M x D j)[A.length + p]? = some y := by
       have := dnF_at' A M x D (j := j) hj
       rw [hy] at this
       rwa [hMl, show A.length + (r + 1) - j - 1 = A.length + p by omega] at this
     have d3 := dnF_succ A M x D hj y hy
     rw [hMl, show A.length + (r + 1) - j = A.length + (p + 1) by omega, show A.length + (p + 1) - 1 = A.length + p by omega] at d3
     have dl := dnF_len A M x D j
     have hyk := hMk y (List.mem_of_getElem? hy)
     have hf2 : FinB (upd bx b (some (.row tyF 2 ((dnF A M x D j).map fltV)))) := (finB_upd _ _ _).2 hf
     have hst : stopF M x j = decide (y.1 ≤ x.1) := by
       unfold stopF
       rw [hy]
       simp [hj]
     rw [hst] at hN2
     obtain ⟨L, hL⟩ : ∃ L, dnF A M x D j = L := ⟨_, rfl⟩
     rw [hL] at d1 d2 d3 dl hf2 ⊢
     have hpl : A.length + (p + 1) < L.length := by omega
     have hpl' : A.length + p < L.length := by omega
     have d1' : L[A.length + (p + 1)] = x := by rw [List.getElem?_eq_getElem hpl] at d1; injection d1
     have d2' : L[A.length + p] = y := by rw [List.getElem?_eq_getElem hpl'] at d2; injection d2
     have hwp : IntKind.i64.wrap (p : Int) = p := wr64 (by omega)
     have hi1 : (0 : Int) ≤ (p : Int) + 1 := by omega
     have hi2 : (p : Int) + 1 < (R.length : Int) := by omega
     have hi3 : (p : Int) < (R.length : Int) := by omega
     have hwk : IntKind.i64.wrap (x.1 - y.1) = x.1 - y.1 := wr64 (by omega)
     have hset : ((L.map fltV).set (A.length + (p + 1)) (fltV y)).set (A.length + p) (fltV x) = (dnF A M x D (j + 1)).map fltV := by
       rw [← d3, List.map_set, List.map_set]
     have hfc : ∀ z : Int × Int, (fltV z).cells.length = 2 := fun z => rfl
     have hfa : ∀ z : Int × Int, V.agg (List.take 2 (fltV z).cells) = fltV z := fun z => rfl
     simp [go_sem, Tryz.L171_0, hf2, hwp, hi1, hi2, hi3, hpl, hpl', d1', d2', hfc, hfa]
     refine gK_pure (Tryz.cmp_i x y _) (by simp [go_sem, fltV, iI]) (by simp [go_sem]) ?_
     have hw : w64 (x.1 - y.1) = x.1 - y.1 := hwk
     by_cases c1 : x.1 < y.1
     · have c2 : x.1 - y.1 < 0 := by omega
       simp [go_sem, hw, c2, hf2, hwp, hi1, hi2, hi3, hpl, hpl', d1', d2', hfc, hfa]
       refine ⟨rfl, rfl, ?_⟩
       have hsc : ∀ z u : Int × Int, setC (fltV z) 0 (fltV u).cells = fltV u := fun z u => rfl
       simp only [hsc]
       rw [hset]
       exact hN2 _ (by simpa using c1) (cov_look (by simp [go_sem]))
     · have c2 : ¬ x.1 - y.1 < 0 := by omega
       simp [go_sem, hw, c2, hf2]
       rw [← hL, dnF_stop A M x D (by omega) hM (fun _ => by rw [hst]; simpa using c1) hJ]
       have hwk : IntKind.i64.wrap ((r : Int) + 1 + 1) = (r : Int) + 1 + 1 := by rw [wr64 (by omega)]
       exact hN _ (cov_look (by simp [go_sem, hwk]))
   · have hkk : r + 1 - M.length = 0 := by omega
     rw [hkk]
     have hf2 : FinB (upd bx b (some (.row tyF 2 ((dnF A M x D M.length).map fltV)))) := (finB_upd _ _ _).2 hf
     rw [dnF_stop A M x D (Nat.le_refl _) hM (fun h => absurd h (Nat.lt_irrefl _)) hJ] at hf2 ⊢
     simp [go_sem, Tryz.L171_0, hf2, -List.map_append]
     refine gK_off (.int .i64 0) (by simp [go_sem]) ?_
     simp [go_sem, hf2, -List.map_append]
     have hwk : IntKind.i64.wrap ((r : Int) + 1 + 1) = (r : Int) + 1 + 1 := by rw [wr64 (by omega)]
     exact hN _ (cov_look (by simp [go_sem, hwk]))
 · have hf2 : FinB (upd bx b (some (.row tyF 2 ((A ++ (srtF (R.take (R.length - 1 + 1)) ++ R.drop (R.length - 1 + 1))).map fltV)))) := (finB_upd _ _ _).2 hf
   have hlt : ¬ ((R.length - 1 : Nat) : Int) + 1 < R.length := by omega
   have e1 : R.take (R.length - 1 + 1) = R := List.take_of_length_le (by omega)
   have e2 : R.drop (R.length - 1 + 1) = [] := List.drop_eq_nil_of_le (by omega)
   rw [e1, e2, List.append_nil] at hf2 ⊢
   simp [go_sem, Tryz.L171_1, hf2, hlt]
   exact ret_keep (by simp [go_sem]) ⟨by simp [go_sem], by simp⟩
theorem Tryz.pdq_i (A R : List (Int × Int)) (hA : A.length ≤ 100000) (hR : R.length ≤ 12) (hk : ∀ f, f ∈ R → 0 ≤ f.1 ∧ f.1 ≤ 100) (k : Int) {b : Nat} {bx : Boxes} (hb : bx b = some (.row tyF 2 ((A ++ R).map fltV))) :
   AbsCall Tryz.prog 154 [.own b 2 A.length R.length, .int .i64 0, .int .i64 R.length, .int .i64 k, .fn (.func 124) []] bx fun r bx' => r = .tup [] ∧ bx' = upd bx b (some (.row tyF 2 ((A ++ srtF R).map fltV))) := by
 refine Tryz.ctr154 fun hf => ?_
 simp [go_sem, Tryz.C154, hf]
 refine pw_upto 0 (fun _ => ⟨148, slk [(0, .own b 2 A.length R.length), (1, .int .i64 0), (2, .int .i64 R.length), (3, .int .i64 k), (4, .fn (.func 124) []), (10, .bool true), (11, .bool true)], bx⟩) (cov_look (by simp [go_sem])) (fun k hk => absurd hk (by omega)) ?_
 intro N
 have h1 : IntKind.i64.wrap (R.length : Int) = R.length := wr64 (by omega)
 have h2 : (R.length : Int) ≤ 12 := by omega
 simp [go_sem, Tryz.L154_0, hf, h1, h2]
 refine callK_abs (Tryz.ins_i A R hA hR hk hb) ?_
 rintro r bx1 ⟨rfl, rfl⟩
 simp [go_sem, finB_upd, hf]
 exact ret_keep (by simp [go_sem]) ⟨by simp [go_sem], by simp⟩
theorem Tryz.sort_i (A R : List (Int × Int)) (hA : A.length ≤ 100000) (hR : R.length ≤ 12) (hk : ∀ f, f ∈ R → 0 ≤ f.1 ∧ f.1 ≤ 100) {b : Nat} {bx : Boxes} (hb : bx b = some (.row tyF 2 ((A ++ R).map fltV))) :
   AbsCall Tryz.prog 123 [.own b 2 A.length R.length, .fn (.func 124) []] bx fun r bx' => r = .tup [] ∧ bx' = upd bx b (some (.row tyF 2 ((A ++ srtF R).map fltV))) := by
 refine Tryz.ctr123 fun hf => ?_
 have h1 : IntKind.u64.wrap (R.length : Int) = R.length := wru64 (by omega)
 simp [go_sem, Tryz.C123, hf, h1]
 refine callK_pure (Tryz.len_i R.length hR bx) ?_
 simp [go_sem, hf]
 refine callK_abs (Tryz.pdq_i A R hA hR hk _ hb) ?_
 rintro r bx1 ⟨rfl, rfl⟩
 simp [go_sem, finB_upd, hf]
 exact ret_keep (by simp [go_sem]) ⟨by simp [go_sem], by simp⟩
theorem Tryz.insN_i (v : V) (hv : v = .nils ∨ v = .sl 2 []) (bx : Boxes) : PureCall Tryz.prog 171 [v, .int .i64 0, .int .i64 0, .fn (.func 124) []] bx (.tup []) := by
 refine Tryz.ctr171 fun hb => ?_
 rcases hv with rfl | rfl
 · simp [go_sem, Tryz.C171, hb, wr64]
   refine pw_upto 0 (fun _ => ⟨53, slk [(0, V.nils), (1, V.int IntKind.i64 0), (2, V.int IntKind.i64 0), (3, V.fn (Fn.func 124) []), (8, V.int IntKind.i64 1)], bx⟩) (cov_look (by simp [go_sem]; try rfl)) (fun k hk => absurd hk (by omega)) ?_
   intro N
   simp [go_sem, Tryz.L171_1]
   refine ret_pure ?_ ?_ <;> simp [go_sem]
 · simp [go_sem, Tryz.C171, hb, wr64]
   refine pw_upto 0 (fun _ => ⟨53, slk [(0, (V.sl 2 [])), (1, V.int IntKind.i64 0), (2, V.int IntKind.i64 0), (3, V.fn (Fn.func 124) []), (8, V.int IntKind.i64 1)], bx⟩) (cov_look (by simp [go_sem]; try rfl)) (fun k hk => absurd hk (by omega)) ?_
   intro N
   simp [go_sem, Tryz.L171_1]
   refine ret_pure ?_ ?_ <;> simp [go_sem]
theorem Tryz.pdqN_i (v : V) (hv : v = .nils ∨ v = .sl 2 []) (bx : Boxes) : PureCall Tryz.prog 154 [v, .int .i64 0, .int .i64 0, .int .i64 0, .fn (.func 124) []] bx (.tup []) := by
 refine Tryz.ctr154 fun hb => ?_
 have hi := Tryz.insN_i v hv bx
 rcases hv with rfl | rfl
 · simp [go_sem, Tryz.C154, hb, wr64]
   refine pw_upto 0 (fun _ => ⟨148, slk [(0, V.nils), (1, V.int IntKind.i64 0), (2, V.int IntKind.i64 0), (3, V.int IntKind.i64 0), (4, V.fn (Fn.func 124) []), (10, .bool true), (11, .bool true)], bx⟩) (cov_look (by simp [go_sem]; try rfl)) (fun k hk => absurd hk (by omega)) ?_
   intro N
   simp [go_sem, Tryz.L154_0, wr64]
   refine callK_pure hi ?_
   simp [go_sem]
   refine ret_pure ?_ ?_ <;> simp [go_sem]
 · simp [go_sem, Tryz.C154, hb, wr64]
   refine pw_upto 0 (fun _ => ⟨148, slk [(0, (V.sl 2 [])), (1, V.int IntKind.i64 0), (2, V.int IntKind.i64 0), (3, V.int IntKind.i64 0), (4, V.fn (Fn.func 124) []), (10, .bool true), (11, .bool true)], bx⟩) (cov_look (by simp [go_sem]; try rfl)) (fun k hk => absurd hk (by omega)) ?_
   intro N
   simp [go_sem, Tryz.L154_0, wr64]
   refine callK_pure hi ?_
   simp [go_sem]
   refine ret_pure ?_ ?_ <;> simp [go_sem]
theorem Tryz.sortN_i (v : V) (hv : v = .nils ∨ v = .sl 2 []) (bx : Boxes) : PureCall Tryz.prog 123 [v, .fn (.func 124) []] bx (.tup []) := by
 refine Tryz.ctr123 fun hb => ?_
 have hi := Tryz.pdqN_i v hv bx
 rcases hv with rfl | rfl
 all_goals (
   simp [go_sem, Tryz.C123, hb, wru64]
   refine callK_pure (Tryz.len_i 0 (by omega) bx) ?_
   simp [go_sem]
   refine callK_pure hi ?_
   simp [go_sem]
   refine ret_pure ?_ ?_ <;> simp [go_sem])
end Go.Proofs

set_option linter.unusedSimpArgs false
set_option linter.unusedVariables false
set_option maxRecDepth 100000
namespace Go.Pl
open Go
theorem callM_of_deferE {P : Program} (hm : P.follows .mixedOrders = true) {M : Off} {f : FuncId} {fn : Func} {c : Code} (hf : P.funcs[f]? = some fn) (hb : fn.body = some c) (hres : fn.results = #[])
   {x y r : PC} {d : Tmp} {g : FuncId} {caps : Array Operand} (hc : compile c = erase (.seq x (.seq y (.seq (.reg false [⟨some d, .makeFunc (.func g) #[] caps, none, false⟩, ⟨none, .defer { callee := .value (.tmp d), args := #[], argTypes := #[] }, none, false⟩] []) r))))
   {gn : Func} {cg : Code} (hgf : P.funcs[g]? = some gn) (hgb : gn.body = some cg) {so : List Bool} {lg : List POp} (hgc : compile cg = erase (.regB so lg [])) (hgr : gn.results = #[]) (hge : ∀ vs w, (callFunc g vs).run P w = .ok (.enter g vs) w)
   {args : List V} {bx : Boxes} {D : Boxes → Prop} {E : List V → Boxes → Prop} (hE : E = fun cv bx => opsB P (fun s => ∃ bx', SubBx s.bx bx' ∧ D bx') so lg (initSt gn.ntmps cv bx))
   (h : pw P (.seq x y) (fun e st => e = .normal ∧ opP P false ⟨some d, .makeFunc (.func g) #[] caps, none, false⟩ (fun st2 => ∃ cv : List V, st2.sl d = .fn (.func g) cv ∧
     pw P r (fun e2 st3 => (e2 = .normal ∨ e2 = .ret) ∧ E cv st3.bx) st2) st) (initSt fn.ntmps args bx)) :
   CallM P M f args bx (fun r bx' => r = .tup [] ∧ D bx') := by
 subst hE
 exact callM_of_deferB hm hf hb hres hc hgf hgb hgc hgr hge h
end Go.Pl
namespace Go.Proofs
open Go Go.Pl
theorem WI.beside {bx0 bx : Boxes} {ad : Adr} {s : IW} (h : WI bx0 ad s bx) {b : Nat} (hb : bx b = none) (v : Box) : WI (upd bx0 b (some v)) ad s (upd bx b (some v)) := by
 refine ⟨(finB_upd _ _ _).2 h.fin, fun c hc => ?_, fun c b' e => ?_, h.none_, h.inj⟩
 · by_cases e : c = b
   · rw [e, upd_eq, upd_eq]
   · rw [upd_ne _ _ e, upd_ne _ _ e]
     exact h.ext c (by rwa [upd_ne _ _ e] at hc)
 · obtain ⟨k1, k2, k3⟩ := h.at_ c b' e
   have : b' ≠ b := fun e2 => by rw [e2, hb] at k2; cases k2
   exact ⟨by rw [upd_ne _ _ this, k1], by rw [upd_ne _ _ this, k2], k3⟩
theorem WI.back {bx0 bx : Boxes} {ad : Adr} {s : IW} {b : Nat} {v : Box} (h : WI (upd bx0 b (some v)) ad s bx) (hb : bx0 b = none) : WI bx0 ad s bx ∧ bx b = some v ∧ ∀ c, ad c ≠ some b := by
 refine ⟨⟨h.fin, fun c hc => ?_, fun c b' e => ?_, h.none_, h.inj⟩, ?_, fun c e => ?_⟩
 · have : c ≠ b := fun e => by rw [e] at hc; exact hc hb
   have h2 := h.ext c (by rwa [upd_ne _ _ this])
   rwa [upd_ne _ _ this] at h2
 · obtain ⟨k1, k2, k3⟩ := h.at_ c b' e
   have : b' ≠ b := fun e2 => by rw [e2, upd_eq] at k1; cases k1
   exact ⟨by rwa [upd_ne _ _ this] at k1, k2, k3⟩
 · have h2 := h.ext b (by rw [upd_eq]; simp)
   rwa [upd_eq] at h2
 · have := (h.at_ c b e).1
   rw [upd_eq] at this
   cases this
theorem WI.bx0none {bx0 bx : Boxes} {ad : Adr} {s : IW} (h : WI bx0 ad s bx) {b : Nat} (hb : bx b = none) : bx0 b = none := by
 cases e : bx0 b with
 | none => rfl
 | some x => have := h.ext b (by rw [e]; simp); rw [hb, e] at this; cases this
def preI (s : IW) (x : Ev) : IW := { s.faultIf (decide (x.t < s.now)) 12 with now := if s.now < x.t then x.t else s.now }
def postI (n : Nat) (z : IW × Bool) : IW :=
 let s := z.1.faultIf (!z.2) 13
 { s with flt := s.flt.take n ++ srtF (s.flt.drop n) }
def opsOf : PC → List POp | .regB _ l _ => l | _ => []
theorem WI.setFlt {bx0 bx : Boxes} {ad : Adr} {s : IW} (h : WI bx0 ad s bx) {b : Nat} (hb : ad .flt = some b) (l : List (Int × Int)) (hl : l.length = s.flt.length) :
   WI bx0 ad { s with flt := l } (upd bx b (some (.row tyF 2 (l.map fltV)))) :=
 h.put hb { s with flt := l } (fun c' b' hc _ => by cases c' <;> first | rfl | exact absurd rfl hc | (simp [cont, iwV, stV, hl])) (fun c' => by cases c' <;> exact Iff.rfl) (fun c' o e => by
   cases c' <;> first | exact o | (rw [hb] at e; cases e))
theorem Tryz.sorts_i {bxb bx5 : Boxes} {ad5 : Adr} {s5 : IW} (h : WI bxb ad5 s5 bx5) {p : Nat} (hp : ad5 .w = some p) {b n : Nat} (hb : bx5 b = some (.row 3 1 [.int .i64 n])) (hn1 : n ≤ s5.flt.length) (hn2 : s5.flt.length ≤ n + 12) (hl : s5.flt.length ≤ 100000) (hk : ∀ f, f ∈ s5.flt.drop n → 0 ≤ f.1 ∧ f.1 ≤ 100)
   {D : Boxes → Prop} (hD : ∀ bx6, WI bxb ad5 { s5 with flt := s5.flt.take n ++ srtF (s5.flt.drop n) } bx6 → D bx6) :
   opsB Tryz.prog (fun s => ∃ bx', SubBx s.bx bx' ∧ D bx') [false, false, false, false, false, false, true] (opsOf Tryz.C122) (initSt 9 [.ep (.ptr p 13 0 0) 0, .ptr b 1 0 0] bx5) := by
 rw [initSt_2]
 have hf := h.fin
 obtain ⟨pb, pc, pr, pm, pw', hn⟩ := h.names hp
 have hrow := h.row hn
 unfold stV at hrow
 have hflt := h.fltO
 simp [go_sem, opsOf, Tryz.C122, hf, hrow, hb, hflt.strip, hflt.live]
 cases hfa : ad5 .flt with
 | none =>
   have h0 : s5.flt = [] := h.none_ .flt hfa trivial
   have hn0 : n = 0 := by rw [h0] at hn1; simpa using hn1
   subst hn0
   simp [go_sem, slV, hf]
   refine callK_pure (Tryz.sortN_i _ (.inl rfl) _) ?_
   simp [go_sem, hf]
   refine ⟨bx5, SubBx.refl _, hD bx5 ?_⟩
   have e : s5.flt.take 0 ++ srtF (s5.flt.drop 0) = s5.flt := by rw [h0]; rfl
   rw [e]
   exact h
 | some b2 =>
   obtain ⟨A, hA⟩ : ∃ A, s5.flt.take n = A := ⟨_, rfl⟩
   obtain ⟨R, hR⟩ : ∃ R, s5.flt.drop n = R := ⟨_, rfl⟩
   have hAR : A ++ R = s5.flt := by rw [← hA, ← hR, List.take_append_drop]
   have hAl : A.length = n := by rw [← hA, List.length_take]; omega
   have hRl : R.length = s5.flt.length - n := by rw [← hR, List.length_drop]
   rw [hA, hR] at hD
   rw [hR] at hk
   have hb2 : bx5 b2 = some (.row tyF 2 ((A ++ R).map fltV)) := by rw [hAR]; exact (h.at_ _ _ hfa).2.1
   have h6 := h.setFlt hfa (A ++ srtF R) (by rw [List.length_append, srtF_len, hAl, hRl]; omega)
   rcases Nat.lt_or_ge n s5.flt.length with hlt | hge
   · simp [go_sem, slV, hf, hlt]
     rw [← hRl, ← hAl]
     refine callK_abs (Tryz.sort_i A R (by omega) (by omega) hk hb2) ?_
     rintro r bx6 ⟨rfl, rfl⟩
     simp [go_sem, finB_upd, hf]
     exact ⟨_, SubBx.refl _, hD _ (by simpa using h6)⟩
   · have hR0 : R = [] := List.length_eq_zero_iff.1 (by omega)
     have e6 : A ++ srtF R = s5.flt := by rw [hR0, show srtF [] = [] from rfl, ← hAR, hR0]
     rw [e6] at hD
     rcases Nat.eq_zero_or_pos n with h0 | h0
     · subst h0
       have hA0 : A = [] := List.length_eq_zero_iff.1 hAl
       have hl0 : s5.flt.length = 0 := by omega
       simp [go_sem, slV, hf, hl0]
       have := Tryz.sort_i A R (by omega) (by omega) hk hb2
       rw [hAl, hR0] at this
       refine callK_abs this ?_
       rintro r bx6 ⟨rfl, rfl⟩
       simp [go_sem, finB_upd, hf]
       refine ⟨_, SubBx.refl _, hD _ ?_⟩
       have h6' := h6
       rw [e6] at h6'
       rw [hR0] at e6
       simpa [← e6] using h6'
     · have hlt : ¬ n < s5.flt.length := by omega
       have hne : ¬ n = 0 := by omega
       have heq : (n : Int) = (s5.flt.length : Int) := by omega
       simp [go_sem, slV, hf, hlt, hne, heq]
       refine callK_pure (Tryz.sortN_i _ (.inr rfl) _) ?_
       simp [go_sem, hf]
       exact ⟨bx5, SubBx.refl _, hD bx5 h⟩
set_option maxHeartbeats 2000000 in
theorem Tryz.event_i {bx0 bx : Boxes} {ad : Adr} {s : IW} (h : WI bx0 ad s bx) {p : Nat} (hp : ad .w = some p) (x : Ev) (bi : Int) (g : FuncId) (n0 n1 n2 n3 : Bool) (n4 n5 : Int) (z : IW × Bool)
   (hF : ∀ bx0 bx ad, WI bx0 ad (preI s x) bx → ad .w = some p → AbsCall Tryz.prog g [.ptr p 13 0 0, evW x bi] bx (StepI bx0 ad z)) (hl : s.flt.length ≤ 80000) (hl2 : s.flt.length ≤ z.1.flt.length) (hl3 : z.1.flt.length ≤ s.flt.length + 10) (hk : ∀ f, f ∈ z.1.flt.drop s.flt.length → 0 ≤ f.1 ∧ f.1 ≤ 100) :
   AbsCall Tryz.prog 89 [.ptr p 13 0 0, .agg [.bool n0, .bool n1, .bool n2, .bool n3, .int .i64 n4, .int .i64 n5, .fn (.func g) []], evW x bi] bx (StepV bx0 ad (postI s.flt.length z)) := by
 refine ⟨Tryz.en89, fun β M => ?_⟩
 obtain ⟨c, hb, hc⟩ := Tryz.comp89
 obtain ⟨cg, hgb, hgc⟩ := Tryz.comp122
 obtain ⟨E, hE⟩ : ∃ E : List V → Boxes → Prop, E = fun cv bx => opsB Tryz.prog (fun s' => ∃ bx', SubBx s'.bx bx' ∧ ∃ ad', Keep ad ad' ∧ WI bx0 ad' (postI s.flt.length z) bx') [false, false, false, false, false, false, true] (opsOf Tryz.C122) (initSt Tryz.f122.ntmps cv bx) := ⟨_, rfl⟩
 refine callM_of_deferE (by kernel_rfl) Tryz.func89 hb (by kernel_rfl) hc Tryz.func122 hgb hgc (by kernel_rfl) Tryz.en122 hE ?_ β
 rw [Tryz.nt122] at hE
 have hf := h.fin
 obtain ⟨pb, pc, pr, pm, pw', hn⟩ := h.names hp
 have hrow := h.row hn
 unfold stV at hrow
 have hflt := h.fltO
 have hlen := fun bx2 => own_len (bx2 := bx2) (t := 31) hflt Tryz.knd31
 simp [go_sem, hflt.strip, hflt.live] at hlen
 rw [Tryz.nt89, initSt_3]
 simp [go_sem, hf, hrow, hflt.strip, hflt.live, hlen, evW, iI]
 intro b hb6
 have hnp : p ≠ b := by rintro rfl; rw [hrow] at hb6; cases hb6
 have h1 := h.beside hb6 (.row 3 1 [.int .i64 s.flt.length])
 have hb0 := h.bx0none hb6
 obtain ⟨bxb, hbxb⟩ : ∃ bxb, upd bx0 b (some (.row 3 1 [.int .i64 s.flt.length])) = bxb := ⟨_, rfl⟩
 obtain ⟨bx1, hbx1⟩ : ∃ bx1, upd bx b (some (.row 3 1 [.int .i64 s.flt.length])) = bx1 := ⟨_, rfl⟩
 rw [hbxb, hbx1] at h1
 rw [hbx1]
 have hf1 := h1.fin
 have hrow1 := h1.row hn
 unfold stV at hrow1
 have evg : V.agg [V.int .i64 x.kind, V.int .i64 bi, V.int .i64 x.t, V.int .i64 x.call, V.int .i64 x.conn, V.int .i64 x.of_, V.int .i64 x.n, V.bool x.yes] = evW x bi := rfl
 have hnn : ∀ (ad3 : Adr) (bx3 : Boxes), Keep ad ad3 → WI bxb ad3 (preI s x) bx3 → AbsCall Tryz.prog g [.ptr p 13 0 0, evW x bi] bx3 (StepI bxb ad3 z) := fun ad3 bx3 hk3 h3 => hF _ _ _ h3 (hk3 _ _ hp rfl)
 have hpost : ∀ (ad5 : Adr) (bx5 : Boxes), Keep ad ad5 → WI bxb ad5 (z.1.faultIf (!z.2) 13) bx5 → E [.ep (.ptr p 13 0 0) 0, .ptr b 1 0 0] bx5 := by
   intro ad5 bx5 hk5 h5
   rw [hE]
   rw [← hbxb] at h5
   obtain ⟨_, hb5, _⟩ := h5.back hb0
   have hlf : (z.1.faultIf (!z.2) 13).flt.length ≤ z.1.flt.length + 1 ∧ s.flt.length ≤ (z.1.faultIf (!z.2) 13).flt.length ∧ ∀ f, f ∈ (z.1.faultIf (!z.2) 13).flt.drop s.flt.length → 0 ≤ f.1 ∧ f.1 ≤ 100 := by
     unfold IW.faultIf IW.fault
     split
     · refine ⟨by simp, by simp; omega, fun f hf => ?_⟩
       rw [List.drop_append_of_le_length hl2] at hf
       rcases List.mem_append.1 hf with hf | hf
       · exact hk f hf
       · simp at hf; subst hf; exact ⟨by show (0 : Int) ≤ 13; decide, by show (13 : Int) ≤ 100; decide⟩
     · exact ⟨by omega, hl2, hk⟩
   refine Tryz.sorts_i h5 (hk5 _ _ hp rfl) hb5 hlf.2.1 (by omega) (by omega) hlf.2.2 fun bx6 h6 => ?_
   exact ⟨ad5, hk5, (h6.back hb0).1⟩
 by_cases c1 : x.t < s.now
 · simp [go_sem, hf1, hrow1, c1, iI]
   refine callK_abs (Tryz.fault_i h1 hn.w 12 (by omega)) ?_
   rintro r bx2 ⟨rfl, ad2, hk2, h2⟩
   have hf2 := h2.fin
   have hn2 := hn.keep hk2
   have hrow2 := h2.row hn2
   unfold stV at hrow2
   have hnow : (s.fault 12).now = s.now := rfl
   have h3 := h2.world hn2 (if s.now < x.t then x.t else s.now) (s.fault 12).at_ (s.fault 12).stop
   have hpr : preI s x = { s.fault 12 with now := if s.now < x.t then x.t else s.now } := by unfold preI IW.faultIf; rw [if_pos (by simpa using c1)]
   unfold stV at h3
   simp only [iI] at h3
   simp [go_sem, hf2, hrow2, iI, hnow, c1]
   generalize (upd bx2 p (some (Box.row tyS 13 [V.agg [V.sl 4 (List.map limV (s.fault 12).lims), V.int IntKind.i64 (s.fault 12).most, V.sl 8 (List.map exV (s.fault 12).evs), V.int IntKind.i64 (if s.now < x.t then x.t else s.now), V.int IntKind.i64 (s.fault 12).at_, V.own pb 6 0 (s.fault 12).bks.length, V.mp pc, slV (ad2 Cel.ord) 1 (s.fault 12).ord.length, V.mp pr, V.mp pm, V.mp pw', V.bool (s.fault 12).stop, slV (ad2 Cel.flt) 2 (s.fault 12).flt.length]]))) = bx3 at *
   have h3 : WI bxb ad2 (preI s x) bx3 := by rw [hpr]; exact h3
   have hf3 := h3.fin
   rw [evg]
   refine callK_abs (hnn ad2 bx3 hk2 h3) ?_
   rintro r bx4 ⟨rfl, ad4, hk4, h4⟩
   have hk4 : Keep ad ad4 := (hk2).trans hk4
   have hf4 := h4.fin
   cases hz2 : z.2
   · simp [go_sem, hf4]
     refine callK_abs (Tryz.fault_i h4 (hk4 _ _ hp rfl) 13 (by omega)) ?_
     rintro r bx5 ⟨rfl, ad5, hk5, h5⟩
     simp [go_sem]
     exact hpost ad5 bx5 (hk4.trans hk5) (by rw [hz2]; exact h5)
   · simp [go_sem]
     exact hpost ad4 bx4 hk4 (by rw [hz2]; exact h4)
 · have h3 := h1.world hn (if s.now < x.t then x.t else s.now) s.at_ s.stop
   have hpr : preI s x = { s with now := if s.now < x.t then x.t else s.now } := by unfold preI IW.faultIf; rw [if_neg (by simpa using c1)]
   unfold stV at h3
   simp only [iI] at h3
   simp [go_sem, hf1, hrow1, c1, iI]
   generalize (upd bx1 p (some (Box.row tyS 13 [V.agg [V.sl 4 (List.map limV s.lims), V.int IntKind.i64 s.most, V.sl 8 (List.map exV s.evs), V.int IntKind.i64 (if s.now < x.t then x.t else s.now), V.int IntKind.i64 s.at_, V.own pb 6 0 s.bks.length, V.mp pc, slV (ad Cel.ord) 1 s.ord.length, V.mp pr, V.mp pm, V.mp pw', V.bool s.stop, slV (ad Cel.flt) 2 s.flt.length]]))) = bx3 at *
   have h3 : WI bxb ad (preI s x) bx3 := by rw [hpr]; exact h3
   have hf3 := h3.fin
   rw [evg]
   refine callK_abs (hnn ad bx3 (Keep.refl ad) h3) ?_
   rintro r bx4 ⟨rfl, ad4, hk4, h4⟩
   have hk4 : Keep ad ad4 := (Keep.refl ad).trans hk4
   have hf4 := h4.fin
   cases hz2 : z.2
   · simp [go_sem, hf4]
     refine callK_abs (Tryz.fault_i h4 (hk4 _ _ hp rfl) 13 (by omega)) ?_
     rintro r bx5 ⟨rfl, ad5, hk5, h5⟩
     simp [go_sem]
     exact hpost ad5 bx5 (hk4.trans hk5) (by rw [hz2]; exact h5)
   · simp [go_sem]
     exact hpost ad4 bx4 hk4 (by rw [hz2]; exact h4)
end Go.Proofs

set_option linter.unusedSimpArgs false
set_option linter.unusedVariables false
set_option maxRecDepth 100000
namespace Go.Proofs
open Go Go.Pl
def stepI (s : IW) (x : Ev) : IW × Bool := match x.kind.toNat with
 | 1 => beginI s x
 | 2 => pickI s x
 | 3 => waitI s x
 | 4 => leaveI s x
 | 5 => dialI s x
 | 6 => dialledI s x
 | 7 => openI s x
 | 8 => leaseI s x
 | 9 => sendI s x
 | 10 => readI s x
 | 11 => freeI s x
 | 12 => idleI s x
 | 13 => closeI s x
 | 14 => markI s x
 | 15 => tripI s x
 | 16 => reportI s x
 | 17 => endI s x
 | 18 => stopI s
 | _ => overI s
theorem lkI_iff {α : Type} (l : List (Int × α)) (k : Int) : (lkI l k).isSome = true ↔ k ∈ l.map (·.1) := by
 unfold lkI
 rw [List.findIdx?_isSome, List.any_eq_true, List.mem_map]
 constructor
 · rintro ⟨q, h1, h2⟩
   exact ⟨q, h1, by simpa using h2⟩
 · rintro ⟨q, h1, h2⟩
   exact ⟨q, h1, by simpa using h2⟩
theorem lkI_mem {α : Type} {l : List (Int × α)} {k : Int} {j : Nat} (h : lkI l k = some j) : k ∈ l.map (·.1) := (lkI_iff l k).1 (by rw [h]; rfl)
structure InvI (s : IW) : Prop where
 ord : s.ord = s.cns.map (·.num)
 nod : (s.cns.map (·.num)).Nodup
 beg : ∀ c, c ∈ s.cns → c.st = 1 → c.call ∈ s.rqs.map (·.1)
 bsy : ∀ q, q ∈ s.busy → q.1 ∈ s.rqs.map (·.1)
structure CI (l : List Int) (c w : Nat) (s s' : IW) : Prop where
 evs : s'.evs = s.evs
 lims : s'.lims = s.lims
 most : s'.most = s.most
 at_ : s'.at_ = s.at_
 len : s'.bks.length = s.bks.length
 cns : s'.cns.length ≤ s.cns.length + c
 wts : ∀ m, (∀ b, b ∈ s.bks → b.waits.length ≤ m) → ∀ b, b ∈ s'.bks → b.waits.length ≤ m + w
 inv : InvI s → InvI s'
 flt : ∃ E : List Int, s'.flt = s.flt ++ E.map (fun k => (k, s.at_)) ∧ E.Sublist l
theorem CI.refl (s : IW) : CI [] 0 0 s s := ⟨rfl, rfl, rfl, rfl, rfl, Nat.le_refl _, fun m h => h, fun h => h, [], by simp, .refl _⟩
theorem CI.trans {l l' : List Int} {c w c' w' : Nat} {s s' s2 : IW} (h : CI l c w s s') (h' : CI l' c' w' s' s2) : CI (l ++ l') (c + c') (w + w') s s2 := by
 obtain ⟨E, hE, hs⟩ := h.flt
 obtain ⟨E', hE', hs'⟩ := h'.flt
 refine ⟨h'.evs.trans h.evs, h'.lims.trans h.lims, h'.most.trans h.most, h'.at_.trans h.at_, h'.len.trans h.len, by have := h.cns; have := h'.cns; omega, fun m hm b hb => ?_, fun hi => h'.inv (h.inv hi), E ++ E', ?_, hs.append hs'⟩
 · have := h'.wts _ (h.wts m hm) b hb
   omega
 · rw [hE', hE, h.at_, List.map_append, List.append_assoc]
theorem CI.le {l l' : List Int} {c w c' w' : Nat} {s s' : IW} (h : CI l c w s s') (hl : l.Sublist l') (hc : c ≤ c') (hw : w ≤ w') : CI l' c' w' s s' := by
 obtain ⟨E, hE, hs⟩ := h.flt
 exact ⟨h.evs, h.lims, h.most, h.at_, h.len, by have := h.cns; omega, fun m hm b hb => by have := h.wts m hm b hb; omega, h.inv, E, hE, hs.trans hl⟩
theorem CI.fault (s : IW) (k : Int) : CI [k] 0 0 s (s.fault k) := ⟨rfl, rfl, rfl, rfl, rfl, Nat.le_refl _, fun m h => h, fun h => ⟨h.ord, h.nod, h.beg, h.bsy⟩, [k], rfl, .refl _⟩
theorem CI.faultIf (s : IW) (b : Bool) (k : Int) : CI [k] 0 0 s (s.faultIf b k) := by
 unfold IW.faultIf
 split
 · exact CI.fault s k
 · exact (CI.refl s).le (List.nil_sublist _) (Nat.le_refl _) (Nat.le_refl _)
theorem CI.bks (s : IW) (i : Nat) (b : IB) {w : Nat} (hb : ∀ m, (∀ b, b ∈ s.bks → b.waits.length ≤ m) → b.waits.length ≤ m + w) : CI [] 0 w s { s with bks := s.bks.set i b } := by
 refine ⟨rfl, rfl, rfl, rfl, by simp, Nat.le_refl _, fun m hm b' hb' => ?_, fun h => ⟨h.ord, h.nod, h.beg, h.bsy⟩, [], by simp, .refl _⟩
 rcases List.mem_or_eq_of_mem_set hb' with h | rfl
 · have := hm _ h
   omega
 · exact hb m hm
theorem getD_wts {s : IW} {m : Nat} (h : ∀ b, b ∈ s.bks → b.waits.length ≤ m) (i : Nat) : (s.bks.getD i ib0).waits.length ≤ m := by
 rw [List.getD_eq_getElem?_getD]
 cases e : s.bks[i]? with
 | none => exact Nat.zero_le _
 | some b => exact h b (List.mem_of_getElem? e)
theorem CI.setB (s : IW) (i : Nat) (b : IB) (hb : b.waits = (s.bks.getD i ib0).waits) : CI [] 0 0 s (s.setB i b) := CI.bks s i b fun m hm => by rw [hb]; exact getD_wts hm i
theorem keys_set (l : List (Int × IR)) (i : Nat) (r : IR) : (l.set i ((l.getD i (0, ir0)).1, r)).map (·.1) = l.map (·.1) := by
 apply List.ext_getElem?
 intro j
 rw [List.getElem?_map, List.getElem?_map, List.getElem?_set]
 by_cases e : i = j
 · subst e
   by_cases h : i < l.length
   · simp [h]
   · simp [h]
 · simp [e]
theorem CI.setR (s : IW) (i : Nat) (r : IR) : CI [] 0 0 s (s.setR i r) := by
 have e : (s.setR i r).rqs.map (·.1) = s.rqs.map (·.1) := keys_set s.rqs i r
 exact ⟨rfl, rfl, rfl, rfl, rfl, Nat.le_refl _, fun m h => h, fun h => ⟨h.ord, h.nod, by rw [e]; exact h.beg, by rw [e]; exact h.bsy⟩, [], by simp [IW.setR], .refl _⟩
theorem nums_set (l : List IC) (i : Nat) (c : IC) (hc : c.num = (l.getD i ic0).num) : (l.set i c).map (·.num) = l.map (·.num) := by
 apply List.ext_getElem?
 intro j
 rw [List.getElem?_map, List.getElem?_map, List.getElem?_set]
 by_cases e : i = j
 · subst e
   by_cases h : i < l.length
   · simp [h] at hc ⊢
     exact hc
   · simp [h]
 · simp [e]
theorem CI.setC (s : IW) (i : Nat) (c : IC) (hc : c.num = (s.cns.getD i ic0).num) (hq : c.st = 1 → c.call ∈ s.rqs.map (·.1)) : CI [] 0 0 s (s.setC i c) := by
 have e := nums_set s.cns i c hc
 refine ⟨rfl, rfl, rfl, rfl, rfl, by simp [IW.setC], fun m h => h, fun h => ⟨?_, ?_, fun c' hc' h1 => ?_, h.bsy⟩, [], by simp [IW.setC], .refl _⟩
 · show s.ord = (s.cns.set i c).map (·.num)
   rw [e]
   exact h.ord
 · show ((s.cns.set i c).map (·.num)).Nodup
   rw [e]
   exact h.nod
 · by_cases hi : i < s.cns.length
   · rcases List.mem_or_eq_of_mem_set hc' with h2 | rfl
     · exact h.beg c' h2 h1
     · exact hq h1
   · have e2 : s.cns.set i c = s.cns := List.set_eq_of_length_le (by omega)
     have hc' : c' ∈ s.cns.set i c := hc'
     rw [e2] at hc'
     exact h.beg c' hc' h1
theorem putK_keys {α : Type} {l : List (Int × α)} {k : Int} {x : α} {q : Int × α} (h : q ∈ putK l k x) : q.1 = k ∨ q ∈ l := by
 unfold putK at h
 split at h
 · rcases List.mem_or_eq_of_mem_set h with h | rfl
   · exact .inr h
   · exact .inl rfl
 · rcases List.mem_append.1 h with h | h
   · exact .inr h
   · simp at h
     exact .inl (by rw [h])
theorem delK_sub {α : Type} {l : List (Int × α)} {k : Int} {q : Int × α} (h : q ∈ delK l k) : q ∈ l := by
 unfold delK at h
 split at h
 · exact List.mem_of_mem_eraseIdx h
 · exact h
theorem CI.becomes (s : IW) (x : Ev) (q : IP) (hq : q ≠ ip0 → x.call ∈ s.rqs.map (·.1)) : CI [] 0 0 s (becomesI s x q) := by
 unfold becomesI
 split
 · exact ⟨rfl, rfl, rfl, rfl, rfl, Nat.le_refl _, fun m h => h, fun h => ⟨h.ord, h.nod, h.beg, fun q hq => h.bsy q (delK_sub hq)⟩, [], by simp, .refl _⟩
 · rename_i hne
   refine ⟨rfl, rfl, rfl, rfl, rfl, Nat.le_refl _, fun m h => h, fun h => ⟨h.ord, h.nod, h.beg, fun q' hq' => ?_⟩, [], by simp, .refl _⟩
   rcases putK_keys hq' with e | hm
   · rw [e]; exact hq hne
   · exact h.bsy q' hm
theorem dropJ_len (l : List Int) (n : Int) : (dropJ l n).length ≤ l.length := List.length_filter_le _ _
theorem CI.served (s : IW) (x : Ev) : CI [] 0 0 s (servedI s x) := CI.bks s _ _ fun m hm => Nat.le_trans (dropJ_len _ _) (getD_wts hm _)
theorem busyOf_mem {s : IW} {call : Int} (h : busyOf s call ≠ ip0) (hi : InvI s) : call ∈ s.rqs.map (·.1) := by
 unfold busyOf at h
 split at h
 · rename_i j hj
   obtain ⟨hl, hk⟩ := lkI_lt hj
   rw [← hk]
   exact hi.bsy _ (List.getElem_mem hl)
 · exact absurd rfl h
theorem waits_mem {s : IW} {x : Ev} (h : waitsI s x = true) (hi : InvI s) : x.call ∈ s.rqs.map (·.1) := by
 refine busyOf_mem (fun e => ?_) hi
 unfold waitsI at h
 rw [e] at h
 simp [ip0] at h
theorem may_mem {s : IW} {x : Ev} (h : mayI s x = true) (hi : InvI s) : x.call ∈ s.rqs.map (·.1) := by
 unfold mayI at h
 rw [Bool.or_eq_true] at h
 rcases h with h | h
 · exact waits_mem h hi
 · unfold readyI at h
   split at h
   · rename_i i hi2
     split at hi2
     · rename_i j hj
       exact lkI_mem hj
     · cases hi2
   · cases h
theorem own_isI {s : IW} {x : Ev} {i : Nat} (h : ownI s x = some i) : (s.cns.getD i ic0).st = 1 ∧ (s.cns.getD i ic0).call = x.call := by
 unfold ownI at h
 split at h
 · rename_i j hj
   split at h
   · rename_i h2
     injection h with h
     rw [← h]
     exact h2
   · cases h
 · cases h
theorem own_mem {s : IW} {x : Ev} {i : Nat} (h : ownI s x = some i) (hi : InvI s) : x.call ∈ s.rqs.map (·.1) := by
 have h1 := own_atI h
 obtain ⟨h2, h3⟩ := own_isI h
 rw [← h3]
 refine hi.beg _ ?_ h2
 rw [List.getD_eq_getElem?_getD, List.getElem?_eq_getElem h1]
 exact List.getElem_mem h1
theorem CI.dialled (s : IW) (x : Ev) : CI [] 0 0 s (dialledI s x).1 := by
 unfold dialledI
 split
 · dsimp only
   exact (CI.setB s x.bk { s.bks.getD x.bk ib0 with dials := w64 ((s.bks.getD x.bk ib0).dials - 1) } rfl).trans (CI.becomes (s.setB x.bk { s.bks.getD x.bk ib0 with dials := w64 ((s.bks.getD x.bk ib0).dials - 1) }) x ip0 fun h => absurd rfl h)
 · exact CI.refl s
theorem dialled_rqs (s : IW) (x : Ev) : (dialledI s x).1.rqs = s.rqs ∧ (dialledI s x).1.cns = s.cns ∧ ((dialledI s x).2 = true → busyOf s x.call ≠ ip0) := by
 unfold dialledI
 split
 · rename_i h
   refine ⟨?_, ?_, fun _ e => ?_⟩
   · dsimp only; unfold becomesI; split <;> rfl
   · dsimp only; unfold becomesI; split <;> rfl
   · rw [e] at h; simp [ip0] at h
 · exact ⟨rfl, rfl, fun h => by cases h⟩
theorem CI.opened (s : IW) (c : IC) (hn : c.num ∉ s.cns.map (·.num)) (hs : c.st ≠ 1) : CI [] 1 0 s { s with cns := s.cns ++ [c], ord := s.ord ++ [c.num] } := by
 refine ⟨rfl, rfl, rfl, rfl, rfl, by simp, fun m h => h, fun h => ⟨?_, ?_, fun c' hc' h1 => ?_, h.bsy⟩, [], by simp, .refl _⟩
 · simp [h.ord]
 · dsimp only
   rw [List.map_append, List.nodup_append]
   refine ⟨h.nod, by simp, fun a ha b hb => ?_⟩
   simp at hb
   rw [hb]
   exact fun e => hn (e ▸ ha)
 · rcases List.mem_append.1 hc' with h2 | h2
   · exact h.beg c' h2 h1
   · simp at h2
     rw [h2] at h1
     exact absurd h1 hs
theorem fi_rqs (s : IW) (b : Bool) (k : Int) : (s.faultIf b k).rqs = s.rqs ∧ (s.faultIf b k).cns = s.cns ∧ (s.faultIf b k).bks = s.bks := by unfold IW.faultIf; split <;> exact ⟨rfl, rfl, rfl⟩
theorem CI.take (s : IW) (i : Nat) (x : Ev) (hm : x.call ∈ s.rqs.map (·.1)) : CI [] 0 0 s (takeI s i x) := by
 unfold takeI
 have h1 := CI.setC s i { s.cns.getD i ic0 with st := 1, call := x.call, leases := w64 ((s.cns.getD i ic0).leases + 1) } rfl (fun _ => hm)
 exact h1.trans (CI.becomes (s.setC i { s.cns.getD i ic0 with st := 1, call := x.call, leases := w64 ((s.cns.getD i ic0).leases + 1) }) x ⟨false, false, true⟩ (fun _ => hm))
def StepCI (s s' : IW) : Prop := ∃ l : List Int, (l.Nodup ∧ (∀ k, k ∈ l → 1 ≤ k ∧ k ≤ 11) ∧ l.length ≤ 3) ∧ CI l 1 1 s s'
theorem CI.sub {l : List Int} {c w : Nat} {s s' : IW} (h : CI l c w s s') (hl : l.Nodup ∧ (∀ k, k ∈ l → 1 ≤ k ∧ k ≤ 11) ∧ l.length ≤ 3 := by decide) (hc : c ≤ 1 := by decide) (hw : w ≤ 1 := by decide) : StepCI s s' := ⟨l, hl, h.le (.refl _) hc hw⟩
theorem step_ci (s : IW) (x : Ev) (hi : InvI s) : StepCI s (stepI s x).1 := by
 unfold stepI
 split
 · unfold beginI
   split
   · exact (CI.refl s).sub
   · refine ⟨[], by decide, rfl, rfl, rfl, rfl, rfl, Nat.le_add_right _ _, fun m h b hb => Nat.le_succ_of_le (h b hb), fun h => ⟨h.ord, h.nod, fun c hc h1 => ?_, fun q hq => ?_⟩, [], by simp, List.nil_sublist _⟩
     · rw [List.map_append]; exact List.mem_append_left _ (h.beg c hc h1)
     · rw [List.map_append]; exact List.mem_append_left _ (h.bsy q hq)
 · unfold pickI
   split
   · exact (CI.refl s).sub
   · rename_i i hr
     dsimp only
     obtain ⟨b, hb⟩ : ∃ b, s.bks.getD x.bk ib0 = b := ⟨_, rfl⟩
     rw [hb]
     have h1 := CI.faultIf s (b.down || decide (b.brk = 1)) 7
     generalize e1 : s.faultIf (b.down || decide (b.brk = 1)) 7 = s1 at *
     have hb1 : s1.bks = s.bks := by rw [← e1]; unfold IW.faultIf; split <;> rfl
     have h2 : CI [8] 0 0 s1 (if b.brk = 2 then (s1.faultIf (decide (0 < b.probe) && decide (b.probe ≠ x.call)) 8).setB x.bk { b with probe := x.call } else s1) := by
       split
       · have h3 := CI.faultIf s1 (decide (0 < b.probe) && decide (b.probe ≠ x.call)) 8
         generalize e2 : s1.faultIf (decide (0 < b.probe) && decide (b.probe ≠ x.call)) 8 = s2 at *
         have hb2 : s2.bks = s1.bks := by rw [← e2]; unfold IW.faultIf; split <;> rfl
         exact h3.trans (CI.setB s2 x.bk { b with probe := x.call } (by rw [hb2, hb1, hb]))
       · exact (CI.refl s1).le (List.nil_sublist _) (Nat.le_refl _) (Nat.le_refl _)
     exact (((h1.trans h2).trans (CI.faultIf _ _ 10)).trans (CI.setR _ i _)).sub
 · unfold waitI
   split
   · exact (CI.refl s).sub
   · rename_i hc
     have hm : mayI s x = true := by simp at hc; exact hc.2
     dsimp only
     obtain ⟨b, hb⟩ : ∃ b, s.bks.getD x.bk ib0 = b := ⟨_, rfl⟩
     rw [hb]
     have h1 : CI [] 0 1 s (s.setB x.bk { b with waits := b.waits ++ [x.call] }) := CI.bks s x.bk _ fun m hm => by have := getD_wts hm x.bk; rw [hb] at this; simp; omega
     exact ((h1.trans (CI.becomes (s.setB x.bk { b with waits := b.waits ++ [x.call] }) x ⟨false, true, false⟩ fun _ => (show x.call ∈ s.rqs.map (·.1) from may_mem hm hi))).trans (CI.faultIf _ _ 3)).sub
 · unfold leaveI
   split
   · exact ((CI.served s x).trans (CI.becomes _ x ip0 fun h => absurd rfl h)).sub
   · exact (CI.refl s).sub
 · unfold dialI
   split
   · rename_i hm
     dsimp only
     exact (((((CI.faultIf s (firstI s x) 9).trans (CI.served _ x)).trans (CI.becomes _ x ⟨true, false, false⟩ fun _ => by
       have := may_mem hm hi
       unfold IW.faultIf
       split <;> exact this)).trans (CI.setB _ x.bk _ (by rfl))).trans (CI.faultIf _ _ 2)).sub
   · exact (CI.refl s).sub
 · exact (CI.dialled s x).sub
 · unfold openI
   split
   · exact (CI.refl s).sub
   · rename_i hno
     have hd := CI.dialled s x
     have hq := dialled_rqs s x
     dsimp only
     generalize dialledI s x = d at *
     split
     · rename_i hd2
       have hmem : x.call ∈ d.1.rqs.map (·.1) := by rw [hq.1]; exact busyOf_mem (hq.2.2 hd2) hi
       have hnn : x.conn ∉ d.1.cns.map (·.num) := by
         rw [hq.2.1]
         intro hm
         rw [List.findIdx?_eq_none_iff] at hno
         have := hno _ hm
         simp at this
       have h2 := CI.opened d.1 ⟨x.conn, x.bk, 0, d.1.now, -1, 0, 0, 3, 0, 0⟩ hnn (by show (3 : Int) ≠ 1; decide)
       dsimp only at h2
       generalize hs2 : ({ d.1 with cns := d.1.cns ++ [(⟨x.conn, x.bk, 0, d.1.now, -1, 0, 0, 3, 0, 0⟩ : IC)], ord := d.1.ord ++ [x.conn] } : IW) = s2 at *
       have hb2 : d.1.bks = s2.bks := by rw [← hs2]
       have hr2 : s2.rqs = d.1.rqs := by rw [← hs2]
       dsimp only
       split
       · exact (((hd.trans h2).trans (CI.setB s2 x.bk _ (by rw [← hb2]))).trans (CI.take _ _ x (by show x.call ∈ s2.rqs.map (·.1); rw [hr2]; exact hmem))).sub
       · exact ((hd.trans h2).trans (CI.setB s2 x.bk _ (by rw [← hb2]))).sub
     · exact hd.sub
 · unfold leaseI
   split
   · rename_i hm
     split
     · exact (CI.fault s 4).sub
     · rename_i i hti
       dsimp only
       split
       · exact (CI.fault s 4).sub
       · split
         · exact (CI.fault s 1).sub
         · have h1 := CI.faultIf s (firstI s x) 9
           have q1 := (fi_rqs s (firstI s x) 9).1
           generalize s.faultIf (firstI s x) 9 = s1 at *
           obtain ⟨B, hB⟩ : ∃ B, (decide ((s.lims.getD x.bk ⟨0, 0, 0, 0⟩).age ≤ w64 (s.now - (s.cns.getD i ic0).born)) || (decide ((s.cns.getD i ic0).st = 2) && decide ((s.lims.getD x.bk ⟨0, 0, 0, 0⟩).idle ≤ w64 (s.now - (s.cns.getD i ic0).since)))) = B := ⟨_, rfl⟩
           rw [hB]
           have h2 := CI.faultIf s1 B 5
           have q2 := (fi_rqs s1 B 5).1
           generalize s1.faultIf B 5 = s2 at *
           exact (((h1.trans h2).trans (CI.served s2 x)).trans (CI.take _ i x (by show x.call ∈ s2.rqs.map (·.1); rw [q2, q1]; exact may_mem hm hi))).sub
   · exact (CI.refl s).sub
 · unfold sendI
   split
   · exact (CI.fault s 4).sub
   · rename_i i ho
     split
     · exact (CI.refl s).sub
     · rename_i j hj
       dsimp only
       obtain ⟨h2, h3⟩ := own_isI ho
       have hm := own_mem ho hi
       obtain ⟨B, hB⟩ : ∃ B, (!(s.rqs.getD j (0, ir0)).2.idem && decide (0 < (s.rqs.getD j (0, ir0)).2.sent) && decide ((s.rqs.getD j (0, ir0)).2.sent < (s.rqs.getD j (0, ir0)).2.picks)) = B := ⟨_, rfl⟩
       rw [hB]
       have hq := fi_rqs s B 10
       refine ((CI.faultIf s B 10).trans ((CI.setR _ j _).trans (CI.setC _ i _ ?_ fun _ => ?_))).sub
       · show _ = ((s.faultIf B 10).cns.getD i ic0).num
         rw [hq.2.1]
       · dsimp only
         rw [h3]
         show _ ∈ List.map (·.1) ((s.faultIf B 10).rqs.set j (((s.faultIf B 10).rqs.getD j (0, ir0)).1, _))
         rw [keys_set, hq.1]
         exact hm
 · unfold readI
   split
   · exact (CI.fault s 4).sub
   · rename_i i ho
     dsimp only
     obtain ⟨h2, h3⟩ := own_isI ho
     have hm := own_mem ho hi
     have hq := fi_rqs s (decide (x.of_ ≠ x.call)) 6
     exact ((CI.faultIf s _ 6).trans (CI.setC _ i _ (by rw [hq.2.1]) (fun _ => by rw [hq.1]; dsimp only; rw [h3]; exact hm))).sub
 · unfold freeI
   split
   · exact (CI.refl s).sub
   · rename_i i ho
     dsimp only
     exact ((CI.setC s i { s.cns.getD i ic0 with st := if x.yes then 3 else 4, call := 0 } rfl (fun h => by dsimp only at h; split at h <;> exact absurd h (by decide))).trans (CI.becomes _ x ip0 fun h => absurd rfl h)).sub
 · unfold idleI
   split
   · exact (CI.fault s 4).sub
   · dsimp only
     split
     · exact (CI.fault s 4).sub
     · split
       · exact (CI.fault s 1).sub
       · split
         · exact (CI.refl s).sub
         · exact (CI.setC s _ _ (by rfl) (fun h => by dsimp only at h; exact absurd h (by decide))).sub
 · unfold closeI
   split
   · exact (CI.fault s 4).sub
   · rename_i i _
     dsimp only
     split
     · exact (CI.refl s).sub
     · exact ((CI.setC s i { s.cns.getD i ic0 with st := 5, gone := s.now } rfl (fun h => by dsimp only at h; exact absurd h (by decide))).trans (CI.setB (s.setC i { s.cns.getD i ic0 with st := 5, gone := s.now }) x.bk _ (by rfl))).sub
 · exact (CI.setB s x.bk _ (by rfl)).sub
 · exact (CI.setB s x.bk _ (by rfl)).sub
 · unfold reportI
   split
   · exact (CI.refl s).sub
   · dsimp only
     split
     · exact (CI.refl s).sub
     · split
       · exact (CI.setB s x.bk _ (by rfl)).sub
       · exact (CI.refl s).sub
 · unfold endI
   split
   · exact (CI.setR s _ _).sub
   · exact (CI.refl s).sub
 · refine ⟨[], by decide, rfl, rfl, rfl, rfl, rfl, Nat.le_add_right _ _, fun m h b hb => Nat.le_succ_of_le (h b hb), fun h => ⟨h.ord, h.nod, h.beg, h.bsy⟩, [], by simp [stopI], List.nil_sublist _⟩
 · unfold overI
   split
   · exact (CI.faultIf s _ 11).sub
   · exact (CI.refl s).sub
end Go.Proofs

set_option linter.unusedSimpArgs false
set_option linter.unusedVariables false
set_option maxRecDepth 100000
namespace Go.Proofs
open Go Go.Pl
structure Nd where
 call : Bool
 bk : Bool
 conn : Bool
 of_ : Bool
 low : Int
 high : Int
def ndV (n : Nd) : List V := [.bool n.call, .bool n.bk, .bool n.conn, .bool n.of_, iI n.low, iI n.high]
def nd (k : Nat) : Nd := match k with
 | 1 | 17 => ⟨true, false, false, false, 0, 0⟩
 | 2 | 4 | 5 | 6 | 16 => ⟨true, true, false, false, 0, 0⟩
 | 3 => ⟨true, true, false, false, 0, 1000000000000⟩
 | 7 | 8 | 11 => ⟨true, true, true, false, 0, 0⟩
 | 9 => ⟨true, true, true, false, 1, 1000000000⟩
 | 10 => ⟨true, true, true, true, 1, 1000000000⟩
 | 12 | 13 => ⟨false, true, true, false, 0, 0⟩
 | 14 => ⟨false, true, false, false, 0, 0⟩
 | 15 => ⟨false, true, false, false, 0, 2⟩
 | _ => ⟨false, false, false, false, 0, 0⟩
def ruleV (k : Nat) : V := .agg (ndV (nd k) ++ [if k = 0 then .nilf else .fn (.func (68 + k)) []])
def rulesB : Box := .row 86 7 ((List.range 20).map ruleV)
theorem Tryz.rules_i (bx : Boxes) : AbsCall Tryz.prog 34 [] bx fun r bx' => ∃ b, bx b = none ∧ r = .own b 7 0 20 ∧ bx' = upd bx b (some rulesB) := by
 refine Tryz.ctr34 fun hf => ?_
 simp [go_sem, Tryz.C34, hf]
 intro b1 h1 b2 h2 b3 h3
 have e1 : upd bx b1 none = bx := by funext c; by_cases e : c = b1; · rw [e, upd_eq, h1]
                                     · rw [upd_ne _ _ e]
 rw [e1] at h2 h3 ⊢
 have e2 : upd bx b2 none = bx := by funext c; by_cases e : c = b2; · rw [e, upd_eq, h2]
                                     · rw [upd_ne _ _ e]
 rw [e2] at h3 ⊢
 exact ret_keep (by simp [go_sem]) ⟨b3, h3, by simp [go_sem], rfl⟩
def badI (n : Nd) (x : Ev) (b nb : Int) : Bool :=
 decide (x.t < 0) || decide (1000000000000 < x.t) || (n.call && decide (x.call < 1)) || (n.bk && (decide (b < 0) || decide (nb ≤ b))) || (n.conn && decide (x.conn < 1)) || (n.of_ && decide (x.of_ < 1)) || (decide (0 < n.high) && (decide (x.n < n.low) || decide (n.high < x.n)))
theorem Tryz.bad_i (n : Nd) (x : Ev) (b nb : Int) (bx : Boxes) : PureCall Tryz.prog 35 [.agg (ndV n), evW x b, .int .i64 nb] bx (.bool (badI n x b nb)) := by
 refine Tryz.ctr35 fun hf => ?_
 simp [go_sem, Tryz.C35, hf, ndV, evW, iI]
 obtain ⟨nc, nb', nn, no, lo, hi⟩ := n
 dsimp only
 repeat' (with_reducible apply And.intro)
 all_goals first
   | (exact ret_pure (by simp [go_sem]) ⟨by simp [go_sem, badI, Bool.or_assoc], rfl⟩)
   | (intros; grind)
end Go.Proofs

set_option linter.unusedSimpArgs false
set_option linter.unusedVariables false
set_option maxRecDepth 100000
namespace Go.Proofs
open Go Go.Pl
def outI (n lo hi : Int) : Bool := decide (n < lo) || decide (hi < n)
theorem Tryz.outside_i (n lo hi : Int) (bx : Boxes) : PureCall Tryz.prog 110 [.int .i64 n, .int .i64 lo, .int .i64 hi] bx (.bool (outI n lo hi)) := by
 refine Tryz.ctr110 fun hf => ?_
 simp [go_sem, Tryz.C110, hf]
 exact ret_pure (by simp [go_sem]) ⟨by simp [go_sem, outI], rfl⟩
def wrongI (m : Lim) : Bool := outI m.max 1 64 || outI m.queue 0 64 || outI m.idle 1 1000000000000 || outI m.age 1 1000000000000
theorem Tryz.wrong_i (m : Lim) (bx : Boxes) : PureCall Tryz.prog 68 [limV m] bx (.bool (wrongI m)) := by
 refine Tryz.ctr68 fun hf => ?_
 simp [go_sem, Tryz.C68, hf, limV, iI]
 refine callK_pure (Tryz.outside_i _ _ _ bx) ?_
 simp [go_sem]
 refine gK_pure (Tryz.outside_i _ _ _ _) (by simp) (by simp [go_sem]) ?_
 simp [go_sem]
 refine gK_pure (Tryz.outside_i _ _ _ _) (by simp) (by simp [go_sem]) ?_
 simp [go_sem]
 refine gK_pure (Tryz.outside_i _ _ _ _) (by simp) (by simp [go_sem]) ?_
 simp [go_sem]
 exact ret_pure (by simp [go_sem]) ⟨by simp [go_sem, wrongI], rfl⟩
theorem Tryz.IndexM_i (L : List Lim) (hl : L.length ≤ 1000000) (bx : Boxes) : PureCall Tryz.prog 109 [.sl 4 (L.map limV), .fn (.func 68) []] bx (.int .i64 (fIdx wrongI L)) := by
 refine Tryz.ctr109 fun hf => ?_
 simp [go_sem, Tryz.C109, hf]
 refine pw_find L.length (fun i => wrongI (L.getD i ⟨0, 0, 0, 0⟩)) (fun i => ⟨19, slk [(0, .sl 4 (L.map limV)), (1, .fn (.func 68) []), (7, .int .i64 L.length), (8, .int .i64 i)], bx⟩) (cov_look (by simp [go_sem])) (fun i hi hJ N hN => ?_) (fun hJ N => ?_)
 · have hw := wr_succ (k := i) (by omega)
   have hg : L.getD i ⟨0, 0, 0, 0⟩ = L[i] := by simp [hi]
   rw [hg] at hN
   simp [go_sem, Tryz.L109_0, hi, hf, hw]
   refine ⟨Nat.le_refl 4, callK_pure (Tryz.wrong_i L[i] bx) ?_⟩
   cases hpi : wrongI L[i]
   · simp [go_sem, hf, hw]
     exact hN _ hpi (cov_look (by simp [go_sem]))
   · simp [go_sem, hf, hw]
     refine ret_pure (by simp [go_sem]) ⟨?_, rfl⟩
     simp [go_sem, fIdx_hit hi hJ hpi]
 · simp [go_sem, Tryz.L109_0, hf]
   refine ret_pure (by simp [go_sem]) ⟨?_, rfl⟩
   simp [go_sem, fIdx_none hJ]
theorem fIdx_any {α : Type} (p : α → Bool) (l : List α) : decide (0 ≤ fIdx p l) = l.any p := by
 rcases fIdx_or p l with ⟨h1, h2⟩ | ⟨i, hi, h1, h2, _⟩
 · rw [h1]
   symm
   rw [show decide ((0 : Int) ≤ -1) = false by decide, List.any_eq_false]
   intro x hx
   simp [h2 x hx]
 · rw [h1]
   have : l.any p = true := List.any_eq_true.2 ⟨_, List.getElem_mem hi, h2⟩
   rw [this]
   simp
theorem Tryz.ContainsM_i (L : List Lim) (hl : L.length ≤ 1000000) (bx : Boxes) : PureCall Tryz.prog 67 [.sl 4 (L.map limV), .fn (.func 68) []] bx (.bool (L.any wrongI)) := by
 refine Tryz.ctr67 fun hf => ?_
 simp [go_sem, Tryz.C67, hf]
 refine callK_pure (Tryz.IndexM_i L hl bx) ?_
 simp [go_sem]
 exact ret_pure (by simp [go_sem]) ⟨by simp [go_sem, fIdx_any], rfl⟩
def poolV (m : Lim) : V := .agg [iI m.max, iI m.queue, iI m.idle, iI m.age, .nils, .nils, .nils, .nils, .bool true, iI 0, iI 0]
def newI (L : List Lim) : Int := if L.length = 0 ∨ 16 < L.length then 3 else if L.any wrongI then 7 else 0
def newV (w : V) : V := .agg [iI 0, .bool false, w]
set_option maxHeartbeats 1000000 in
theorem Tryz.New_i (L : List Lim) (hl : L.length ≤ 1000000) (bx : Boxes) : AbsCall Tryz.prog 33 [.sl 4 (L.map limV)] bx fun r bx' => bx' = bx ∧ ∃ w, (w = .nils ∨ ∃ es, w = .sl 11 es) ∧ r = .tup [newV w, iI (newI L)] := by
 obtain ⟨Kc, hKc⟩ : ∃ Kc : V → Boxes → Prop, Kc = fun r bx' => bx' = bx ∧ ∃ w, (w = .nils ∨ ∃ es, w = .sl 11 es) ∧ r = .tup [newV w, iI (newI L)] := ⟨_, rfl⟩
 rw [← hKc]
 refine Tryz.ctr33 fun hf => ?_
 have hnone : ∀ (e : Int), newI L = e → Kc (.tup [newV .nils, .int .i64 e]) bx := fun e he => by rw [hKc]; exact ⟨rfl, .nils, .inl rfl, by rw [he]; rfl⟩
 have hold : ∀ (b2 b4 : Nat) (x y z : Box), bx b2 = none → upd bx b2 (some x) b4 = none → Ext bx (upd (upd bx b2 (some y)) b4 (some z)) := by
   intro b2 b4 x y z h2 h4
   have h5 : bx b4 = none := by
     by_cases e : b4 = b2
     · rw [e, h2]
     · rwa [upd_ne _ _ e] at h4
   exact ((Ext.refl bx).upd_own h2 (some y)).upd_own h5 (some z)
 by_cases c1 : L = [] ∨ 16 < L.length
 · have c1' : L = [] ∨ (16 : Int) < (L.length : Int) := by
     rcases c1 with c | c
     · exact .inl c
     · exact .inr (by omega)
   have hz : newI L = 3 := by
     unfold newI
     rw [if_pos]
     rcases c1 with c | c
     · exact .inl (by rw [c]; rfl)
     · exact .inr c
   simp [go_sem, Tryz.C33, hf, c1']
   intro b2 h2 b4 h4
   have n24 : b2 ≠ b4 := by rintro rfl; simp [upd_eq] at h4
   simp [go_sem, hf, n24, n24.symm, upd_eq, upd_ne, finB_upd]
   refine ⟨?_, fun h1 h2 => by
     rcases c1' with c | c
     · exact absurd c h1
     · omega⟩
   refine ret_frz 3 (by simp [go_sem, upd_eq]) ((hold b2 b4 _ _ _ h2 h4).upd_own h2 _) ?_
   simp [go_sem, upd_eq, frz]
   exact hnone 3 hz
 have c2 : ¬ L = [] := fun h => c1 (.inl h)
 have c3 : (L.length : Int) ≤ 16 := by have : ¬ 16 < L.length := fun h => c1 (.inr h); omega
 have c4 : ¬ (16 : Int) < (L.length : Int) := by omega
 cases ha : L.any wrongI
 rotate_left
 · have hz : newI L = 7 := by
     unfold newI
     rw [if_neg, ha]
     · rfl
     · rintro (h | h)
       · exact c2 (List.length_eq_zero_iff.1 h)
       · omega
   simp [go_sem, Tryz.C33, hf, c2, c3, c4]
   intro b2 h2 b4 h4
   have n24 : b2 ≠ b4 := by rintro rfl; simp [upd_eq] at h4
   refine callK_pure (Tryz.ContainsM_i L hl _) ?_
   rw [ha]
   simp [go_sem, hf, n24, n24.symm, upd_eq, upd_ne, finB_upd]
   refine ret_frz 3 (by simp [go_sem, upd_eq]) ((hold b2 b4 _ _ _ h2 h4).upd_own h2 _) ?_
   simp [go_sem, upd_eq, frz]
   exact hnone 7 hz
 · have hz : newI L = 0 := by
     unfold newI
     rw [if_neg, ha]
     · rfl
     · rintro (h | h)
       · exact c2 (List.length_eq_zero_iff.1 h)
       · omega
   simp [go_sem, Tryz.C33, hf, c2, c3, c4]
   intro b2 h2 b4 h4
   have n24 : b2 ≠ b4 := by rintro rfl; simp [upd_eq] at h4
   refine callK_pure (Tryz.ContainsM_i L hl _) ?_
   rw [ha]
   simp [go_sem, hf, n24, n24.symm, upd_eq, upd_ne, finB_upd]
   have h40 : bx b4 = none := by
     by_cases e : b4 = b2
     · rw [e, h2]
     · rwa [upd_ne _ _ e] at h4
   refine pw_for (ι := V × Boxes) L.length (fun k p => FinB p.2 ∧ Ext bx p.2 ∧ p.2 b2 = some (.row 57 3 [newV .nils]) ∧ p.2 b4 = some (.row 57 3 [newV p.1]) ∧ OwnV p.2 154 11 ((L.take k).map poolV) p.1 ∧ NewV bx p.1) (fun k p => ⟨36, slk [(2, .ptr b2 3 0 0), (4, .ptr b4 3 0 0), (21, .sl 4 (L.map limV)), (22, .int .i64 L.length), (23, .int .i64 k)], p.2⟩) (.nils, upd (upd bx b2 (some (.row 57 3 [newV .nils]))) b4 (some (.row 57 3 [newV .nils]))) ⟨(finB_upd _ _ _).2 ((finB_upd _ _ _).2 hf), hold b2 b4 _ _ _ h2 h4, by dsimp only; rw [upd_ne _ _ n24, upd_eq], upd_eq _ _ _, .inl ⟨by simp, rfl⟩, fun b sz o m e => by cases e⟩ (cov_look (by simp [go_sem, newV, iI])) (fun k p hk hJ N hN => ?_) (fun p hJ N => ?_)
   · obtain ⟨v, bx1⟩ := p
     obtain ⟨hf1, hx1, hb2, hb4, ho, hn⟩ := hJ
     dsimp only at hf1 hx1 hb2 hb4 ho hn ⊢
     have hw := wr_succ (k := k) (by omega)
     simp [go_sem, Tryz.L33_0, hk, hf1, hb2, hb4, newV, limV, iI, ho.strip, ho.live, ho.okV, ho.cells]
     intro b6 h6
     have e6 : upd bx1 b6 none = bx1 := by
       funext c
       by_cases e : c = b6
       · rw [e, upd_eq, h6]
       · rw [upd_ne _ _ e]
     rw [e6]
     simp [go_sem, hf1, hb4, newV, iI, ho.strip, ho.live, ho.okV, ho.cells]
     intro b5 h5
     have n45 : b4 ≠ b5 := by rintro rfl; rw [hb4] at h5; cases h5
     have n25 : b2 ≠ b5 := by rintro rfl; rw [hb2] at h5; cases h5
     have ho5 : OwnV (upd bx1 b5 (some (.row 154 11 [poolV L[k]]))) 154 11 ((L.take k).map poolV) v := by
       rcases ho with h | ⟨b, hv, hb⟩
       · exact .inl h
       · exact .inr ⟨b, hv, by rw [upd_ne _ _ (by rintro rfl; rw [hb] at h5; cases h5), hb]⟩
     have hf5 : FinB (upd bx1 b5 (some (.row 154 11 [poolV L[k]]))) := (finB_upd _ _ _).2 hf1
     have hb50 : bx b5 = none := hx1.none h5
     have hx5 : Ext bx (upd bx1 b5 (some (.row 154 11 [poolV L[k]]))) := hx1.upd_own hb50 _
     have hb45 : upd bx1 b5 (some (.row 154 11 [poolV L[k]])) b4 = some (.row 57 3 [newV v]) := by rw [upd_ne _ _ n45, hb4]
     have hb25 : upd bx1 b5 (some (.row 154 11 [poolV L[k]])) b2 = some (.row 57 3 [newV .nils]) := by rw [upd_ne _ _ n25, hb2]
     have hb55 : upd bx1 b5 (some (.row 154 11 [poolV L[k]])) b5 = some (.row 154 11 [poolV L[k]]) := upd_eq _ _ _
     simp only [poolV, iI] at ho5 hf5 hx5 hb45 hb25 hb55
     generalize upd bx1 b5 (some (Box.row 154 11 [V.agg [V.int .i64 L[k].max, V.int .i64 L[k].queue, V.int .i64 L[k].idle, V.int .i64 L[k].age, .nils, .nils, .nils, .nils, .bool true, V.int .i64 0, V.int .i64 0]])) = bx5 at *
     refine own_app (.agg #[.int .i64 0, .int .i64 0, .int .i64 0, .int .i64 0, .slice none 0 0, .slice none 0 0, .slice none 0 0, .slice none 0 0, .bool false, .int .i64 0, .int .i64 0]) ho5 hf5 (news := [poolV L[k]]) Tryz.knd55 Tryz.tsz154 (by simp [go_sem, srcEls, hb55, poolV, iI]) Tryz.tzero154 (by simp [go_sem]) (by decide) (by simp [Tryz.tby154]; omega) (by simp; omega) (by simp [go_sem]) fun v' bx' ha hm _ => ?_
     obtain ⟨e1, e2⟩ := hm.base hx5 hn
     have hne4 : ∀ sz o m, v ≠ .own b4 sz o m := ho5.ne hb45 (by decide)
     have hne2 : ∀ sz o m, v ≠ .own b2 sz o m := ho5.ne hb25 (by decide)
     have hb4' : bx' b4 = _ := (hm.other (by rw [hb45]; simp) hne4).trans hb45
     have hb2' : bx' b2 = _ := (hm.other (by rw [hb25]; simp) hne2).trans hb25
     have ha' : OwnV bx' 154 11 ((L.take (k + 1)).map poolV) v' := by
       rw [List.take_succ_eq_append_getElem hk, List.map_append]; exact ha
     simp [go_sem, hb4', hb2', hm.fin, ha.strip, ha.live, ha.cells, ha.okV, newV, iI, hw]
     exact hN _ (v', upd bx' b4 (some (.row 57 3 [newV v']))) ⟨(finB_upd _ _ _).2 hm.fin, e1.upd_own h40 _, by dsimp only; rw [upd_ne _ _ n24, hb2'], upd_eq _ _ _, ha'.put hb4' (by decide) _, e2⟩ (cov_look (by simp [go_sem, newV, iI]))
   · obtain ⟨v, bx1⟩ := p
     obtain ⟨hf1, hx1, hb2, hb4, ho, hn⟩ := hJ
     dsimp only at hf1 hx1 hb2 hb4 ho hn ⊢
     rw [List.take_of_length_le (Nat.le_refl _)] at ho
     have n24' : b2 ≠ b4 := n24
     have hb20 : bx b2 = none := h2
     simp [go_sem, Tryz.L33_0, hf1, hb2, hb4, newV, iI, ho.strip, ho.live, ho.okV, ho.cells]
     refine ret_frz 3 (by simp [go_sem, upd_eq]) (hx1.upd_own hb20 _) ?_
     have hfz : ∃ w, (w = .nils ∨ ∃ es, w = .sl 11 es) ∧ frz (upd bx1 b2 (some (Box.row 57 3 [V.agg [V.int .i64 0, V.bool false, v]]))) bx 1 v = w := by
       rcases ho with ⟨_, rfl⟩ | ⟨b, rfl, hb⟩
       · exact ⟨.nils, .inl rfl, rfl⟩
       · refine ⟨_, .inr ⟨_, rfl⟩, frz_own1 (bx := upd bx1 b2 _) (by rw [upd_ne _ _ (by rintro rfl; rw [hb2] at hb; cases hb)]; exact hb) (hn _ _ _ _ rfl) (by decide) rfl⟩
     obtain ⟨w, hw1, hw2⟩ := hfz
     have e3 : frz (upd bx1 b2 (some (Box.row 57 3 [V.agg [V.int IntKind.i64 0, V.bool false, v]]))) bx 3 (.tup [.agg [.int .i64 0, .bool false, v], .int .i64 0]) = .tup [newV w, .int .i64 0] := by
       simp only [frz, List.map_cons, List.map_nil, hw2, newV, iI]
     have e4 : resV Tryz.prog ⟨36, slk [(2, V.ptr b2 3 0 0), (3, V.int .i64 0)], upd bx1 b2 (some (Box.row 57 3 [V.agg [V.int IntKind.i64 0, V.bool false, v]]))⟩ [.cell 2 57, .tmp 3] = .tup [.agg [.int .i64 0, .bool false, v], .int .i64 0] := by simp [go_sem, upd_eq]
     rw [e4, e3, hKc, hz]
     exact ⟨rfl, w, hw1, rfl⟩
def logV (L : List Lim) (most : Int) (l : List Ex) : V := .agg [.sl 4 (L.map limV), iI most, .sl 8 (l.map exV)]
def evBad (nb : Nat) (e : Ex) : Bool := decide (e.ev.kind < 1) || decide (20 ≤ e.ev.kind) || badI (nd e.ev.kind.toNat) e.ev e.b nb
def checkI (L : List Lim) (most : Int) (l : List Ex) : Int × Int :=
 if newI L ≠ 0 then (-1, newI L) else if most < 0 ∨ 20 < most then (-1, 7) else if 2000 < l.length then (-1, 3)
 else match l.findIdx? (evBad L.length) with
   | some i => (i, 2)
   | none => (0, 0)
theorem ruleV_take (k : Nat) : V.agg (List.take 6 (ruleV k).cells) = .agg (ndV (nd k)) := rfl
theorem ruleV_len (k : Nat) : (ruleV k).cells.length = 7 := rfl
def ex0 : Ex := ⟨⟨0, 0, 0, 0, 0, 0, 0, false⟩, 0⟩
set_option maxHeartbeats 1000000 in
theorem Tryz.Check_i (L : List Lim) (most : Int) (l : List Ex) (hL : L.length ≤ 1000000) (hl : l.length ≤ 4000000000000000000) (bx : Boxes) : PureCall Tryz.prog 13 [logV L most l] bx (.tup [iI (checkI L most l).1, iI (checkI L most l).2]) := by
 obtain ⟨Kc, hKc⟩ : ∃ Kc : V → Boxes → Prop, Kc = fun r bx' => r = .tup [iI (checkI L most l).1, iI (checkI L most l).2] ∧ bx' = bx := ⟨_, rfl⟩
 show AbsCall _ _ _ _ (fun r bx' => r = .tup [iI (checkI L most l).1, iI (checkI L most l).2] ∧ bx' = bx)
 rw [← hKc]
 refine Tryz.ctr13 fun hf => ?_
 have hdone : ∀ (i e : Int), checkI L most l = (i, e) → Kc (.tup [.int .i64 i, .int .i64 e]) bx := fun i e he => by rw [hKc, he]; exact ⟨rfl, rfl⟩
 obtain ⟨R, hR⟩ : ∃ R, checkI L most l = R := ⟨_, rfl⟩
 rw [hR] at hdone
 unfold checkI at hR
 simp [go_sem, Tryz.C13, hf, logV]
 refine callK_abs (Tryz.New_i L hL bx) ?_
 rintro r bx1 ⟨hb1, w, hw, rfl⟩
 rw [hb1]
 have hwc : w.cells = [w] ∧ okV w = true ∧ w.strip = w ∧ w.liveB = true := by
   rcases hw with rfl | ⟨es, rfl⟩ <;> exact ⟨rfl, rfl, rfl, rfl⟩
 obtain ⟨w1, w2, w3, w4⟩ := hwc
 have hE : ∀ (b : Nat) (x : Box), bx b = none → Ext bx (upd bx b (some x)) := fun b x hb => (Ext.refl bx).upd_own hb _
 by_cases e1 : newI L = 0
 rotate_left
 · rw [if_pos e1] at hR
   simp [go_sem, hf, newV, w1, w2, w3, w4, iI, e1]
   intro b hb
   exact ret_drop (by simp [go_sem]) (hE _ _ hb) (by simp [go_sem]; exact hdone _ _ hR.symm)
 rw [if_neg (by simpa using e1)] at hR
 by_cases c2 : most < 0 ∨ 20 < most
 · rw [if_pos c2] at hR
   simp [go_sem, hf, newV, w1, w2, w3, w4, iI, e1, c2]
   intro b hb
   refine ⟨ret_drop (by simp [go_sem]) (hE _ _ hb) (by simp [go_sem]; exact hdone _ _ hR.symm), fun h1 h2 => ?_⟩
   omega
 rw [if_neg c2] at hR
 have c3 : ¬ most < 0 := fun h => c2 (.inl h)
 have c4 : most ≤ 20 := by have : ¬ 20 < most := fun h => c2 (.inr h); omega
 by_cases c5 : 2000 < l.length
 · rw [if_pos c5] at hR
   have c5' : (2000 : Int) < (l.length : Int) := by omega
   simp [go_sem, hf, newV, w1, w2, w3, w4, iI, e1, c3, c4, c5']
   intro b hb
   refine ⟨fun h => by omega, ret_drop (by simp [go_sem]) (hE _ _ hb) (by simp [go_sem]; exact hdone _ _ hR.symm)⟩
 rw [if_neg c5] at hR
 have c5' : ¬ (2000 : Int) < (l.length : Int) := by omega
 simp [go_sem, hf, newV, w1, w2, w3, w4, iI, e1, c3, c4, c5']
 intro b hb
 refine ⟨fun h => by omega, ?_⟩
 refine callK_abs (Tryz.rules_i _) ?_
 rintro r bx2 ⟨b7, h7, rfl, hbx2⟩
 have hx2 : Ext bx bx2 := by
   rw [hbx2]
   have h70 : bx b7 = none := (hE b (.row 57 3 [.agg [.int .i64 0, .bool false, w]]) hb).none h7
   exact (hE b _ hb).upd_own h70 _
 obtain ⟨RL, hRL⟩ : ∃ RL, (List.range 20).map ruleV = RL := ⟨_, rfl⟩
 have hr7 : bx2 b7 = some (.row 86 7 RL) := by rw [hbx2, upd_eq, ← hRL]; rfl
 have hRl : RL.length = 20 := by rw [← hRL]; rfl
 have hRn : ∀ n, n < 20 → RL[n]? = some (ruleV n) := fun n hn => by rw [← hRL, List.getElem?_map, List.getElem?_range hn]; rfl
 have hRg : ∀ n (h : n < RL.length), n < 20 → RL[n] = ruleV n := fun n h hn => by have := hRn n hn; rw [List.getElem?_eq_getElem h] at this; injection this
 have hf2 : FinB bx2 := by rw [hbx2]; exact (finB_upd _ _ _).2 ((finB_upd _ _ _).2 hf)
 clear hbx2
 simp [go_sem, hf2]
 refine pw_find l.length (fun i => evBad L.length (l.getD i ex0)) (fun i => ⟨66, slk [(1, .ep (.agg [.sl 4 (L.map limV), .int .i64 most, .sl 8 (l.map exV)]) 0), (6, .own b7 7 0 20), (34, .sl 8 (l.map exV)), (35, .int .i64 l.length), (36, .int .i64 i)], bx2⟩) (cov_look (by simp [go_sem])) (fun i hi hJ N hN => ?_) (fun hJ N => ?_)
 · have hg : l.getD i ex0 = l[i] := by simp [hi]
   rw [hg] at hN
   have hw := wr_succ (k := i) (by omega)
   have hbad : evBad L.length l[i] = true → R = ((i : Int), (2 : Int)) := by
     intro hbd
     rw [← hR]
     have : l.findIdx? (evBad L.length) = some i := by
       rw [List.findIdx?_eq_some_iff_getElem]
       refine ⟨hi, hbd, fun j hj => ?_⟩
       have h1 := hJ j hj
       have h2 : j < l.length := by omega
       simp [h2] at h1
       simp [h1]
     rw [this]
   have hself : ∀ b, bx2 b = none → upd bx2 b none = bx2 := fun b hb => by
     funext c
     by_cases e : c = b
     · rw [e, upd_eq, hb]
     · rw [upd_ne _ _ e]
   by_cases k1 : l[i].ev.kind < 1
   · have hbd : evBad L.length l[i] = true := by simp [evBad, k1]
     simp [go_sem, Tryz.L13_0, hf2, hi, exV, evW, iI, k1]
     intro b hb
     rw [hself b hb]
     refine gK_off (.bool false) (by simp [go_sem]) ?_
     simp [go_sem, hf2]
     exact ret_drop (by simp [go_sem]) hx2 (by simp [go_sem]; exact hdone _ _ (hbad hbd))
   by_cases k2 : 20 ≤ l[i].ev.kind
   · have hbd : evBad L.length l[i] = true := by simp [evBad, k2]
     simp [go_sem, Tryz.L13_0, hf2, hi, exV, evW, iI, k1, k2]
     intro b hb
     rw [hself b hb]
     refine gK_off (.bool false) (by simp [go_sem]) ?_
     simp [go_sem, hf2]
     exact ret_drop (by simp [go_sem]) hx2 (by simp [go_sem]; exact hdone _ _ (hbad hbd))
   obtain ⟨n, hn⟩ : ∃ n : Nat, l[i].ev.kind = n := ⟨l[i].ev.kind.toNat, by omega⟩
   have hn20 : n < 20 := by omega
   have k3 : ¬ (n : Int) < 1 := by omega
   have k4 : ¬ (20 : Int) ≤ n := by omega
   have k5 : (n : Int) < 20 := by omega
   have k6 : (1 : Int) ≤ n := by omega
   simp [go_sem, Tryz.L13_0, hf2, hi, exV, evW, iI, hn, k3, k4, k5, k6]
   intro b hb
   rw [hself b hb]
   simp [go_sem, hf2, hr7, hn20, hRl, hRg, ruleV_len, ruleV_take]
   have evh : V.agg [V.int .i64 n, V.int .i64 l[i].b, V.int .i64 l[i].ev.t, V.int .i64 l[i].ev.call, V.int .i64 l[i].ev.conn, V.int .i64 l[i].ev.of_, V.int .i64 l[i].ev.n, V.bool l[i].ev.yes] = evW l[i].ev l[i].b := by simp [evW, iI, hn]
   rw [evh]
   refine gK_pure (Tryz.bad_i (nd n) l[i].ev l[i].b L.length bx2) (by simp [go_sem]) (by simp [go_sem]) ?_
   have he : evBad L.length l[i] = badI (nd n) l[i].ev l[i].b L.length := by
     unfold evBad
     rw [hn]
     simp [k3, k4]
   cases hb2 : badI (nd n) l[i].ev l[i].b L.length
   · rw [hb2] at he
     simp [go_sem, hf2, hw]
     exact hN _ he (cov_look (by simp [go_sem]))
   · rw [hb2] at he
     simp [go_sem, hf2]
     exact ret_drop (by simp [go_sem]) hx2 (by simp [go_sem]; exact hdone _ _ (hbad he))
 · have hz : R = (0, 0) := by
     rw [← hR]
     have : l.findIdx? (evBad L.length) = none := by
       rw [List.findIdx?_eq_none_iff]
       intro x hx
       obtain ⟨i, hi, rfl⟩ := List.getElem_of_mem hx
       have := hJ i hi
       simpa [hi] using this
     rw [this]
   simp [go_sem, Tryz.L13_0, hf2]
   exact ret_drop (by simp [go_sem]) hx2 (by simp [go_sem]; exact hdone _ _ hz)
end Go.Proofs

set_option linter.unusedSimpArgs false
set_option linter.unusedVariables false
namespace Go.Proofs
open Go Go.Pl
def callsR (w : RW) : List Int := w.rqs.map (·.call)
structure Beg (w : RW) : Prop where
 c : ∀ c, c ∈ w.cns → c.st = 1 → c.call ∈ callsR w
 d : ∀ b, b ∈ w.bks → ∀ n, n ∈ b.dials → n ∈ callsR w
 q : ∀ b, b ∈ w.bks → ∀ n, n ∈ b.waits → n ∈ callsR w
structure Chg (f c r q : Nat) (w w' : RW) : Prop where
 evs : w'.evs = w.evs
 lims : w'.lims = w.lims
 most : w'.most = w.most
 len : w'.bks.length = w.bks.length
 flt : w'.flt.length ≤ w.flt.length + f
 cns : w'.cns.length ≤ w.cns.length + c
 rqs : w'.rqs.length ≤ w.rqs.length + r
 que : ∀ m, (∀ b, b ∈ w.bks → b.waits.length ≤ m ∧ b.dials.length ≤ m) → ∀ b, b ∈ w'.bks → b.waits.length ≤ m + q ∧ b.dials.length ≤ m + q
 sub : ∀ n, n ∈ callsR w → n ∈ callsR w'
 beg : Beg w → Beg w'
 pre : w.flt <+: w'.flt
theorem Chg.refl (w : RW) : Chg 0 0 0 0 w w := ⟨rfl, rfl, rfl, rfl, Nat.le_refl _, Nat.le_refl _, Nat.le_refl _, fun m h => h, fun _ h => h, id, List.prefix_rfl⟩
theorem Chg.trans {f c r q f' c' r' q' : Nat} {w w' w'' : RW} (h : Chg f c r q w w') (h' : Chg f' c' r' q' w' w'') : Chg (f + f') (c + c') (r + r') (q + q') w w'' :=
 ⟨h'.evs.trans h.evs, h'.lims.trans h.lims, h'.most.trans h.most, h'.len.trans h.len, by have := h.flt; have := h'.flt; omega, by have := h.cns; have := h'.cns; omega, by have := h.rqs; have := h'.rqs; omega,
   fun m hm b hb => by have := h'.que (m + q) (h.que m hm) b hb; omega, fun n hn => h'.sub n (h.sub n hn), fun hb => h'.beg (h.beg hb), h.pre.trans h'.pre⟩
theorem Chg.le {f c r q f' c' r' q' : Nat} {w w' : RW} (h : Chg f c r q w w') (hf : f ≤ f') (hc : c ≤ c') (hr : r ≤ r') (hq : q ≤ q') : Chg f' c' r' q' w w' :=
 ⟨h.evs, h.lims, h.most, h.len, by have := h.flt; omega, by have := h.cns; omega, by have := h.rqs; omega, fun m hm b hb => by have := h.que m hm b hb; omega, h.sub, h.beg, h.pre⟩
theorem Chg.fault (w : RW) (k : Int) : Chg 1 0 0 0 w (w.fault k) :=
 ⟨rfl, rfl, rfl, rfl, by simp [RW.fault], Nat.le_refl _, Nat.le_refl _, fun m h => h, fun _ h => h, fun h => ⟨h.c, h.d, h.q⟩, by simp [RW.fault]⟩
theorem Chg.faultIf (w : RW) (c : Bool) (k : Int) : Chg 1 0 0 0 w (w.faultIf c k) := by
 unfold RW.faultIf
 split
 · exact Chg.fault w k
 · exact (Chg.refl w).le (by omega) (by omega) (by omega) (by omega)
theorem calls_set {w : RW} {i : Nat} {r : RR} (h : ∀ r0, w.rqs[i]? = some r0 → r.call = r0.call) : callsR (w.setR i r) = callsR w := by
 unfold callsR RW.setR
 apply List.ext_getElem?
 intro j
 rw [List.getElem?_map, List.getElem?_map, List.getElem?_set]
 by_cases e : i = j
 · subst e
   cases hr : w.rqs[i]? with
   | none =>
     have : ¬ i < w.rqs.length := fun hi => by rw [List.getElem?_eq_getElem hi] at hr; cases hr
     simp [this]
   | some r0 =>
     have hi : i < w.rqs.length := (List.getElem?_eq_some_iff.1 hr).1
     simp [hi, h r0 hr]
 · simp [e]
theorem Chg.setR (w : RW) (i : Nat) (r : RR) (h : ∀ r0, w.rqs[i]? = some r0 → r.call = r0.call) : Chg 0 0 0 0 w (w.setR i r) := by
 have hc := calls_set h
 exact ⟨rfl, rfl, rfl, rfl, Nat.le_refl _, Nat.le_refl _, by simp [RW.setR], fun m h => h, fun n hn => by rw [hc]; exact hn, fun hb => ⟨fun c h1 h2 => by rw [hc]; exact hb.c c h1 h2, fun b h1 n h2 => by rw [hc]; exact hb.d b h1 n h2, fun b h1 n h2 => by rw [hc]; exact hb.q b h1 n h2⟩, List.prefix_rfl⟩
theorem Chg.setC (w : RW) (i : Nat) (c : RC) (h : c.st = 1 → Beg w → c.call ∈ callsR w) : Chg 0 0 0 0 w (w.setC i c) :=
 ⟨rfl, rfl, rfl, rfl, Nat.le_refl _, by simp [RW.setC], Nat.le_refl _, fun m h => h, fun n hn => hn, fun hb => ⟨fun d h1 h2 => by
   rcases List.mem_or_eq_of_mem_set h1 with h1 | rfl
   · exact hb.c d h1 h2
   · exact h h2 hb, hb.d, hb.q⟩, List.prefix_rfl⟩
theorem Chg.setB (w : RW) (i : Nat) (x : RB) (q : Nat) (h : ∀ b, w.bks[i]? = some b → x.waits.length ≤ b.waits.length + q ∧ x.dials.length ≤ b.dials.length + q) (hd : Beg w → ∀ b, w.bks[i]? = some b → (∀ n, n ∈ x.dials → n ∈ callsR w) ∧ (∀ n, n ∈ x.waits → n ∈ callsR w)) : Chg 0 0 0 q w (w.setB i x) := by
 have hm : ∀ b, b ∈ (w.setB i x).bks → b ∈ w.bks ∨ (b = x ∧ ∃ b0, w.bks[i]? = some b0) := by
   intro b hb
   unfold RW.setB at hb
   by_cases hi : i < w.bks.length
   · rcases List.mem_or_eq_of_mem_set hb with hb | rfl
     · exact .inl hb
     · exact .inr ⟨rfl, _, List.getElem?_eq_getElem hi⟩
   · simp only [List.set_eq_of_length_le (Nat.le_of_not_lt hi)] at hb
     exact .inl hb
 refine ⟨rfl, rfl, rfl, by simp [RW.setB], Nat.le_refl _, Nat.le_refl _, Nat.le_refl _, fun m h1 b hb => ?_, fun n hn => hn, fun hb => ⟨hb.c, fun b h1 n h2 => ?_, fun b h1 n h2 => ?_⟩, List.prefix_rfl⟩
 · rcases hm b hb with hb | ⟨rfl, b0, h0⟩
   · have := h1 b hb; omega
   · have := h b0 h0
     have := h1 b0 (List.mem_of_getElem? h0)
     omega
 · rcases hm b h1 with h1 | ⟨rfl, b0, h0⟩
   · exact hb.d b h1 n h2
   · exact (hd hb b0 h0).1 n h2
 · rcases hm b h1 with h1 | ⟨rfl, b0, h0⟩
   · exact hb.q b h1 n h2
   · exact (hd hb b0 h0).2 n h2
end Go.Proofs

set_option linter.unusedSimpArgs false
set_option linter.unusedVariables false
namespace Go.Proofs
open Go Go.Pl
theorem Chg.addC (w : RW) (c : RC) (h : c.st = 1 → Beg w → c.call ∈ callsR w) : Chg 0 1 0 0 w { w with cns := w.cns ++ [c] } :=
 ⟨rfl, rfl, rfl, rfl, Nat.le_refl _, by simp, Nat.le_refl _, fun m h => h, fun n hn => hn, fun hb => ⟨fun d h1 h2 => by
   rcases List.mem_append.1 h1 with h1 | h1
   · exact hb.c d h1 h2
   · rw [List.mem_singleton.1 h1] at h2 ⊢; exact h h2 hb, hb.d, hb.q⟩, List.prefix_rfl⟩
end Go.Proofs
