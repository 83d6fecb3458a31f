/- Texts of the proof, put together: EO, ES, EZ, FA, FB, FC, FGa, FG, FKa, FD, FE, FH, FI, FJ, EV, FK, EW, FL, FMa, FM, FN, FO. -/
import Derived.Test.YtkjhfnlnbjmahaaGreatDoorGi
import Derived.Test.YtkjhfnlnbjmahaaGreatDoorGj
import Derived.Test.YtkjhfnlnbjmahaaGreatDoorGf
import Derived.WalkKit
import Derived.WalkMore
import Derived.ScopeJumps
import Derived.BigCall
import Derived.BigGuard
import Derived.Lib.Walk
import Derived.Deep.LoopGhost
import Derived.Deep.Draws
import Derived.Below

set_option linter.unusedSimpArgs false
set_option linter.unusedVariables false
set_option maxRecDepth 100000
namespace Go.Proofs
open Go Go.Pl Go.RowKit
def isN (f : Fd) (nm : List UInt8) : Bool := decide (Lib.toLowerA f.1 = Lib.toLowerA nm)
def getL (l : List Fd) (nm : List UInt8) : List (List UInt8) := (l.filter fun f => isN f nm).map (·.2)
def askE (l : List Fd) (nm : List UInt8) : Int := if chkL l ≠ 0 then chkL l else if tokB nm = true then 0 else 2
theorem Tryz.ask_c {bx : Boxes} (hm : Mk bx) (l : List Fd) (hl : Small l) (nm : List UInt8) (hn : nm.length ≤ 100000) : PureCall Tryz.prog 57 [.sl 2 (l.map fdV), .str nm] bx (.int .i64 (askE l nm)) := by
 refine Tryz.ctr57 fun hf => ?_
 simp [go_sem, Tryz.C57, hf]
 refine callK_pure (Tryz.Check_c hm l hl) ?_
 simp [go_sem]
 refine ⟨fun h => ret_pure (by simp [go_sem]) ⟨by simp [go_sem, askE, h], rfl⟩, fun h => ?_⟩
 refine callK_pure (Tryz.Token_c nm hn bx) ?_
 cases hT : tokB nm
 · simp [go_sem]
   exact ret_pure (by simp [go_sem]) ⟨by simp [go_sem, askE, h, hT], rfl⟩
 · simp [go_sem]
   exact ret_pure (by simp [go_sem]) ⟨by simp [go_sem, askE, h, hT], rfl⟩
theorem Tryz.is_c (bx : Boxes) (f : Fd) (nm : List UInt8) (hf : f.1.length ≤ 100000) (hn : nm.length ≤ 100000) : PureCall Tryz.prog 77 [fdV f, .str nm] bx (.bool (isN f nm)) := by
 refine Tryz.ctr77 fun hb => ?_
 simp [go_sem, Tryz.C77, hb, fdV]
 refine callK_pure (Tryz.rFold_p bx f.1 hf) ?_
 simp [go_sem]
 refine callK_pure (Tryz.rFold_p bx nm hn) ?_
 simp [go_sem]
 exact ret_pure (by simp [go_sem]) ⟨by simp [go_sem, isN], rfl⟩
theorem Tryz.named_c (l : List Fd) (nm : List UInt8) (hn : nm.length ≤ 100000) (bx : Boxes) : PureCall Tryz.prog 58 [.sl 2 (l.map fdV), .str nm] bx (.fn (.func 96) [.ep (.sl 2 (l.map fdV)) 0, .ep (.str (Lib.toLowerA nm)) 0]) := by
 refine Tryz.ctr58 fun hf => ?_
 simp [go_sem, Tryz.C58, hf]
 intro b hb
 refine callK_pure (Tryz.Fold_p _ nm hn) ?_
 simp [go_sem, hf, upd_eq, upd_upd, upd_none hb]
 refine ret_pure (by simp [go_sem]) ⟨?_, rfl⟩
 simp [go_sem]
def namX (l : List Fd) (low : List UInt8) (k : Nat) : Option (List V) := if Lib.toLowerA (l.getD k ([], [])).1 = low then some [.int .i64 k, .str (l.getD k ([], [])).2] else none
theorem Tryz.named_it (l : List Fd) (hl : Small l) (hll : l.length ≤ 1000) (low : List UInt8) (bx : Boxes) : IterS Tryz.prog 96 [.ep (.sl 2 (l.map fdV)) 0, .ep (.str low) 0] l.length (namX l low) bx := by
 intro b J S x hbx hfj hy h0
 refine Tryz.ctr96 fun hb => ?_
 simp [go_sem, Tryz.C96, hb]
 generalize upd bx b (some x) = bx0 at *
 refine pw_loop (ι := Nat × Boxes) (fun p => p.1 ≤ l.length ∧ J p.1 p.2) (fun p => ⟨27, slk [(0, .yl b), (2, .ep (.str low) 0), (6, .sl 2 (l.map fdV)), (7, .int .i64 l.length), (8, .int .i64 p.1)], p.2⟩) (fun p => l.length - p.1) (0, bx0) ⟨by simp, h0⟩ (cov_look (by simp [go_sem])) ?_
 rintro ⟨k, bx1⟩ ⟨hkk, hJ⟩
 dsimp only at hkk hJ ⊢
 by_cases hltk : k < l.length
 · have hw := wr_succ (k := k) (by omega)
   have hg : l.getD k ([], []) = l[k] := by simp [hltk]
   have hsm := hl l[k] (List.getElem_mem hltk)
   have hyl := hy k bx1 hltk hJ
   have hfb := hfj _ _ hJ
   unfold namX at hyl
   rw [hg] at hyl
   simp [go_sem, Tryz.L96_0, hltk, hfb, fdV]
   intro b1 hb1
   rw [upd_none hb1]
   refine callK_pure (Tryz.Fold_p _ _ hsm.1) ?_
   by_cases he : Lib.toLowerA l[k].1 = low
   · simp [go_sem, he, hfb]
     refine ⟨fun _ => ⟨trivial, by simp [go_sem], ?_⟩, fun h => (by cases h)⟩
     refine yldK_abs (hyl.1 _ (by rw [if_pos he])) ?_
     rintro r bx' (⟨rfl, h⟩ | ⟨rfl, h⟩)
     · simp [go_sem, hw, hfj _ _ h]
       exact ⟨(k + 1, bx'), ⟨by dsimp only; omega, h⟩, cov_look (by simp [go_sem, fdV]), by dsimp only; omega⟩
     · simp [go_sem]
       exact ret_pure (by simp [go_sem]) (.inr h)
   · simp [go_sem, he, hfb]
     have e0 : ∀ K st, callG1 Tryz.prog false false (V.yl b).dead [(V.int .i64 k).dead, (V.str l[k].2).dead] (some 23) K st = gY Tryz.prog false b (stripL [(V.int .i64 k).dead, (V.str l[k].2).dead]) (false = true ∧ liveL [(V.int .i64 k).dead, (V.str l[k].2).dead]) (some 23) K st := fun K st => callG1_mkyl false false b _ _ K st
     rw [e0]
     refine ⟨fun h => (by cases h), fun _ => ⟨by simp [go_sem], ?_⟩⟩
     simp [go_sem, hw]
     exact ⟨(k + 1, bx1), ⟨by dsimp only; omega, hyl.2 (by rw [if_neg he])⟩, cov_look (by simp [go_sem, fdV]), by dsimp only; omega⟩
 · have hk' : k = l.length := by omega
   subst hk'
   simp [go_sem, Tryz.L96_0]
   exact ret_pure (by simp [go_sem]) (.inl hJ)
theorem getL_snoc (l : List Fd) (nm : List UInt8) {k : Nat} (hk : k < l.length) : getL (l.take (k + 1)) nm = if isN l[k] nm = true then getL (l.take k) nm ++ [l[k].2] else getL (l.take k) nm := by
 unfold getL
 rw [List.take_succ_eq_append_getElem hk, List.filter_append, List.map_append]
 by_cases h : isN l[k] nm = true <;> simp [h]
theorem getL_len (l : List Fd) (nm : List UInt8) : (getL l nm).length ≤ l.length := by
 unfold getL
 rw [List.length_map]
 exact List.length_filter_le _ _
theorem Tryz.rget_c (l : List Fd) (hl : Small l) (hll : l.length ≤ 1000) (nm : List UInt8) (hn : nm.length ≤ 100000) (bx : Boxes) : PureCall Tryz.prog 52 [.sl 2 (l.map fdV), .str nm] bx (.sl 1 ((getL l nm).map .str)) := by
 refine PureCall.wk (Tryz.ctr52 fun hf => ?_)
 simp [go_sem, Tryz.C52, hf]
 refine pw_for (ι := Boxes × V) l.length (fun k i => Acc bx 9 1 ((getL (l.take k) nm).map .str) i.2 i.1) (fun k i => ⟨28, slk [(0, .sl 2 (l.map fdV)), (1, .str nm), (5, i.2), (6, .int .i64 k)], i.1⟩) (bx, .nils) (acc_nil hf _ _) (cov_look (by simp [go_sem])) (fun k i hk hJ N hN => ?_) (fun i hJ N => ?_)
 · obtain ⟨bx1, v⟩ := i
   dsimp only at hJ ⊢
   have hw := wr_succ (k := k) (by omega)
   have hsn := getL_snoc l nm hk
   have hle := getL_len (l.take k) nm
   rw [List.length_take] at hle
   obtain ⟨hs1, hs2⟩ := hl l[k] (List.getElem_mem hk)
   have cI := Tryz.is_c bx1 l[k] nm hs1 hn
   unfold fdV at cI
   simp [go_sem, Tryz.L52_0, hk, hJ.fin, fdV]
   refine callK_pure cI ?_
   cases hI : isN l[k] nm
   · simp [go_sem, hJ.fin, hw]
     rw [hI, if_neg (by simp)] at hsn
     exact hN _ (bx1, v) (by rw [hsn]; exact hJ) (cov_look (by simp [go_sem, fdV]))
   · simp [go_sem, hJ.fin, hw, hk, fdV]
     rw [hI, if_pos rfl] at hsn
     intro b' hb'
     refine acc_append (es := (getL (l.take k) nm).map .str) (news := [.str l[k].2]) (e := 9) (sz := 1) (.string ⟨#[]⟩) hJ ((Ext.refl _).new hb' _) (by simp [finB_upd, hJ.fin]) Tryz.knd25 Tryz.tsz9 (by simp [go_sem, srcEls]) Tryz.tzero9 (by simp [go_sem]) (by omega) (by simp [Tryz.tby9] <;> omega) (by simp <;> omega) (by simp [go_sem]) ?_
     intro v' bx3 ha'
     simp [go_sem, ha'.fin, ha'.cells, hw]
     exact hN _ (bx3, v') (by rw [hsn, List.map_append]; exact ha') (cov_look (by simp [go_sem, fdV]))
 · obtain ⟨bx1, v⟩ := i
   dsimp only at hJ ⊢
   rw [List.take_length] at hJ
   simp [go_sem, Tryz.L52_0, hJ.fin]
   refine ret_accw (e := 9) (by simp [go_sem]) ?_ (by decide)
   simpa [go_sem] using hJ
def getR (l : List Fd) (nm : List UInt8) : V := if askE l nm = 0 then .tup [.sl 1 ((getL l nm).map .str), .int .i64 0] else .tup [.nils, .int .i64 (askE l nm)]
theorem chkL_len {l : List Fd} (h : chkL l = 0) : l.length ≤ 100 := by
 unfold chkL at h
 by_cases h1 : 100 < l.length
 · rw [if_pos h1] at h; cases h
 · omega
theorem askE_len {l : List Fd} {nm : List UInt8} (h : askE l nm = 0) : l.length ≤ 100 := by
 refine chkL_len ?_
 unfold askE at h
 by_cases h1 : chkL l = 0
 · exact h1
 · rw [if_pos h1] at h; exact h
theorem Tryz.Get_c {bx : Boxes} (hm : Mk bx) (l : List Fd) (hl : Small l) (nm : List UInt8) (hn : nm.length ≤ 100000) : PureCall Tryz.prog 23 [.sl 2 (l.map fdV), .str nm] bx (getR l nm) := by
 refine PureCall.wk (Tryz.ctr23 fun hf => ?_)
 simp [go_sem, Tryz.C23, hf]
 refine callK_pure (Tryz.ask_c hm l hl nm hn) ?_
 simp [go_sem]
 refine ⟨fun h => ret_wk0 (by simp [go_sem]) (by simp [go_sem, getR, h]; exact Wk.refl _), fun h => ?_⟩
 have hll := askE_len h
 refine ⟨hf, fun b3 hb3 => ?_⟩
 refine callK_pure (Tryz.named_c l nm hn _) ?_
 simp [go_sem, hf]
 refine pw_iterS (by kernel_rfl) (Tryz.named_it l hl (by omega) (Lib.toLowerA nm) (upd bx b3 (some (.row 25 1 [.nils])))) (fun k bx' => ∃ v, Acc (upd bx b3 (some (.row 25 1 [v]))) 9 1 ((getL (l.take k) nm).map .str) v bx') (by simp [go_sem]) ?_ ?_ ?_ (by simp) (by rfl) (by rfl) ?_ ?_
 · exact ⟨.nils, by simp; exact acc_nil (by simp [finB_upd, hf]) _ _⟩
 · rintro k _ ⟨v, ha⟩; exact ha.fin
 · intro k args hk ha
   unfold namX at ha
   split at ha
   · injection ha with ha
     subst ha; rfl
   · cases ha
 · rintro k bx1 hkk ⟨v, ha⟩
   have hg : l.getD k ([], []) = l[k] := by simp [hkk]
   have hsn := getL_snoc l nm hkk
   have hle := getL_len (l.take k) nm
   rw [List.length_take] at hle
   unfold namX
   rw [hg]
   by_cases hI : Lib.toLowerA l[k].1 = Lib.toLowerA nm
   · have hI2 : isN l[k] nm = true := by simp [isN, hI]
     rw [if_pos hI2] at hsn
     refine ⟨fun hx => (by rw [if_pos hI] at hx; cases hx), fun args hx K k1 k2 => ?_⟩
     rw [if_pos hI] at hx
     injection hx with hx
     subst hx
     simp [go_sem, Tryz.L23_0a, setPs, upd_look]
     simp [go_sem, Tryz.L23_0b, ha.cells, ha.fin, ha.at]
     intro b' hb'
     refine acc_append (es := (getL (l.take k) nm).map .str) (news := [.str l[k].2]) (e := 9) (sz := 1) (.string ⟨#[]⟩) ha ((Ext.refl _).new hb' _) (by simp [finB_upd, ha.fin]) Tryz.knd25 Tryz.tsz9 (by simp [go_sem, srcEls]) Tryz.tzero9 (by simp [go_sem]) (by omega) (by simp [Tryz.tby9] <;> omega) (by simp <;> omega) (by simp [go_sem]) ?_
     intro v' bx3 ha'
     have e : (getL (l.take k) nm).map V.str ++ [V.str l[k].2] = (getL (l.take (k + 1)) nm).map .str := by rw [hsn, List.map_append]; rfl
     rw [e] at ha'
     obtain ⟨b4, hb4, rfl, hb5⟩ := ha'.row (by rw [hsn]; simp)
     simp [go_sem, ha'.at, ha.cells, ha.setC, ha'.fin]
     exact k1 _ ⟨_, by simpa using ha'.put _⟩
   · have hI2 : isN l[k] nm = false := by simp [isN, hI]
     rw [hI2, if_neg (by simp)] at hsn
     exact ⟨fun _ => ⟨v, by rw [hsn]; exact ha⟩, fun args hx => (by rw [if_neg hI] at hx; cases hx)⟩
 · rintro bx1 ⟨v, ha⟩
   rw [List.take_length] at ha
   simp [go_sem, ha.cells, ha.at]
   have he : Ext bx bx1 := ((Ext.refl _).new hb3 _).trans ha.ext
   refine ret_frz 2 (by simp [go_sem]) he ⟨?_, rfl⟩
   simp [go_sem, getR, h]
   have hv : Wk (frz bx1 bx 1 v) (.sl 1 ((getL l nm).map .str)) := by
     rcases ha.is with ⟨g1, rfl⟩ | ⟨b, g1, rfl, g2⟩
     · rw [g1]; exact wk_nils 1
     · rw [frz_own1 g2 (((Ext.refl bx).new hb3 _).none g1) (by decide) rfl]
       exact Wk.refl _
   exact wk_tup2 hv (Wk.refl _)
end Go.Proofs

set_option linter.unusedVariables false
set_option linter.unusedSimpArgs false
set_option maxRecDepth 100000
namespace Go.Proofs
open Go Go.Pl Go.RowKit Go.Shelf
def lineB (f : Fd) : List UInt8 := f.1 ++ [58, 32] ++ f.2 ++ [13, 10]
def linesB (l : List Fd) : List UInt8 := l.flatMap lineB
def prtB (l : List Fd) : List UInt8 := linesB l ++ [13, 10]
theorem lineB_len (f : Fd) : (lineB f).length = sizF f := by
 unfold lineB sizF
 simp
 omega
theorem linesB_take {l : List Fd} {j : Nat} (hj : j < l.length) : linesB (l.take (j + 1)) = linesB (l.take j) ++ lineB l[j] := by
 unfold linesB
 rw [List.take_succ_eq_append_getElem hj, List.flatMap_append]
 simp
theorem linesB_len (l : List Fd) : (linesB l).length + 2 = sumF l := by
 unfold linesB sumF
 induction l with
 | nil => rfl
 | cons f l ih =>
   rw [List.flatMap_cons, List.length_append, lineB_len, List.map_cons, List.sum_cons]
   omega
theorem chkL_sum {l : List Fd} (h : chkL l = 0) : sumF l ≤ 8192 := by
 unfold chkL at h
 split at h
 · cases h
 · split at h
   · rename_i f hf
     have := List.find?_some hf
     simp at this
     exact absurd h this
   · split at h
     · cases h
     · omega
def prtR (l : List Fd) : V := if chkL l = 0 then .tup [.str (prtB l), .int .i64 0] else .tup [.str [], .int .i64 (chkL l)]
theorem Tryz.Print_c {bx : Boxes} (hm : Mk bx) (l : List Fd) (hl : Small l) : PureCall Tryz.prog 25 [.sl 2 (l.map fdV)] bx (prtR l) := by
 refine Tryz.ctr25 fun hf => ?_
 simp [go_sem, Tryz.C25, hf]
 refine callK_pure (Tryz.Check_c hm l hl) ?_
 simp [go_sem]
 refine ⟨fun h => ret_pure (by simp [go_sem]) ⟨by simp [go_sem, prtR, h], rfl⟩, fun h => ?_⟩
 have hle := chkL_len h
 refine ⟨hf, fun b hb => ?_⟩
 refine pw_for (ι := Boxes) l.length (fun k bx' => Bld bx bx' b (linesB (l.take k))) (fun k bx' => ⟨30, slk [(5, .ptr b 2 0 0), (13, .sl 2 (l.map fdV)), (14, .int .i64 l.length), (15, .int .i64 k)], bx'⟩) (upd bx b (some (.row 82 2 [.agg [.nilp, .nils]]))) (Bld.start hb hf) (cov_look (by simp [go_sem])) (fun k bx1 hk hJ N hN => ?_) (fun bx1 hJ N => ?_)
 · have hw := wr_succ (k := k) (by omega)
   have ht := linesB_take hk
   have hln := linesB_len (l.take k)
   have hsl := sumF_le hl k (by omega)
   obtain ⟨hs1, hs2⟩ := hl l[k] (List.getElem_mem hk)
   simp [go_sem, Tryz.L25_0, hk, hJ.fin, fdV]
   intro b1 hb1
   refine ⟨by omega, by omega, by omega, ?_⟩
   rw [upd_none hb1]
   have e : l[k].1 ++ 58 :: 32 :: (l[k].2 ++ [13, 10]) = lineB l[k] := by simp [lineB]
   rw [e]
   refine callK_abs (Tryz.WriteString_p hJ (lineB l[k]) (by rw [lineB_len]; unfold sizF; omega)) ?_
   rintro r bx2 ⟨rfl, hB⟩
   rw [← ht] at hB
   simp [go_sem, hw, hB.fin]
   exact hN _ bx2 hB (cov_look (by simp [go_sem, fdV]))
 · rw [List.take_length] at hJ
   simp [go_sem, Tryz.L25_0, hJ.fin]
   have hln := linesB_len l
   have hsl := sumF_le hl l.length (by omega)
   rw [List.take_length] at hsl
   refine callK_abs (Tryz.WriteString_p hJ [13, 10] (by simp; omega)) ?_
   rintro r bx2 ⟨rfl, hB⟩
   simp [go_sem, hB.fin]
   refine callK_abs (Tryz.String_p hB (by simp)) ?_
   rintro r bx3 ⟨rfl, he, hf3⟩
   simp [go_sem, hf3]
   exact ret_drop (by simp [go_sem]) he ⟨by simp [go_sem, prtR, h, prtB], rfl⟩
end Go.Proofs

set_option linter.unusedVariables false
set_option linter.unusedSimpArgs false
set_option maxRecDepth 100000
namespace Go.Proofs
open Go Go.Pl Go.RowKit Go.Shelf
theorem Tryz.Grow_b {bx : Boxes} {b : Nat} (hb : bx b = none) (hf : FinB bx) (n : Nat) (hn : n ≤ 281474976710656) (hn1 : 1 ≤ n) :
   AbsCall Tryz.prog 97 [.ptr b 2 0 0, .int .i64 n] (upd bx b (some (.row 82 2 [.agg [.nilp, .nils]]))) fun r bx' => r = .tup [] ∧ Bld bx bx' b [] := by
 refine (Tryz.Grow_p (bx := upd bx b (some (.row 82 2 [.agg [.nilp, .nils]]))) (upd_eq _ _ _) n hn hn1).mono ?_
 rintro r bx' ⟨rfl, bb, hne, h0, rfl⟩
 rw [upd_ne _ _ hne] at h0
 refine ⟨rfl, ⟨_, _, .inr rfl, upd_eq _ _ _, .inr ⟨bb, rfl, hne, h0, by rw [upd_ne _ _ hne, upd_eq]; rfl⟩⟩, hb, fun c hc => ?_, by simp [finB_upd, hf]⟩
 have c1 : c ≠ b := fun e => hc (by rw [e]; exact hb)
 have c2 : c ≠ bb := fun e => hc (by rw [e]; exact h0)
 simp only [upd_ne _ _ c1, upd_ne _ _ c2]
theorem Tryz.WriteByte_p {bx0 bx : Boxes} {b : Nat} {l : List UInt8} (h : Bld bx0 bx b l) (c : UInt8) (hs : l.length ≤ 100000000) :
   AbsCall Tryz.prog 104 [.ptr b 2 0 0, .int .u8 c.toNat] bx fun r bx' => r = .nili ∧ Bld bx0 bx' b (l ++ [c]) := by
 refine Tryz.ctr104 fun hf => ?_
 obtain ⟨a, v, ha, hb, hv⟩ := h.ex
 simp [go_sem, Tryz.C104, hf]
 refine callK_abs (Tryz.copy_p hb ha) ?_
 rintro r bx1 ⟨rfl, rfl⟩
 unfold bldV
 rcases hv with ⟨rfl, rfl⟩ | ⟨bb, rfl, hne, hbb0, hbb⟩
 · simp [go_sem, upd_eq, finB_upd, hf, appendA, srcEls, Tryz.knd43, Tryz.tsz5, Tryz.tzero5, Tryz.tby5, Tryz.knd9]
   intro b1 hb1 b' hb'
   have n1 : b1 ≠ b := fun e => by subst e; rw [upd_eq] at hb1; cases hb1
   have z1 : bx0 b1 = none := by rw [upd_ne _ _ n1] at hb1; exact h.ext.none hb1
   have n2 : b' ≠ b1 := fun e => by subst e; rw [upd_eq] at hb'; cases hb'
   have n3 : b' ≠ b := fun e => by subst e; rw [upd_ne _ _ n2, upd_eq] at hb'; cases hb'
   have z2 : bx0 b' = none := by rw [upd_ne _ _ n2, upd_ne _ _ n3] at hb'; exact h.ext.none hb'
   simp [go_sem, upd_eq, upd_ne, n1, n2, n3, Ne.symm n1, Ne.symm n2, Ne.symm n3, finB_upd, hf]
   refine ret_pure (by simp [go_sem]) ⟨by simp [go_sem], h.next (b' := b') (l' := [c]) rfl n3 z2 (by simp [go_sem, upd_eq]) (by simp [go_sem, upd_ne _ _ n3, upd_eq, byteV]) (fun x hx => ?_) (by simp [finB_upd, hf])⟩
   have c1 : x ≠ b := fun e => hx (by rw [e]; exact h.nb)
   have c2 : x ≠ b' := fun e => hx (by rw [e]; exact z2)
   have c3 : x ≠ b1 := fun e => hx (by rw [e]; exact z1)
   simp only [upd_ne _ _ c1, upd_ne _ _ c2, upd_ne _ _ c3]
   exact h.ext x hx
 · simp [go_sem, upd_eq, finB_upd, hf, upd_ne, hne, Ne.symm hne, hbb, appendA, srcEls, Tryz.knd43, Tryz.tsz5, Tryz.tzero5, Tryz.tby5, Tryz.knd9]
   intro b1 hb1
   have n1 : b1 ≠ b := fun e => by subst e; rw [upd_eq] at hb1; cases hb1
   have hb1' : bx b1 = none := by rw [upd_ne _ _ n1] at hb1; exact hb1
   have z1 : bx0 b1 = none := h.ext.none hb1'
   have n4 : b1 ≠ bb := fun e => by subst e; rw [hbb] at hb1'; cases hb1'
   rw [upd_ne _ _ (Ne.symm n4), upd_ne _ _ hne, hbb]
   refine ⟨rfl, rfl, by simp, by omega, by omega, fun b' hb' => ?_⟩
   have n2 : b' ≠ b1 := fun e => by subst e; rw [upd_ne _ _ n4, upd_eq] at hb'; cases hb'
   have n3 : b' ≠ b := fun e => by subst e; rw [upd_ne _ _ (Ne.symm hne), upd_ne _ _ (Ne.symm n1), upd_eq] at hb'; cases hb'
   have z2 : bx0 b' = none := by
     by_cases e : b' = bb
     · rw [e]; exact hbb0
     · rw [upd_ne _ _ e, upd_ne _ _ n2, upd_ne _ _ n3] at hb'
       exact h.ext.none hb'
   have htk : List.take l.length (l.map byteV) = l.map byteV := by rw [List.take_of_length_le (by simp)]
   rw [htk]
   simp [go_sem, upd_eq, upd_ne, n1, n2, n3, n4, hne, Ne.symm hne, Ne.symm n1, Ne.symm n2, Ne.symm n3, Ne.symm n4, finB_upd, hf]
   refine ret_pure (by simp [go_sem]) ⟨by simp [go_sem], h.next (b' := b') (l' := l ++ [c]) (n := l.length + 1) (by simp) n3 z2 (by simp [go_sem, upd_eq]) (by simp [go_sem, upd_ne _ _ n3, upd_eq, byteV]) (fun x hx => ?_) (by simp [finB_upd, hf])⟩
   have c1 : x ≠ b := fun e => hx (by rw [e]; exact h.nb)
   have c2 : x ≠ b' := fun e => hx (by rw [e]; exact z2)
   have c3 : x ≠ b1 := fun e => hx (by rw [e]; exact z1)
   have c4 : x ≠ bb := fun e => hx (by rw [e]; exact hbb0)
   simp only [upd_ne _ _ c1, upd_ne _ _ c2, upd_ne _ _ c3, upd_ne _ _ c4]
   exact h.ext x hx
def upB (c : UInt8) : UInt8 := if Lib.isLowerB c = true then c - 32 else c
theorem Tryz.ToUpper_c (c : UInt8) (hc : (c.toNat : Int) < 128) (bx : Boxes) : PureCall Tryz.prog 70 [.str [c]] bx (.str [upB c]) := by
 refine Tryz.ctr70 fun hf => ?_
 have hnc : ¬ (128 : Int) ≤ (c.toNat : Int) := by omega
 have hlo := Lib.isLowerB_int c
 have hw := wr_succ (k := 0) (by omega)
 simp [go_sem, Tryz.C70, hf]
 refine pw_for (ι := Unit) 1 (fun k _ => True) (fun k _ => ⟨78, slk [(0, .str [c]), (3, .bool true), (4, .bool (decide (0 < k) && Lib.isLowerB c)), (5, .int .i64 k)], bx⟩) () trivial (cov_look (by simp [go_sem])) (fun k _ hk hJ N hN => ?_) (fun _ hJ N => ?_)
 · have : k = 0 := by omega
   subst this
   simp [go_sem, Tryz.L70_0, hf, hnc]
   refine hN _ () trivial (cov_look (by simp [go_sem, hlo]; exact wr64 (by omega)))
 · simp [go_sem, Tryz.L70_0, hf]
   cases hl : Lib.isLowerB c
   · simp [go_sem, hf]
     exact ret_pure (by simp [go_sem]) ⟨by simp [go_sem, upB, hl], rfl⟩
   · have hup : upB c = c - 32 := by simp [upB, hl]
     rw [hl] at hlo
     have hlo2 : (97 : Int) ≤ (c.toNat : Int) ∧ (c.toNat : Int) ≤ 122 := by simpa using hlo.symm
     have hsub : IntKind.u8.wrap ((c.toNat : Int) - 32) = ((upB c).toNat : Int) := by
       rw [hup, UInt8.toNat_sub]
       unfold IntKind.wrap
       simp [IntKind.bits, IntKind.signed]
       omega
     simp [go_sem, hf]
     intro b hb
     refine callK_abs (Tryz.Grow_b hb hf 1 (by omega) (by omega)) ?_
     rintro r bx1 ⟨rfl, hB⟩
     simp [go_sem, hB.fin]
     refine pw_for (ι := Boxes) 1 (fun k bx' => Bld bx bx' b (if k = 0 then [] else [upB c])) (fun k bx' => ⟨78, slk [(0, .str [c]), (7, .ptr b 2 0 0), (8, .int .i64 k), (9, .int .i64 k)], bx'⟩) bx1 (by simpa using hB) (cov_look (by simp [go_sem])) (fun k bx2 hk hJ N hN => ?_) (fun bx2 hJ N => ?_)
     · have : k = 0 := by omega
       subst this
       have hJ0 : Bld bx bx2 b [] := by simpa using hJ
       simp [go_sem, Tryz.L70_1, hJ.fin, hlo2.1, hlo2.2, hsub]
       refine callK_abs (Tryz.WriteByte_p hJ0 (upB c) (by simp)) ?_
       rintro r bx3 ⟨rfl, hB3⟩
       have w1 : IntKind.i64.wrap 1 = 1 := wr64 (by omega)
       simp [go_sem, hB3.fin]
       exact hN _ bx3 (by simpa using hB3) (cov_look (by simp [go_sem, w1]))
     · have hJ1 : Bld bx bx2 b [upB c] := by simpa using hJ
       simp [go_sem, Tryz.L70_1, hJ.fin]
       refine callK_abs (Tryz.String_p hJ1 (by simp)) ?_
       rintro r bx3 ⟨rfl, he, hf3⟩
       simp [go_sem, hf3]
       exact ret_drop (by simp [go_sem]) he ⟨by simp [go_sem], rfl⟩
end Go.Proofs

set_option linter.unusedVariables false
set_option linter.unusedSimpArgs false
set_option maxRecDepth 100000
namespace Go.Proofs
open Go Go.Pl Go.RowKit Go.Shelf
def joinB (sep : List UInt8) : List (List UInt8) → List UInt8
 | [] => []
 | x :: t => x ++ t.flatMap fun y => sep ++ y
def lenS (l : List (List UInt8)) : Nat := (l.map (·.length)).sum
theorem lenS_take {l : List (List UInt8)} {j : Nat} (hj : j < l.length) : lenS (l.take (j + 1)) = lenS (l.take j) + l[j].length := by
 unfold lenS
 rw [List.take_succ_eq_append_getElem hj, List.map_append, List.sum_append]
 simp
theorem lenS_le (l : List (List UInt8)) (j : Nat) : lenS (l.take j) ≤ lenS l := by
 unfold lenS
 conv => rhs; rw [← List.take_append_drop j l]
 rw [List.map_append, List.sum_append]
 omega
theorem flat_len (sep : List UInt8) (l : List (List UInt8)) : (l.flatMap fun y => sep ++ y).length = l.length * sep.length + lenS l := by
 induction l with
 | nil => simp [lenS]
 | cons x t ih =>
   rw [List.flatMap_cons, List.length_append, ih]
   simp [lenS, Nat.add_mul]
   omega
theorem Tryz.Join_c (l : List (List UInt8)) (sep : List UInt8) (hs : lenS l ≤ 10000000) (hl : l.length ≤ 10000) (hp : 1 ≤ sep.length) (hp2 : sep.length ≤ 2) (bx : Boxes) : PureCall Tryz.prog 59 [.sl 1 (l.map .str), .str sep] bx (.str (joinB sep l)) := by
 refine Tryz.ctr59 fun hf => ?_
 rcases l with _ | ⟨x, t⟩
 · simp [go_sem, Tryz.C59, hf]
   exact ret_pure (by simp [go_sem]) ⟨by simp [go_sem, joinB], rfl⟩
 rcases t with _ | ⟨y, t⟩
 · simp [go_sem, Tryz.C59, hf]
   exact ret_pure (by simp [go_sem]) ⟨by simp [go_sem, joinB], rfl⟩
 have h0 : ¬ (((x :: y :: t).length : Nat) : Int) = 0 := by simp; omega
 have h1 : ¬ (((x :: y :: t).length : Nat) : Int) = 1 := by simp; omega
 have h2 : 2 ≤ (x :: y :: t).length := by simp
 have hx : (x :: y :: t)[0]? = some x := rfl
 have hj : joinB sep (x :: y :: t) = x ++ ((x :: y :: t).drop 1).flatMap fun y => sep ++ y := rfl
 generalize x :: y :: t = l at *
 have hp' : (0 : Int) < sep.length := by omega
 have hl0 : l ≠ [] := by rintro rfl; simp at h2
 have hsp0 : 0 < sep.length := hp
 obtain ⟨m, hm⟩ : ∃ m, m = l.length - 1 := ⟨_, rfl⟩
 have hm1 : 1 ≤ m := by omega
 have hm2 : m ≤ 10000 := by omega
 have hlm : (l.length : Int) - 1 = (m : Int) := by omega
 have wA : IntKind.i64.wrap ((l.length : Int) - 1) = (m : Int) := by rw [hlm]; exact wr64 (by omega)
 have hm0 : ¬ (m : Int) = 0 := by omega
 have hq1 : 2 < 9223372036854775807 / m := by
   have := Nat.div_le_div_left hm2 (by omega) (a := 9223372036854775807)
   omega
 have hq2 : 9223372036854775807 / m ≤ 9223372036854775807 := Nat.div_le_self _ _
 have hQ : Int.tdiv 9223372036854775807 (m : Int) = ((9223372036854775807 / m : Nat) : Int) := by
   have := Int.ofNat_tdiv 9223372036854775807 m
   exact this.symm
 have wQ : IntKind.i64.wrap (Int.tdiv 9223372036854775807 (m : Int)) = ((9223372036854775807 / m : Nat) : Int) := by
   rw [hQ]; exact wr64 (by omega)
 have hqs : ¬ ((9223372036854775807 / m : Nat) : Int) ≤ (sep.length : Int) := by omega
 have hmul : sep.length * m ≤ 20000 := by
   have := Nat.mul_le_mul hp2 hm2
   omega
 have wM : IntKind.i64.wrap ((sep.length : Int) * (m : Int)) = ((sep.length * m : Nat) : Int) := by
   rw [← Int.natCast_mul]; exact wr64 (by omega)
 have wM2 : IntKind.i64.wrap ((sep.length * m : Nat) : Int) = ((sep.length * m : Nat) : Int) := wr64 (by omega)
 have hmp : 1 ≤ sep.length * m := Nat.mul_pos hsp0 hm1
 generalize 9223372036854775807 / m = q at *
 generalize hN : sep.length * m = n0 at *
 simp [go_sem, Tryz.C59, hf, hl0, h1, hsp0, wA, wQ, hqs, hm0, wM, wM2]
 refine ⟨by omega, ?_⟩
 refine pw_for (ι := Unit) l.length (fun k _ => True) (fun k _ => ⟨75, slk [(0, .sl 1 (l.map .str)), (1, .str sep), (5, .int .i64 ((n0 + lenS (l.take k) : Nat) : Int)), (39, .sl 1 (l.map .str)), (40, .int .i64 l.length), (41, .int .i64 k)], bx⟩) () trivial (cov_look (by simp [go_sem, lenS])) (fun k _ hk hJ N hN => ?_) (fun _ hJ N => ?_)
 · have hw := wr_succ (k := k) (by omega)
   have hle := lenS_le l (k + 1)
   rw [lenS_take hk] at hle
   have w1 : IntKind.i64.wrap (9223372036854775807 - ((n0 : Int) + (lenS (l.take k) : Int))) = 9223372036854775807 - ((n0 : Int) + (lenS (l.take k) : Int)) := wr64 (by omega)
   have w2 : IntKind.i64.wrap ((n0 : Int) + (lenS (l.take k) : Int) + (l[k].length : Int)) = ((n0 + (lenS (l.take k) + l[k].length) : Nat) : Int) := by rw [wr64 (by omega)]; omega
   have h3 : ¬ 9223372036854775807 - ((n0 : Int) + (lenS (l.take k) : Int)) < (l[k].length : Int) := by omega
   simp [go_sem, Tryz.L59_0, hk, hf, hw, w1, w2, h3]
   exact hN _ () trivial (cov_look (by simp [go_sem, lenS_take hk]))
 · rw [List.take_length]
   simp [go_sem, Tryz.L59_0, hf]
   intro b hb
   refine callK_abs (Tryz.Grow_b hb hf (n0 + lenS l) (by omega) (by omega)) ?_
   rintro r bx1 ⟨rfl, hB⟩
   have hl1 : 0 < l.length := by omega
   simp [go_sem, hB.fin, hl1]
   have hx0 : l[0] = x := (List.getElem?_eq_some_iff.1 hx).2
   have hxl : x.length ≤ lenS l := by
     have := lenS_le l 1
     rw [lenS_take hl1] at this
     rw [← hx0]; omega
   rw [hx0]
   refine callK_abs (Tryz.WriteString_p hB x (by simp; omega)) ?_
   rintro r bx2 ⟨rfl, hB2⟩
   rw [List.nil_append] at hB2
   have htk : List.take l.length (List.map V.str l) = List.map V.str l := List.take_of_length_le (by simp)
   simp [go_sem, hB2.fin, htk, ← List.map_drop]
   have hdl : (l.drop 1).length = l.length - 1 := by simp
   have hlD : lenS (l.drop 1) ≤ lenS l := by
     have e : lenS l = lenS (l.take 1) + lenS (l.drop 1) := by
       unfold lenS
       rw [← List.sum_append, ← List.map_append, List.take_append_drop]
     omega
   have hT : (List.map V.str l).tail = (l.drop 1).map V.str := by rw [List.drop_one, List.map_tail]
   rw [hj]
   generalize l.drop 1 = D at *
   refine ⟨by omega, ?_⟩
   refine pw_for (ι := Boxes) D.length (fun k bx' => Bld bx bx' b (x ++ (D.take k).flatMap fun y => sep ++ y)) (fun k bx' => ⟨75, slk [(1, .str sep), (8, .ptr b 2 0 0), (63, .sl 1 (D.map .str)), (64, .int .i64 D.length), (65, .int .i64 k)], bx'⟩) bx2 (by simpa using hB2) (cov_look (by simp [go_sem, hT]; omega)) (fun k bx3 hk hJ N hN => ?_) (fun bx3 hJ N => ?_)
   · have hw := wr_succ (k := k) (by omega)
     have hle := lenS_le D (k + 1)
     rw [lenS_take hk] at hle
     have hfl := flat_len sep (D.take k)
     have hmm : (D.take k).length * sep.length ≤ 10000 * 2 := Nat.mul_le_mul (by simp; omega) hp2
     simp [go_sem, Tryz.L59_1, hk, hJ.fin, hw]
     refine callK_abs (Tryz.WriteString_p hJ sep (by rw [List.length_append, hfl]; omega)) ?_
     rintro r bx4 ⟨rfl, hB4⟩
     simp [go_sem, hB4.fin, hw]
     refine callK_abs (Tryz.WriteString_p hB4 D[k] (by rw [List.length_append, List.length_append, hfl]; omega)) ?_
     rintro r bx5 ⟨rfl, hB5⟩
     simp [go_sem, hB5.fin, hw]
     refine hN _ bx5 ?_ (cov_look (by simp [go_sem]))
     rw [List.take_succ_eq_append_getElem hk, List.flatMap_append]
     simpa using hB5
   · rw [List.take_length] at hJ
     simp [go_sem, Tryz.L59_1, hJ.fin]
     have hD : D ≠ [] := by rintro rfl; simp at hdl; omega
     refine callK_abs (Tryz.String_p hJ (by
       intro e
       have h5 := congrArg List.length e
       rw [List.length_append, flat_len] at h5
       have : 1 ≤ D.length * sep.length := Nat.mul_pos (List.length_pos_iff.2 hD) hsp0
       simp at h5
       omega)) ?_
     rintro r bx4 ⟨rfl, he, hf4⟩
     simp [go_sem, hf4]
     exact ret_drop (by simp [go_sem]) he ⟨by simp [go_sem], rfl⟩
end Go.Proofs

set_option linter.unusedVariables false
set_option linter.unusedSimpArgs false
set_option maxRecDepth 100000
namespace Go.Proofs
open Go Go.Pl Go.RowKit Go.Shelf
def splitB (c : UInt8) : List UInt8 → List (List UInt8)
 | [] => [[]]
 | x :: t => if x = c then [] :: splitB c t else match splitB c t with
   | [] => [[x]]
   | h :: r => (x :: h) :: r
theorem split_none {c : UInt8} : ∀ {s : List UInt8}, ¬ c ∈ s → splitB c s = [s]
 | [], _ => rfl
 | x :: t, h => by
   simp at h
   unfold splitB
   rw [if_neg (fun e => h.1 e.symm), split_none h.2]
theorem split_some {c : UInt8} : ∀ {s : List UInt8} {m : Nat}, s[m]? = some c → ¬ c ∈ s.take m → splitB c s = s.take m :: splitB c (s.drop (m + 1))
 | [], m, h, _ => by simp at h
 | x :: t, 0, h, _ => by
   simp at h
   rw [splitB, if_pos h]
   simp
 | x :: t, m + 1, h, h2 => by
   simp at h2
   simp at h
   have ih := split_some h h2.2
   rw [splitB, if_neg (fun e => h2.1 e.symm), ih]
   simp
theorem split_len (c : UInt8) : ∀ s : List UInt8, (splitB c s).length = s.count c + 1
 | [] => rfl
 | x :: t => by
   have ih := split_len c t
   by_cases e : x = c
   · subst e
     simp [splitB, ih]
   · rw [splitB, if_neg e, List.count_cons_of_ne e]
     cases h : splitB c t with
     | nil => rw [h] at ih; simp at ih
     | cons a r => rw [h] at ih; simpa using ih
theorem rowPut {α : Type} (A : List α) (x y : α) (n : Nat) : (A ++ List.replicate (n + 1) x).set A.length y = A ++ [y] ++ List.replicate n x := by
 rw [List.set_append_right _ _ (Nat.le_refl _), Nat.sub_self, List.replicate_succ, List.set_cons_zero]
 simp
set_option maxHeartbeats 1000000 in
theorem Tryz.genSplit_c {bx : Boxes} (hm : Mk bx) (s : List UInt8) (c : UInt8) (hs : s.length ≤ 100000) :
   AbsCall Tryz.prog 103 [.str s, .str [c], .int .i64 0, .int .i64 (-1)] bx fun r bx' => Acc bx 9 1 ((splitB c s).map .str) r bx' := by
 refine Tryz.ctr103 fun hf => ?_
 simp [go_sem, Tryz.C103, hf]
 refine callK_pure (Tryz.Count_p hm s c) ?_
 have hcl : s.count c ≤ s.length := List.count_le_length
 have hc0 : Lib.countByte s c = s.count c := rfl
 rw [hc0]
 have hsl := split_len c s
 have hw := wr_succ (k := s.count c) (by omega)
 have hw2 := wr_succ (k := s.length) (by omega)
 generalize hn : s.count c = n at *
 have hnl : ¬ s.length < n := by omega
 have hw3 : IntKind.i64.wrap (((n : Int) + 1) - 1) = (n : Int) := by rw [wr64 (by omega)]; omega
 simp [go_sem, hf, hw, hw2, hnl, makK]
 refine ⟨by omega, by omega, by omega, ?_⟩
 intro b hb
 have hwn : IntKind.i64.wrap (n : Int) = (n : Int) := wr64 (by omega)
 have hmb : ∀ x, Mk (upd bx b x) := fun x => mk_new hm hb x
 have hfb : ∀ x, FinB (upd bx b x) := fun x => (finB_upd _ _ _).2 hf
 have hss : ∀ i, i ≤ n → ∀ rem, splitB c rem = (splitB c s).drop i → rem.count c = n - i := by
   intro i hi rem h
   have := congrArg List.length h
   rw [split_len, List.length_drop, hsl] at this
   omega
 refine pw_loop (ι := Nat × List UInt8) (fun p => p.1 ≤ n ∧ splitB c p.2 = (splitB c s).drop p.1 ∧ p.2.length ≤ 100000) (fun p => ⟨66, slk [(0, .str p.2), (1, .str [c]), (2, .int .i64 0), (3, .int .i64 n), (9, .own b 1 0 (n + 1)), (10, .int .i64 p.1)], upd bx b (some (.row 9 1 (((splitB c s).take p.1).map .str ++ List.replicate (n + 1 - p.1) (.str []))))⟩) (fun p => n - p.1) (0, s) ⟨by simp, by simp, hs⟩ (cov_look (by simp [go_sem, hwn])) ?_
 rintro ⟨i, rem⟩ ⟨h1, h2, h3⟩
 dsimp only at h1 h2 h3 ⊢
 have hcn := hss i h1 rem h2
 have hwi := wr_succ (k := i) (by omega)
 have htl : ((splitB c s).take i).length = i := by rw [List.length_take, hsl]; omega
 have hset : ∀ y, (((splitB c s).take i).map V.str ++ List.replicate (n + 1 - i) (V.str [])).set i y = ((splitB c s).take i).map V.str ++ [y] ++ List.replicate (n - i) (V.str []) := by
   intro y
   have := rowPut (((splitB c s).take i).map V.str) (V.str []) y (n - i)
   rw [List.length_map, htl] at this
   rw [show n + 1 - i = n - i + 1 by omega]
   exact this
 have hlen : (((splitB c s).take i).map V.str ++ List.replicate (n + 1 - i) (V.str [])).length = n + 1 := by
   rw [List.length_append, List.length_map, htl, List.length_replicate]; omega
 have hRi : (((splitB c s).take i).map V.str ++ List.replicate (n + 1 - i) (V.str []))[i]? = some (V.str []) := by
   rw [List.getElem?_append_right (by rw [List.length_map, htl]; exact Nat.le_refl _), List.length_map, htl, Nat.sub_self, List.getElem?_replicate, if_pos (by omega)]
 have hgen : ∃ R, R = ((splitB c s).take i).map V.str ++ List.replicate (n + 1 - i) (V.str []) := ⟨_, rfl⟩
 obtain ⟨R, hR⟩ := hgen
 rw [← hR] at hset hlen hRi ⊢
 have hRe := (List.getElem?_eq_some_iff.1 hRi).2
 by_cases hin : i < n
 · have hmem : c ∈ rem := List.count_pos_iff.1 (by omega)
   obtain ⟨m, g1, g2, g3, g4⟩ := idx_some hmem
   have hsp := split_some g3 g4
   rw [hsp] at h2
   have hwm := wr_succ (k := m) (by omega)
   have hwm2 : IntKind.i64.wrap (m : Int) = (m : Int) := wr64 (by omega)
   have htk : (splitB c s).take (i + 1) = (splitB c s).take i ++ [rem.take m] := by
     have hg : (splitB c s)[i]? = some (rem.take m) := by
       have := congrArg (fun l => l[0]?) h2
       simpa [List.getElem?_drop] using this.symm
     rw [List.take_add_one, hg]; rfl
   have hdr : splitB c (rem.drop (m + 1)) = (splitB c s).drop (i + 1) := by
     have := congrArg List.tail h2
     rw [List.tail_cons, List.tail_drop] at this
     exact this
   simp [go_sem, Tryz.L103_0, hin, hfb]
   refine callK_pure (Tryz.Index2_p (hmb _) rem c) ?_
   rw [g2]
   simp [go_sem, hfb, hwm, hwm2, upd_eq, -List.map_set, hset, hlen, hwi, upd_upd, hRi]
   refine ⟨by omega, by omega, by omega, ⟨by omega, by omega⟩, (i + 1, rem.drop (m + 1)), ⟨hin, hdr, by dsimp only; rw [List.length_drop]; omega⟩, ?_, by dsimp only; omega⟩
   have e1 : n + 1 - (i + 1) = n - i := by omega
   dsimp only
   rw [← List.map_take, ← List.map_take, htk, e1, List.map_append, List.map_singleton, List.append_assoc, List.singleton_append]
   exact cov_look (by simp [go_sem])
 · have : i = n := by omega
   subst this
   simp [go_sem, Tryz.L103_0, hfb, upd_eq, -List.map_set, hset, hlen, hwi, hRi, hRe]
   have hno : ¬ c ∈ rem := fun h => by have := List.count_pos_iff.2 h; omega
   rw [split_none hno] at h2
   have he : (splitB c s).map V.str = List.take i (List.map V.str (splitB c s)) ++ [V.str rem] := by
     rw [← List.map_take, ← List.map_singleton, ← List.map_append, h2, List.take_append_drop]
   refine ⟨by omega, by omega, ?_⟩
   refine ret_pure (by simp [go_sem]) ?_
   simp [go_sem]
   rw [← he]
   exact ⟨(Ext.refl _).new hb _, (finB_upd _ _ _).2 hf, .inr ⟨b, hb, by rw [List.length_map, hsl], upd_eq _ _ _⟩⟩
theorem Tryz.Split_c {bx : Boxes} (hm : Mk bx) (s : List UInt8) (c : UInt8) (hs : s.length ≤ 100000) :
   AbsCall Tryz.prog 69 [.str s, .str [c]] bx fun r bx' => Acc bx 9 1 ((splitB c s).map .str) r bx' := by
 refine Tryz.ctr69 fun hf => ?_
 simp [go_sem, Tryz.C69, hf]
 refine callK_abs (Tryz.genSplit_c hm s c hs) ?_
 intro r bx1 hA
 simp [go_sem, hA.fin]
 exact ret_pure (by simp [go_sem]) (by simpa [go_sem] using hA)
end Go.Proofs

set_option linter.unusedVariables false
set_option linter.unusedSimpArgs false
namespace Go.Proofs
open Go Go.Pl Go.RowKit Go.Lib
theorem calls_of_pure {P : Program} {f : FuncId} {args : List V} {r : V} {us : List Value} {u : Value} (h : PureCall P f args (fun _ => none) r) (ha : args.map litV = us.map some) (hr : litV r = some u) (hgl : ∀ (β : Beta) (w : World) (F : Nat → Prop), GlOk P β w F) (w : World) :
   Calls P f us.toArray w fun e w' => e = .returned u ∧ Below w.heap.size w w' ∧ w.drawn ≤ w'.drawn := by
 have hnn : ∀ b, (fun _ => none : Boxes) b = none := fun _ => rfl
 have hok : WOk (fun _ => none) ⟨fun _ => none, w.heap.size⟩ (fun _ => none) w :=
   ⟨⟨0, fun _ _ => rfl⟩, fun k o h => (by cases h), fun b box h => (by cases h), fun b b' k h => absurd rfl h⟩
 refine (h.2 (fun _ => none) ⟨fun _ => none, w.heap.size⟩ w us.toArray hok (hgl _ _ _) (by have := congrArg List.length ha; simpa using this.symm) (fun i c hi => ?_)).mono ?_
 · have h3 : (args.map litV)[i]? = (us.map some)[i]? := by rw [ha]
   rw [List.getElem?_map, List.getElem?_map, hi] at h3
   cases hu : us[i]? with
   | none => rw [hu] at h3; simp at h3
   | some v =>
     rw [hu] at h3
     simp only [Option.map_some, Option.some.injEq] at h3
     have e : us.toArray.getD i undef = v := by simp [Array.getD_eq_getD_getElem?, hu]
     rw [e]
     cases c with
     | str s => simp only [litV, Option.some.injEq] at h3; rw [← h3]; exact rep_str _
     | int k i => simp only [litV, Option.some.injEq] at h3; rw [← h3]; exact .int _ _
     | bool b => simp only [litV, Option.some.injEq] at h3; rw [← h3]; exact .bool _
     | _ => simp [litV] at h3
 · rintro e w' ⟨v, r', bx', β', rfl, ⟨rfl, rfl⟩, hok', ht, hrep⟩
   refine ⟨by rw [lit_inv hr hrep], ⟨ht.os, ht.tape, ht.output, ht.size, fun k hk => ht.keep k hk fun b hb => absurd rfl hb⟩, ht.drawn ?_⟩
   rintro ⟨b, ty, hb⟩
   cases hb
def capsB : Bool → List UInt8 → List UInt8
 | _, [] => []
 | p, x :: t => (if p = true then upB x else x) :: capsB (decide (x = 45)) t
structure FoldT (s : List UInt8) (T : List UInt8) (w : World) (k : Nat) (wr : World) (C : Array Value) : Prop where
 h : wr.heap[w.heap.size]? = some (.cells C 5 (C.size, C.size + 1))
 le : s.length ≤ C.size
 c : ∀ j, j < s.length → C[j]? = some (.int .u8 ((if j < k then T.getD j 0 else s.getD j 0).toNat : Int))
 b : Below w.heap.size w wr
 d : w.drawn ≤ wr.drawn
theorem FoldT.start (s : List UInt8) (T : List UInt8) (w : World) : FoldT s T w 0 (bytesWorld w 5 ⟨s.toArray⟩) (bytesCells w 5 ⟨s.toArray⟩) := by
 have h := FoldW.start ⟨s.toArray⟩ id w
 exact ⟨h.h, h.le, fun j hj => by have := h.c j hj; simpa using this, h.b, h.d⟩
theorem FoldT.cell {s T : List UInt8} {w wr : World} {k : Nat} {C : Array Value} (h : FoldT s T w k wr C) {j : Nat} (hj : j < s.length) : wr.cell? ⟨w.heap.size, j, none⟩ = some (.int .u8 ((if j < k then T.getD j 0 else s.getD j 0).toNat : Int)) := by
 unfold World.cell?
 simp only [h.h, Option.isSome_none, Bool.false_eq_true, if_false]
 exact h.c j hj
theorem FoldT.free {s T : List UInt8} {w wr : World} {k : Nat} {C : Array Value} (h : FoldT s T w k wr C) {j : Nat} (hj : j < s.length) : wr.frozen? ⟨w.heap.size, j, none⟩ = false := by
 unfold World.frozen?
 have := h.le
 simp [h.h]
 omega
theorem FoldT.put {s T : List UInt8} {w wr : World} {k : Nat} {C : Array Value} (h : FoldT s T w k wr C) (hk : k < s.length) {v : Int} (hv : v = ((T.getD k 0).toNat : Int)) : FoldT s T w (k + 1) (wr.setCell ⟨w.heap.size, k, none⟩ (.int .u8 v)) (C.setIfInBounds k (.int .u8 v)) := by
 refine ⟨?_, by simpa using h.le, fun j hj => ?_, ?_, h.d⟩
 · simp only [World.setCell, Array.getElem?_modify, if_true, h.h, Option.map_some, Option.isSome_none, Bool.false_eq_true, if_false]
   rw [Array.size_setIfInBounds]
 · by_cases e : j = k
   · subst e
     have := h.le
     rw [Array.getElem?_setIfInBounds_self_of_lt (by omega), if_pos (by omega), hv]
   · rw [Array.getElem?_setIfInBounds_ne (fun h => e h.symm), h.c j hj]
     by_cases e2 : j < k
     · rw [if_pos e2, if_pos (by omega)]
     · rw [if_neg e2, if_neg (by omega)]
 · exact h.b.setCell (p := ⟨w.heap.size, k, none⟩) (Nat.le_refl _) _
theorem FoldT.skip {s T : List UInt8} {w wr : World} {k : Nat} {C : Array Value} (h : FoldT s T w k wr C) (hv : T.getD k 0 = s.getD k 0) : FoldT s T w (k + 1) wr C := by
 refine ⟨h.h, h.le, fun j hj => ?_, h.b, h.d⟩
 rw [h.c j hj]
 by_cases e : j = k
 · subst e
   rw [if_neg (by omega), if_pos (by omega), hv]
 · by_cases e2 : j < k
   · rw [if_pos e2, if_pos (by omega)]
   · rw [if_neg e2, if_neg (by omega)]
theorem FoldT.str {s T : List UInt8} (hT : T.length = s.length) {w wr : World} {C : Array Value} (h : FoldT s T w s.length wr C) (cap : Nat) : (convert 43 9 (.slice (some ⟨w.heap.size, 0, none⟩) s.length cap)).run Tryz.prog wr = .ok (.string ⟨T.toArray⟩) wr := by
 have := run_convert_bytes_arg (P := Tryz.prog) wr 43 5 (by kernel_rfl) (by kernel_rfl) w.heap.size 0 s.length cap (T.map fun b => (b.toNat : Int)) (by simp [hT]) (fun i hi => by
   rw [Nat.zero_add, h.cell hi, if_pos hi]
   rw [List.getD_eq_getElem?_getD, List.getD_eq_getElem?_getD, List.getElem?_map, List.getElem?_eq_getElem (by omega)]
   rfl) 9 (by kernel_rfl)
 rw [this]
 have e : strOfNums (T.map fun b => (b.toNat : Int)) = ⟨T.toArray⟩ := by
   unfold strOfNums
   rw [List.map_map, List.map_congr_left (g := id) (fun b _ => by simp), List.map_id]
 rw [e]
end Go.Proofs

set_option linter.unusedVariables false
set_option linter.unusedSimpArgs false
namespace Go.Proofs
open Go Go.Pl Go.RowKit Go.Lib
def qLen : List UInt8 → Option Nat
 | [] => none
 | c :: t => if plain1 c = false then none else if c = 34 then some 1 else if c = 92 then (match t with
   | [] => none
   | d :: u => if plain1 d = false then none else (qLen u).map (· + 2)) else (qLen t).map (· + 1)
def quotV (s : List UInt8) (i : Nat) : Nat := match qLen (s.drop (i + 1)) with
 | some n => n + i + 1
 | none => 0
theorem qdrop {s : List UInt8} {k : Nat} (h : k < s.length) : s.drop k = s[k] :: s.drop (k + 1) := List.drop_eq_getElem_cons h
theorem qLen_cons (c : UInt8) (t : List UInt8) : qLen (c :: t) = if plain1 c = false then none else if c = 34 then some 1 else if c = 92 then (match t with
   | [] => none
   | d :: u => if plain1 d = false then none else (qLen u).map (· + 2)) else (qLen t).map (· + 1) := by
 rw [qLen.eq_def]
theorem quot_end {s : List UInt8} {i : Nat} (h : s.length ≤ i + 1) : quotV s i = 0 := by
 unfold quotV
 rw [List.drop_of_length_le h]; rfl
theorem quot_bad {s : List UInt8} {i : Nat} (h : i + 1 < s.length) (hp : plain1 s[i + 1] = false) : quotV s i = 0 := by
 unfold quotV
 rw [qdrop h, qLen_cons, if_pos hp]
theorem quot_34 {s : List UInt8} {i : Nat} (h : i + 1 < s.length) (hp : plain1 s[i + 1] = true) (e : s[i + 1] = 34) : quotV s i = i + 2 := by
 unfold quotV
 rw [qdrop h, qLen_cons, if_neg (by simp [hp]), if_pos e]
 show 1 + i + 1 = i + 2
 omega
theorem quot_92_end {s : List UInt8} {i : Nat} (h : i + 1 < s.length) (hp : plain1 s[i + 1] = true) (e : s[i + 1] = 92) (h2 : s.length ≤ i + 2) : quotV s i = 0 := by
 unfold quotV
 rw [qdrop h, qLen_cons, if_neg (by simp [hp]), if_neg (by rw [e]; decide), if_pos e, List.drop_of_length_le h2]
theorem quot_92_bad {s : List UInt8} {i : Nat} (h : i + 1 < s.length) (hp : plain1 s[i + 1] = true) (e : s[i + 1] = 92) (h2 : i + 2 < s.length) (hp2 : plain1 s[i + 2] = false) : quotV s i = 0 := by
 unfold quotV
 rw [qdrop h, qLen_cons, if_neg (by simp [hp]), if_neg (by rw [e]; decide), if_pos e, qdrop h2]
 simp [hp2]
theorem quot_92 {s : List UInt8} {i : Nat} (h : i + 1 < s.length) (hp : plain1 s[i + 1] = true) (e : s[i + 1] = 92) (h2 : i + 2 < s.length) (hp2 : plain1 s[i + 2] = true) : quotV s i = quotV s (i + 2) := by
 unfold quotV
 rw [qdrop h, qLen_cons, if_neg (by simp [hp]), if_neg (by rw [e]; decide), if_pos e, qdrop h2]
 simp only [hp2, Bool.true_eq_false, if_false]
 cases qLen (s.drop (i + 2 + 1)) with
 | none => rfl
 | some n => show n + 2 + i + 1 = n + (i + 2) + 1; omega
theorem quot_other {s : List UInt8} {i : Nat} (h : i + 1 < s.length) (hp : plain1 s[i + 1] = true) (e : s[i + 1] ≠ 34) (e2 : s[i + 1] ≠ 92) : quotV s i = quotV s (i + 1) := by
 unfold quotV
 rw [qdrop h, qLen_cons, if_neg (by simp [hp]), if_neg e, if_neg e2]
 cases qLen (s.drop (i + 1 + 1)) with
 | none => rfl
 | some n => show n + 1 + i + 1 = n + (i + 1) + 1; omega
def elG (s : List UInt8) (fr i : Nat) (out : List (List UInt8)) : Option (List (List UInt8)) :=
 if h : i < s.length then
   if plain1 s[i] = false then none
   else if s[i] = 34 then (if hq : quotV (s.drop i) 0 = 0 then none else elG s fr (i + quotV (s.drop i) 0) out)
   else if s[i] = 44 then elG s (i + 1) (i + 1) (out ++ [(s.take i).drop fr])
   else elG s fr (i + 1) out
 else some (out ++ [s.drop fr])
termination_by s.length - i
theorem quotV_le (s : List UInt8) : quotV s 0 ≤ s.length := by
 have key : ∀ n (t : List UInt8), t.length ≤ n → ∀ m, qLen t = some m → m ≤ t.length := by
   intro n
   induction n with
   | zero => intro t h m hm; cases t with
     | nil => cases hm
     | cons a t => simp at h
   | succ n ih =>
     intro t h m hm
     cases t with
     | nil => cases hm
     | cons c t =>
       rw [qLen_cons] at hm
       simp at h
       split at hm
       · cases hm
       · split at hm
         · injection hm with hm; subst hm; simp
         · split at hm
           · cases t with
             | nil => cases hm
             | cons d u =>
               simp only [] at hm
               split at hm
               · cases hm
               · obtain ⟨m', h1, rfl⟩ := Option.map_eq_some_iff.1 hm
                 have := ih u (by simp at h; omega) m' h1
                 simp; omega
           · obtain ⟨m', h1, rfl⟩ := Option.map_eq_some_iff.1 hm
             have := ih t h m' h1
             simp; omega
 unfold quotV
 cases h : qLen (s.drop (0 + 1)) with
 | none => simp
 | some m =>
   have := key _ _ (Nat.le_refl _) m h
   rw [List.length_drop] at this
   cases s with
   | nil => simp [qLen] at h
   | cons a t => simp at this ⊢; omega
def elemsF (v : List UInt8) : Option (List (List UInt8)) := (elG v 0 0 []).map fun l => (l.map trimB).filter fun x => !decide (x = [])
end Go.Proofs

set_option linter.unusedVariables false
set_option linter.unusedSimpArgs false
namespace Go.Proofs
open Go Go.Pl Go.RowKit Go.Lib
def iOf : Value → Nat | .int _ q => q.toNat | _ => 0
theorem kind_plain (c : UInt8) : kindN c = 0 ↔ plain1 c = false := by
 have : ∀ n : Fin 256, (decide (kindN (UInt8.ofNat n.val) = 0) == !plain1 (UInt8.ofNat n.val)) = true := by decide +kernel
 have := this ⟨c.toNat, c.toNat_lt⟩
 simp at this
 cases h : plain1 c <;> simp [h] at this ⊢ <;> exact this
set_option maxHeartbeats 40000000 in
set_option maxRecDepth 1000000 in
theorem Tryz.quoted_w (s : List UInt8) (w : World) (hs : s.length ≤ 100000) :
   Calls Tryz.prog 133 #[.string ⟨s.toArray⟩] w fun e w' => e = .returned (.int .i64 (quotV s 0)) ∧ Below w.heap.size w w' ∧ w.drawn ≤ w'.drawn := by
 have hK := fun (c : UInt8) w => calls_of_pure (Tryz.kind_c c (fun _ => none)) (us := [.int .u8 c.toNat]) rfl rfl (fun β w F => gl_none (by kernel_rfl)) w
 have hKP := kind_plain
 generalize kindN = K at hK hKP
 go_enter Tryz.func133, Tryz.ntmps133
 go_wp2
 refine wp_scope_jumps 0 (fun a' w' => Below w.heap.size w w' ∧ w.drawn ≤ w'.drawn ∧ ∃ (i : Nat) (u4 u5 u6 u7 u8 u9 u10 u11 u12 u13 u14 u15 u16 u17 u18 u19 u20 u21 u22 u23 u24 u25 u26 u27 u28 u29 u30 u31 u32 u33 u34 u35 u36 u37 u38 : Value), a' = { tmps := #[.string ⟨s.toArray⟩, undef, .int .i64 0, .int .i64 i, u4, u5, u6, u7, u8, u9, u10, u11, u12, u13, u14, u15, u16, u17, u18, u19, u20, u21, u22, u23, u24, u25, u26, u27, u28, u29, u30, u31, u32, u33, u34, u35, u36, u37, u38], defers := [] } ∧ i ≤ s.length ∧ quotV s i = quotV s 0) (fun a' _ => s.length - (iOf (a'.tmps.getD 3 undef))) rfl ?_ ?_
 · go_wp2
   go_step3
   have hb0 : Below w.heap.size w w := Below.refl _ _
   have hd0 : w.drawn ≤ w.drawn := Nat.le_refl _
   by_cases hlt : 1 < s.length
   · have hltA : 1 < (⟨s.toArray⟩ : ByteArray).size := hlt
     have hltI : ¬ ((s.length : Nat) : Int) ≤ (((1 : Nat)) : Int) := by omega
     have hKc := hK s[1]
     have ec : ((⟨s.toArray⟩ : ByteArray)[1]'hltA) = s[1] := rfl
     by_cases hk : K s[1] = 0
     · have hkI : ((K s[1] : Nat) : Int) = 0 := by omega
       have hv : quotV s 0 = 0 := quot_bad (i := 0) hlt ((hKP _).1 hk)
       go_wp2_with (go_at_call 86; refine (hKc _).mono ?_; rintro e w1 ⟨rfl, hb1, hd1⟩)
       simp only [Exit.jump]
       go_ret
       exact ⟨by rw [hv]; rfl, hb0.trans (hb1.mono hb0.size), by omega⟩
     · have hkI : (((K s[1] : Nat) : Int) == 0) = false := by simpa using hk
       have hpl : plain1 s[1] = true := by
         cases h : plain1 s[1]
         · exact absurd ((hKP _).2 h) hk
         · rfl
       by_cases h34 : ((s[1].toNat : Nat) : Int) = 34
       · have hv34 : quotV s 0 = 0 + 2 := quot_34 (i := 0) hlt hpl (UInt8.toNat_inj.1 (by show s[1].toNat = 34; omega))
         rw [h34] at hKc
         go_wp2_with (go_at_call 86; refine (hKc _).mono ?_; rintro e w1 ⟨rfl, hb1, hd1⟩)
         simp only [Exit.jump]
         go_ret
         exact ⟨by rw [hv34]; congr 2, hb0.trans (hb1.mono hb0.size), by omega⟩
       · have h34B : (((s[1].toNat : Nat) : Int) == 34) = false := by simpa using h34
         have hn34 : s[1] ≠ 34 := fun e => h34 (by rw [e]; rfl)
         by_cases h92 : ((s[1].toNat : Nat) : Int) = 92
         · have e92 : s[1] = 92 := UInt8.toNat_inj.1 (by show s[1].toNat = 92; omega)
           rw [h92] at hKc
           have hkI92 : (((K 92 : Nat) : Int) == 0) = false := by rw [← e92]; exact hkI
           by_cases hlt2 : 2 < s.length
           · have hltD : 2 < (⟨s.toArray⟩ : ByteArray).size := hlt2
             have hltI2 : ¬ ((s.length : Nat) : Int) ≤ (((2 : Nat)) : Int) := by omega
             have hKd := hK s[2]
             have ed : ((⟨s.toArray⟩ : ByteArray)[2]'hltD) = s[2] := rfl
             by_cases hk2 : K s[2] = 0
             · have hkI2 : ((K s[2] : Nat) : Int) = 0 := by omega
               have hv : quotV s 0 = 0 := quot_92_bad (i := 0) hlt hpl e92 hlt2 ((hKP _).1 hk2)
               go_wp2_with (go_at_call 86; first | (refine (hKc _).mono ?_; rintro e w1 ⟨rfl, hb1, hd1⟩) | (refine (hKd _).mono ?_; rintro e w2 ⟨rfl, hb2, hd2⟩))
               simp only [Exit.jump]
               go_ret
               exact ⟨by rw [hv]; rfl, (hb0.trans (hb1.mono hb0.size)).trans (hb2.mono (Nat.le_trans hb0.size hb1.size)), by omega⟩
             · have hkI2 : (((K s[2] : Nat) : Int) == 0) = false := by simpa using hk2
               have hpl2 : plain1 s[2] = true := by
                 cases h : plain1 s[2]
                 · exact absurd ((hKP _).2 h) hk2
                 · rfl
               have hv : quotV s 0 = quotV s 2 := quot_92 (i := 0) hlt hpl e92 hlt2 hpl2
               go_wp2_with (go_at_call 86; first | (refine (hKc _).mono ?_; rintro e w1 ⟨rfl, hb1, hd1⟩) | (refine (hKd _).mono ?_; rintro e w2 ⟨rfl, hb2, hd2⟩))
               go_step3
               exact ⟨rfl, ⟨(hb0.trans (hb1.mono hb0.size)).trans (hb2.mono (Nat.le_trans hb0.size hb1.size)), by omega, 2, _, _, _, _, _, _, _, _, _, _, _, _, _, _, _, _, _, _, _, _, _, _, _, _, _, _, _, _, _, _, _, _, _, _, _, rfl, by omega, by rw [← hv]⟩⟩
           · have hltI2 : ((s.length : Nat) : Int) ≤ (((2 : Nat)) : Int) := by omega
             have hv : quotV s 0 = 0 := quot_92_end (i := 0) hlt hpl e92 (by omega)
             go_wp2_with (go_at_call 86; refine (hKc _).mono ?_; rintro e w1 ⟨rfl, hb1, hd1⟩)
             simp only [Exit.jump]
             go_ret
             exact ⟨by rw [hv]; rfl, hb0.trans (hb1.mono hb0.size), by omega⟩
         · have h92B : (((s[1].toNat : Nat) : Int) == 92) = false := by simpa using h92
           have hn92 : s[1] ≠ 92 := fun e => h92 (by rw [e]; rfl)
           have hv : quotV s 0 = quotV s 1 := quot_other (i := 0) hlt hpl hn34 hn92
           go_wp2_with (go_at_call 86; refine (hKc _).mono ?_; rintro e w1 ⟨rfl, hb1, hd1⟩)
           go_step3
           exact ⟨rfl, ⟨hb0.trans (hb1.mono hb0.size), by omega, 1, _, _, _, _, _, _, _, _, _, _, _, _, _, _, _, _, _, _, _, _, _, _, _, _, _, _, _, _, _, _, _, _, _, _, _, rfl, by omega, by rw [← hv]⟩⟩
   · have hltI : ((s.length : Nat) : Int) ≤ (((1 : Nat)) : Int) := by omega
     have hv : quotV s 0 = 0 := quot_end (i := 0) (by omega)
     go_wp2
     simp only [Exit.jump]
     go_ret
     exact ⟨by rw [hv]; rfl, hb0, by omega⟩
 · rintro a' w0 ⟨hb0, hd0, i, u4, u5, u6, u7, u8, u9, u10, u11, u12, u13, u14, u15, u16, u17, u18, u19, u20, u21, u22, u23, u24, u25, u26, u27, u28, u29, u30, u31, u32, u33, u34, u35, u36, u37, u38, rfl, hi, hq⟩
   by_cases hlt : (i + 1) < s.length
   · have hltA : (i + 1) < (⟨s.toArray⟩ : ByteArray).size := hlt
     have hltI : ¬ ((s.length : Nat) : Int) ≤ ((((i + 1) : Nat)) : Int) := by omega
     have hKc := hK s[(i + 1)]
     have ec : ((⟨s.toArray⟩ : ByteArray)[(i + 1)]'hltA) = s[(i + 1)] := rfl
     by_cases hk : K s[(i + 1)] = 0
     · have hkI : ((K s[(i + 1)] : Nat) : Int) = 0 := by omega
       have hv : quotV s i = 0 := quot_bad (i := i) hlt ((hKP _).1 hk)
       go_wp2_with (go_at_call 86; refine (hKc _).mono ?_; rintro e w1 ⟨rfl, hb1, hd1⟩)
       simp only [Exit.jump]
       go_ret
       exact ⟨by rw [← hq, hv]; rfl, hb0.trans (hb1.mono hb0.size), by omega⟩
     · have hkI : (((K s[(i + 1)] : Nat) : Int) == 0) = false := by simpa using hk
       have hpl : plain1 s[(i + 1)] = true := by
         cases h : plain1 s[(i + 1)]
         · exact absurd ((hKP _).2 h) hk
         · rfl
       by_cases h34 : ((s[(i + 1)].toNat : Nat) : Int) = 34
       · have hv34 : quotV s i = i + 2 := quot_34 (i := i) hlt hpl (UInt8.toNat_inj.1 (by show s[(i + 1)].toNat = 34; omega))
         rw [h34] at hKc
         go_wp2_with (go_at_call 86; refine (hKc _).mono ?_; rintro e w1 ⟨rfl, hb1, hd1⟩)
         simp only [Exit.jump]
         go_ret
         exact ⟨by rw [← hq, hv34]; show Ending.returned (Value.int IntKind.i64 ((i : Int) + 1 + 1)) = _; rw [show ((i : Int) + 1 + 1) = ((i + 2 : Nat) : Int) by omega], hb0.trans (hb1.mono hb0.size), by omega⟩
       · have h34B : (((s[(i + 1)].toNat : Nat) : Int) == 34) = false := by simpa using h34
         have hn34 : s[(i + 1)] ≠ 34 := fun e => h34 (by rw [e]; rfl)
         by_cases h92 : ((s[(i + 1)].toNat : Nat) : Int) = 92
         · have e92 : s[(i + 1)] = 92 := UInt8.toNat_inj.1 (by show s[(i + 1)].toNat = 92; omega)
           rw [h92] at hKc
           have hkI92 : (((K 92 : Nat) : Int) == 0) = false := by rw [← e92]; exact hkI
           by_cases hlt2 : (i + 2) < s.length
           · have hltD : (i + 2) < (⟨s.toArray⟩ : ByteArray).size := hlt2
             have hltI2 : ¬ ((s.length : Nat) : Int) ≤ ((((i + 2) : Nat)) : Int) := by omega
             have hKd := hK s[(i + 2)]
             have ed : ((⟨s.toArray⟩ : ByteArray)[(i + 2)]'hltD) = s[(i + 2)] := rfl
             by_cases hk2 : K s[(i + 2)] = 0
             · have hkI2 : ((K s[(i + 2)] : Nat) : Int) = 0 := by omega
               have hv : quotV s i = 0 := quot_92_bad (i := i) hlt hpl e92 hlt2 ((hKP _).1 hk2)
               go_wp2_with (go_at_call 86; first | (refine (hKc _).mono ?_; rintro e w1 ⟨rfl, hb1, hd1⟩) | (refine (hKd _).mono ?_; rintro e w2 ⟨rfl, hb2, hd2⟩))
               simp only [Exit.jump]
               go_ret
               exact ⟨by rw [← hq, hv]; rfl, (hb0.trans (hb1.mono hb0.size)).trans (hb2.mono (Nat.le_trans hb0.size hb1.size)), by omega⟩
             · have hkI2 : (((K s[(i + 2)] : Nat) : Int) == 0) = false := by simpa using hk2
               have hpl2 : plain1 s[(i + 2)] = true := by
                 cases h : plain1 s[(i + 2)]
                 · exact absurd ((hKP _).2 h) hk2
                 · rfl
               have hv : quotV s i = quotV s (i + 2) := quot_92 (i := i) hlt hpl e92 hlt2 hpl2
               go_wp2_with (go_at_call 86; first | (refine (hKc _).mono ?_; rintro e w1 ⟨rfl, hb1, hd1⟩) | (refine (hKd _).mono ?_; rintro e w2 ⟨rfl, hb2, hd2⟩))
               go_step3
               exact ⟨rfl, ⟨(hb0.trans (hb1.mono hb0.size)).trans (hb2.mono (Nat.le_trans hb0.size hb1.size)), by omega, (i + 2), _, _, _, _, _, _, _, _, _, _, _, _, _, _, _, _, _, _, _, _, _, _, _, _, _, _, _, _, _, _, _, _, _, _, _, rfl, by omega, by rw [← hv]; exact hq⟩, by simp [iOf]; omega⟩
           · have hltI2 : ((s.length : Nat) : Int) ≤ ((((i + 2) : Nat)) : Int) := by omega
             have hv : quotV s i = 0 := quot_92_end (i := i) hlt hpl e92 (by omega)
             go_wp2_with (go_at_call 86; refine (hKc _).mono ?_; rintro e w1 ⟨rfl, hb1, hd1⟩)
             simp only [Exit.jump]
             go_ret
             exact ⟨by rw [← hq, hv]; rfl, hb0.trans (hb1.mono hb0.size), by omega⟩
         · have h92B : (((s[(i + 1)].toNat : Nat) : Int) == 92) = false := by simpa using h92
           have hn92 : s[(i + 1)] ≠ 92 := fun e => h92 (by rw [e]; rfl)
           have hv : quotV s i = quotV s (i + 1) := quot_other (i := i) hlt hpl hn34 hn92
           go_wp2_with (go_at_call 86; refine (hKc _).mono ?_; rintro e w1 ⟨rfl, hb1, hd1⟩)
           go_step3
           exact ⟨rfl, ⟨hb0.trans (hb1.mono hb0.size), by omega, (i + 1), _, _, _, _, _, _, _, _, _, _, _, _, _, _, _, _, _, _, _, _, _, _, _, _, _, _, _, _, _, _, _, _, _, _, _, rfl, by omega, by rw [← hv]; exact hq⟩, by simp [iOf]; omega⟩
   · have hltI : ((s.length : Nat) : Int) ≤ ((((i + 1) : Nat)) : Int) := by omega
     have hv : quotV s i = 0 := quot_end (i := i) (by omega)
     go_wp2
     simp only [Exit.jump]
     go_ret
     exact ⟨by rw [← hq, hv]; rfl, hb0, by omega⟩
end Go.Proofs

set_option linter.unusedSimpArgs false
set_option linter.unusedVariables false
set_option maxRecDepth 100000
namespace Go.Proofs
open Go Go.Pl
theorem Tryz.blank5_c (c : UInt8) (bx : Boxes) : PureCall Tryz.prog 149 [.int .u8 c.toNat] bx (.bool (blank1 c)) := by
 refine Tryz.ctr149 fun hf => ?_
 rw [blank1_int]
 simp [go_sem, Tryz.C149, hf]
 exact ret_pure (by simp [go_sem]) ⟨by simp [go_sem], rfl⟩
theorem Tryz.rtrim5_2 (s : List UInt8) (bx : Boxes) (hf : FinB bx) (Q : Exit → St → Prop) (st : St) (t : List UInt8) (hc : Cov st ⟨30, slk [(0, .str t)], bx⟩) (h1 : t.length < 1000000000) (h2 : trimR t = trimB s)
   (hQ : Q (.exit 2) ⟨30, slk [(0, .str (trimB s)), (23, .bool false)], bx⟩) : pw Tryz.prog (.loop Tryz.L117_1) Q st := by
 refine pw_loop (ι := List UInt8) (fun u => u.length < 1000000000 ∧ trimR u = trimB s) (fun u => ⟨30, slk [(0, .str u)], bx⟩) (fun u => u.length) t ⟨h1, h2⟩ hc ?_
 rintro u ⟨h1, h2⟩
 rcases List.eq_nil_or_concat u with rfl | ⟨v, c, rfl⟩
 · have e0 : trimB s = [] := by rw [← h2]; rfl
   rw [e0] at hQ
   simp [go_sem, Tryz.L117_1, hf]
   refine gK_off (.bool false) (by simp [go_sem]) ?_
   simp [go_sem]
   exact hQ
 · rw [List.concat_eq_append] at h1 h2 ⊢
   have hw : IntKind.i64.wrap (v.length : Int) = (v.length : Int) := wr64 (by simp at h1; omega)
   have hg : (v ++ [c])[v.length]? = some c := by simp
   have e1 : (0 : Int) ≤ v.length := by omega
   have e2 : (v.length : Int) < v.length + 1 := by omega
   have e3 : (v.length : Int) ≤ v.length + 1 := by omega
   rw [trimR_snoc] at h2
   simp [go_sem, Tryz.L117_1, hf, hw, hg, e2]
   refine gK_pure (Tryz.blank5_c c bx) (by simp) (by simp [go_sem]) ?_
   cases hb : blank1 c
   · rw [hb, if_neg (by decide)] at h2
     rw [← h2] at hQ
     simp [go_sem]
     exact hQ
   · rw [hb, if_pos rfl] at h2
     simp [go_sem, hw, e3]
     exact ⟨v, ⟨by simp at h1; omega, h2⟩, cov_look (by simp [go_sem]), by simp⟩
theorem Tryz.rtrim5_c (s : List UInt8) (hs : s.length < 1000000000) (bx : Boxes) : PureCall Tryz.prog 117 [.str s] bx (.str (trimB s)) := by
 refine Tryz.ctr117 fun hf => ?_
 simp [go_sem, Tryz.C117, hf]
 refine pw_loop (ι := List UInt8) (fun t => t.length < 1000000000 ∧ t.dropWhile blank1 = s.dropWhile blank1) (fun t => ⟨30, slk [(0, .str t)], bx⟩) (fun t => t.length) s ⟨hs, rfl⟩ (cov_look (by simp [go_sem])) ?_
 rintro t ⟨h1, h2⟩
 cases t with
 | nil =>
   simp [go_sem, Tryz.L117_0, hf]
   refine gK_off (.bool false) (by simp [go_sem]) ?_
   simp [go_sem]
   refine Tryz.rtrim5_2 s bx hf _ _ [] (cov_look (by simp [go_sem])) (by simp) (by unfold trimB; rw [← h2]; rfl) ?_
   simp [go_sem]
   exact ret_pure (by simp [go_sem]) ⟨by simp [go_sem], rfl⟩
 | cons c t =>
   simp at h1
   simp [go_sem, Tryz.L117_0, hf]
   refine gK_pure (Tryz.blank5_c c bx) (by simp) (by simp [go_sem]) ?_
   rw [List.dropWhile_cons] at h2
   cases hb : blank1 c
   · rw [hb, if_neg (by decide)] at h2
     simp [go_sem]
     refine Tryz.rtrim5_2 s bx hf _ _ (c :: t) (cov_look (by simp [go_sem])) (by simp; omega) (by unfold trimB; rw [← h2]; rfl) ?_
     simp [go_sem]
     exact ret_pure (by simp [go_sem]) ⟨by simp [go_sem], rfl⟩
   · rw [hb, if_pos rfl] at h2
     simp [go_sem]
     exact ⟨by omega, t, ⟨by omega, h2⟩, cov_look (by simp [go_sem]), by simp⟩
end Go.Proofs

set_option linter.unusedVariables false
set_option linter.unusedSimpArgs false
namespace Go.Proofs
open Go Go.Pl Go.RowKit Go.Lib
def canV (s : List UInt8) : V := if tokB s = true then .tup [.str (capsB true (toLowerA s)), .int .i64 0] else .tup [.str [], .int .i64 6]
end Go.Proofs

set_option linter.unusedVariables false
set_option linter.unusedSimpArgs false
set_option maxRecDepth 100000
namespace Go.Proofs
open Go Go.Pl Go.RowKit Go.Shelf
def capW : List UInt8 → List UInt8
 | [] => []
 | x :: t => upB x :: t
def capF (p : Bool) : List (List UInt8) → List (List UInt8)
 | [] => []
 | h :: r => (if p = true then capW h else h) :: r.map capW
theorem split_ne (c : UInt8) (t : List UInt8) : splitB c t ≠ [] := by
 intro e
 have := split_len c t
 rw [e] at this
 simp at this
theorem join_caps : ∀ (t : List UInt8) (p : Bool), joinB [45] (capF p (splitB 45 t)) = capsB p t
 | [], p => by cases p <;> rfl
 | x :: t, p => by
   have ih := join_caps t
   have hne := split_ne 45 t
   by_cases e : x = 45
   · subst e
     have h1 := ih true
     rw [splitB, if_pos rfl, capsB]
     cases hS : splitB 45 t with
     | nil => exact absurd hS hne
     | cons h r =>
       rw [hS] at h1
       have hu : (if p = true then upB 45 else 45) = (45 : UInt8) := by cases p <;> decide
       rw [hu, ← show decide ((45 : UInt8) = 45) = true from rfl] at *
       rw [← h1]
       cases p <;> simp [capF, joinB, capW]
   · have h1 := ih false
     rw [splitB, if_neg e, capsB, decide_eq_false e, ← h1]
     cases hS : splitB 45 t with
     | nil => exact absurd hS hne
     | cons h r => cases p <;> simp [capF, joinB, capW]
theorem capF_true (l : List (List UInt8)) : capF true l = l.map capW := by cases l <;> rfl
theorem mem_split {c x : UInt8} : ∀ {s y : List UInt8}, y ∈ splitB c s → x ∈ y → x ∈ s
 | [], y, h, hx => by
   simp [splitB] at h
   subst h
   cases hx
 | a :: t, y, h, hx => by
   have ih := @mem_split c x t
   rw [splitB] at h
   split at h
   · rcases List.mem_cons.1 h with rfl | h
     · cases hx
     · exact List.mem_cons_of_mem _ (ih h hx)
   · cases hS : splitB c t with
     | nil => exact absurd hS (split_ne c t)
     | cons b r =>
       rw [hS] at h ih
       rcases List.mem_cons.1 h with rfl | h
       · rcases List.mem_cons.1 hx with rfl | hx
         · exact List.mem_cons_self
         · exact List.mem_cons_of_mem _ (ih List.mem_cons_self hx)
       · exact List.mem_cons_of_mem _ (ih (List.mem_cons_of_mem _ h) hx)
theorem lenS_split (c : UInt8) : ∀ s : List UInt8, lenS (splitB c s) ≤ s.length
 | [] => by simp [splitB, lenS]
 | a :: t => by
   have ih := lenS_split c t
   rw [splitB]
   split
   · simpa [lenS] using Nat.le_succ_of_le ih
   · cases hS : splitB c t with
     | nil => simp [lenS]
     | cons b r => rw [hS] at ih; simp [lenS] at ih ⊢; omega
theorem capW_len (s : List UInt8) : (capW s).length = s.length := by cases s <;> rfl
theorem lenS_caps (l : List (List UInt8)) : lenS (l.map capW) = lenS l := by
 unfold lenS
 rw [List.map_map]
 congr 1
 exact List.map_congr_left fun s _ => capW_len s
theorem tok_ascii {s : List UInt8} (h : tokB s = true) {x : UInt8} (hx : x ∈ Lib.toLowerA s) : (x.toNat : Int) < 128 := by
 obtain ⟨y, hy, rfl⟩ := List.mem_map.1 hx
 unfold tokB at h
 simp only [Bool.and_eq_true, List.all_eq_true] at h
 have hl := h.2 y hy
 have key : ∀ y : UInt8, letB y = true → (Lib.lowerB y).toNat < 128 := by
   have : ∀ n : Fin 256, letB (UInt8.ofNat n.val) = true → (Lib.lowerB (UInt8.ofNat n.val)).toNat < 128 := by decide +kernel
   intro y
   have := this ⟨y.toNat, y.toNat_lt⟩
   simpa using this
 have := key y hl
 omega
set_option maxHeartbeats 1000000 in
theorem Tryz.Canon_c {bx : Boxes} (hm : Mk bx) (s : List UInt8) (hs : s.length ≤ 100000) : PureCall Tryz.prog 29 [.str s] bx (canV s) := by
 refine Tryz.ctr29 fun hf => ?_
 simp [go_sem, Tryz.C29, hf]
 refine callK_pure (Tryz.Token_c s hs bx) ?_
 cases hT : tokB s
 · simp [go_sem]
   exact ret_pure (by simp [go_sem]) ⟨by simp [go_sem, canV, hT], rfl⟩
 have hs64 : s.length ≤ 64 := by unfold tokB at hT; simp at hT; exact hT.1.2
 simp [go_sem, hf]
 refine callK_pure (Tryz.Fold_p _ s hs) ?_
 have hasc := @tok_ascii s hT
 have hlen : (Lib.toLowerA s).length = s.length := by simp [Lib.toLowerA]
 have hcv : canV s = .tup [.str (capsB true (Lib.toLowerA s)), .int .i64 0] := by simp [canV, hT]
 generalize Lib.toLowerA s = t at *
 simp [go_sem, hf]
 refine callK_abs (Tryz.Split_c hm t 45 (by omega)) ?_
 intro r bx1 hA
 obtain ⟨b, hb, rfl, hbb⟩ := hA.row (by simpa using split_ne 45 t)
 have hjc := join_caps t true
 rw [capF_true] at hjc
 have hsl := split_len 45 t
 have hcl : t.count 45 ≤ t.length := List.count_le_length
 have hls := lenS_split 45 t
 have hmem : ∀ y, y ∈ splitB 45 t → ∀ x, x ∈ y → (x.toNat : Int) < 128 := fun y hy x hx => hasc (mem_split hy hx)
 generalize splitB 45 t = L at *
 simp [go_sem, hA.fin]
 refine pw_for (ι := Boxes) L.length (fun k bx' => bx' b = some (.row 9 1 (((L.take k).map capW ++ L.drop k).map .str)) ∧ Ext bx bx' ∧ FinB bx') (fun k bx' => ⟨34, slk [(4, .own b 1 0 L.length), (13, .own b 1 0 L.length), (14, .int .i64 L.length), (15, .int .i64 k)], bx'⟩) bx1 ⟨by simpa using hbb, hA.ext, hA.fin⟩ (cov_look (by simp [go_sem])) (fun k bx2 hk hJ N hN => ?_) (fun bx2 hJ N => ?_)
 · obtain ⟨h1, h2, h3⟩ := hJ
   have hw := wr_succ (k := k) (by omega)
   have hR : (((L.take k).map capW ++ L.drop k).map V.str)[k]? = some (.str L[k]) := by
     rw [List.getElem?_map, List.getElem?_append_right (by simp; omega)]
     simp [hk, Nat.min_eq_left (Nat.le_of_lt hk)]
   have hset : ∀ y, ((((L.take k).map capW ++ L.drop k).map V.str).set k y) = ((L.take k).map capW).map V.str ++ [y] ++ (L.drop (k + 1)).map V.str := by
     intro y
     have e0 : k - (((L.take k).map capW).map V.str).length = 0 := by simp; omega
     rw [List.map_append, List.set_append_right _ _ (by simp; omega), e0, List.drop_eq_getElem_cons hk, List.map_cons, List.set_cons_zero, List.append_assoc]
     rfl
   have hnext : ((L.take (k + 1)).map capW ++ L.drop (k + 1)).map V.str = ((L.take k).map capW).map V.str ++ [V.str (capW L[k])] ++ (L.drop (k + 1)).map V.str := by
     rw [List.take_succ_eq_append_getElem hk]; simp only [List.map_append, List.map_cons, List.map_nil]
   rw [← hset] at hnext
   have hlR : (((L.take k).map capW ++ L.drop k).map V.str).length = L.length := by simp; omega
   have htk := List.take_succ_eq_append_getElem hk
   have hm1 := hmem L[k] (List.getElem_mem hk)
   generalize hRR : ((L.take k).map capW ++ L.drop k).map V.str = R at *
   have hRe := (List.getElem?_eq_some_iff.1 hR).2
   cases hLk : L[k] with
   | nil =>
     simp [go_sem, Tryz.L29_0, hk, h3, h1, hlR, hR, hRe, hLk, hw]
     refine hN _ bx2 ⟨?_, h2, h3⟩ (cov_look (by simp [go_sem]))
     rw [hnext, hLk, h1]
     have e : R.set k (V.str (capW [])) = R := by
       have : V.str (capW []) = R[k] := by rw [hRe, hLk]; rfl
       rw [this, List.set_getElem_self]
     rw [e]
   | cons x y =>
     simp [go_sem, Tryz.L29_0, hk, h3, h1, hlR, hR, hRe, hLk, hw]
     refine ⟨by omega, ?_⟩
     refine callK_pure (Tryz.ToUpper_c x (hm1 x (by rw [hLk]; exact List.mem_cons_self)) _) ?_
     have hly : y.length + 1 ≤ 100000 := by
       have h5 := lenS_le L (k + 1)
       rw [lenS_take hk, hLk] at h5
       simp at h5
       omega
     simp [go_sem, hk, h3, h1, hlR, hR, hRe, hLk, hw, -List.map_set]
     refine ⟨by omega, by omega, ?_⟩
     refine hN _ _ ⟨?_, h2.upd_own hb _, (finB_upd _ _ _).2 h3⟩ (cov_look (by simp [go_sem]))
     rw [upd_eq, hnext, hLk]
     rfl
 · obtain ⟨h1, h2, h3⟩ := hJ
   simp [go_sem, Tryz.L29_0, h3]
   rw [List.take_length, List.drop_length, List.append_nil] at h1
   have hJn : PureCall Tryz.prog 59 [.own b 1 0 L.length, .str [45]] bx2 (.str (joinB [45] (L.map capW))) :=
     PureCall.frame 1 (Tryz.Join_c (L.map capW) [45] (by rw [lenS_caps]; omega) (by simp; omega) (by simp) (by simp) _) (by rw [List.map_cons, frz_own1 h1 rfl (by decide) (by simp)]; rfl) rfl
   refine callK_pure hJn ?_
   simp [go_sem, h3]
   exact ret_drop (by simp [go_sem]) h2 ⟨by simp [go_sem, hcv, hjc], rfl⟩
end Go.Proofs

set_option linter.unusedVariables false
set_option linter.unusedSimpArgs false
set_option maxRecDepth 100000
namespace Go.Proofs
open Go Go.Pl Go.RowKit Go.Shelf
def fIdx {α : Type} (p : α → Bool) (l : List α) : Int := match l.findIdx? p with
 | some i => i
 | none => -1
theorem fIdx_hit {α : Type} {p : α → Bool} {l : List α} {d : α} {i : Nat} (hi : i < l.length) (hJ : ∀ j, j < i → p (l.getD j d) = false) (h : p l[i] = true) : fIdx p l = i := by
 unfold fIdx
 have : l.findIdx? p = some i := by
   rw [List.findIdx?_eq_some_iff_getElem]
   refine ⟨hi, h, fun j hj => ?_⟩
   have h1 := hJ j hj
   have h2 : j < l.length := by omega
   simp [h2] at h1
   simp [h1]
 rw [this]
theorem fIdx_none {α : Type} {p : α → Bool} {l : List α} {d : α} (hJ : ∀ j, j < l.length → p (l.getD j d) = false) : fIdx p l = -1 := by
 unfold fIdx
 have : l.findIdx? p = none := by
   rw [List.findIdx?_eq_none_iff]
   intro x hx
   obtain ⟨j, hj, rfl⟩ := List.getElem_of_mem hx
   have := hJ j hj
   simpa [hj] using this
 rw [this]
theorem fIdx_or {α : Type} (p : α → Bool) (l : List α) : (fIdx p l = -1 ∧ ∀ x, x ∈ l → p x = false) ∨ ∃ (i : Nat) (hi : i < l.length), fIdx p l = i ∧ p l[i] = true ∧ ∀ x, x ∈ l.take i → p x = false := by
 unfold fIdx
 cases h : l.findIdx? p with
 | none =>
   left
   rw [List.findIdx?_eq_none_iff] at h
   exact ⟨rfl, fun x hx => by simpa using h x hx⟩
 | some i =>
   right
   rw [List.findIdx?_eq_some_iff_getElem] at h
   obtain ⟨hi, h1, h2⟩ := h
   refine ⟨i, hi, rfl, h1, fun x hx => ?_⟩
   obtain ⟨j, hj, rfl⟩ := List.getElem_of_mem hx
   rw [List.length_take] at hj
   rw [List.getElem_take]
   simpa using h2 j (by omega)
theorem filter_all {α : Type} {p : α → Bool} {l : List α} (h : ∀ x, x ∈ l → p x = false) : (l.filter fun x => !p x) = l := by
 rw [List.filter_eq_self]
 intro x hx
 simp [h x hx]
theorem Tryz.IndexFunc_s (p : (List UInt8) → Bool) (g : FuncId) (caps : List V) (L : List (List UInt8)) (hl : L.length ≤ 1000000) {b : Nat} {bx : Boxes} (hb : bx b = some (.row 9 1 (L.map V.str))) (hp : ∀ x, x ∈ L → PureCall Tryz.prog g (V.str x :: caps) bx (.bool (p x))) :
   PureCall Tryz.prog 135 [.own b 1 0 L.length, .fn (.func g) caps] bx (.int .i64 (fIdx p L)) := by
 refine Tryz.ctr135 fun hf => ?_
 simp [go_sem, Tryz.C135, hf]
 refine pw_find L.length (fun i => p (L.getD i [])) (fun i => ⟨19, slk [(0, .own b 1 0 L.length), (1, .fn (.func g) caps), (7, .int .i64 L.length), (8, .int .i64 i)], bx⟩) (cov_look (by simp [go_sem])) (fun i hi hJ N hN => ?_) (fun hJ N => ?_)
 · have hw := wr_succ (k := i) (by omega)
   have hg : L.getD i [] = L[i] := by simp [hi]
   have hR : (L.map V.str)[i]? = some (V.str L[i]) := by rw [List.getElem?_map, List.getElem?_eq_getElem hi]; rfl
   have hp1 := hp L[i] (List.getElem_mem hi)
   rw [hg] at hN
   simp [go_sem, Tryz.L135_0, hi, hf, hw, hb, hR, List.length_map]
   refine callK_pure hp1 ?_
   cases hpi : p L[i]
   · simp [go_sem, hf, hw]
     exact hN _ hpi (cov_look (by simp [go_sem]))
   · simp [go_sem, hf, hw]
     refine ret_pure (by simp [go_sem]) ⟨?_, rfl⟩
     simp [go_sem, fIdx_hit hi hJ hpi]
 · simp [go_sem, Tryz.L135_0, hf]
   refine ret_pure (by simp [go_sem]) ⟨?_, rfl⟩
   simp [go_sem, fIdx_none hJ]
set_option maxHeartbeats 1000000 in
theorem Tryz.DeleteFunc_s (p : (List UInt8) → Bool) (g : FuncId) (caps : List V) (L : List (List UInt8)) (hl : L.length ≤ 1000000) {b : Nat} {bx : Boxes} (hb : bx b = some (.row 9 1 (L.map V.str))) (hp : ∀ x, x ∈ L → ∀ row, PureCall Tryz.prog g (V.str x :: caps) (upd bx b (some (.row 9 1 row))) (.bool (p x))) :
   AbsCall Tryz.prog 111 [.own b 1 0 L.length, .fn (.func g) caps] bx fun r bx' => r = .own b 1 0 (L.filter fun x => !p x).length ∧ ∃ row, bx' = upd bx b (some (.row 9 1 row)) ∧ row.length = L.length ∧ row.take (L.filter fun x => !p x).length = (L.filter fun x => !p x).map V.str := by
 have hbb : upd bx b (some (.row 9 1 (L.map V.str))) = bx := by
   funext c
   by_cases e : c = b
   · subst e; rw [upd_eq, hb]
   · rw [upd_ne _ _ e]
 refine Tryz.ctr111 fun hf => ?_
 simp [go_sem, Tryz.C111, hf]
 refine callK_pure (Tryz.IndexFunc_s p g caps L hl hb (fun x hx => by have := hp x hx (L.map V.str); rwa [hbb] at this)) ?_
 rcases fIdx_or p L with ⟨h1, h2⟩ | ⟨i, hi, h1, h2, h3⟩
 · simp [go_sem, h1, hf]
   refine ret_pure (by simp [go_sem]) ⟨?_, L.map V.str, hbb.symm, by simp, ?_⟩
   · simp [go_sem, filter_all h2]
   · rw [filter_all h2, List.take_of_length_le (by simp)]
 · have hwi := wr_succ (k := i) (by omega)
   have hwi2 : IntKind.i64.wrap (i : Int) = (i : Int) := wr64 (by omega)
   have hne : ¬ (i : Int) = -1 := by omega
   simp [go_sem, h1, hf, hne, hwi]
   have hK0 : (L.take i).filter (fun x => !p x) = L.take i := filter_all h3
   have hKs : ∀ j (hj : j < L.length), (L.take (j + 1)).filter (fun x => !p x) = if p L[j] = true then (L.take j).filter (fun x => !p x) else (L.take j).filter (fun x => !p x) ++ [L[j]] := by
     intro j hj
     rw [List.take_succ_eq_append_getElem hj, List.filter_append]
     cases h : p L[j] <;> simp [h]
   have hKl : ∀ j, ((L.take j).filter (fun x => !p x)).length ≤ L.length := fun j => Nat.le_trans (List.length_filter_le _ _) (by simp; omega)
   refine pw_loop (ι := Nat × List (List UInt8) × Boxes) (fun q => q.1 ≤ L.length ∧ q.2.1 ≠ [] ∧ q.2.1.length + ((L.take q.1).filter fun x => !p x).length = q.1 ∧ q.2.2 = upd bx b (some (.row 9 1 (((L.take q.1).filter fun x => !p x).map V.str ++ q.2.1.map V.str ++ (L.drop q.1).map V.str)))) (fun q => ⟨42, slk [(0, .own b 1 0 L.length), (1, .fn (.func g) caps), (5, .int .i64 ((L.take q.1).filter fun x => !p x).length), (6, .int .i64 q.1)], q.2.2⟩) (fun q => L.length - q.1) (i + 1, [L[i]], bx) ⟨hi, by simp, ?_, ?_⟩ (cov_look ?_) ?_
   · dsimp only
     rw [hKs i hi, if_pos h2, hK0]; simp; omega
   · dsimp only
     rw [hKs i hi, if_pos h2, hK0]
     have hsp : L = L.take i ++ [L[i]] ++ L.drop (i + 1) := by rw [← List.take_succ_eq_append_getElem hi, List.take_append_drop]
     have hsp2 := congrArg (List.map V.str) hsp
     rw [List.map_append, List.map_append, List.map_cons, List.map_nil] at hsp2
     rw [List.map_cons, List.map_nil, ← hsp2, hbb]
   · dsimp only
     rw [hKs i hi, if_pos h2, hK0]
     simp [go_sem]; omega
   · rintro ⟨j, junk, bx1⟩ ⟨g1, g2, g3, g4⟩
     dsimp only at g1 g2 g3 g4 ⊢
     have hKj := hKl j
     by_cases hj : j < L.length
     · have hKsj := hKs j hj
       generalize (L.take j).filter (fun x => !p x) = K at *
       have hwj := wr_succ (k := j) (by omega)
       obtain ⟨y0, junk2, rfl⟩ : ∃ y0 junk2, junk = y0 :: junk2 := by
         cases junk with
         | nil => exact absurd rfl g2
         | cons y0 j2 => exact ⟨y0, j2, rfl⟩
       simp at g3
       rw [List.map_cons] at g4
       have hRl : (K.map V.str ++ (V.str y0 :: junk2.map V.str) ++ (L.drop j).map V.str).length = L.length := by simp; omega
       have hRj : (K.map V.str ++ (V.str y0 :: junk2.map V.str) ++ (L.drop j).map V.str)[j]? = some (V.str L[j]) := by
         rw [List.getElem?_append_right (by simp; omega), List.getElem?_map, show j - (K.map V.str ++ (V.str y0 :: junk2.map V.str)).length = 0 by simp; omega, List.drop_eq_getElem_cons hj]
         rfl
       have hset : ∀ y, (K.map V.str ++ (V.str y0 :: junk2.map V.str) ++ (L.drop j).map V.str).set K.length y = K.map V.str ++ (y :: junk2.map V.str) ++ (L.drop j).map V.str := by
         intro y
         rw [List.append_assoc, List.set_append_right _ _ (by simp), List.length_map, Nat.sub_self, List.append_assoc]
         rfl
       have hdr : (L.drop j).map V.str = V.str L[j] :: (L.drop (j + 1)).map V.str := by rw [List.drop_eq_getElem_cons hj]; rfl
       have hRK : (K.map V.str ++ (V.str y0 :: junk2.map V.str) ++ (L.drop j).map V.str)[K.length]? = some (V.str y0) := by
         rw [List.append_assoc, List.getElem?_append_right (by simp), List.length_map, Nat.sub_self]
         rfl
       have hpj := hp L[j] (List.getElem_mem hj)
       have hwK := wr_succ (k := K.length) (by omega)
       have hfx : FinB bx1 := by rw [g4]; exact (finB_upd _ _ _).2 hf
       have hbx1 : bx1 b = some (.row 9 1 (K.map V.str ++ (V.str y0 :: junk2.map V.str) ++ (L.drop j).map V.str)) := by rw [g4, upd_eq]
       have hpj1 := hpj (K.map V.str ++ (V.str y0 :: junk2.map V.str) ++ (L.drop j).map V.str)
       rw [← g4] at hpj1
       generalize hR : K.map V.str ++ (V.str y0 :: junk2.map V.str) ++ (L.drop j).map V.str = R at *
       have hRe := (List.getElem?_eq_some_iff.1 hRj).2
       have hRKe := (List.getElem?_eq_some_iff.1 hRK).2
       have hKlt : K.length < L.length := by omega
       simp [go_sem, Tryz.L111_0, hj, hfx, hbx1, hRj, hRl, hRe, List.length_map]
       refine callK_pure hpj1 ?_
       cases hpb : p L[j]
       · rw [hpb, if_neg (by simp)] at hKsj
         simp [go_sem, hfx, hbx1, hRl, hwK, hwj, hKlt, -List.map_set, hset, hRKe, hRe]
         refine ⟨(j + 1, junk2 ++ [L[j]], upd bx1 b _), ⟨hj, by simp, by dsimp only; rw [hKsj]; simp; omega, ?_⟩, cov_look (by simp [go_sem, hKsj]), by dsimp only; omega⟩
         dsimp only
         rw [hKsj, g4, upd_upd]
         congr 3
         rw [← List.map_drop, hdr]
         simp
       · rw [hpb, if_pos rfl] at hKsj
         simp [go_sem, hfx, hwj]
         refine ⟨(j + 1, y0 :: (junk2 ++ [L[j]]), bx1), ⟨hj, by simp, by dsimp only; rw [hKsj]; simp; omega, ?_⟩, cov_look (by simp [go_sem, hKsj]), by dsimp only; omega⟩
         dsimp only
         rw [hKsj, g4, ← hR, hdr]
         simp
     · have : j = L.length := by omega
       subst this
       rw [List.take_length] at g3 g4 ⊢
       rw [List.drop_length, List.map_nil, List.append_nil] at g4
       have hfx : FinB bx1 := by rw [g4]; exact (finB_upd _ _ _).2 hf
       generalize (L.filter fun x => !p x) = K at *
       have hbx1 : bx1 b = some (.row 9 1 (K.map V.str ++ junk.map V.str)) := by rw [g4, upd_eq]
       have hjl : junk.length ≠ 0 := fun e => g2 (List.length_eq_zero_iff.1 e)
       have hKL : K.length < L.length := by omega
       simp [go_sem, Tryz.L111_0, hfx, hbx1, List.length_map, clearA, hKL]
       refine ⟨by omega, by omega, by omega, ret_pure (by simp [go_sem]) ⟨by simp [go_sem], _, by rw [g4, upd_upd], ?_, ?_⟩⟩
       · simp; omega
       · simp
end Go.Proofs

set_option linter.unusedVariables false
set_option linter.unusedSimpArgs false
set_option maxRecDepth 100000
namespace Go.Proofs
open Go Go.Pl Go.RowKit Go.Shelf
theorem Tryz.IndexFunc_f (p : Fd → Bool) (g : FuncId) (caps : List V) (L : List Fd) (hl : L.length ≤ 1000000) {b : Nat} {bx : Boxes} (hb : bx b = some (.row 38 2 (L.map fdV))) (hp : ∀ x, x ∈ L → PureCall Tryz.prog g (fdV x :: caps) bx (.bool (p x))) :
   PureCall Tryz.prog 85 [.own b 2 0 L.length, .fn (.func g) caps] bx (.int .i64 (fIdx p L)) := by
 refine Tryz.ctr85 fun hf => ?_
 simp [go_sem, Tryz.C85, hf]
 refine pw_find L.length (fun i => p (L.getD i ([], []))) (fun i => ⟨19, slk [(0, .own b 2 0 L.length), (1, .fn (.func g) caps), (7, .int .i64 L.length), (8, .int .i64 i)], bx⟩) (cov_look (by simp [go_sem])) (fun i hi hJ N hN => ?_) (fun hJ N => ?_)
 · have hw := wr_succ (k := i) (by omega)
   have hg : L.getD i ([], []) = L[i] := by simp [hi]
   have hR : (L.map fdV)[i]? = some (fdV L[i]) := by rw [List.getElem?_map, List.getElem?_eq_getElem hi]; rfl
   have hp1 := hp L[i] (List.getElem_mem hi)
   rw [hg] at hN
   simp [go_sem, Tryz.L85_0, hi, hf, hw, hb, hR, List.length_map, fdV]
   unfold fdV at hp1
   refine callK_pure hp1 ?_
   cases hpi : p L[i]
   · simp [go_sem, hf, hw]
     exact hN _ hpi (cov_look (by simp [go_sem]))
   · simp [go_sem, hf, hw]
     refine ret_pure (by simp [go_sem]) ⟨?_, rfl⟩
     simp [go_sem, fIdx_hit hi hJ hpi]
 · simp [go_sem, Tryz.L85_0, hf]
   refine ret_pure (by simp [go_sem]) ⟨?_, rfl⟩
   simp [go_sem, fIdx_none hJ]
set_option maxHeartbeats 1000000 in
theorem Tryz.DeleteFunc_f (p : Fd → Bool) (g : FuncId) (caps : List V) (L : List Fd) (hl : L.length ≤ 1000000) {b : Nat} {bx : Boxes} (hb : bx b = some (.row 38 2 (L.map fdV))) (hp : ∀ x, x ∈ L → ∀ row, PureCall Tryz.prog g (fdV x :: caps) (upd bx b (some (.row 38 2 row))) (.bool (p x))) :
   AbsCall Tryz.prog 47 [.own b 2 0 L.length, .fn (.func g) caps] bx fun r bx' => r = .own b 2 0 (L.filter fun x => !p x).length ∧ ∃ row, bx' = upd bx b (some (.row 38 2 row)) ∧ row.length = L.length ∧ row.take (L.filter fun x => !p x).length = (L.filter fun x => !p x).map fdV := by
 have hbb : upd bx b (some (.row 38 2 (L.map fdV))) = bx := by
   funext c
   by_cases e : c = b
   · subst e; rw [upd_eq, hb]
   · rw [upd_ne _ _ e]
 refine Tryz.ctr47 fun hf => ?_
 simp [go_sem, Tryz.C47, hf]
 refine callK_pure (Tryz.IndexFunc_f p g caps L hl hb (fun x hx => by have := hp x hx (L.map fdV); rwa [hbb] at this)) ?_
 rcases fIdx_or p L with ⟨h1, h2⟩ | ⟨i, hi, h1, h2, h3⟩
 · simp [go_sem, h1, hf]
   refine ret_pure (by simp [go_sem]) ⟨?_, L.map fdV, hbb.symm, by simp, ?_⟩
   · simp [go_sem, filter_all h2]
   · rw [filter_all h2, List.take_of_length_le (by simp)]
 · have hwi := wr_succ (k := i) (by omega)
   have hwi2 : IntKind.i64.wrap (i : Int) = (i : Int) := wr64 (by omega)
   have hne : ¬ (i : Int) = -1 := by omega
   simp [go_sem, h1, hf, hne, hwi]
   have hK0 : (L.take i).filter (fun x => !p x) = L.take i := filter_all h3
   have hKs : ∀ j (hj : j < L.length), (L.take (j + 1)).filter (fun x => !p x) = if p L[j] = true then (L.take j).filter (fun x => !p x) else (L.take j).filter (fun x => !p x) ++ [L[j]] := by
     intro j hj
     rw [List.take_succ_eq_append_getElem hj, List.filter_append]
     cases h : p L[j] <;> simp [h]
   have hKl : ∀ j, ((L.take j).filter (fun x => !p x)).length ≤ L.length := fun j => Nat.le_trans (List.length_filter_le _ _) (by simp; omega)
   refine pw_loop (ι := Nat × List Fd × Boxes) (fun q => q.1 ≤ L.length ∧ q.2.1 ≠ [] ∧ q.2.1.length + ((L.take q.1).filter fun x => !p x).length = q.1 ∧ q.2.2 = upd bx b (some (.row 38 2 (((L.take q.1).filter fun x => !p x).map fdV ++ q.2.1.map fdV ++ (L.drop q.1).map fdV)))) (fun q => ⟨42, slk [(0, .own b 2 0 L.length), (1, .fn (.func g) caps), (5, .int .i64 ((L.take q.1).filter fun x => !p x).length), (6, .int .i64 q.1)], q.2.2⟩) (fun q => L.length - q.1) (i + 1, [L[i]], bx) ⟨hi, by simp, ?_, ?_⟩ (cov_look ?_) ?_
   · dsimp only
     rw [hKs i hi, if_pos h2, hK0]; simp; omega
   · dsimp only
     rw [hKs i hi, if_pos h2, hK0]
     have hsp : L = L.take i ++ [L[i]] ++ L.drop (i + 1) := by rw [← List.take_succ_eq_append_getElem hi, List.take_append_drop]
     have hsp2 := congrArg (List.map fdV) hsp
     rw [List.map_append, List.map_append, List.map_cons, List.map_nil] at hsp2
     rw [List.map_cons, List.map_nil, ← hsp2, hbb]
   · dsimp only
     rw [hKs i hi, if_pos h2, hK0]
     simp [go_sem]; omega
   · rintro ⟨j, junk, bx1⟩ ⟨g1, g2, g3, g4⟩
     dsimp only at g1 g2 g3 g4 ⊢
     have hKj := hKl j
     by_cases hj : j < L.length
     · have hKsj := hKs j hj
       generalize (L.take j).filter (fun x => !p x) = K at *
       have hwj := wr_succ (k := j) (by omega)
       obtain ⟨y0, junk2, rfl⟩ : ∃ y0 junk2, junk = y0 :: junk2 := by
         cases junk with
         | nil => exact absurd rfl g2
         | cons y0 j2 => exact ⟨y0, j2, rfl⟩
       simp at g3
       rw [List.map_cons] at g4
       have hRl : (K.map fdV ++ (fdV y0 :: junk2.map fdV) ++ (L.drop j).map fdV).length = L.length := by simp; omega
       have hRj : (K.map fdV ++ (fdV y0 :: junk2.map fdV) ++ (L.drop j).map fdV)[j]? = some (fdV L[j]) := by
         rw [List.getElem?_append_right (by simp; omega), List.getElem?_map, show j - (K.map fdV ++ (fdV y0 :: junk2.map fdV)).length = 0 by simp; omega, List.drop_eq_getElem_cons hj]
         rfl
       have hset : ∀ y, (K.map fdV ++ (fdV y0 :: junk2.map fdV) ++ (L.drop j).map fdV).set K.length y = K.map fdV ++ (y :: junk2.map fdV) ++ (L.drop j).map fdV := by
         intro y
         rw [List.append_assoc, List.set_append_right _ _ (by simp), List.length_map, Nat.sub_self, List.append_assoc]
         rfl
       have hdr : (L.drop j).map fdV = fdV L[j] :: (L.drop (j + 1)).map fdV := by rw [List.drop_eq_getElem_cons hj]; rfl
       have hRK : (K.map fdV ++ (fdV y0 :: junk2.map fdV) ++ (L.drop j).map fdV)[K.length]? = some (fdV y0) := by
         rw [List.append_assoc, List.getElem?_append_right (by simp), List.length_map, Nat.sub_self]
         rfl
       have hpj := hp L[j] (List.getElem_mem hj)
       have hwK := wr_succ (k := K.length) (by omega)
       have hfx : FinB bx1 := by rw [g4]; exact (finB_upd _ _ _).2 hf
       have hbx1 : bx1 b = some (.row 38 2 (K.map fdV ++ (fdV y0 :: junk2.map fdV) ++ (L.drop j).map fdV)) := by rw [g4, upd_eq]
       have hpj1 := hpj (K.map fdV ++ (fdV y0 :: junk2.map fdV) ++ (L.drop j).map fdV)
       rw [← g4] at hpj1
       generalize hR : K.map fdV ++ (fdV y0 :: junk2.map fdV) ++ (L.drop j).map fdV = R at *
       have hRe := (List.getElem?_eq_some_iff.1 hRj).2
       have hRKe := (List.getElem?_eq_some_iff.1 hRK).2
       have hKlt : K.length < L.length := by omega
       simp [go_sem, Tryz.L47_0, hj, hfx, hbx1, hRj, hRl, hRe, List.length_map, fdV]
       unfold fdV at hpj1
       intro b1 hb1
       rw [upd_none hb1]
       refine callK_pure hpj1 ?_
       cases hpb : p L[j]
       · rw [hpb, if_neg (by simp)] at hKsj
         have hcl : (fdV y0).cells.length = 2 := rfl
         have hsc : setC (fdV y0) 0 [V.str L[j].fst, V.str L[j].snd] = V.agg [V.str L[j].fst, V.str L[j].snd] := rfl
         simp [go_sem, hfx, hbx1, hRl, hwK, hwj, hKlt, -List.map_set, hset, hRKe, hRe, hcl, hsc]
         refine ⟨(j + 1, junk2 ++ [L[j]], upd bx1 b _), ⟨hj, by simp, by dsimp only; rw [hKsj]; simp; omega, ?_⟩, cov_look (by simp [go_sem, hKsj]), by dsimp only; omega⟩
         dsimp only
         rw [hKsj, g4, upd_upd]
         congr 3
         rw [← List.map_drop, hdr]
         simp
         rfl
       · rw [hpb, if_pos rfl] at hKsj
         simp [go_sem, hfx, hwj]
         refine ⟨(j + 1, y0 :: (junk2 ++ [L[j]]), bx1), ⟨hj, by simp, by dsimp only; rw [hKsj]; simp; omega, ?_⟩, cov_look (by simp [go_sem, hKsj]), by dsimp only; omega⟩
         dsimp only
         rw [hKsj, g4, ← hR, hdr]
         simp
     · have : j = L.length := by omega
       subst this
       rw [List.take_length] at g3 g4 ⊢
       rw [List.drop_length, List.map_nil, List.append_nil] at g4
       have hfx : FinB bx1 := by rw [g4]; exact (finB_upd _ _ _).2 hf
       generalize (L.filter fun x => !p x) = K at *
       have hbx1 : bx1 b = some (.row 38 2 (K.map fdV ++ junk.map fdV)) := by rw [g4, upd_eq]
       have hjl : junk.length ≠ 0 := fun e => g2 (List.length_eq_zero_iff.1 e)
       have hKL : K.length < L.length := by omega
       simp [go_sem, Tryz.L47_0, hfx, hbx1, List.length_map, fdV, clearA, hKL]
       refine ⟨by omega, by omega, by omega, ret_pure (by simp [go_sem]) ⟨by simp [go_sem], _, by rw [g4, upd_upd], ?_, ?_⟩⟩
       · simp; omega
       · simp
end Go.Proofs

set_option linter.unusedVariables false
set_option linter.unusedSimpArgs false
set_option maxRecDepth 100000
namespace Go.Proofs
open Go Go.Pl Go.RowKit Go.Shelf
theorem kindP (c : UInt8) : kindN c = 0 ↔ plain1 c = false := by
 have : ∀ n : Fin 256, (decide (kindN (UInt8.ofNat n.val) = 0) == !plain1 (UInt8.ofNat n.val)) = true := by decide +kernel
 have := this ⟨c.toNat, c.toNat_lt⟩
 simp at this
 cases h : plain1 c <;> simp [h] at this ⊢ <;> exact this
theorem Tryz.trim_c {bx : Boxes} (hm : Mk bx) (s : List UInt8) (hs : s.length ≤ 100000) : PureCall Tryz.prog 134 [.str s] bx (.str (trimB s)) := by
 refine Tryz.ctr134 fun hf => ?_
 simp [go_sem, Tryz.C134, hf]
 refine callK_pure (Tryz.Trim_p hm s hs) ?_
 simp [go_sem]
 exact ret_pure (by simp [go_sem]) ⟨by simp [go_sem], rfl⟩
structure SJ (bx : Boxes) (s : List UInt8) (R : Option (List (List UInt8))) (f : List UInt8 → List UInt8) (fr i : Nat) (out : List (List UInt8)) (v : V) (bx1 : Boxes) : Prop where
 le : i ≤ s.length
 fi : fr ≤ i
 ol : out.length ≤ i
 eq : elG s fr i out = R
 acc : Acc bx 9 1 ((out.map f).map .str) v bx1
def SplitK (bx : Boxes) (R : Option (List (List UInt8))) (f : List UInt8 → List UInt8) (r : V) (bx' : Boxes) : Prop := match R with
 | some l => ∃ v, r = .tup [v, .bool true] ∧ Acc bx 9 1 ((l.map f).map .str) v bx'
 | none => r = .tup [.nils, .bool false] ∧ bx' = bx
set_option maxHeartbeats 2000000 in
theorem Tryz.split_c (hq : ∀ t : List UInt8, t.length ≤ 100000 → ∀ bx, PureCall Tryz.prog 133 [.str t] bx (.int .i64 (quotV t 0))) {bx : Boxes} (hm : Mk bx) (s : List UInt8) (hs : s.length ≤ 100000) :
   AbsCall Tryz.prog 110 [.str s, .int .u8 44] bx (SplitK bx (elG s 0 0 []) trimB) := by
 refine Tryz.ctr110 fun hf => ?_
 simp [go_sem, Tryz.C110, hf]
 refine pw_loop (ι := Nat × Nat × List (List UInt8) × V × Boxes) (fun q => SJ bx s (elG s 0 0 []) trimB q.1 q.2.1 q.2.2.1 q.2.2.2.1 q.2.2.2.2) (fun q => ⟨57, slk [(0, .str s), (1, .int .u8 44), (6, q.2.2.2.1), (7, .int .i64 q.1), (8, .int .i64 q.2.1)], q.2.2.2.2⟩) (fun q => s.length - q.2.1) (0, 0, [], .nils, bx) ⟨by simp, by simp, by simp, rfl, acc_nil hf _ _⟩ (cov_look (by simp [go_sem])) ?_
 rintro ⟨fr, i, out, v, bx1⟩ hJ
 dsimp only at hJ ⊢
 have hfb := hJ.acc.fin
 have hle := hJ.le
 have hfi := hJ.fi
 have hol := hJ.ol
 have hmk : Mk bx1 := mk_ext hm hJ.acc.ext
 have hR := hJ.eq
 have hw := wr_succ (k := i) (by omega)
 by_cases hlt : i < s.length
 · have hlI : (i : Int) < s.length := by omega
   rw [elG, dif_pos hlt] at hR
   have hkp := kindP s[i]
   by_cases h34 : s[i] = 34
   · have hp34 : ¬ plain1 s[i] = false := by rw [h34]; decide
     rw [if_neg hp34, if_pos h34] at hR
     simp [go_sem, Tryz.L110_0, hfb, hlt, h34]
     refine ⟨by omega, ?_⟩
     refine callK_pure (hq (s.drop i) (by simp; omega) _) ?_
     have hql := quotV_le (s.drop i)
     rw [List.length_drop] at hql
     generalize quotV (s.drop i) 0 = q at *
     by_cases hq0 : q = 0
     · rw [dif_pos hq0] at hR
       simp [go_sem, hfb, hq0]
       exact ret_drop (by simp [go_sem]) hJ.acc.ext (by simp only [go_sem]; rw [← hR]; exact ⟨rfl, rfl⟩)
     · rw [dif_neg hq0] at hR
       have hwq : IntKind.i64.wrap ((i : Int) + (q : Int)) = ((i + q : Nat) : Int) := by rw [wr64 (by omega)]; omega
       simp [go_sem, hfb, hq0, hwq]
       exact ⟨(fr, i + q, out, v, bx1), ⟨by dsimp only; omega, by dsimp only; omega, by dsimp only; omega, hR, hJ.acc⟩, cov_look (by simp [go_sem]), by dsimp only; omega⟩
   · have h34I : ¬ (s[i].toNat : Int) = 34 := fun e => h34 (UInt8.toNat_inj.1 (by show s[i].toNat = 34; omega))
     simp [go_sem, Tryz.L110_0, hfb, hlt, h34I]
     refine callK_pure (Tryz.kind_c s[i] _) ?_
     by_cases hk : plain1 s[i] = false
     · rw [if_pos hk] at hR
       have hk0 := hkp.2 hk
       simp [go_sem, hfb, hk0]
       exact ret_drop (by simp [go_sem]) hJ.acc.ext (by simp only [go_sem]; rw [← hR]; exact ⟨rfl, rfl⟩)
     · rw [if_neg hk, if_neg h34] at hR
       have hk0 : ¬ kindN s[i] = 0 := fun e => hk (hkp.1 e)
       by_cases h44 : s[i] = 44
       · rw [if_pos h44] at hR
         have hk44 : ¬ kindN 44 = 0 := by decide
         simp [go_sem, hfb, hk0, h44, hk44]
         refine ⟨⟨by omega, by omega⟩, ?_⟩
         refine callK_pure (Tryz.trim_c hmk ((s.take i).drop fr) (by simp; omega)) ?_
         simp [go_sem, hfb]
         intro b2 hb2
         refine acc_append (es := (out.map trimB).map .str) (news := [.str (trimB ((s.take i).drop fr))]) (e := 9) (sz := 1) (.string ⟨#[]⟩) hJ.acc ((Ext.refl _).new hb2 _) (by simp [finB_upd, hfb]) Tryz.knd25 Tryz.tsz9 (by simp [go_sem, srcEls, upd_eq]) Tryz.tzero9 (by simp [go_sem]) (by decide) (by simp [Tryz.tby9] <;> omega) (by simp <;> omega) (by simp [go_sem]) ?_
         intro v' bx3 ha'
         simp [go_sem, ha'.fin, ha'.cells, hw]
         have e1 : (out.map trimB).map V.str ++ [V.str (trimB ((s.take i).drop fr))] = ((out ++ [((s.take i).drop fr)]).map trimB).map V.str := by simp
         rw [e1] at ha'
         exact ⟨(i + 1, i + 1, _, v', bx3), ⟨hlt, Nat.le_refl _, by simp; omega, hR, ha'⟩, cov_look (by simp [go_sem]), by dsimp only; omega⟩
       · rw [if_neg h44] at hR
         have h44I : ¬ (s[i].toNat : Int) = 44 := fun e => h44 (UInt8.toNat_inj.1 (by show s[i].toNat = 44; omega))
         simp [go_sem, hfb, hk0, h44I, hw]
         exact ⟨(fr, i + 1, out, v, bx1), ⟨hlt, by dsimp only; omega, by dsimp only; omega, hR, hJ.acc⟩, cov_look (by simp [go_sem]), by dsimp only; omega⟩
 · have : i = s.length := by omega
   subst this
   rw [elG, dif_neg hlt] at hR
   simp [go_sem, Tryz.L110_0, hfb]
   refine ⟨by omega, ?_⟩
   refine callK_pure (Tryz.trim_c hmk (s.drop fr) (by simp; omega)) ?_
   simp [go_sem, hfb]
   intro b2 hb2
   refine acc_append (es := (out.map trimB).map .str) (news := [.str (trimB (s.drop fr))]) (e := 9) (sz := 1) (.string ⟨#[]⟩) hJ.acc ((Ext.refl _).new hb2 _) (by simp [finB_upd, hfb]) Tryz.knd25 Tryz.tsz9 (by simp [go_sem, srcEls, upd_eq]) Tryz.tzero9 (by simp [go_sem]) (by decide) (by simp [Tryz.tby9] <;> omega) (by simp <;> omega) (by simp [go_sem]) ?_
   intro v' bx3 ha'
   simp [go_sem, ha'.fin, ha'.cells, hw]
   have e1 : (out.map trimB).map V.str ++ [V.str (trimB (s.drop fr))] = ((out ++ [(s.drop fr)]).map trimB).map V.str := by simp
   rw [e1] at ha'
   refine ret_pure (by simp [go_sem]) ?_
   simp [go_sem]
   rw [← hR]
   exact ⟨v', rfl, ha'⟩
theorem elG_ne (s : List UInt8) : ∀ n fr i out l, s.length - i ≤ n → elG s fr i out = some l → l ≠ [] := by
 intro n
 induction n with
 | zero =>
   intro fr i out l h hl
   rw [elG, dif_neg (by omega)] at hl
   injection hl with hl
   subst hl; simp
 | succ n ih =>
   intro fr i out l h hl
   rw [elG] at hl
   by_cases hlt : i < s.length
   · rw [dif_pos hlt] at hl
     split at hl
     · cases hl
     · split at hl
       · split at hl
         · cases hl
         · exact ih _ _ _ _ (by omega) hl
       · split at hl
         · exact ih _ _ _ _ (by omega) hl
         · exact ih _ _ _ _ (by omega) hl
   · rw [dif_neg hlt] at hl
     injection hl with hl
     subst hl; simp
def elR (v : List UInt8) : List (List UInt8) × Int := if 2000 < v.length then ([], 3) else match elemsF v with
 | some l => (l, 0)
 | none => ([], 6)
def elV (x : List (List UInt8) × Int) : V := .tup [.sl 1 (x.1.map .str), .int .i64 x.2]
theorem frz_part {bx bx' : Boxes} {b sz n : Nat} {ty : TypeId} {es : List V} (h : bx b = some (.row ty sz es)) (h' : bx' b = none) (hs : 0 < sz) (hn : n ≤ es.length) : frz bx bx' 1 (.own b sz 0 n) = .sl sz (es.take n) := by
 unfold frz
 rw [h, h']
 simp only [hs, true_and, Nat.zero_add, hn, if_true, List.drop_zero, and_self]
 rw [frz_0L]
theorem Tryz.blankS_c (x : List UInt8) (bx : Boxes) : PureCall Tryz.prog 112 [.str x] bx (.bool (decide (x = []))) := by
 refine Tryz.ctr112 fun hf => ?_
 simp [go_sem, Tryz.C112, hf]
 exact ret_pure (by simp [go_sem]) ⟨by simp [go_sem], rfl⟩
theorem elG_len (s : List UInt8) : ∀ n fr i out l, s.length - i ≤ n → i ≤ s.length → out.length ≤ i → elG s fr i out = some l → l.length ≤ s.length + 1 := by
 intro n
 induction n with
 | zero =>
   intro fr i out l h hi ho hl
   rw [elG, dif_neg (by omega)] at hl
   injection hl with hl
   subst hl; simp; omega
 | succ n ih =>
   intro fr i out l h hi ho hl
   rw [elG] at hl
   by_cases hlt : i < s.length
   · rw [dif_pos hlt] at hl
     split at hl
     · cases hl
     · split at hl
       · split at hl
         · cases hl
         · have := quotV_le (s.drop i)
           rw [List.length_drop] at this
           exact ih _ _ _ _ (by omega) (by omega) (by omega) hl
       · split at hl
         · exact ih _ _ _ _ (by omega) (by omega) (by simp; omega) hl
         · exact ih _ _ _ _ (by omega) (by omega) (by omega) hl
   · rw [dif_neg hlt] at hl
     injection hl with hl
     subst hl; simp; omega
theorem Tryz.Elements_c (hq : ∀ t : List UInt8, t.length ≤ 100000 → ∀ bx, PureCall Tryz.prog 133 [.str t] bx (.int .i64 (quotV t 0))) {bx : Boxes} (hm : Mk bx) (s : List UInt8) :
   PureCall Tryz.prog 79 [.str s] bx (elV (elR s)) := by
 refine PureCall.wk (Tryz.ctr79 fun hf => ?_)
 by_cases h2 : 2000 < s.length
 · have h2' : (2000 : Int) < s.length := by omega
   simp [go_sem, Tryz.C79, hf, h2']
   refine ret_wk0 (by simp [go_sem]) ?_
   simp [go_sem, elV, elR, h2]
   exact wk_tup2 (wk_nils 1) (Wk.refl _)
 have h2' : ¬ (2000 : Int) < s.length := by omega
 simp [go_sem, Tryz.C79, hf, h2']
 refine callK_abs (Tryz.split_c hq hm s (by omega)) ?_
 intro r bx1 hS
 unfold SplitK at hS
 have helR : elR s = match elemsF s with | some l => (l, 0) | none => ([], 6) := by unfold elR; rw [if_neg h2]
 unfold elemsF at helR
 cases hE : elG s 0 0 [] with
 | none =>
   rw [hE] at hS helR
   obtain ⟨rfl, rfl⟩ := hS
   simp only [Option.map_none] at helR
   simp [go_sem, hf]
   refine ret_wk0 (by simp [go_sem]) ?_
   simp [go_sem, elV, helR]
   exact wk_tup2 (wk_nils 1) (Wk.refl _)
 | some l =>
   rw [hE] at hS helR
   obtain ⟨v, rfl, ha⟩ := hS
   have hne := elG_ne s _ 0 0 [] l (Nat.le_refl _) hE
   have hln := elG_len s _ 0 0 [] l (Nat.le_refl _) (by simp) (by simp) hE
   obtain ⟨b, g0, rfl, g2⟩ := ha.row (by simpa using hne)
   rw [List.length_map]
   simp only [Option.map_some] at helR
   generalize hL : l.map trimB = L at *
   have hLl : L.length = l.length := by rw [← hL]; simp
   simp [go_sem, ha.fin]
   refine callK_abs (Tryz.DeleteFunc_s (fun x => decide (x = [])) 112 [] L (by omega) g2 (fun x _ row => Tryz.blankS_c x _)) ?_
   rintro r bx2 ⟨rfl, row, rfl, h5, h6⟩
   simp [go_sem, finB_upd, ha.fin]
   refine ret_frz 2 (by simp [go_sem]) (ha.ext.upd_own g0 _) ⟨?_, rfl⟩
   simp [go_sem, elV, helR]
   have hfl : (L.filter fun x => !decide (x = [])).length ≤ row.length := by rw [h5]; exact List.length_filter_le _ _
   refine wk_tup2 ?_ (Wk.refl _)
   rw [frz_part (upd_eq _ _ _) g0 (by decide) hfl, h6]
   exact Wk.refl _
end Go.Proofs

set_option linter.unusedVariables false
set_option linter.unusedSimpArgs false
set_option maxRecDepth 100000
namespace Go.Proofs
open Go Go.Pl Go.RowKit Go.Shelf
theorem toByte_byteV (c : UInt8) : toByte (byteV c) = c := by unfold byteV toByte; simp
abbrev pieceB (b : List UInt8) (fr hi : Nat) : List UInt8 := (b.take hi).drop fr
theorem piece_eq (b : List UInt8) (fr hi : Nat) : pieceB b fr hi = (b.drop fr).take (hi - fr) := List.drop_take
theorem tbB : toByte ∘ byteV = id := funext toByte_byteV
theorem piece_init {b : List UInt8} {fr k : Nat} (h2 : k ≤ b.length) : (pieceB b fr k).dropLast = pieceB b fr (k - 1) := by
 rw [piece_eq, piece_eq, List.dropLast_eq_take, List.length_take, List.length_drop, List.take_take]
 congr 1
 omega
theorem piece_u8 (b : List UInt8) (fr hi : Nat) : ∀ x, x ∈ List.drop fr (List.take hi (List.map byteV b)) → isU8 x = true := by
 intro x hx
 obtain ⟨y, _, rfl⟩ := List.mem_map.1 (List.mem_of_mem_take (List.mem_of_mem_drop hx))
 rfl
theorem acc_frz1 {bx bx1 : Boxes} {e : TypeId} {sz : Nat} {es : List V} {v : V} (ha : Acc bx e sz es v bx1) (h : 0 < sz) : Wk (frz bx1 bx 1 v) (.sl sz es) := by
 rcases ha.is with ⟨g1, rfl⟩ | ⟨b, g1, rfl, g2⟩
 · rw [g1]; exact wk_nils sz
 · rw [frz_own1 g2 g1 h rfl]
   exact Wk.refl _
structure PJ (bx : Boxes) (b : List UInt8) (R : List Fd × Nat × Int) (k fr : Nat) (out : List Fd) (v : V) (bx1 : Boxes) : Prop where
 le : fr ≤ k
 lb : k ≤ b.length
 no : ¬ (10 : UInt8) ∈ pieceB b fr k
 ol : out.length ≤ 100
 eq : prs b.length fr out (b.drop fr) = R
 acc : Acc bx 38 2 (out.map fdV) v bx1
theorem PJ.next {bx : Boxes} {b : List UInt8} {R : List Fd × Nat × Int} {k fr : Nat} {out : List Fd} {v : V} {bx1 : Boxes} (h : PJ bx b R k fr out v bx1) (hk : k < b.length) (hc : b[k] ≠ 10) : PJ bx b R (k + 1) fr out v bx1 := by
 refine ⟨by have := h.le; omega, hk, fun hm => ?_, h.ol, h.eq, h.acc⟩
 have h1 := h.le
 rw [piece_eq, show k + 1 - fr = (k - fr) + 1 by omega, List.take_succ_eq_append_getElem (by simp; omega)] at hm
 rcases List.mem_append.1 hm with h2 | h2
 · exact h.no (by rw [piece_eq]; exact h2)
 · simp at h2
   have e : fr + (k - fr) = k := by omega
   simp only [e] at h2
   exact hc h2.symm
theorem PJ.at {bx : Boxes} {b : List UInt8} {R : List Fd × Nat × Int} {k fr : Nat} {out : List Fd} {v : V} {bx1 : Boxes} (h : PJ bx b R k fr out v bx1) (hk : k < b.length) (hc : b[k] = 10) : R =
   if 8192 ≤ k then ([], 0, 3)
   else if lineOk (pieceB b fr k) = true then
     if pieceB b fr (k - 1) = [] then (out, k + 1, 0)
     else match lineF (pieceB b fr (k - 1)) with
       | none => ([], 0, 6)
       | some f => if 2000 < f.2.length ∨ out.length = 100 then ([], 0, 3) else prs b.length (k + 1) (out ++ [f]) (b.drop (k + 1))
   else ([], 0, 6) := by
 have h1 := h.le
 have h3 : (b.drop fr)[k - fr]? = some 10 := by
   rw [List.getElem?_drop, show fr + (k - fr) = k by omega]
   simp [hk, hc]
 have h2 := h.eq
 rw [prs_at h3 (by rw [← piece_eq]; exact h.no)] at h2
 rw [← h2, show fr + (k - fr) = k by omega, List.drop_drop, show fr + (k - fr + 1) = k + 1 by omega]
 have e : (b.drop fr).take (k - fr) = pieceB b fr k := (piece_eq ..).symm
 rw [e, piece_init (by omega)]
 rfl
end Go.Proofs

set_option linter.unusedVariables false
set_option linter.unusedSimpArgs false
set_option maxRecDepth 100000
namespace Go.Proofs
open Go Go.Pl Go.RowKit Go.Shelf
theorem Tryz.plain5_c (c : UInt8) (bx : Boxes) : PureCall Tryz.prog 147 [.int .u8 c.toNat] bx (.bool (plain1 c)) := by
 refine Tryz.ctr147 fun hf => ?_
 rw [plain1_int]
 simp [go_sem, Tryz.C147, hf]
 refine ⟨by omega, ?_⟩
 exact ret_pure (by simp [go_sem]) ⟨by simp [go_sem], rfl⟩
def qEnd (s : List UInt8) (i : Nat) : Option Nat := (qLen (s.drop i)).map (i + ·)
theorem qEnd_end {s : List UInt8} {i : Nat} (h : s.length ≤ i) : qEnd s i = none := by
 unfold qEnd
 rw [List.drop_of_length_le h]; rfl
theorem qEnd_at {s : List UInt8} {i : Nat} (h : i < s.length) : qEnd s i = if plain1 s[i] = false then none else if s[i] = 34 then some (i + 1) else if s[i] = 92 then (if h2 : i + 1 < s.length then (if plain1 s[i + 1] = false then none else qEnd s (i + 2)) else none) else qEnd s (i + 1) := by
 unfold qEnd
 rw [qdrop h, qLen_cons]
 by_cases h1 : plain1 s[i] = false
 · rw [if_pos h1, if_pos h1]; rfl
 rw [if_neg h1, if_neg h1]
 by_cases h2 : s[i] = 34
 · rw [if_pos h2, if_pos h2]; rfl
 rw [if_neg h2, if_neg h2]
 by_cases h3 : s[i] = 92
 · rw [if_pos h3, if_pos h3]
   by_cases h4 : i + 1 < s.length
   · rw [dif_pos h4, qdrop h4]
     simp only []
     by_cases h5 : plain1 s[i + 1] = false
     · rw [if_pos h5, if_pos h5]; rfl
     · rw [if_neg h5, if_neg h5, Option.map_map]
       congr 1
       funext n
       simp
       omega
   · rw [dif_neg h4, List.drop_of_length_le (by omega)]; rfl
 · rw [if_neg h3, if_neg h3, Option.map_map]
   congr 1
   funext n
   simp
   omega
theorem qEnd_quot (s : List UInt8) (i : Nat) (hi : i < s.length) : qEnd s (i + 1) = if quotV (s.drop i) 0 = 0 then none else some (i + quotV (s.drop i) 0) := by
 unfold qEnd quotV
 rw [List.drop_drop]
 cases h : qLen (s.drop (i + 1)) with
 | none => simp [h]
 | some n =>
   simp
   omega
theorem Tryz.quoted5_c (s : List UInt8) (i : Nat) (hi : i < s.length) (hs : s.length ≤ 100000) (bx : Boxes) :
   AbsCall Tryz.prog 148 [.str s, .int .i64 i] bx fun r bx' => (∃ t, r = .tup [.int .i64 ((qEnd s (i + 1)).getD 0 : Nat), .str t, .bool (qEnd s (i + 1)).isSome]) ∧ bx' = bx := by
 refine Tryz.ctr148 fun hf => ?_
 have hw := wr_succ (k := i) (by omega)
 simp [go_sem, Tryz.C148, hf, hw]
 generalize hR : qEnd s (i + 1) = R
 refine pw_loop (ι := Nat × List UInt8) (fun q => q.1 ≤ s.length ∧ qEnd s q.1 = R ∧ q.2.length ≤ q.1) (fun q => ⟨54, slk [(0, .str s), (7, .str q.2), (8, .int .i64 q.1)], bx⟩) (fun q => s.length - q.1) (i + 1, []) ⟨by dsimp only; omega, hR, by simp⟩ (cov_look (by simp [go_sem])) ?_
 rintro ⟨k, t⟩ ⟨h1, h2, h3⟩
 dsimp only at h1 h2 h3 ⊢
 have hwk := wr_succ (k := k) (by omega)
 by_cases hlt : k < s.length
 · rw [qEnd_at hlt] at h2
   simp [go_sem, Tryz.L148_0, hf, hlt]
   refine gK_pure (Tryz.plain5_c s[k] bx) (by simp) (by simp [go_sem]) ?_
   cases hp : plain1 s[k]
   · rw [if_pos hp] at h2
     subst h2
     simp [go_sem, hf]
     exact ret_pure (by simp [go_sem]) ⟨⟨[], by simp [go_sem]⟩, rfl⟩
   · rw [if_neg (by simp [hp])] at h2
     by_cases h34 : s[k] = 34
     · rw [if_pos h34] at h2
       subst h2
       simp [go_sem, hf, hlt, h34, hwk]
       exact ret_pure (by simp [go_sem]) ⟨⟨t, by simp [go_sem]⟩, rfl⟩
     · rw [if_neg h34] at h2
       have h34I : ¬ (s[k].toNat : Int) = 34 := fun e => h34 (UInt8.toNat_inj.1 (by show s[k].toNat = 34; omega))
       by_cases h92 : s[k] = 92
       · rw [if_pos h92] at h2
         by_cases hl2 : k + 1 < s.length
         · rw [dif_pos hl2] at h2
           have hne : ¬ (((k + 1 : Nat) : Int) = s.length) := by omega
           have hwk2 := wr_succ (k := k + 1) (by omega)
           have hne' : ¬ ((k : Int) + 1 = s.length) := by omega
           have hg : s[k + 1]? = some s[k + 1] := List.getElem?_eq_getElem hl2
           have hwk3 : IntKind.i64.wrap ((k : Int) + 1 + 1) = (((k + 2 : Nat)) : Int) := by rw [wr64 (by omega)]; omega
           simp [go_sem, hf, hlt, h34I, h92, hwk, hne', hg]
           refine ⟨⟨by omega, by omega⟩, ?_⟩
           refine gK_pure (Tryz.plain5_c s[k + 1] bx) (by simp) (by simp [go_sem]) ?_
           cases hp2 : plain1 s[k + 1]
           · rw [if_pos hp2] at h2
             subst h2
             simp [go_sem, hf]
             exact ret_pure (by simp [go_sem]) ⟨⟨[], by simp [go_sem]⟩, rfl⟩
           · rw [if_neg (by simp [hp2])] at h2
             simp [go_sem, hf, hwk3]
             refine ⟨⟨by omega, by omega⟩, by omega, (k + 2, t ++ (s.take (k + 2)).drop (k + 1)), ⟨hl2, h2, ?_⟩, cov_look (by simp [go_sem, show ((k : Int) + 2).toNat = k + 2 by omega]), by dsimp only; omega⟩
             simp; omega
         · rw [dif_neg hl2] at h2
           have hne : (k : Int) + 1 = s.length := by omega
           have hwl : IntKind.i64.wrap (s.length : Int) = s.length := wr64 (by omega)
           subst h2
           simp [go_sem, hf, hlt, h34I, h92, hwk, hne, hwl]
           refine gK_off (.bool false) (by simp [go_sem]) ?_
           simp [go_sem]
           exact ret_pure (by simp [go_sem]) ⟨⟨[], by simp [go_sem]⟩, rfl⟩
       · rw [if_neg h92] at h2
         have h92I : ¬ (s[k].toNat : Int) = 92 := fun e => h92 (UInt8.toNat_inj.1 (by show s[k].toNat = 92; omega))
         simp [go_sem, hf, hlt, h34I, h92I, hwk]
         refine ⟨⟨by omega, by omega⟩, by omega, (k + 1, t ++ (s.take (k + 1)).drop k), ⟨hlt, h2, ?_⟩, cov_look (by simp [go_sem]), by dsimp only; omega⟩
         simp; omega
 · rw [qEnd_end (by omega)] at h2
   subst h2
   have : k = s.length := by omega
   subst this
   simp [go_sem, Tryz.L148_0, hf]
   refine gK_off (.bool false) (by simp [go_sem]) ?_
   simp [go_sem]
   exact ret_pure (by simp [go_sem]) ⟨⟨[], by simp [go_sem]⟩, rfl⟩
theorem elG_small (s : List UInt8) : ∀ n fr i out l, s.length - i ≤ n → (∀ x, x ∈ out → x.length ≤ s.length) → elG s fr i out = some l → ∀ x, x ∈ l → x.length ≤ s.length := by
 have hb : ∀ (fr i : Nat) (out l : List (List UInt8)), ¬ i < s.length → (∀ x, x ∈ out → x.length ≤ s.length) → elG s fr i out = some l → ∀ x, x ∈ l → x.length ≤ s.length := by
   intro fr i out l h ho hl
   rw [elG, dif_neg h] at hl
   injection hl with hl
   subst hl
   intro x hx
   rcases List.mem_append.1 hx with h1 | h1
   · exact ho x h1
   · simp at h1; subst h1; simp
 intro n
 induction n with
 | zero =>
   intro fr i out l h ho hl
   exact hb fr i out l (by omega) ho hl
 | succ n ih =>
   intro fr i out l h ho hl
   by_cases hlt : i < s.length
   · rw [elG, dif_pos hlt] at hl
     split at hl
     · cases hl
     · split at hl
       · split at hl
         · cases hl
         · exact ih _ _ _ _ (by omega) ho hl
       · split at hl
         · refine ih _ _ _ _ (by omega) (fun x hx => ?_) hl
           rcases List.mem_append.1 hx with h1 | h1
           · exact ho x h1
           · simp at h1; subst h1; simp; omega
         · exact ih _ _ _ _ (by omega) ho hl
   · exact hb fr i out l hlt ho hl
set_option maxHeartbeats 2000000 in
theorem Tryz.parts_c {bx : Boxes} (s : List UInt8) (hs : s.length ≤ 100000) :
   AbsCall Tryz.prog 116 [.str s, .int .u8 44] bx (SplitK bx (elG s 0 0 []) id) := by
 refine Tryz.ctr116 fun hf => ?_
 simp [go_sem, Tryz.C116, hf]
 refine pw_loop (ι := Nat × Nat × List (List UInt8) × V × Boxes) (fun q => SJ bx s (elG s 0 0 []) id q.1 q.2.1 q.2.2.1 q.2.2.2.1 q.2.2.2.2) (fun q => ⟨57, slk [(0, .str s), (1, .int .u8 44), (6, q.2.2.2.1), (7, .int .i64 q.1), (8, .int .i64 q.2.1)], q.2.2.2.2⟩) (fun q => s.length - q.2.1) (0, 0, [], .nils, bx) ⟨by simp, by simp, by simp, rfl, acc_nil hf _ _⟩ (cov_look (by simp [go_sem])) ?_
 rintro ⟨fr, i, out, v, bx1⟩ hJ
 dsimp only at hJ ⊢
 have hfb := hJ.acc.fin
 have hle := hJ.le
 have hfi := hJ.fi
 have hol := hJ.ol
 have hR := hJ.eq
 have hw := wr_succ (k := i) (by omega)
 by_cases hlt : i < s.length
 · rw [elG, dif_pos hlt] at hR
   simp [go_sem, Tryz.L116_0, hfb, hlt]
   refine callK_pure (Tryz.plain5_c s[i] _) ?_
   cases hp : plain1 s[i]
   · rw [if_pos hp] at hR
     simp [go_sem, hfb]
     exact ret_drop (by simp [go_sem]) hJ.acc.ext (by simp only [go_sem]; rw [← hR]; exact ⟨rfl, rfl⟩)
   rw [if_neg (by simp [hp])] at hR
   by_cases h34 : s[i] = 34
   · rw [if_pos h34] at hR
     simp [go_sem, hfb, hlt, h34]
     refine callK_abs (Tryz.quoted5_c s i hlt hs bx1) ?_
     rintro r bx2 ⟨⟨t, rfl⟩, rfl⟩
     have hqe := qEnd_quot s i hlt
     have hql := quotV_le (s.drop i)
     rw [List.length_drop] at hql
     generalize quotV (s.drop i) 0 = q at *
     by_cases hq0 : q = 0
     · rw [dif_pos hq0] at hR
       rw [if_pos hq0] at hqe
       rw [hqe]
       simp [go_sem, hfb]
       exact ret_drop (by simp [go_sem]) hJ.acc.ext (by simp only [go_sem]; rw [← hR]; exact ⟨rfl, rfl⟩)
     · rw [dif_neg hq0] at hR
       rw [if_neg hq0] at hqe
       rw [hqe]
       simp [go_sem, hfb]
       exact ⟨(fr, i + q, out, v, bx2), ⟨by dsimp only; omega, by dsimp only; omega, by dsimp only; omega, hR, hJ.acc⟩, cov_look (by simp [go_sem]), by dsimp only; omega⟩
   rw [if_neg h34] at hR
   have h34I : ¬ (s[i].toNat : Int) = 34 := fun e => h34 (UInt8.toNat_inj.1 (by show s[i].toNat = 34; omega))
   by_cases h44 : s[i] = 44
   · rw [if_pos h44] at hR
     simp [go_sem, hfb, hlt, h44]
     refine ⟨⟨by omega, by omega⟩, ?_⟩
     intro b2 hb2
     refine acc_append (es := (out.map id).map .str) (news := [.str ((s.take i).drop fr)]) (e := 9) (sz := 1) (.string ⟨#[]⟩) hJ.acc ((Ext.refl _).new hb2 _) (by simp [finB_upd, hfb]) Tryz.knd25 Tryz.tsz9 (by simp [go_sem, srcEls, upd_eq]) Tryz.tzero9 (by simp [go_sem]) (by decide) (by simp [Tryz.tby9] <;> omega) (by simp <;> omega) (by simp [go_sem]) ?_
     intro v' bx3 ha'
     simp [go_sem, ha'.fin, ha'.cells, hw]
     have e1 : (out.map id).map V.str ++ [V.str ((s.take i).drop fr)] = ((out ++ [((s.take i).drop fr)]).map id).map V.str := by simp
     rw [e1] at ha'
     exact ⟨(i + 1, i + 1, _, v', bx3), ⟨hlt, Nat.le_refl _, by simp; omega, hR, ha'⟩, cov_look (by simp [go_sem]), by dsimp only; omega⟩
   · rw [if_neg h44] at hR
     have h44I : ¬ (s[i].toNat : Int) = 44 := fun e => h44 (UInt8.toNat_inj.1 (by show s[i].toNat = 44; omega))
     simp [go_sem, hfb, hlt, h34I, h44I, hw]
     exact ⟨(fr, i + 1, out, v, bx1), ⟨hlt, by dsimp only; omega, by dsimp only; omega, hR, hJ.acc⟩, cov_look (by simp [go_sem]), by dsimp only; omega⟩
 · have : i = s.length := by omega
   subst this
   rw [elG, dif_neg hlt] at hR
   simp [go_sem, Tryz.L116_0, hfb]
   refine ⟨by omega, ?_⟩
   intro b2 hb2
   refine acc_append (es := (out.map id).map .str) (news := [.str (s.drop fr)]) (e := 9) (sz := 1) (.string ⟨#[]⟩) hJ.acc ((Ext.refl _).new hb2 _) (by simp [finB_upd, hfb]) Tryz.knd25 Tryz.tsz9 (by simp [go_sem, srcEls, upd_eq]) Tryz.tzero9 (by simp [go_sem]) (by decide) (by simp [Tryz.tby9] <;> omega) (by simp <;> omega) (by simp [go_sem]) ?_
   intro v' bx3 ha'
   simp [go_sem, ha'.fin, ha'.cells, hw]
   have e1 : (out.map id).map V.str ++ [V.str (s.drop fr)] = ((out ++ [(s.drop fr)]).map id).map V.str := by simp
   rw [e1] at ha'
   refine ret_pure (by simp [go_sem]) ?_
   simp [go_sem]
   rw [← hR]
   exact ⟨v', rfl, ha'⟩
set_option maxHeartbeats 1000000 in
theorem Tryz.rElements_c (s : List UInt8) (bx : Boxes) : PureCall Tryz.prog 84 [.str s] bx (elV (elR s)) := by
 refine PureCall.wk (Tryz.ctr84 fun hf => ?_)
 by_cases h2 : 2000 < s.length
 · have h2' : (2000 : Int) < s.length := by omega
   simp [go_sem, Tryz.C84, hf, h2']
   refine ret_wk0 (by simp [go_sem]) ?_
   simp [go_sem, elV, elR, h2]
   exact wk_tup2 (wk_nils 1) (Wk.refl _)
 have h2' : ¬ (2000 : Int) < s.length := by omega
 simp [go_sem, Tryz.C84, hf, h2']
 refine callK_abs (Tryz.parts_c s (by omega)) ?_
 intro r bx1 hS
 unfold SplitK at hS
 have helR : elR s = match elemsF s with | some l => (l, 0) | none => ([], 6) := by unfold elR; (rw [if_neg h2]) <;> rfl
 unfold elemsF at helR
 cases hE : elG s 0 0 [] with
 | none =>
   rw [hE] at hS helR
   obtain ⟨rfl, rfl⟩ := hS
   simp only [Option.map_none] at helR
   simp [go_sem, hf]
   refine ret_wk0 (by simp [go_sem]) ?_
   simp [go_sem, elV, helR]
   exact wk_tup2 (wk_nils 1) (Wk.refl _)
 | some l =>
   rw [hE] at hS helR
   obtain ⟨v, rfl, ha⟩ := hS
   have hne := elG_ne s _ 0 0 [] l (Nat.le_refl _) hE
   have hln := elG_len s _ 0 0 [] l (Nat.le_refl _) (by simp) (by simp) hE
   have hsm := elG_small s _ 0 0 [] l (Nat.le_refl _) (by simp) hE
   rw [List.map_id] at ha
   obtain ⟨b, g0, rfl, g2⟩ := ha.row (by simpa using hne)
   rw [List.length_map]
   simp only [Option.map_some] at helR
   simp [go_sem, ha.fin]
   refine pw_for (ι := Boxes × V) l.length (fun k i => Acc bx1 9 1 ((((l.take k).map trimB).filter fun x => !decide (x = [])).map .str) i.2 i.1) (fun k i => ⟨39, slk [(4, .own b 1 0 l.length), (6, i.2), (7, .int .i64 k)], i.1⟩) (bx1, .nils) (acc_nil ha.fin _ _) (cov_look (by simp [go_sem])) (fun k i hk hJ N hN => ?_) (fun i hJ N => ?_)
   · obtain ⟨bx2, v⟩ := i
     dsimp only at hJ ⊢
     have hw := wr_succ (k := k) (by omega)
     have hbb := hJ.ext b (by rw [g2]; simp)
     rw [g2] at hbb
     have hR2 : (l.map V.str)[k]? = some (.str l[k]) := by rw [List.getElem?_map, List.getElem?_eq_getElem hk]; rfl
     have hlk : l[k].length ≤ s.length := hsm l[k] (List.getElem_mem hk)
     have hsn : ((l.take (k + 1)).map trimB).filter (fun x => !decide (x = [])) = ((l.take k).map trimB).filter (fun x => !decide (x = [])) ++ (if trimB l[k] = [] then [] else [trimB l[k]]) := by
       rw [List.take_succ_eq_append_getElem hk, List.map_append, List.filter_append]
       by_cases h : trimB l[k] = [] <;> simp [h]
     have hfl : (((l.take k).map trimB).filter (fun x => !decide (x = []))).length ≤ l.length := Nat.le_trans (List.length_filter_le _ _) (by simp; omega)
     generalize ((l.take k).map trimB).filter (fun x => !decide (x = [])) = K at *
     simp [go_sem, Tryz.L84_0, hk, hJ.fin, hbb, hR2]
     refine callK_pure (Tryz.rtrim5_c l[k] (by omega) _) ?_
     by_cases ht : trimB l[k] = []
     · rw [if_pos ht, List.append_nil] at hsn
       simp [go_sem, hJ.fin, ht, hw]
       exact hN _ (bx2, v) (by rw [hsn]; exact hJ) (cov_look (by simp [go_sem]))
     · rw [if_neg ht] at hsn
       simp [go_sem, hJ.fin, ht, hw, hk, hbb, hR2]
       refine callK_pure (Tryz.rtrim5_c l[k] (by omega) _) ?_
       simp [go_sem, hJ.fin]
       intro b2 hb2
       generalize trimB l[k] = tl at *
       refine acc_append (es := K.map .str) (news := [.str tl]) (e := 9) (sz := 1) (.string ⟨#[]⟩) hJ ((Ext.refl _).new hb2 _) (by simp [finB_upd, hJ.fin]) Tryz.knd25 Tryz.tsz9 (by simp [go_sem, srcEls, upd_eq]) Tryz.tzero9 (by simp [go_sem]) (by decide) (by simp [Tryz.tby9]; omega) (by simp; omega) (by simp [go_sem]) ?_
       intro v' bx3 ha'
       simp [go_sem, ha'.fin, ha'.cells, hw]
       exact hN _ (bx3, v') (by rw [hsn, List.map_append]; exact ha') (cov_look (by simp [go_sem]))
   · obtain ⟨bx2, v⟩ := i
     dsimp only at hJ ⊢
     rw [List.take_length] at hJ
     simp [go_sem, Tryz.L84_0, hJ.fin]
     have hJ2 := hJ.base ha.ext
     refine ret_frz 2 (by simp [go_sem]) hJ2.ext ⟨?_, rfl⟩
     simp [go_sem, elV, helR]
     exact wk_tup2 (acc_frz1 hJ2 (by decide)) (Wk.refl _)
end Go.Proofs

set_option linter.unusedVariables false
set_option linter.unusedSimpArgs false
set_option maxRecDepth 100000
namespace Go.Proofs
open Go Go.Pl Go.RowKit Go.Shelf
structure PK (bx : Boxes) (b : List UInt8) (R : List Fd × Nat × Int) (k : Nat) (out : List Fd) (v : V) (bx1 : Boxes) : Prop where
 lb : k ≤ b.length
 l8 : k ≤ 8192
 ol : out.length ≤ 100
 eq : prs b.length k out (b.drop k) = R
 acc : Acc bx 38 2 (out.map fdV) v bx1
theorem cutC_len (s : List UInt8) (c : UInt8) : (cutC s c).1.length ≤ s.length ∧ (cutC s c).2.1.length ≤ s.length := by
 rcases idx_lt s c with ⟨h1, h2⟩ | ⟨n, h1, h2, h3, h4⟩
 · unfold cutC
   rw [if_neg h2]
   simp
 · rw [cut_at h3 h4]
   simp
   omega
theorem trimB_len (s : List UInt8) : (trimB s).length ≤ s.length := by
 unfold trimB
 rw [List.length_reverse]
 refine Nat.le_trans (List.dropWhile_sublist _).length_le ?_
 rw [List.length_reverse]
 exact (List.dropWhile_sublist _).length_le
set_option maxHeartbeats 2000000 in
theorem Tryz.Parse_c {bx : Boxes} (hm : Mk bx) (b : List UInt8) (hbl : b.length ≤ 100000) : PureCall Tryz.prog 27 [.sl 1 (b.map byteV)] bx (prsV (parseF b)) := by
 refine PureCall.wk (Tryz.ctr27 fun hf => ?_)
 simp [go_sem, Tryz.C27, hf]
 have he (e : Int) (h : parseF b = ([], 0, e)) : Wk (.tup [.nils, .int .i64 0, .int .i64 e]) (prsV (parseF b)) := by
   rw [h]
   exact wk_tup3 (wk_nils 2) (Wk.refl _) (Wk.refl _)
 refine pw_loop (ι := Nat × List Fd × V × Boxes) (fun i => PK bx b (parseF b) i.1 i.2.1 i.2.2.1 i.2.2.2) (fun i => ⟨90, slk [(0, .sl 1 (b.map byteV)), (5, i.2.2.1), (6, .int .i64 i.1)], i.2.2.2⟩) (fun i => b.length - i.1) (0, [], .nils, bx) ⟨by simp, by simp, by simp, rfl, acc_nil hf _ _⟩ (cov_look (by simp [go_sem])) ?_
 rintro ⟨k, out, v, bx1⟩ hJ
 dsimp only at hJ ⊢
 have hfb := hJ.acc.fin
 have hlb := hJ.lb
 have hl8 := hJ.l8
 have hmk : Mk bx1 := mk_ext hm hJ.acc.ext
 have hdr : List.drop k (List.map byteV b) = (b.drop k).map byteV := by rw [List.map_drop]
 simp [go_sem, Tryz.L27_0, hfb]
 refine ⟨by omega, ?_⟩
 have cI := Tryz.IndexByte_p (b.drop k) 10 bx1
 rw [List.map_drop] at cI
 have htk : List.take b.length (List.map byteV b) = List.map byteV b := List.take_of_length_le (by simp)
 rw [htk]
 refine callK_pure cI ?_
 have hR := hJ.eq
 rcases idx_lt (b.drop k) 10 with ⟨h1, h2⟩ | ⟨n, h1, h2, h3, h4⟩
 · rw [h1]
   rw [prs_no h2] at hR
   have w1 : IntKind.i64.wrap ((k : Int) + -1) = (k : Int) + -1 := wr64 (by omega)
   by_cases hb8 : 8192 < b.length
   · have hb8' : (8192 : Int) < b.length := by omega
     rw [if_pos hb8] at hR
     simp [go_sem, hfb, hb8']
     exact ret_drop (by simp [go_sem]) hJ.acc.ext ⟨by simp only [go_sem]; exact he 3 hR.symm, rfl⟩
   · have hb8' : ¬ (8192 : Int) < b.length := by omega
     rw [if_neg hb8] at hR
     simp [go_sem, hfb, hb8', w1]
     refine ⟨fun h => absurd h (by omega), fun _ => ?_⟩
     exact ret_drop (by simp [go_sem]) hJ.acc.ext ⟨by simp only [go_sem]; exact he 10 hR.symm, rfl⟩
 · rw [h2]
   rw [prs_at h3 h4] at hR
   rw [List.length_drop] at h1
   have w1 : IntKind.i64.wrap ((k : Int) + (n : Int)) = ((k + n : Nat) : Int) := by rw [wr64 (by omega)]; omega
   have hpe : pieceB b k (k + n) = (b.drop k).take n := by rw [piece_eq]; congr 1; omega
   by_cases h8 : 8192 ≤ k + n
   · have h8' : (8192 : Int) ≤ (k : Int) + (n : Int) := by omega
     rw [if_pos h8] at hR
     simp [go_sem, hfb, w1, h8']
     exact ret_drop (by simp [go_sem]) hJ.acc.ext ⟨by simp only [go_sem]; exact he 3 hR.symm, rfl⟩
   · have h8' : ¬ (8192 : Int) ≤ (k : Int) + (n : Int) := by omega
     rw [if_neg h8] at hR
     have eL : List.drop k (List.take ((k : Int) + (n : Int)).toNat (List.map (toByte ∘ byteV) b)) = (b.drop k).take n := by
       rw [tbB, List.map_id, show ((k : Int) + (n : Int)).toNat = k + n by omega]
       exact hpe
     have hln : ((b.drop k).take n).length ≤ 100000 := by simp; omega
     simp [go_sem, hfb, w1, h8']
     refine ⟨⟨by omega, by omega⟩, piece_u8 b k _, ?_⟩
     rw [eL]
     generalize (b.drop k).take n = ln at *
     refine callK_pure (Tryz.CutSuffix_p ln 13 (by omega) _) ?_
     by_cases hx : ln.getLast? = some 13
     · have hcs : cutS ln 13 = (ln.dropLast, true) := if_pos hx
       have hdl : ln.dropLast.length ≤ 100000 := by simp; omega
       rw [hcs]
       unfold lineOk at hR
       rw [decide_eq_true hx, Bool.true_and] at hR
       simp [go_sem, hfb]
       generalize ln.dropLast = s at *
       refine gK_pure (Tryz.Contains_p hmk s 13) (by simp) (by simp [go_sem]) ?_
       by_cases hr : (13 : UInt8) ∈ s
       · rw [if_neg (by simp [hr])] at hR
         simp [go_sem, hfb, hr]
         exact ret_drop (by simp [go_sem]) hJ.acc.ext ⟨by simp only [go_sem]; exact he 6 hR.symm, rfl⟩
       rw [if_pos (by simp [hr])] at hR
       have w2 := wr_succ (k := n) (by omega)
       have w3 : IntKind.i64.wrap ((k : Int) + ((n : Int) + 1)) = (((k + n + 1 : Nat) : Int)) := by rw [wr64 (by omega)]; omega
       by_cases hs0 : s = []
       · rw [if_pos hs0] at hR
         simp [go_sem, hfb, hr, w2, w3, hs0]
         refine ret_frz 2 (by simp [go_sem]) hJ.acc.ext ⟨?_, rfl⟩
         simp [go_sem, ← hR, prsV]
         exact wk_tup3 (acc_frz1 hJ.acc (by decide)) (by simpa using Wk.refl _) (Wk.refl _)
       rw [if_neg hs0] at hR
       simp [go_sem, hfb, hr, w2, w3, hs0]
       refine callK_pure (Tryz.Cut_p hmk s 58 (by omega)) ?_
       have hcl := cutC_len s 58
       have hlf : lineF s = if ((cutC s 58).2.2 && tokB (cutC s 58).1 && plainB (cutC s 58).2.1) = true then some ((cutC s 58).1, trimB (cutC s 58).2.1) else none := rfl
       generalize cutC s 58 = ct at *
       obtain ⟨nm, vl, isf⟩ := ct
       dsimp only at hcl hlf ⊢
       have hol := hJ.ol
       cases isf
       · rw [if_neg (by simp)] at hlf
         rw [hlf] at hR
         simp [go_sem, hfb]
         refine gK_off (.bool false) (by simp [go_sem]) ?_
         simp [go_sem, hfb]
         refine gK_off (.bool false) (by simp [go_sem]) ?_
         simp [go_sem, hfb]
         exact ret_drop (by simp [go_sem]) hJ.acc.ext ⟨by simp only [go_sem]; exact he 6 hR.symm, rfl⟩
       simp [go_sem, hfb]
       refine gK_pure (Tryz.Token_c nm (by omega) _) (by simp) (by simp [go_sem]) ?_
       cases hT : tokB nm
       · rw [if_neg (by simp [hT])] at hlf
         rw [hlf] at hR
         simp [go_sem, hfb]
         refine gK_off (.bool false) (by simp [go_sem]) ?_
         simp [go_sem, hfb]
         exact ret_drop (by simp [go_sem]) hJ.acc.ext ⟨by simp only [go_sem]; exact he 6 hR.symm, rfl⟩
       simp [go_sem, hfb]
       refine gK_pure (Tryz.plain_p hmk vl) (by simp) (by simp [go_sem]) ?_
       cases hP : plainB vl
       · rw [if_neg (by simp [hP])] at hlf
         rw [hlf] at hR
         simp [go_sem, hfb]
         exact ret_drop (by simp [go_sem]) hJ.acc.ext ⟨by simp only [go_sem]; exact he 6 hR.symm, rfl⟩
       rw [if_pos (by simp [hT, hP])] at hlf
       rw [hlf] at hR
       simp [go_sem, hfb]
       refine callK_pure (Tryz.Trim_p hmk vl (by omega)) ?_
       have htl := trimB_len vl
       simp only [] at hR
       generalize trimB vl = tv at *
       by_cases h2 : 2000 < tv.length
       · have h2' : (2000 : Int) < tv.length := by omega
         rw [if_pos (.inl h2)] at hR
         simp [go_sem, hfb, h2']
         exact ret_drop (by simp [go_sem]) hJ.acc.ext ⟨by simp only [go_sem]; exact he 3 hR.symm, rfl⟩
       have h2' : ¬ (2000 : Int) < tv.length := by omega
       by_cases h1 : out.length = 100
       · rw [if_pos (.inr h1)] at hR
         obtain ⟨b5, g0, g2, g3⟩ := hJ.acc.row (by intro e; have := congrArg List.length e; simp [h1] at this)
         subst g2
         simp [go_sem, hfb, h2', h1]
         exact ret_drop (by simp [go_sem]) hJ.acc.ext ⟨by simp only [go_sem]; exact he 3 hR.symm, rfl⟩
       have h1' : ¬ (out.length : Int) = 100 := by omega
       rw [if_neg (by rintro (h | h); exact h2 h; exact h1 h)] at hR
       have hJ2 := hJ.acc.is
       rcases hJ2 with ⟨g1, g2⟩ | ⟨b5, g0, g2, g3⟩
       · subst g2
         simp [go_sem, hfb, h2']
         intro b2 hb2
         refine acc_append (es := out.map fdV) (news := [fdV (nm, tv)]) (e := 38) (sz := 2) (.agg #[.string ⟨#[]⟩, .string ⟨#[]⟩]) hJ.acc ((Ext.refl _).new hb2 _) (by simp [finB_upd, hfb]) Tryz.knd22 Tryz.tsz38 (by simp [go_sem, srcEls, upd_eq, fdV]) Tryz.tzero38 (by simp [go_sem, fdV]) (by decide) (by simp [Tryz.tby38] <;> omega) (by simp <;> omega) (by simp [go_sem, fdV]) ?_
         intro v' bx3 ha'
         simp [go_sem, ha'.fin, ha'.cells]
         have e1 : out.map fdV ++ [fdV (nm, tv)] = (out ++ [(nm, tv)]).map fdV := by simp
         rw [e1] at ha'
         have hR2 : prs b.length (k + n + 1) (out ++ [(nm, tv)]) (b.drop (k + n + 1)) = parseF b := by
           rw [← hR, List.drop_drop, Nat.add_assoc]
         exact ⟨(k + n + 1, out ++ [(nm, tv)], v', bx3), ⟨by dsimp only; omega, by dsimp only; omega, by simp; omega, hR2, ha'⟩, cov_look (by simp [go_sem, fdV]), by dsimp only; omega⟩
       · rw [List.length_map] at g2
         subst g2
         simp [go_sem, hfb, h2', h1']
         intro b2 hb2
         refine acc_append (es := out.map fdV) (news := [fdV (nm, tv)]) (e := 38) (sz := 2) (.agg #[.string ⟨#[]⟩, .string ⟨#[]⟩]) hJ.acc ((Ext.refl _).new hb2 _) (by simp [finB_upd, hfb]) Tryz.knd22 Tryz.tsz38 (by simp [go_sem, srcEls, upd_eq, fdV]) Tryz.tzero38 (by simp [go_sem, fdV]) (by decide) (by simp [Tryz.tby38] <;> omega) (by simp <;> omega) (by simp [go_sem, fdV]) ?_
         intro v' bx3 ha'
         simp [go_sem, ha'.fin, ha'.cells]
         have e1 : out.map fdV ++ [fdV (nm, tv)] = (out ++ [(nm, tv)]).map fdV := by simp
         rw [e1] at ha'
         have hR2 : prs b.length (k + n + 1) (out ++ [(nm, tv)]) (b.drop (k + n + 1)) = parseF b := by
           rw [← hR, List.drop_drop, Nat.add_assoc]
         exact ⟨(k + n + 1, out ++ [(nm, tv)], v', bx3), ⟨by dsimp only; omega, by dsimp only; omega, by simp; omega, hR2, ha'⟩, cov_look (by simp [go_sem, fdV]), by dsimp only; omega⟩
     · have hcs : cutS ln 13 = (ln, false) := if_neg hx
       rw [hcs]
       have hlo : lineOk ln = false := by unfold lineOk; simp [hx]
       rw [hlo, if_neg (by simp)] at hR
       simp [go_sem, hfb]
       refine gK_off (.bool false) (by simp [go_sem]) ?_
       simp [go_sem, hfb]
       exact ret_drop (by simp [go_sem]) hJ.acc.ext ⟨by simp only [go_sem]; exact he 6 hR.symm, rfl⟩
end Go.Proofs

set_option linter.unusedVariables false
set_option linter.unusedSimpArgs false
set_option maxRecDepth 100000
namespace Go.Proofs
open Go Go.Pl Go.RowKit Go.Shelf
def connB : List UInt8 := [99, 111, 110, 110, 101, 99, 116, 105, 111, 110]
def fixedL : List (List UInt8) := [connB, [107, 101, 101, 112, 45, 97, 108, 105, 118, 101], [112, 114, 111, 120, 121, 45, 99, 111, 110, 110, 101, 99, 116, 105, 111, 110], [116, 101], [116, 114, 97, 105, 108, 101, 114], [116, 114, 97, 110, 115, 102, 101, 114, 45, 101, 110, 99, 111, 100, 105, 110, 103], [117, 112, 103, 114, 97, 100, 101]]
def addL (x : List (List UInt8)) : List (List UInt8) := (x.filter tokB).map Lib.toLowerA
def namesG : List (List UInt8) → List (List UInt8) → Option (List (List UInt8))
 | [], acc => some acc
 | v :: vs, acc => if (elR v).2 = 0 then namesG vs (acc ++ addL (elR v).1) else none
def namesF (l : List Fd) : Option (List (List UInt8)) := namesG (getL l connB) fixedL
theorem namesG_app : ∀ (vs ws acc : List (List UInt8)), namesG (vs ++ ws) acc = (namesG vs acc).bind (namesG ws)
 | [], ws, acc => rfl
 | v :: vs, ws, acc => by
   rw [List.cons_append, namesG, namesG]
   split
   · exact namesG_app vs ws _
   · rfl
theorem namesG_none {vs ws acc : List (List UInt8)} (h : namesG vs acc = none) : namesG (vs ++ ws) acc = none := by rw [namesG_app, h]; rfl
theorem Tryz.fixed_c {bx : Boxes} : AbsCall Tryz.prog 83 [] bx fun r bx' => Acc bx 9 1 (fixedL.map .str) r bx' := by
 refine Tryz.ctr83 fun hf => ?_
 simp [go_sem, Tryz.C83, hf]
 intro b hb
 refine ret_pure (by simp [go_sem]) ?_
 simp [go_sem]
 exact ⟨(Ext.refl _).new hb _, (finB_upd _ _ _).2 hf, .inr ⟨b, hb, rfl, upd_eq _ _ _⟩⟩
theorem Tryz.in_c (l : List (List UInt8)) (hl : l.length ≤ 1000000) (s : List UInt8) (bx : Boxes) : PureCall Tryz.prog 46 [.sl 1 (l.map .str), .str s] bx (.bool (decide (s ∈ l))) := by
 refine Tryz.ctr46 fun hf => ?_
 simp [go_sem, Tryz.C46, hf]
 refine pw_find l.length (fun j => decide (l.getD j [] = s)) (fun j => ⟨18, slk [(0, .sl 1 (l.map .str)), (1, .str s), (5, .int .i64 j)], bx⟩) (cov_look (by simp [go_sem])) (fun j hj hJ N hN => ?_) (fun hJ N => ?_)
 · have hw := wr_succ (k := j) (by omega)
   have hg : l.getD j [] = l[j] := by simp [hj]
   rw [hg] at hN
   simp [go_sem, Tryz.L46_0, hj, hf, hw]
   refine ⟨fun h => ret_pure (by simp [go_sem]) ⟨?_, rfl⟩, fun h => hN _ (by simpa using h) (cov_look (by simp [go_sem]))⟩
   have : s ∈ l := by rw [← h]; exact List.getElem_mem hj
   simp [go_sem, this]
 · simp [go_sem, Tryz.L46_0, hf]
   refine ret_pure (by simp [go_sem]) ⟨?_, rfl⟩
   have : ¬ s ∈ l := by
     intro h
     obtain ⟨j, hj, e⟩ := List.getElem_of_mem h
     have := hJ j hj
     simp [hj, e] at this
   simp [go_sem, this]
def namV (l : List Fd) : V := match namesF l with
 | some acc => .tup [.sl 1 (acc.map .str), .int .i64 0]
 | none => .tup [.sl 1 [], .int .i64 6]
theorem elR_err (v : List UInt8) : (elR v).2 ≠ 0 → (elR v).2 = 3 ∨ (elR v).2 = 6 := by
 unfold elR
 split
 · intro _; exact .inl rfl
 · cases elemsF v with
   | none => intro _; exact .inr rfl
   | some l => intro h; exact absurd rfl h
theorem elR_len (v : List UInt8) : (elR v).1.length ≤ 2001 ∧ ∀ x, x ∈ (elR v).1 → x.length ≤ 2000 := by
 unfold elR
 split
 · simp
 · rename_i h
   unfold elemsF
   cases hE : elG v 0 0 [] with
   | none => simp
   | some l =>
     have hln := elG_len v _ 0 0 [] l (Nat.le_refl _) (by simp) (by simp) hE
     have hsm := elG_small v _ 0 0 [] l (Nat.le_refl _) (by simp) hE
     simp only [Option.map_some]
     refine ⟨Nat.le_trans (List.length_filter_le _ _) (by simp; omega), fun x hx => ?_⟩
     have h1 := (List.mem_filter.1 hx).1
     obtain ⟨y, hy, rfl⟩ := List.mem_map.1 h1
     have := trimB_len y
     have := hsm y hy
     omega
theorem addL_len (x : List (List UInt8)) : (addL x).length ≤ x.length := by
 unfold addL
 rw [List.length_map]
 exact List.length_filter_le _ _
theorem addL_snoc {x : List (List UInt8)} {k : Nat} (hk : k < x.length) : addL (x.take (k + 1)) = if tokB x[k] = true then addL (x.take k) ++ [Lib.toLowerA x[k]] else addL (x.take k) := by
 unfold addL
 rw [List.take_succ_eq_append_getElem hk, List.filter_append, List.map_append]
 by_cases h : tokB x[k] = true <;> simp [h]
set_option maxHeartbeats 2000000 in
theorem Tryz.rnames_c (l : List Fd) (hl : Small l) (hll : l.length ≤ 1000) (bx : Boxes) : PureCall Tryz.prog 45 [.sl 2 (l.map fdV)] bx (namV l) := by
 refine PureCall.wk (Tryz.ctr45 fun hf => ?_)
 simp [go_sem, Tryz.C45, hf]
 refine callK_abs Tryz.fixed_c ?_
 intro r bx1 hA
 simp [go_sem, hA.fin, hA.cells]
 refine callK_pure (Tryz.rget_c l hl hll connB (by simp [connB]) _) ?_
 have hgl := getL_len l connB
 have hnm : namV l = match namesG (getL l connB) fixedL with
   | some acc => .tup [.sl 1 (acc.map .str), .int .i64 0]
   | none => .tup [.sl 1 [], .int .i64 6] := rfl
 generalize getL l connB = vs at *
 simp [go_sem, hA.fin, hA.cells]
 refine pw_for (ι := List (List UInt8) × V × Boxes) vs.length (fun i q => namesG (vs.take i) fixedL = some q.1 ∧ q.1.length ≤ 7 + i * 2001 ∧ Acc bx 9 1 (q.1.map .str) q.2.1 q.2.2) (fun i q => ⟨49, slk [(4, q.2.1), (5, .sl 1 (vs.map .str)), (6, .int .i64 i)], q.2.2⟩) (fixedL, r, bx1) ⟨rfl, by simp [fixedL], hA⟩ (cov_look (by simp [go_sem])) (fun i q hi hJ N hN => ?_) (fun q hJ N => ?_)
 · obtain ⟨acc, v, bx2⟩ := q
   obtain ⟨h1, h2, h3⟩ := hJ
   dsimp only at h1 h2 h3 ⊢
   have hw := wr_succ (k := i) (by omega)
   have hsn : namesG (vs.take (i + 1)) fixedL = if (elR vs[i]).2 = 0 then some (acc ++ addL (elR vs[i]).1) else none := by
     rw [List.take_succ_eq_append_getElem hi, namesG_app, h1]
     show namesG [vs[i]] acc = _
     rw [namesG]
     rfl
   simp [go_sem, Tryz.L45_1, hi, h3.fin]
   refine callK_pure (Tryz.rElements_c vs[i] _) ?_
   have herr := elR_err vs[i]
   have hel := elR_len vs[i]
   generalize elR vs[i] = E at *
   obtain ⟨x, e⟩ := E
   dsimp only at hsn herr hel ⊢
   unfold elV
   by_cases he : e = 0
   · rw [if_pos he] at hsn
     simp [go_sem, h3.fin, he]
     refine pw_for (ι := V × Boxes) x.length (fun k q => Acc bx 9 1 ((acc ++ addL (x.take k)).map .str) q.1 q.2) (fun k q => ⟨49, slk [(4, q.1), (5, .sl 1 (vs.map .str)), (6, .int .i64 i), (7, .sl 1 (x.map .str)), (9, .int .i64 k)], q.2⟩) (v, bx2) (by simpa [addL] using h3) (cov_look (by simp [go_sem])) (fun k q hk hJ N2 hN2 => ?_) (fun q hJ N2 => ?_)
     · obtain ⟨v2, bx3⟩ := q
       dsimp only at hJ ⊢
       have hwk := wr_succ (k := k) (by omega)
       have hal := addL_snoc hk
       have hle := addL_len (x.take k)
       rw [List.length_take] at hle
       have hxk := hel.2 x[k] (List.getElem_mem hk)
       simp [go_sem, Tryz.L45_0, hk, hJ.fin, -List.map_append]
       refine callK_pure (Tryz.rToken_c x[k] _) ?_
       cases hT : tokB x[k]
       · rw [hT, if_neg (by simp)] at hal
         simp [go_sem, hJ.fin, hwk, -List.map_append]
         exact hN2 _ (v2, bx3) (by rw [hal]; exact hJ) (cov_look (by simp [go_sem]))
       · rw [hT, if_pos rfl] at hal
         simp [go_sem, hJ.fin, hk, -List.map_append]
         refine callK_pure (Tryz.rFold_p _ x[k] (by omega)) ?_
         simp [go_sem, hJ.fin, -List.map_append]
         intro b2 hb2
         generalize addL (x.take k) = AL at *
         refine acc_append (es := (acc ++ AL).map .str) (news := [.str (Lib.toLowerA x[k])]) (e := 9) (sz := 1) (.string ⟨#[]⟩) hJ ((Ext.refl _).new hb2 _) (by simp [finB_upd, hJ.fin]) Tryz.knd25 Tryz.tsz9 (by simp [go_sem, srcEls, upd_eq]) Tryz.tzero9 (by simp [go_sem]) (by decide) (by simp [Tryz.tby9]; omega) (by simp; omega) (by simp [go_sem]) ?_
         intro v' bx4 ha'
         have e1 : (acc ++ AL).map V.str ++ [V.str (Lib.toLowerA x[k])] = (acc ++ addL (x.take (k + 1))).map .str := by rw [hal]; simp
         rw [e1] at ha'
         simp [go_sem, ha'.fin, ha'.cells, hwk, -List.map_append]
         exact hN2 _ (v', bx4) ha' (cov_look (by simp [go_sem]))
     · obtain ⟨v2, bx3⟩ := q
       dsimp only at hJ ⊢
       rw [List.take_length] at hJ
       have hle := addL_len x
       simp [go_sem, Tryz.L45_0, hJ.fin, hw]
       refine hN _ (acc ++ addL x, v2, bx3) ⟨by dsimp only; exact hsn, ?_, hJ⟩ (cov_look (by simp [go_sem]))
       dsimp only
       rw [List.length_append]
       omega
   · rw [if_neg he] at hsn
     have hno : namesG vs fixedL = none := by
       have := namesG_none (ws := vs.drop (i + 1)) hsn
       rwa [List.take_append_drop] at this
     rw [hno] at hnm
     simp [go_sem, h3.fin, he]
     refine ret_drop (by simp [go_sem]) h3.ext ⟨?_, rfl⟩
     simp [go_sem, hnm]
     exact wk_tup2 (wk_nils 1) (Wk.refl _)
 · obtain ⟨acc, v, bx2⟩ := q
   obtain ⟨h1, h2, h3⟩ := hJ
   dsimp only at h1 h2 h3 ⊢
   rw [List.take_length] at h1
   rw [h1] at hnm
   simp [go_sem, Tryz.L45_1, h3.fin]
   refine ret_frz 2 (by simp [go_sem]) h3.ext ⟨?_, rfl⟩
   simp [go_sem, hnm]
   exact wk_tup2 (acc_frz1 h3 (by decide)) (Wk.refl _)
end Go.Proofs

set_option linter.unusedSimpArgs false
set_option linter.unusedVariables false
set_option maxRecDepth 100000
namespace Go.Proofs
open Go Go.Pl Go.RowKit
def kvV (s : List UInt8) : V × V := (.str s, .bool true)
theorem kv_no {s : List UInt8} : ∀ (L : List (List UInt8)) (i : Nat), ¬ s ∈ L → findV (.str s) (L.map kvV) i = some none
 | [], i, _ => rfl
 | x :: L, i, h => by
   show findV (.str s) ((.str x, .bool true) :: L.map kvV) i = _
   have h1 : (s == x) = false := by simp; exact fun e => h (by rw [e]; simp)
   rw [findV]
   simp only [sameK, h1]
   exact kv_no L (i + 1) fun e => h (List.mem_cons_of_mem _ e)
theorem kv_yes {s : List UInt8} : ∀ (L : List (List UInt8)) (i : Nat), s ∈ L → ∃ j, findV (.str s) (L.map kvV) i = some (some (i + j, .bool true)) ∧ L[j]? = some s
 | [], i, h => by simp at h
 | x :: L, i, h => by
   show ∃ j, findV (.str s) ((.str x, .bool true) :: L.map kvV) i = _ ∧ _
   by_cases e : s = x
   · subst e
     refine ⟨0, ?_, rfl⟩
     rw [findV]
     simp [sameK]
   · rcases List.mem_cons.1 h with h1 | h1
     · exact absurd h1 e
     · obtain ⟨j, h2, h3⟩ := kv_yes L (i + 1) h1
       refine ⟨j + 1, ?_, by simpa using h3⟩
       have h1 : (s == x) = false := by simpa using e
       rw [findV]
       simp only [sameK, h1]
       rw [h2, show i + 1 + j = i + (j + 1) by omega]
def insN (L : List (List UInt8)) (s : List UInt8) : List (List UInt8) := if s ∈ L then L else L ++ [s]
theorem kv_put (L : List (List UInt8)) (s : List UInt8) : mapPut (.str s) (.bool true) (L.map kvV) = some ((insN L s).map kvV) := by
 unfold mapPut insN
 by_cases h : s ∈ L
 · obtain ⟨j, h1, h2⟩ := kv_yes L 0 h
   rw [h1, if_pos h]
   simp only [Nat.zero_add]
   congr 1
   have hj := (List.getElem?_eq_some_iff.1 h2).1
   have hs := (List.getElem?_eq_some_iff.1 h2).2
   apply List.ext_getElem (by simp)
   intro i h3 h4
   rw [List.getElem_set]
   split
   · rename_i e
     subst e
     simp [hs, kvV]
   · rfl
 · rw [kv_no L 0 h, if_neg h]
   simp [kvV]
def insL (L x : List (List UInt8)) : List (List UInt8) := x.foldl insN L
theorem mem_insN (L : List (List UInt8)) (s t : List UInt8) : t ∈ insN L s ↔ t ∈ L ∨ t = s := by
 unfold insN
 split
 · rename_i h
   exact ⟨.inl, fun h2 => h2.elim id fun e => e ▸ h⟩
 · simp
theorem mem_insL (t : List UInt8) : ∀ (x L : List (List UInt8)), t ∈ insL L x ↔ t ∈ L ∨ t ∈ x
 | [], L => by simp [insL]
 | s :: x, L => by
   show t ∈ insL (insN L s) x ↔ _
   rw [mem_insL t x (insN L s), mem_insN]
   simp [or_assoc]
theorem insL_app (L x y : List (List UInt8)) : insL L (x ++ y) = insL (insL L x) y := List.foldl_append
end Go.Proofs

set_option linter.unusedSimpArgs false
set_option linter.unusedVariables false
set_option maxRecDepth 100000
namespace Go.Proofs
open Go Go.Pl Go.RowKit
theorem Tryz.quoted_p (s : List UInt8) (hs : s.length ≤ 100000) (bx : Boxes) : PureCall Tryz.prog 133 [.str s] bx (.int .i64 (quotV s 0)) :=
 lift_litsD (us := [.string ⟨s.toArray⟩]) (enters_of Tryz.func133 (by kernel_rfl) rfl) rfl (fun β w F => .int _ _) fun w => Tryz.quoted_w s w hs
theorem ext_set {a b : Boxes} (h : Ext a b) {x : Nat} (hx : a x = none) (v : Option Box) : Ext a (upd b x v) := fun y hy => by
 rw [upd_ne _ _ (by rintro rfl; exact hy hx)]; exact h y hy
theorem ext_put2 {a b : Boxes} (h : Ext a b) {x y : Nat} (hx : a x = none) (hy : a y = none) {v u : Option Box} : Ext a (upd (upd b x v) y u) := ext_set (ext_set h hx v) hy u
def HopQ (bx : Boxes) (l : List Fd) (r : V) (bx' : Boxes) : Prop :=
 if chkL l = 0 then match namesF l with
   | some acc => ∃ b, bx b = none ∧ r = .tup [.mp b, .int .i64 0] ∧ bx' b = some (.map ((insL [] acc).map kvV)) ∧ Ext bx bx' ∧ FinB bx'
   | none => r = .tup [.nilm, .int .i64 6] ∧ Ext bx bx' ∧ FinB bx'
 else r = .tup [.nilm, .int .i64 (chkL l)] ∧ Ext bx bx' ∧ FinB bx'
set_option maxHeartbeats 4000000 in
theorem Tryz.hops_c {bx : Boxes} (hm : Mk bx) (l : List Fd) (hl : Small l) : AbsCall Tryz.prog 41 [.sl 2 (l.map fdV)] bx (HopQ bx l) := by
 refine Tryz.ctr41 fun hf => ?_
 simp [go_sem, Tryz.C41, hf]
 intro b2 hb2 b3 hb3
 have hmb : Mk (upd (upd bx b2 (some (.row 57 1 [V.nilm]))) b3 (some (.row 26 1 [V.int .i64 0]))) := mk_new (mk_new hm hb2 _) hb3 _
 have n32 : b3 ≠ b2 := (new_ne hb3).1
 have hb3x : bx b3 = none := (new_ne hb3).2
 have hBx : Ext bx (upd (upd bx b2 (some (.row 57 1 [V.nilm]))) b3 (some (.row 26 1 [V.int .i64 0]))) := ((Ext.refl _).new hb2 _).new hb3 _
 have hB2 : upd (upd bx b2 (some (.row 57 1 [V.nilm]))) b3 (some (.row 26 1 [V.int .i64 0])) b2 = some (.row 57 1 [V.nilm]) := by rw [upd_ne _ _ (Ne.symm n32), upd_eq]
 have hB3 : upd (upd bx b2 (some (.row 57 1 [V.nilm]))) b3 (some (.row 26 1 [V.int .i64 0])) b3 = some (.row 26 1 [V.int .i64 0]) := by rw [upd_eq]
 have hBf : FinB (upd (upd bx b2 (some (.row 57 1 [V.nilm]))) b3 (some (.row 26 1 [V.int .i64 0]))) := by simp [finB_upd, hf]
 generalize upd (upd bx b2 (some (.row 57 1 [V.nilm]))) b3 (some (.row 26 1 [V.int .i64 0])) = B0 at *
 refine callK_pure (Tryz.Check_c hmb l hl) ?_
 by_cases h : chkL l = 0
 · have hll := chkL_len h
   simp [go_sem, h, hBf, hB2, hB3, findV, sameK]
   intro bm hbm b5 hb5
   have nm5 : b5 ≠ bm := (new_ne hb5).1
   have hb5' : B0 b5 = none := (new_ne hb5).2
   have nm2 : bm ≠ b2 := fun e => by rw [e, hB2] at hbm; cases hbm
   have nm3 : bm ≠ b3 := fun e => by rw [e, hB3] at hbm; cases hbm
   have hMm : upd B0 bm (some (.map ((insL [] fixedL).map kvV))) bm = some (.map ((insL [] fixedL).map kvV)) := upd_eq _ _ _
   have e0 : (insL [] fixedL).map kvV = [(V.str [99, 111, 110, 110, 101, 99, 116, 105, 111, 110], V.bool true),
                   (V.str [107, 101, 101, 112, 45, 97, 108, 105, 118, 101], V.bool true),
                   (V.str [112, 114, 111, 120, 121, 45, 99, 111, 110, 110, 101, 99, 116, 105, 111, 110], V.bool true),
                   (V.str [116, 101], V.bool true), (V.str [116, 114, 97, 105, 108, 101, 114], V.bool true),
                   (V.str [116, 114, 97, 110, 115, 102, 101, 114, 45, 101, 110, 99, 111, 100, 105, 110, 103],
                     V.bool true),
                   (V.str [117, 112, 103, 114, 97, 100, 101], V.bool true)] := by
     rw [show insL [] fixedL = fixedL by decide]
     rfl
   rw [← e0] at hb5 ⊢
   have hMb : ∀ x, B0 x ≠ none → upd B0 bm (some (.map ((insL [] fixedL).map kvV))) x = B0 x := fun x hx => upd_ne _ _ (by rintro rfl; exact hx hbm)
   have hMx : Ext B0 (upd B0 bm (some (.map ((insL [] fixedL).map kvV)))) := (Ext.refl _).new hbm _
   have hMf : FinB (upd B0 bm (some (.map ((insL [] fixedL).map kvV)))) := by simp [finB_upd, hBf]
   generalize upd B0 bm (some (.map ((insL [] fixedL).map kvV))) = B1 at *
   refine callK_pure (Tryz.named_c l connB (by simp [connB]) _) ?_
   simp [go_sem, hMf, upd_eq, upd_upd, upd_none hb5]
   refine pw_iterS (by kernel_rfl) (Tryz.named_it l hl (by omega) (Lib.toLowerA connB) B1) (fun k bx' => ∃ acc, namesG (getL (l.take k) connB) fixedL = some acc ∧ acc.length ≤ 7 + k * 2001 ∧ bx' bm = some (.map ((insL [] acc).map kvV)) ∧ Ext B0 bx' ∧ FinB bx') (by simp [go_sem]) ?_ ?_ ?_ (by simp) (by rfl) (by rfl) ?_ ?_
   · exact ⟨fixedL, rfl, by simp [fixedL], hMm, hMx, hMf⟩
   · rintro k _ ⟨acc, _, _, _, _, hfb⟩; exact hfb
   · intro k args hk ha
     unfold namX at ha
     split at ha
     · injection ha with ha
       subst ha; rfl
     · cases ha
   · rintro k bx1 hkk ⟨acc, h1, h2, h3, h4, h5⟩
     have hmk1 : Mk bx1 := mk_ext hmb h4
     have hc2 : bx1 b2 = some (.row 57 1 [V.nilm]) := by rw [h4 b2 (by rw [hB2]; simp), hB2]
     have hc3 : bx1 b3 = some (.row 26 1 [V.int .i64 0]) := by rw [h4 b3 (by rw [hB3]; simp), hB3]
     have hg : l.getD k ([], []) = l[k] := by simp [hkk]
     have hsn := getL_snoc l connB hkk
     unfold namX
     rw [hg]
     by_cases hI : Lib.toLowerA l[k].1 = Lib.toLowerA connB
     · have hI2 : isN l[k] connB = true := by simp [isN, hI]
       rw [if_pos hI2] at hsn
       refine ⟨fun hx => (by rw [if_pos hI] at hx; cases hx), fun args hx K k1 k2 => ?_⟩
       rw [if_pos hI] at hx
       injection hx with hx
       subst hx
       have hsn2 : namesG (getL (l.take (k + 1)) connB) fixedL = if (elR l[k].2).2 = 0 then some (acc ++ addL (elR l[k].2).1) else none := by
         rw [hsn, namesG_app, h1]
         show namesG [l[k].2] acc = _
         rw [namesG]
         rfl
       simp [go_sem, Tryz.L41_0a, setPs, upd_look, h5]
       simp [go_sem, Tryz.L41_0b, h5]
       refine callK_pure (Tryz.Elements_c Tryz.quoted_p hmk1 l[k].2) ?_
       have herr := elR_err l[k].2
       have hel := elR_len l[k].2
       generalize elR l[k].2 = E at *
       obtain ⟨x, e⟩ := E
       dsimp only at hsn2 herr hel ⊢
       unfold elV
       by_cases he : e = 0
       · rw [if_pos he] at hsn2
         simp [go_sem, h5, he]
         refine pw_for (ι := Boxes) x.length (fun j q => q bm = some (.map ((insL [] (acc ++ addL (x.take j))).map kvV)) ∧ Ext B0 q ∧ FinB q) (fun j q => ⟨43, slk [(5, (V.mp bm).ep 0), (30, .sl 1 (x.map .str)), (31, .int .i64 x.length), (32, .int .i64 j)], q⟩) bx1 ⟨by simpa [addL] using h3, h4, h5⟩ (cov_look (by simp [go_sem])) (fun j q hj hJ N2 hN2 => ?_) (fun q hJ N2 => ?_)
         · obtain ⟨g1, g2, g3⟩ := hJ
           have hwj := wr_succ (k := j) (by omega)
           have hal := addL_snoc hj
           have hxk := hel.2 x[j] (List.getElem_mem hj)
           simp [go_sem, Tryz.L41_1, hj, g3]
           refine callK_pure (Tryz.Token_c x[j] (by omega) _) ?_
           cases hT : tokB x[j]
           · rw [hT, if_neg (by simp)] at hal
             simp [go_sem, g3, hwj]
             exact hN2 _ q ⟨by rw [hal]; exact g1, g2, g3⟩ (cov_look (by simp [go_sem]))
           · rw [hT, if_pos rfl] at hal
             simp [go_sem, g3, hwj]
             refine callK_pure (Tryz.Fold_p _ x[j] (by omega)) ?_
             have hput : insN (insL [] (acc ++ addL (x.take j))) (Lib.toLowerA x[j]) = insL [] (acc ++ addL (x.take (j + 1))) := by
               rw [hal, ← List.append_assoc, insL_app _ _ [Lib.toLowerA x[j]]]
               rfl
             have hp := kv_put (insL [] (acc ++ addL (x.take j))) (Lib.toLowerA x[j])
             unfold mapPut at hp
             rw [hput] at hp
             simp [go_sem, g1, g3, hwj, hp, -List.map_append]
             refine hN2 _ (upd q bm (some (.map ((insL [] (acc ++ addL (x.take (j + 1)))).map kvV)))) ⟨upd_eq _ _ _, ?_, by simp [finB_upd, g3]⟩ (cov_look (by simp [go_sem]))
             intro y hy
             rw [upd_ne _ _ (by rintro rfl; exact hy hbm)]
             exact g2 y hy
         · obtain ⟨g1, g2, g3⟩ := hJ
           rw [List.take_length] at g1
           simp [go_sem, Tryz.L41_1, g3]
           refine k1 _ ⟨_, hsn2, ?_, g1, g2, g3⟩
           have := addL_len x
           simp only [List.length_append]
           omega
       · simp [go_sem, h5, he, hc2, hc3, upd_ne _ _ n32, upd_ne _ _ (Ne.symm n32)]
         rw [if_neg he] at hsn2
         refine k2 _ _ (.inl rfl) ?_
         simp [go_sem]
         refine ret_pure (by simp [go_sem, hc2, hc3, upd_ne _ _ n32, upd_ne _ _ (Ne.symm n32)]) ?_
         have hnn : namesF l = none := by
           unfold namesF
           have : l = l.take (k + 1) ++ l.drop (k + 1) := (List.take_append_drop _ _).symm
           rw [this]
           unfold getL
           rw [List.filter_append, List.map_append]
           exact namesG_none hsn2
         unfold HopQ
         rw [if_pos h, hnn]
         exact ⟨by simp [go_sem, hc2, hc3, upd_ne _ _ n32, upd_ne _ _ (Ne.symm n32)], ext_put2 (hBx.trans h4) hb2 hb3x, by simp [finB_upd, h5]⟩
     · have hI2 : isN l[k] connB = false := by simp [isN, hI]
       rw [hI2, if_neg (by simp)] at hsn
       exact ⟨fun _ => ⟨acc, by rw [hsn]; exact h1, by omega, h3, h4, h5⟩, fun args hx => (by rw [if_neg hI] at hx; cases hx)⟩
   · rintro bx1 ⟨acc, h1, h2, h3, h4, h5⟩
     rw [List.take_length] at h1
     have hc2 : bx1 b2 = some (.row 57 1 [V.nilm]) := by rw [h4 b2 (by rw [hB2]; simp), hB2]
     have hc3 : bx1 b3 = some (.row 26 1 [V.int .i64 0]) := by rw [h4 b3 (by rw [hB3]; simp), hB3]
     simp [go_sem, h5, hc2, hc3, upd_ne _ _ n32, upd_ne _ _ (Ne.symm n32)]
     refine ret_pure (by simp [go_sem, hc2, hc3, upd_ne _ _ n32, upd_ne _ _ (Ne.symm n32)]) ?_
     unfold HopQ namesF
     rw [if_pos h, h1]
     refine ⟨bm, ?_, by simp [go_sem, hc2, hc3, upd_ne _ _ n32, upd_ne _ _ (Ne.symm n32)], ?_, ext_put2 (hBx.trans h4) hb2 hb3x, by simp [finB_upd, h5]⟩
     · exact hBx.none hbm
     · show upd (upd bx1 b2 _) b3 _ bm = _
       rw [upd_ne _ _ nm3, upd_ne _ _ nm2, h3]
 · simp [go_sem, h, hBf, hB2, hB3, upd_ne _ _ n32, upd_ne _ _ (Ne.symm n32)]
   refine ret_pure (by simp [go_sem, hB2, hB3, upd_ne _ _ n32, upd_ne _ _ (Ne.symm n32)]) ?_
   unfold HopQ
   rw [if_neg h]
   refine ⟨by simp [go_sem, hB2, hB3, upd_ne _ _ n32, upd_ne _ _ (Ne.symm n32)], ?_, by simp [finB_upd, hBf]⟩
   refine ext_put2 hBx hb2 hb3x
end Go.Proofs

set_option linter.unusedSimpArgs false
set_option linter.unusedVariables false
set_option maxRecDepth 100000
namespace Go.Proofs
open Go Go.Pl Go.RowKit
theorem Tryz.appH {bx bx1 bx2 : Boxes} {es news : List V} {v x : V} {d n : Nat} {sl : Nat → V} {K : St → Prop} (ha : Pl.Acc bx 38 2 es v bx1) (h2 : Ext bx1 bx2) (hf : FinB bx2) (src : srcEls ⟨n, sl, bx2⟩ 2 x = some news) (hlen : es.length + news.length ≤ 1000000) (hd : d < n)
   (hK : ∀ v' bx3, Pl.Acc bx 38 2 (es ++ news) v' bx3 → K (St.put ⟨n, sl, bx3⟩ (some d) v')) : appendA Tryz.prog ⟨n, sl, bx2⟩ (some d) 22 v x K :=
 acc_append (.agg #[.string ⟨#[]⟩, .string ⟨#[]⟩]) ha h2 hf Tryz.knd22 Tryz.tsz38 src Tryz.tzero38 (by simp [go_sem]) (by omega) (by simp [Tryz.tby38]; omega) (by omega) (by simpa [go_sem] using hd) hK
theorem Tryz.clone_a (l : List Fd) (bx : Boxes) (hl : l.length ≤ 100000) : AbsCall Tryz.prog 48 [.sl 2 (l.map fdV)] bx fun r bx' => Acc bx 38 2 (l.map fdV) r bx' := by
 refine Tryz.ctr48 fun hb => ?_
 simp [go_sem, Tryz.C48, hb]
 refine ⟨fun b hb1 => ?_, fun hne => ?_⟩
 · refine Tryz.appH (bx := bx) (es := []) (news := l.map fdV) (acc_new hb1 hb 38 2 [] 0 rfl) (Ext.refl _) (by simp [finB_upd, hb]) (by simp [go_sem, srcEls]) (by simp; omega) (by omega) ?_
   intro v' bx3 ha'
   simp [go_sem]
   refine ret_pure (by simp [go_sem]) ?_
   simpa [go_sem] using ha'
 · refine ret_pure (by simp [go_sem]) ?_
   simpa [go_sem, hne] using acc_nil hb 38 2
theorem Tryz.IndexFunc_0 (g : FuncId) (caps : List V) (bx : Boxes) : PureCall Tryz.prog 85 [.nils, .fn (.func g) caps] bx (.int .i64 (-1)) := by
 refine Tryz.ctr85 fun hf => ?_
 simp [go_sem, Tryz.C85, hf]
 refine pw_upto 0 (fun j => ⟨19, slk [(0, .nils), (1, .fn (.func g) caps), (7, .int .i64 0), (8, .int .i64 j)], bx⟩) (cov_look (by simp [go_sem])) (fun j hj N hN => by omega) (fun N => ?_)
 simp [go_sem, Tryz.L85_0, hf]
 exact ret_pure (by simp [go_sem]) ⟨by simp [go_sem], rfl⟩
theorem Tryz.DeleteFunc_0 (g : FuncId) (caps : List V) (bx : Boxes) : PureCall Tryz.prog 47 [.nils, .fn (.func g) caps] bx .nils := by
 refine Tryz.ctr47 fun hf => ?_
 simp [go_sem, Tryz.C47, hf]
 refine callK_pure (Tryz.IndexFunc_0 g caps bx) ?_
 simp [go_sem]
 exact ret_pure (by simp [go_sem]) ⟨by simp [go_sem], rfl⟩
theorem Tryz.DeleteFunc_a (p : Fd → Bool) (g : FuncId) (caps : List V) (L : List Fd) (hl : L.length ≤ 1000000) {bx0 bx : Boxes} {v : V} (ha : Acc bx0 38 2 (L.map fdV) v bx) (hp : ∀ x, x ∈ L → ∀ bx', Ext bx0 bx' → PureCall Tryz.prog g (fdV x :: caps) bx' (.bool (p x))) :
   AbsCall Tryz.prog 47 [v, .fn (.func g) caps] bx fun r bx' => Ext bx0 bx' ∧ FinB bx' ∧ Wk (frz bx' bx0 1 r) (.sl 2 ((L.filter fun x => !p x).map fdV)) ∧ r.cells = [r] ∧ r.liveB = true ∧ r.strip = r ∧ okV r = true ∧ ((r = .nils ∧ (L.filter fun x => !p x) = []) ∨ ∃ b row, bx0 b = none ∧ r = .own b 2 0 (L.filter fun x => !p x).length ∧ bx' b = some (.row 38 2 row) ∧ row.take (L.filter fun x => !p x).length = (L.filter fun x => !p x).map fdV) := by
 rcases ha.is with ⟨h1, rfl⟩ | ⟨b, h1, rfl, h2⟩
 · have h3 : L = [] := by simpa using h1
   subst h3
   refine (Tryz.DeleteFunc_0 g caps bx).mono ?_
   rintro r bx' ⟨rfl, rfl⟩
   exact ⟨ha.ext, ha.fin, wk_nils 2, rfl, rfl, rfl, rfl, .inl ⟨rfl, rfl⟩⟩
 · rw [List.length_map]
   refine (Tryz.DeleteFunc_f p g caps L hl h2 (fun x hx row => hp x hx _ (ha.ext.upd_own h1 _))).mono ?_
   rintro r bx' ⟨rfl, row, rfl, h5, h6⟩
   have hfl : (L.filter fun x => !p x).length ≤ row.length := by rw [h5]; exact List.length_filter_le _ _
   refine ⟨ha.ext.upd_own h1 _, by simp [finB_upd, ha.fin], ?_, rfl, rfl, rfl, rfl, .inr ⟨b, row, h1, rfl, upd_eq _ _ _, h6⟩⟩
   rw [frz_part (upd_eq _ _ _) h1 (by decide) hfl, h6]
   exact Wk.refl _
theorem delW {bx bx1 bx3 : Boxes} {M : List Fd} {r : V} {ty : TypeId} (he : Ext bx bx1) (he2 : Ext bx1 bx3) (h : (r = .nils ∧ M = []) ∨ ∃ b row, bx1 b = none ∧ r = .own b 2 0 M.length ∧ bx3 b = some (.row ty 2 row) ∧ row.take M.length = M.map fdV) : Wk (frz bx3 bx 1 r) (.sl 2 (M.map fdV)) := by
 rcases h with ⟨rfl, rfl⟩ | ⟨b, row, h1, rfl, h3, h4⟩
 · exact wk_nils 2
 · have hl : M.length ≤ row.length := by
     have := congrArg List.length h4
     simp at this
     omega
   rw [frz_part h3 (he.none h1) (by decide) hl, h4]
   exact Wk.refl _
theorem Tryz.strip1_c (x : Fd) (hx : x.1.length ≤ 100000) (L : List (List UInt8)) {b : Nat} {bx : Boxes} (hb : bx b = some (.map (L.map kvV))) : PureCall Tryz.prog 49 [fdV x, .ep (.mp b) 0] bx (.bool (decide (Lib.toLowerA x.1 ∈ L))) := by
 refine Tryz.ctr49 fun hf => ?_
 simp [go_sem, Tryz.C49, hf, fdV]
 refine callK_pure (Tryz.Fold_p bx x.1 hx) ?_
 by_cases h : Lib.toLowerA x.1 ∈ L
 · obtain ⟨j, h1, h2⟩ := kv_yes L 0 h
   simp [go_sem, hb, h1]
   exact ret_pure (by simp [go_sem]) ⟨by simp [go_sem, h], rfl⟩
 · simp [go_sem, hb, kv_no L 0 h]
   exact ret_pure (by simp [go_sem]) ⟨by simp [go_sem, h], rfl⟩
def resL (x : List Fd × Int) : V := .tup [.sl 2 (x.1.map fdV), .int .i64 x.2]
def stripF (l : List Fd) : List Fd × Int := if chkL l = 0 then match namesF l with
   | some acc => (l.filter fun f => !decide (Lib.toLowerA f.1 ∈ acc), 0)
   | none => ([], 6)
 else ([], chkL l)
set_option maxHeartbeats 1000000 in
theorem Tryz.Strip_c {bx : Boxes} (hm : Mk bx) (l : List Fd) (hl : Small l) : PureCall Tryz.prog 15 [.sl 2 (l.map fdV)] bx (resL (stripF l)) := by
 refine PureCall.wk (Tryz.ctr15 fun hf => ?_)
 simp [go_sem, Tryz.C15, hf]
 refine callK_abs (Tryz.hops_c hm l hl) ?_
 intro r bx1 hH
 unfold HopQ at hH
 by_cases h : chkL l = 0
 · rw [if_pos h] at hH
   have hll := chkL_len h
   cases hn : namesF l with
   | none =>
     rw [hn] at hH
     obtain ⟨rfl, h2, h3⟩ := hH
     simp [go_sem, h3]
     intro b4 hb4
     simp [upd_none hb4]
     refine ret_drop (by simp [go_sem]) h2 ⟨?_, rfl⟩
     simp [go_sem, resL, stripF, h, hn]
     exact wk_tup2 (wk_nils 2) (Wk.refl _)
   | some acc =>
     rw [hn] at hH
     obtain ⟨b, h1, rfl, h2, h3, h4⟩ := hH
     simp [go_sem, h4]
     intro b4 hb4
     simp [upd_none hb4]
     refine callK_abs (Tryz.clone_a l bx1 (by omega)) ?_
     intro v bx2 hA
     simp [go_sem, hA.fin, hA.cells, hA.strip, hA.live]
     have cD := (Tryz.DeleteFunc_a (fun f => decide (Lib.toLowerA f.1 ∈ insL [] acc)) 49 [.ep (.mp b) 0] l (by omega) (bx0 := bx1) hA (fun x hx bx' he => Tryz.strip1_c x (hl x hx).1 _ (by rw [he b (by rw [h2]; simp), h2])))
     refine callK_abs cD ?_
     rintro r bx3 ⟨g1, g2, g3, g4, g5, g6, g7, g8⟩
     simp [go_sem, g2, g4, g5, g6, g7]
     have hfilt : (l.filter fun x => !decide (Lib.toLowerA x.1 ∈ insL [] acc)) = (l.filter fun f => !decide (Lib.toLowerA f.1 ∈ acc)) := by
       congr 1
       funext f
       simp [mem_insL]
     refine ret_frz 2 (by simp [go_sem, g7]) (h3.trans g1) ⟨?_, rfl⟩
     simp [go_sem, resL, stripF, h, hn, g4]
     exact wk_tup2 (by rw [← hfilt]; exact delW h3 g1 g8) (Wk.refl _)
 · rw [if_neg h] at hH
   obtain ⟨rfl, h2, h3⟩ := hH
   simp [go_sem, h, h3]
   intro b4 hb4
   simp [upd_none hb4]
   refine ret_drop (by simp [go_sem]) h2 ⟨?_, rfl⟩
   simp [go_sem, resL, stripF, h]
   exact wk_tup2 (wk_nils 2) (Wk.refl _)
end Go.Proofs

set_option linter.unusedSimpArgs false
set_option linter.unusedVariables false
set_option maxRecDepth 100000
namespace Go.Proofs
open Go Go.Pl Go.RowKit
theorem Tryz.Strings_c (l m : List (List UInt8)) (hl : l.length ≤ 1000000) (bx : Boxes) : PureCall Tryz.prog 19 [.sl 1 (l.map .str), .sl 1 (m.map .str)] bx (.bool (decide (l = m))) := by
 refine Tryz.ctr19 fun hf => ?_
 by_cases he : l.length = m.length
 · have he' : (l.length : Int) = m.length := by omega
   simp [go_sem, Tryz.C19, hf, he']
   refine pw_find l.length (fun i => decide (l.getD i [] ≠ m.getD i [])) (fun k => ⟨26, slk [(0, .sl 1 (l.map .str)), (1, .sl 1 (m.map .str)), (5, .int .i64 k)], bx⟩) (cov_look (by simp [go_sem])) (fun k hk hJ N hN => ?_) (fun hJ N => ?_)
   · have hw := wr_succ (k := k) (by omega)
     have hkm : k < m.length := by omega
     have g1 : l.getD k [] = l[k] := by simp [hk]
     have g2 : m.getD k [] = m[k] := by simp [hkm]
     rw [g1, g2] at hN
     simp [go_sem, Tryz.L19_0, hf, hk, hkm]
     refine ⟨fun c => ret_pure (by simp [go_sem]) ?_, fun c => hN _ (by simp [c]) (cov_look (by simp [go_sem, hw]))⟩
     have hne : l ≠ m := fun e => by subst e; simp at c
     simp [go_sem, hne]
   · have hlm : l = m := by
       apply List.ext_getElem he
       intro i h1 h2
       have := hJ i h1
       simp [h1, h2] at this
       exact this
     subst hlm
     simp [go_sem, Tryz.L19_0, hf]
     exact ret_pure (by simp [go_sem]) ⟨by simp [go_sem], rfl⟩
 · have he' : ¬ (l.length : Int) = m.length := by omega
   have hne : l ≠ m := fun e => he (by rw [e])
   simp [go_sem, Tryz.C19, hf, he']
   exact ret_pure (by simp [go_sem]) ⟨by simp [go_sem, hne], rfl⟩
theorem Tryz.Equal_c (l m : List Fd) (hl : l.length ≤ 1000000) (bx : Boxes) : PureCall Tryz.prog 20 [.sl 2 (l.map fdV), .sl 2 (m.map fdV)] bx (.bool (decide (l = m))) := by
 refine Tryz.ctr20 fun hf => ?_
 by_cases he : l.length = m.length
 · have he' : (l.length : Int) = m.length := by omega
   simp [go_sem, Tryz.C20, hf, he']
   refine pw_find l.length (fun i => decide (l.getD i ([], []) ≠ m.getD i ([], []))) (fun k => ⟨26, slk [(0, .sl 2 (l.map fdV)), (1, .sl 2 (m.map fdV)), (5, .int .i64 k)], bx⟩) (cov_look (by simp [go_sem])) (fun k hk hJ N hN => ?_) (fun hJ N => ?_)
   · have hw := wr_succ (k := k) (by omega)
     have hkm : k < m.length := by omega
     have g1 : l.getD k ([], []) = l[k] := by simp [hk]
     have g2 : m.getD k ([], []) = m[k] := by simp [hkm]
     rw [g1, g2] at hN
     have hee : (l[k] = m[k]) ↔ (l[k].1 = m[k].1 ∧ l[k].2 = m[k].2) := Prod.ext_iff
     simp [go_sem, Tryz.L20_0, hf, hk, hkm, fdV]
     refine ⟨fun c => ret_pure (by simp [go_sem]) ?_, fun c1 c2 => hN _ (by simpa using hee.2 ⟨c1, c2⟩) (cov_look (by simp [go_sem, hw, fdV]))⟩
     have hne : l ≠ m := fun e => by subst e; simp at c
     simp [go_sem, hne]
   · have hlm : l = m := by
       apply List.ext_getElem he
       intro i h1 h2
       have := hJ i h1
       simp [h1, h2] at this
       exact this
     subst hlm
     simp [go_sem, Tryz.L20_0, hf]
     exact ret_pure (by simp [go_sem]) ⟨by simp [go_sem], rfl⟩
 · have he' : ¬ (l.length : Int) = m.length := by omega
   have hne : l ≠ m := fun e => he (by rw [e])
   simp [go_sem, Tryz.C20, hf, he']
   exact ret_pure (by simp [go_sem]) ⟨by simp [go_sem, hne], rfl⟩
theorem namV_eq (l : List Fd) : namV l = match namesF l with
   | some acc => .tup [.sl 1 (acc.map .str), .int .i64 0]
   | none => .tup [.sl 1 [], .int .i64 6] := rfl
theorem filt_snoc (p : Fd → Bool) (l : List Fd) {k : Nat} (hk : k < l.length) : (l.take (k + 1)).filter p = if p l[k] = true then (l.take k).filter p ++ [l[k]] else (l.take k).filter p := by
 rw [List.take_succ_eq_append_getElem hk, List.filter_append]
 cases h : p l[k] <;> simp [h]
theorem names_len (l : List Fd) (hll : l.length ≤ 1000) {acc : List (List UInt8)} (h : namesF l = some acc) : acc.length ≤ 7 + l.length * 2001 := by
 have h0 : ∀ (vs a b : List (List UInt8)), namesG vs a = some b → b.length ≤ a.length + vs.length * 2001 := by
   intro vs
   induction vs with
   | nil => intro a b h; simp [namesG] at h; subst h; simp
   | cons v vs ih =>
     intro a b h
     rw [namesG] at h
     split at h
     · rename_i he
       have h1 := ih _ _ h
       have h2 := addL_len (elR v).1
       have h3 := (elR_len v).1
       simp at h1 ⊢
       omega
     · cases h
 have h1 := h0 _ _ _ h
 have h2 := getL_len l connB
 have h3 : fixedL.length = 7 := by decide
 have h4 : (getL l connB).length * 2001 ≤ l.length * 2001 := Nat.mul_le_mul_right _ h2
 omega
set_option maxHeartbeats 1000000 in
theorem Tryz.rStrip_c (l : List Fd) (hl : Small l) (bx : Boxes) : PureCall Tryz.prog 16 [.sl 2 (l.map fdV)] bx (resL (stripF l)) := by
 refine PureCall.wk (Tryz.ctr16 fun hf => ?_)
 simp [go_sem, Tryz.C16, hf]
 refine callK_pure (Tryz.rCheck_c l hl bx) ?_
 by_cases h : chkL l = 0
 · have hll := chkL_len h
   simp [go_sem, h, hf]
   refine callK_pure (Tryz.rnames_c l hl (by omega) _) ?_
   rw [namV_eq]
   cases hn : namesF l with
   | none =>
     simp [go_sem, hf]
     refine ret_wk0 (by simp [go_sem]) ?_
     simp [go_sem, resL, stripF, h, hn]
     exact wk_tup2 (wk_nils 2) (Wk.refl _)
   | some acc =>
     have hal := names_len l (by omega) hn
     simp [go_sem, hf]
     refine pw_for (ι := Boxes × V) l.length (fun k i => Acc bx 38 2 (((l.take k).filter fun f => !decide (Lib.toLowerA f.1 ∈ acc)).map fdV) i.2 i.1) (fun k i => ⟨44, slk [(0, .sl 2 (l.map fdV)), (5, .sl 1 (acc.map .str)), (6, i.2), (7, .int .i64 k)], i.1⟩) (bx, .nils) (acc_nil hf _ _) (cov_look (by simp [go_sem])) (fun k i hk hJ N hN => ?_) (fun i hJ N => ?_)
     · obtain ⟨bx1, v⟩ := i
       dsimp only at hJ ⊢
       have hw := wr_succ (k := k) (by omega)
       have hsn := filt_snoc (fun f => !decide (Lib.toLowerA f.1 ∈ acc)) l hk
       have hle : ((l.take k).filter fun f => !decide (Lib.toLowerA f.1 ∈ acc)).length ≤ k := Nat.le_trans (List.length_filter_le _ _) (by simp; omega)
       obtain ⟨hs1, hs2⟩ := hl l[k] (List.getElem_mem hk)
       simp [go_sem, Tryz.L16_0, hk, hJ.fin, fdV]
       refine callK_pure (Tryz.rFold_p _ _ hs1) ?_
       simp [go_sem, hJ.fin]
       refine callK_pure (Tryz.in_c acc (by omega) _ _) ?_
       generalize hM : (l.take k).filter (fun f => !decide (Lib.toLowerA f.1 ∈ acc)) = M at *
       by_cases hI : Lib.toLowerA l[k].1 ∈ acc
       · simp [go_sem, hJ.fin, hw, hI]
         rw [if_neg (by simp [hI])] at hsn
         exact hN _ (bx1, v) (by rw [hsn]; exact hJ) (cov_look (by simp [go_sem, fdV]))
       · simp [go_sem, hJ.fin, hw, hk, hI, fdV]
         rw [if_pos (by simp [hI])] at hsn
         intro b' hb'
         refine Tryz.appH (es := M.map fdV) (news := [fdV l[k]]) hJ ((Ext.refl _).new hb' _) (by simp [finB_upd, hJ.fin]) (by simp [go_sem, srcEls, fdV]) (by simp; omega) (by omega) ?_
         intro v' bx3 ha'
         simp [go_sem, ha'.fin, ha'.cells, hw]
         exact hN _ (bx3, v') (by rw [hsn, List.map_append]; exact ha') (cov_look (by simp [go_sem, fdV]))
     · obtain ⟨bx1, v⟩ := i
       dsimp only at hJ ⊢
       rw [List.take_length] at hJ
       simp [go_sem, Tryz.L16_0, hJ.fin]
       refine ret_frz 2 (by simp [go_sem, hJ.okV]) hJ.ext ⟨?_, rfl⟩
       simp [go_sem, resL, stripF, h, hn]
       exact wk_tup2 (acc_frz1 hJ (by decide)) (Wk.refl _)
 · simp [go_sem, h, hf]
   refine ret_wk0 (by simp [go_sem]) ?_
   simp [go_sem, resL, stripF, h]
   exact wk_tup2 (wk_nils 2) (Wk.refl _)
end Go.Proofs
