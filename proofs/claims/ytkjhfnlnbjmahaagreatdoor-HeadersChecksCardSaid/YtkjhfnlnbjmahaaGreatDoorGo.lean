/- Texts of the proof, put together: FS, FY, FT, FU, FX, FV. -/
import Derived.Test.YtkjhfnlnbjmahaaGreatDoorGm
import Derived.Test.YtkjhfnlnbjmahaaGreatDoorGn
import Derived.Test.YtkjhfnlnbjmahaaGreatDoorRows
import Derived.Test.YtkjhfnlnbjmahaaGreatDoorTie
import Derived.Test.YtkjhfnlnbjmahaaGreatDoorCards
import Derived.Test.YtkjhfnlnbjmahaaGreatDoorGe
import Derived.WalkKit
import Derived.ProofKit
import Derived.Lay
import Derived.LaidOnce
import Derived.SevenTiedAt
import Derived.Test.YtkjhfnlnbjmahaaGreatDoorGk

set_option linter.unusedSimpArgs false
set_option linter.unusedVariables false
set_option maxRecDepth 100000
namespace Go.Proofs
open Go Go.Pl Go.RowKit
def cut1 (f : Fd) : Nat := min f.1.length 12001 + min f.2.length 12001
def cutS1 (l : List Fd) : Nat := (l.map cut1).sum
def farB (l : List Fd) : Bool := decide (110 < l.length) || decide (12000 < cutS1 l)
theorem cutS1_take {l : List Fd} {k : Nat} (hk : k < l.length) : cutS1 (l.take (k + 1)) = cutS1 (l.take k) + cut1 l[k] := by
 unfold cutS1
 rw [List.take_succ_eq_append_getElem hk, List.map_append, List.sum_append]
 simp
theorem cutS1_le (l : List Fd) : ∀ k, k ≤ l.length → cutS1 (l.take k) ≤ k * 24002
 | 0, _ => by simp [cutS1]
 | k + 1, hk => by
   have := cutS1_le l k (by omega)
   rw [cutS1_take (by omega)]
   unfold cut1
   omega
theorem sum_mem {a : Nat} : ∀ {l : List Nat}, a ∈ l → a ≤ l.sum
 | [], h => by cases h
 | b :: l, h => by
   rw [List.sum_cons]
   rcases List.mem_cons.1 h with rfl | h
   · omega
   · have := sum_mem h; omega
theorem cutS1_mem {l : List Fd} {f : Fd} (h : f ∈ l) : cut1 f ≤ cutS1 l := by
 unfold cutS1
 exact sum_mem (List.mem_map.2 ⟨f, h, rfl⟩)
theorem far_small {l : List Fd} (h : farB l = false) : l.length ≤ 110 ∧ Small l ∧ (∀ f, f ∈ l → f.1.length + f.2.length ≤ 12000) ∧ (l.map fun f => f.1.length + f.2.length).sum ≤ 12000 := by
 unfold farB at h
 simp at h
 obtain ⟨h1, h2⟩ := h
 have h3 : ∀ f, f ∈ l → f.1.length + f.2.length ≤ 12000 := fun f hf => by
   have := cutS1_mem hf
   unfold cut1 at this
   omega
 refine ⟨h1, fun f hf => ?_, h3, ?_⟩
 · have := h3 f hf; omega
 · have : (l.map fun f => f.1.length + f.2.length) = l.map cut1 := List.map_congr_left fun f hf => by
     have := h3 f hf
     unfold cut1
     omega
   rw [this]
   exact h2
theorem Tryz.far_c (l : List Fd) (bx : Boxes) : PureCall Tryz.prog 11 [.sl 2 (l.map fdV)] bx (.bool (farB l)) := by
 refine Tryz.ctrx11 fun hf => ?_
 unfold farB
 by_cases h1 : 110 < l.length
 · have h1' : (110 : Int) < l.length := by omega
   simp [go_sem, Tryz.Cx11, hf, h1']
   exact ret_pure (by simp [go_sem]) ⟨by simp [go_sem, h1], rfl⟩
 · have h1' : ¬ (110 : Int) < l.length := by omega
   simp [go_sem, Tryz.Cx11, hf, h1']
   refine pw_upto l.length (fun k => ⟨33, slk [(0, .sl 2 (l.map fdV)), (3, .int .i64 (cutS1 (l.take k))), (4, .int .i64 k)], bx⟩) (cov_look (by simp [go_sem, cutS1])) (fun k hk N hN => ?_) (fun N => ?_)
   · have hw := wr_succ (k := k) (by omega)
     have ht := cutS1_take hk
     have hle := cutS1_le l k (by omega)
     have w1 : IntKind.i64.wrap ((cutS1 (l.take k) : Int) + if (12001 : Int) < (l[k].1.length : Int) then 12001 else (l[k].1.length : Int)) = (cutS1 (l.take k) : Int) + if (12001 : Int) < (l[k].1.length : Int) then 12001 else (l[k].1.length : Int) := wr64 (by split <;> omega)
     have w2 : IntKind.i64.wrap (((cutS1 (l.take k) : Int) + if (12001 : Int) < (l[k].1.length : Int) then 12001 else (l[k].1.length : Int)) + if (12001 : Int) < (l[k].2.length : Int) then 12001 else (l[k].2.length : Int)) = (cutS1 (l.take (k + 1)) : Int) := by
       rw [wr64 (by split <;> split <;> omega), ht]; unfold cut1; split <;> split <;> omega
     simp [go_sem, Tryz.Lx11_0, hk, hf, hw, fdV]
     exact hN _ (cov_look (by simp [go_sem, fdV, w1, w2]))
   · simp [go_sem, Tryz.Lx11_0, hf]
     refine ret_pure (by simp [go_sem]) ⟨?_, rfl⟩
     simp [go_sem, h1]
     omega
def exL : List Fd := [([72, 111, 115, 116], [97]), ([67, 111, 110, 110, 101, 99, 116, 105, 111, 110], [99, 108, 111, 115, 101, 44, 32, 88, 45, 72, 111, 112]), ([120, 45, 104, 111, 112], [49]), ([65, 99, 99, 101, 112, 116], [98]), ([97, 99, 99, 101, 112, 116], [99])]
theorem Tryz.Example_c (bx : Boxes) : PureCall Tryz.prog 40 [] bx (.sl 2 (exL.map fdV)) := by
 refine Tryz.ctrx40 fun hf => ?_
 simp [go_sem, Tryz.Cx40, hf]
 intro b hb
 refine ret_own (b := b) (sz := 2) (n := 5) (ty := 38) (es := exL.map fdV) (by simp [go_sem]) ((Ext.refl _).new hb _) (by simp [go_sem]) (by show upd _ _ _ _ = _; rw [upd_eq]; rfl) hb (by decide) rfl ⟨rfl, rfl⟩
theorem exSmall : Small exL := by unfold Small exL; simp
theorem Tryz.awake_c {bx : Boxes} (hm : Mk bx) : PureCall Tryz.prog 12 [] bx (.bool true) := by
 refine Tryz.ctrx12 fun hf => ?_
 simp [go_sem, Tryz.Cx12, hf]
 refine callK_pure (Tryz.Example_c bx) ?_
 simp [go_sem, hf]
 have cG := Tryz.Get_c hm exL exSmall [65, 67, 67, 69, 80, 84] (by decide)
 have eG : getR exL [65, 67, 67, 69, 80, 84] = .tup [.sl 1 [.str [98], .str [99]], .int .i64 0] := by
   unfold getR
   rw [show askE exL [65, 67, 67, 69, 80, 84] = 0 by decide +kernel, show getL exL [65, 67, 67, 69, 80, 84] = [[98], [99]] by decide +kernel]
   rfl
 rw [eG] at cG
 have cS := Tryz.Strip_c hm exL exSmall
 have eS : stripF exL = ([([72, 111, 115, 116], [97]), ([65, 99, 99, 101, 112, 116], [98]), ([97, 99, 99, 101, 112, 116], [99])], 0) := by decide +kernel
 rw [eS] at cS
 have cH := Tryz.Hop_c hm exL exSmall
 have eH : hopF exL = ([connB, [120, 45, 104, 111, 112]], 0) := by
   unfold hopF
   rw [if_pos (by decide +kernel), show namesF exL = some (fixedL ++ [[99, 108, 111, 115, 101], [120, 45, 104, 111, 112]]) by decide +kernel]
   show (sortB (metL exL (fixedL ++ [[99, 108, 111, 115, 101], [120, 45, 104, 111, 112]])), (0 : Int)) = _
   rw [show metL exL (fixedL ++ [[99, 108, 111, 115, 101], [120, 45, 104, 111, 112]]) = [connB, [120, 45, 104, 111, 112]] by decide +kernel, ← sort_uniq (List.Perm.refl _) (by decide)]
 have cC := Tryz.Canon_c hm [120, 45, 72, 79, 80] (by decide)
 have eC : canV [120, 45, 72, 79, 80] = .tup [.str [88, 45, 72, 111, 112], .int .i64 0] := by
   unfold canV
   rw [if_pos (by decide +kernel), show capsB true (Lib.toLowerA [120, 45, 72, 79, 80]) = [88, 45, 72, 111, 112] by decide +kernel]
 rw [eC] at cC
 have cP := Tryz.Parse_c hm [65, 58, 32, 98, 13, 10, 13, 10, 120] (by decide)
 have eP : parseF [65, 58, 32, 98, 13, 10, 13, 10, 120] = ([([65], [98])], 8, 0) := by
   unfold parseF
   rw [prs, dif_pos (by decide), if_neg (by decide), if_pos (by decide +kernel), if_neg (by decide), show lineF (cutC [65, 58, 32, 98, 13, 10, 13, 10, 120] 10).1.dropLast = some ([65], [98]) by decide +kernel]
   dsimp only
   rw [if_neg (by decide), prs, dif_pos (by decide), if_neg (by decide), if_pos (by decide +kernel), if_pos (by decide)]
   rfl
 rw [eP] at cP
 have cW := Tryz.Print_c hm [([65], [98])] (by unfold Small; simp)
 have eW : prtR [([65], [98])] = .tup [.str [65, 58, 32, 98, 13, 10, 13, 10], .int .i64 0] := by
   unfold prtR
   rw [if_pos (by decide +kernel), show prtB [([65], [98])] = [65, 58, 32, 98, 13, 10, 13, 10] by decide +kernel]
 rw [eW] at cW
 rw [eH] at cH
 refine callK_pure cG ?_
 simp [go_sem, hf]
 refine callK_pure (Tryz.Example_c bx) ?_
 simp [go_sem, hf]
 refine callK_pure cS ?_
 simp [go_sem, hf, resL]
 refine callK_pure (Tryz.Example_c bx) ?_
 simp [go_sem, hf]
 refine callK_pure cH ?_
 simp [go_sem, hf, resS]
 refine callK_pure cC ?_
 simp [go_sem, hf]
 intro b hb
 simp [upd_none hb, hf]
 refine callK_pure (show PureCall Tryz.prog 27 _ bx _ from cP) ?_
 simp [go_sem, hf, prsV]
 refine callK_pure (show PureCall Tryz.prog 25 _ bx _ from cW) ?_
 simp [go_sem, hf]
 have s1 := Tryz.Strings_c [[98], [99]] [[98], [99]] (by decide) bx
 have s2 := Tryz.Equal_c [([72, 111, 115, 116], [97]), ([65, 99, 99, 101, 112, 116], [98]), ([97, 99, 99, 101, 112, 116], [99])] [([72, 111, 115, 116], [97]), ([65, 99, 99, 101, 112, 116], [98]), ([97, 99, 99, 101, 112, 116], [99])] (by decide) bx
 have s3 := Tryz.Strings_c [connB, [120, 45, 104, 111, 112]] [connB, [120, 45, 104, 111, 112]] (by decide) bx
 have s4 := Tryz.Equal_c [([65], [98])] [([65], [98])] (by decide) bx
 refine callK_pure s1 ?_
 simp [go_sem, hf]
 refine gK_pure (show PureCall Tryz.prog 20 _ bx _ from s2) (by simp) (by simp [go_sem]) ?_
 simp [go_sem, hf]
 refine gK_pure (show PureCall Tryz.prog 19 _ bx _ from s3) (by simp) (by simp [go_sem]) ?_
 simp [go_sem, hf]
 refine gK_pure (show PureCall Tryz.prog 20 _ bx _ from s4) (by simp) (by simp [go_sem]) ?_
 simp [go_sem, hf]
 exact ret_pure (by simp [go_sem]) ⟨by simp [go_sem], rfl⟩
end Go.Proofs

set_option linter.unusedVariables false
set_option linter.unusedSimpArgs false
set_option maxRecDepth 100000
namespace Go.Proofs.YtkjhfnlnbjmahaaGreatDoor
open Go Go.Pl Go.Proofs
open Go.ChangeShapes Go.WideShapes Go.ChangeAt Go.RowKit
theorem own : ownKnob Tryz.prog.godebug = none := by kernel_rfl
theorem hasStr {n : Nat} {xs : List V} (h : HasL Tryz.prog n 9 xs) : ∃ s : List UInt8, xs = [.str s] ∧ s.length ≤ maxLen := h.str Tryz.knd9
theorem hasFd {n : Nat} {xs : List V} (h : HasL Tryz.prog (n + 1) 38 xs) : ∃ f : Fd, .agg xs = fdV f := by
 obtain ⟨x, y, rfl⟩ := len2 (h.len.trans Tryz.tsz38)
 have h0 := h.fld Tryz.knd38 Tryz.fld38_0
 rw [Tryz.tsz9] at h0
 have h1 := h.fld Tryz.knd38 Tryz.fld38_1
 rw [Tryz.tsz9] at h1
 obtain ⟨a, ha, _⟩ := hasStr h0
 obtain ⟨b, hb, _⟩ := hasStr h1
 simp at ha hb
 subst ha hb
 exact ⟨(a, b), rfl⟩
theorem hasFds {n : Nat} {xs : List V} (h : HasL Tryz.prog (n + 2) 22 xs) : ∃ l : List Fd, xs = [.sl 2 (l.map fdV)] := by
 obtain ⟨l, h, hl⟩ := HasL.slice (r := fdV) Tryz.knd22 h fun ys hy => by
   obtain ⟨f, hf⟩ := hasFd hy
   exact ⟨f, by rw [elV_agg Tryz.tagg38]; exact hf⟩
 rw [Tryz.tsz38] at h
 exact ⟨l, h⟩
theorem hasByte {n : Nat} {xs : List V} (h : HasL Tryz.prog n 5 xs) : ∃ c : UInt8, xs = [byteV c] := by
 obtain ⟨i, rfl, hw⟩ := h.int Tryz.knd5
 simp [Lit.wf, IntKind.min, IntKind.max, IntKind.signed, IntKind.bits] at hw
 refine ⟨UInt8.ofNat i.toNat, ?_⟩
 unfold byteV
 have : ((UInt8.ofNat i.toNat).toNat : Int) = i := by
   simp
   omega
 rw [this]
theorem hasBytes {n : Nat} {xs : List V} (h : HasL Tryz.prog (n + 1) 43 xs) : ∃ l : List UInt8, xs = [.sl 1 (l.map byteV)] := by
 obtain ⟨l, h, hl⟩ := HasL.slice (r := byteV) Tryz.knd43 h fun ys hy => by
   obtain ⟨c, rfl⟩ := hasByte hy
   exact ⟨c, elV_one Tryz.tagg5⟩
 rw [Tryz.tsz5] at h
 exact ⟨l, h⟩
theorem hasU16 {n : Nat} {xs : List V} (h : HasL Tryz.prog n 48 xs) : ∃ i : Int, xs = [.int .u16 i] ∧ 0 ≤ i ∧ i ≤ 65535 := by
 obtain ⟨i, rfl, hw⟩ := h.int Tryz.knd48
 simp [Lit.wf, IntKind.min, IntKind.max, IntKind.signed, IntKind.bits] at hw
 exact ⟨i, rfl, by omega⟩
end Go.Proofs.YtkjhfnlnbjmahaaGreatDoor

set_option linter.unusedSimpArgs false
set_option linter.unusedVariables false
set_option maxRecDepth 100000
namespace Go.Proofs
open Go Go.Pl Go.RowKit
end Go.Proofs

set_option linter.unusedVariables false
set_option linter.unusedSimpArgs false
set_option maxRecDepth 100000
namespace Go.Proofs
open Go Go.Pl
theorem cut_app {a b : List UInt8} {c : UInt8} (h : ¬ c ∈ a) : cutC (a ++ c :: b) c = (a, b, true) := by
 have := cut_at (s := a ++ c :: b) (c := c) (n := a.length) (by simp) (by simpa using h)
 rw [this]
 simp [List.drop_append]
theorem tok_mem {s : List UInt8} (h : tokB s = true) {c : UInt8} (hc : c ∈ s) : letB c = true := by
 unfold tokB at h
 rw [Bool.and_eq_true] at h
 exact List.all_eq_true.1 h.2 c hc
theorem plain_mem {s : List UInt8} (h : plainB s = true) {c : UInt8} (hc : c ∈ s) : plain1 c = true := List.all_eq_true.1 h c hc
theorem tok_no10 {s : List UInt8} (h : tokB s = true) : ¬ (10 : UInt8) ∈ s := fun hc => absurd (tok_mem h hc) (by decide)
theorem tok_no13 {s : List UInt8} (h : tokB s = true) : ¬ (13 : UInt8) ∈ s := fun hc => absurd (tok_mem h hc) (by decide)
theorem tok_no58 {s : List UInt8} (h : tokB s = true) : ¬ (58 : UInt8) ∈ s := fun hc => absurd (tok_mem h hc) (by decide)
theorem plain_no10 {s : List UInt8} (h : plainB s = true) : ¬ (10 : UInt8) ∈ s := fun hc => absurd (plain_mem h hc) (by decide)
theorem plain_no13 {s : List UInt8} (h : plainB s = true) : ¬ (13 : UInt8) ∈ s := fun hc => absurd (plain_mem h hc) (by decide)
structure OkF (f : Fd) : Prop where
 tok : tokB f.1 = true
 pl : plainB f.2 = true
 tr : trimB f.2 = f.2
 len : f.2.length ≤ 2000
theorem chkF_ok {f : Fd} (h : chkF f = 0) : OkF f := by
 unfold chkF at h
 split at h
 · rename_i h1
   split at h
   · cases h
   · rename_i h2
     simp at h1
     exact ⟨h1.1.1, h1.1.2, h1.2, by omega⟩
 · cases h
theorem chkL_ok {l : List Fd} (h : chkL l = 0) : l.length ≤ 100 ∧ (∀ f, f ∈ l → OkF f) ∧ sumF l ≤ 8192 := by
 refine ⟨?_, fun f hf => ?_, chkL_sum h⟩
 · unfold chkL at h
   by_cases h1 : 100 < l.length
   · rw [if_pos h1] at h; cases h
   · omega
 · refine chkF_ok ?_
   unfold chkL at h
   split at h
   · cases h
   · split at h
     · rename_i g hg
       have := List.find?_some hg
       simp at this
       exact absurd h this
     · rename_i hn
       have := List.find?_eq_none.1 hn f hf
       simpa using this
theorem line_eq (f : Fd) : lineB f = (f.1 ++ [58, 32] ++ f.2 ++ [13]) ++ [10] := by simp [lineB]
theorem line_no10 {f : Fd} (h : OkF f) : ¬ (10 : UInt8) ∈ f.1 ++ [58, 32] ++ f.2 ++ [13] := by
 simp [tok_no10 h.tok, plain_no10 h.pl]
theorem line_drop (f : Fd) : (f.1 ++ [58, 32] ++ f.2 ++ [13]).dropLast = f.1 ++ [58, 32] ++ f.2 := by
 rw [List.dropLast_concat]
theorem line_ok {f : Fd} (h : OkF f) : lineOk (f.1 ++ [58, 32] ++ f.2 ++ [13]) = true := by
 unfold lineOk
 rw [line_drop, List.getLast?_concat]
 simp [tok_no13 h.tok, plain_no13 h.pl]
theorem line_F {f : Fd} (h : OkF f) : lineF (f.1 ++ [58, 32] ++ f.2) = some f := by
 unfold lineF
 have e : f.1 ++ [58, 32] ++ f.2 = f.1 ++ 58 :: (32 :: f.2) := by simp
 rw [e, cut_app (tok_no58 h.tok)]
 have hp : plainB (32 :: f.2) = true := by
   unfold plainB
   rw [List.all_cons]
   have := h.pl
   unfold plainB at this
   rw [this]; rfl
 have ht : trimB (32 :: f.2) = f.2 := by
   have := h.tr
   unfold trimB at this ⊢
   rw [List.dropWhile_cons_of_pos (by decide)]
   exact this
 rw [if_pos (by simp [h.tok, hp]), ht]
theorem prs_ln {len at_ : Nat} {out : List Fd} {f : Fd} {ln : List UInt8} (h1 : ¬ (10 : UInt8) ∈ ln) (h2 : lineOk ln = true) (h3 : ln.dropLast ≠ []) (h4 : lineF ln.dropLast = some f) (hf : f.2.length ≤ 2000) (hat : at_ + ln.length < 8192) (ho : out.length < 100) (r : List UInt8) :
   prs len at_ out (ln ++ 10 :: r) = prs len (at_ + ln.length + 1) (out ++ [f]) r := by
 have e1 : (ln ++ 10 :: r).take ln.length = ln := by simp
 have e2 : (ln ++ 10 :: r).drop (ln.length + 1) = r := by simp [List.drop_append]
 rw [prs_at (n := ln.length) (by simp) (by rw [e1]; exact h1), e1, e2, if_neg (by omega), if_pos h2, if_neg h3, h4]
 dsimp only
 rw [if_neg (by omega)]
theorem prs_line {len at_ : Nat} {out : List Fd} {f : Fd} (h : OkF f) (hat : at_ + sizF f ≤ 8192) (ho : out.length < 100) (r : List UInt8) : prs len at_ out (lineB f ++ r) = prs len (at_ + sizF f) (out ++ [f]) r := by
 have hl : (f.1 ++ [58, 32] ++ f.2 ++ [13]).length + 1 = sizF f := by unfold sizF; simp; omega
 have e : lineB f ++ r = (f.1 ++ [58, 32] ++ f.2 ++ [13]) ++ 10 :: r := by rw [line_eq, List.append_assoc]; rfl
 rw [e, prs_ln (line_no10 h) (line_ok h) (by rw [line_drop]; simp) (by rw [line_drop]; exact line_F h) h.len (by omega) ho, ← hl, Nat.add_assoc]
theorem prs_end {len at_ : Nat} {out : List Fd} (hat : at_ + 2 ≤ 8192) (r : List UInt8) : prs len at_ out ([13, 10] ++ r) = (out, at_ + 2, 0) := by
 rw [prs_at (n := 1) (by simp) (by simp), if_neg (by omega), if_pos (by simp [lineOk]), if_pos (by simp)]
theorem prt_cons (f : Fd) (l : List Fd) : prtB (f :: l) = lineB f ++ prtB l := by simp [prtB, linesB]
theorem prt_len (l : List Fd) : (prtB l).length = sumF l := by
 have := linesB_len l
 unfold prtB
 simp
 omega
theorem sumF_cons (f : Fd) (l : List Fd) : sumF (f :: l) = sizF f + sumF l := by simp [sumF]; omega
theorem prs_print {len : Nat} (more : List UInt8) : ∀ (l out : List Fd) (at_ : Nat), (∀ f, f ∈ l → OkF f) → out.length + l.length ≤ 100 → at_ + sumF l ≤ 8192 → prs len at_ out (prtB l ++ more) = (out ++ l, at_ + sumF l, 0)
 | [], out, at_, h, ho, hs => by
   have h2 : sumF [] = 2 := rfl
   rw [h2] at hs ⊢
   rw [List.append_nil]
   exact prs_end hs more
 | f :: l, out, at_, h, ho, hs => by
   rw [sumF_cons] at hs ⊢
   rw [List.length_cons] at ho
   rw [prt_cons, List.append_assoc, prs_line (h f (by simp)) (by omega) (by omega), prs_print more l _ _ (fun g hg => h g (by simp [hg])) (by simp; omega) (by omega)]
   simp
   omega
theorem prs_part {len : Nat} (hlen : len ≤ 8192) : ∀ (l out : List Fd) (at_ m : Nat), (∀ f, f ∈ l → OkF f) → out.length + l.length ≤ 100 → at_ + sumF l ≤ 8192 → m < sumF l → prs len at_ out ((prtB l).take m) = ([], 0, 10)
 | [], out, at_, m, h, ho, hs, hm => by
   have h2 : sumF [] = 2 := rfl
   rw [h2] at hm
   have : ¬ (10 : UInt8) ∈ (prtB []).take m := by
     show ¬ (10 : UInt8) ∈ ([13, 10] : List UInt8).take m
     rcases m with _ | _ | m
     · simp
     · simp
     · omega
   rw [prs_no this, if_neg (by omega)]
 | f :: l, out, at_, m, h, ho, hs, hm => by
   rw [sumF_cons] at hs hm
   rw [List.length_cons] at ho
   have hl := lineB_len f
   rw [prt_cons]
   by_cases hc : m < (lineB f).length
   · have : ¬ (10 : UInt8) ∈ (lineB f ++ prtB l).take m := by
       rw [List.take_append_of_le_length (by omega), line_eq]
       rw [line_eq] at hc
       simp only [List.length_append, List.length_singleton] at hc
       rw [List.take_append_of_le_length (by simp only [List.length_append, List.length_singleton]; omega)]
       intro hm10
       exact line_no10 (h f (by simp)) (List.mem_of_mem_take hm10)
     rw [prs_no this, if_neg (by omega)]
   · obtain ⟨m', rfl⟩ : ∃ m', m = (lineB f).length + m' := ⟨m - (lineB f).length, by omega⟩
     rw [List.take_length_add_append, prs_line (h f (by simp)) (by omega) (by omega)]
     exact prs_part hlen l _ _ m' (fun g hg => h g (by simp [hg])) (by simp; omega) (by omega) (by omega)
end Go.Proofs

set_option linter.unusedSimpArgs false
set_option linter.unusedVariables false
set_option maxRecDepth 100000
namespace Go.Proofs
open Go Go.Pl Go.RowKit
def comR (l : List Fd) (nm : List UInt8) : V :=
 if askE l nm ≠ 0 then .tup [.str [], .int .i64 (askE l nm)]
 else if getL l nm = [] then .tup [.str [], .int .i64 4]
 else if Lib.toLowerA nm = [115, 101, 116, 45, 99, 111, 111, 107, 105, 101] then .tup [.str [], .int .i64 9]
 else if 2000 < (joinB [44, 32] (getL l nm)).length then .tup [.str [], .int .i64 3]
 else .tup [.str (joinB [44, 32] (getL l nm)), .int .i64 0]
theorem askE_chk {l : List Fd} {nm : List UInt8} (h : askE l nm = 0) : chkL l = 0 := by
 unfold askE at h
 by_cases h1 : chkL l = 0
 · exact h1
 · rw [if_pos h1] at h; exact h
theorem lenS_get (l : List Fd) (nm : List UInt8) : lenS (getL l nm) ≤ sumF l := by
 induction l with
 | nil => simp [getL, lenS]
 | cons f l ih =>
   rw [sumF_cons]
   unfold getL at ih ⊢
   rw [List.filter_cons]
   split
   · simp only [List.map_cons, lenS, List.sum_cons] at ih ⊢
     unfold sizF
     omega
   · omega
set_option maxHeartbeats 1000000 in
theorem Tryz.Combined_c {bx : Boxes} (hm : Mk bx) (l : List Fd) (hl : Small l) (nm : List UInt8) (hn : nm.length ≤ 100000) : PureCall Tryz.prog 24 [.sl 2 (l.map fdV), .str nm] bx (comR l nm) := by
 refine Tryz.ctr24 fun hf => ?_
 have cG := Tryz.Get_c hm l hl nm hn
 have cF := Tryz.Fold_p bx nm hn
 unfold getR at cG
 unfold comR
 by_cases hA : askE l nm = 0
 · rw [if_pos hA] at cG
   rw [if_neg (by simpa using hA)]
   have hck := chkL_ok (askE_chk hA)
   have hgl := getL_len l nm
   have hgs := lenS_get l nm
   have cJ := Tryz.Join_c (getL l nm) [44, 32] (by omega) (by omega) (by simp) (by simp) bx
   generalize getL l nm = L at *
   by_cases hL : L = []
   · rw [if_pos hL]
     simp [go_sem, Tryz.C24, hf]
     refine callK_pure cG ?_
     simp [go_sem, hL]
     exact ret_pure (by simp [go_sem]) ⟨by simp [go_sem], rfl⟩
   · rw [if_neg hL]
     have hL0 : ¬ (L.length : Int) = 0 := by
       intro e; exact hL (List.eq_nil_of_length_eq_zero (by omega))
     simp [go_sem, Tryz.C24, hf]
     refine callK_pure cG ?_
     simp [go_sem, hL, hL0]
     refine callK_pure cF ?_
     by_cases hck2 : Lib.toLowerA nm = [115, 101, 116, 45, 99, 111, 111, 107, 105, 101]
     · rw [if_pos hck2]
       simp [go_sem, hck2]
       exact ret_pure (by simp [go_sem]) ⟨by simp [go_sem], rfl⟩
     · rw [if_neg hck2]
       simp [go_sem, hck2]
       refine callK_pure cJ ?_
       generalize joinB [44, 32] L = J at *
       by_cases hJ : 2000 < J.length
       · have hJ' : (2000 : Int) < J.length := by omega
         rw [if_pos hJ]
         simp [go_sem, hJ']
         exact ret_pure (by simp [go_sem]) ⟨by simp [go_sem], rfl⟩
       · have hJ' : ¬ (2000 : Int) < J.length := by omega
         rw [if_neg hJ]
         simp [go_sem, hJ']
         exact ret_pure (by simp [go_sem]) ⟨by simp [go_sem], rfl⟩
 · rw [if_neg hA] at cG
   rw [if_pos (by simpa using hA)]
   simp [go_sem, Tryz.C24, hf]
   refine callK_pure cG ?_
   simp [go_sem, hA]
   exact ret_pure (by simp [go_sem]) ⟨by simp [go_sem], rfl⟩
theorem join_step (x : List UInt8) (t : List (List UInt8)) {k : Nat} (hk : k < t.length) : joinB [44, 32] (x :: t.take (k + 1)) = joinB [44, 32] (x :: t.take k) ++ [44, 32] ++ t[k] := by
 simp only [joinB]
 rw [List.take_succ_eq_append_getElem hk, List.flatMap_append]
 simp
theorem join_len (x : List UInt8) (t : List (List UInt8)) (k : Nat) : (joinB [44, 32] (x :: t.take k)).length ≤ lenS (x :: t) + 2 * t.length := by
 simp only [joinB, List.length_append]
 rw [flat_len]
 have h1 := lenS_le t k
 have h2 : lenS (x :: t) = x.length + lenS t := by simp [lenS]
 have h3 : (t.take k).length ≤ t.length := by simp; omega
 simp only [List.length_cons, List.length_nil]
 omega
set_option maxHeartbeats 1000000 in
theorem Tryz.rCombined_c (l : List Fd) (hl : Small l) (nm : List UInt8) (hn : nm.length ≤ 100000) (bx : Boxes) : PureCall Tryz.prog 31 [.sl 2 (l.map fdV), .str nm] bx (comR l nm) := by
 refine Tryz.ctr31 fun hf => ?_
 have cG := Tryz.asked_c l hl nm bx
 have cF := Tryz.rFold_p bx nm hn
 unfold comR
 by_cases hA : askE l nm = 0
 · rw [if_neg (by simpa using hA)]
   have hck := chkL_ok (askE_chk hA)
   have hgl := getL_len l nm
   have hgs := lenS_get l nm
   have cJ := Tryz.rget_c l hl (by omega) nm hn bx
   generalize getL l nm = L at *
   by_cases hL : L = []
   · rw [if_pos hL]
     simp [go_sem, Tryz.C31, hf]
     refine callK_pure cG ?_
     simp [go_sem, hA]
     refine callK_pure cJ ?_
     simp [go_sem, hL]
     exact ret_pure (by simp [go_sem]) ⟨by simp [go_sem], rfl⟩
   · rw [if_neg hL]
     have hL0 : ¬ (L.length : Int) = 0 := by
       intro e; exact hL (List.eq_nil_of_length_eq_zero (by omega))
     simp [go_sem, Tryz.C31, hf]
     refine callK_pure cG ?_
     simp [go_sem, hA]
     refine callK_pure cJ ?_
     simp [go_sem, hL, hL0]
     refine callK_pure cF ?_
     by_cases hck2 : Lib.toLowerA nm = [115, 101, 116, 45, 99, 111, 111, 107, 105, 101]
     · rw [if_pos hck2]
       simp [go_sem, hck2]
       exact ret_pure (by simp [go_sem]) ⟨by simp [go_sem], rfl⟩
     · rw [if_neg hck2]
       obtain ⟨x, t, rfl⟩ : ∃ x t, L = x :: t := by
         cases L with
         | nil => exact absurd rfl hL
         | cons x t => exact ⟨x, t, rfl⟩
       simp [go_sem, hck2]
       refine pw_upto t.length (fun k => ⟨45, slk [(7, .sl 1 ((x :: t).map .str)), (8, .str (joinB [44, 32] (x :: t.take k))), (9, .int .i64 (k + 1))], bx⟩) (cov_look (by simp [go_sem, joinB])) (fun k hk N hN => ?_) (fun N => ?_)
       · have hw : IntKind.i64.wrap ((k : Int) + 1 + 1) = (k : Int) + 1 + 1 := wr64 (by simp at hgl; omega)
         have hst := join_step x t hk
         have hk2 : (k : Int) + 1 < (t.length : Int) + 1 := by omega
         have hjl := join_len x t k
         have htk : t[k].length ≤ lenS (x :: t) := by
           have h1 := lenS_take hk
           have h2 := lenS_le t (k + 1)
           have h3 : lenS (x :: t) = x.length + lenS t := by simp [lenS]
           omega
         simp at hgl
         generalize joinB [44, 32] (x :: t.take k) = J at *
         simp [go_sem, Tryz.L31_0, hk, hf, hw, hk2]
         refine ⟨by omega, by omega, by omega, ?_⟩
         exact hN _ (cov_look (by simp [go_sem, hst]))
       · by_cases hJ : 2000 < (joinB [44, 32] (x :: t)).length
         · have hJ' : (2000 : Int) < (joinB [44, 32] (x :: t)).length := by omega
           rw [if_pos hJ]
           simp [go_sem, Tryz.L31_0, hf, hJ']
           exact ret_pure (by simp [go_sem]) ⟨by simp [go_sem], rfl⟩
         · have hJ' : ¬ (2000 : Int) < (joinB [44, 32] (x :: t)).length := by omega
           rw [if_neg hJ]
           simp [go_sem, Tryz.L31_0, hf, hJ']
           exact ret_pure (by simp [go_sem]) ⟨by simp [go_sem], rfl⟩
 · rw [if_pos (by simpa using hA)]
   simp [go_sem, Tryz.C31, hf]
   refine callK_pure cG ?_
   simp [go_sem, hA]
   exact ret_pure (by simp [go_sem]) ⟨by simp [go_sem], rfl⟩
set_option maxHeartbeats 1000000 in
theorem Tryz.headersChecks_c {bx : Boxes} (hm : Mk bx) (l : List Fd) (nm : List UInt8) : PureCall Tryz.prog 8 [.sl 2 (l.map fdV), .str nm] bx (.bool true) := by
 refine Tryz.ctrx8 fun hf => ?_
 simp [go_sem, Tryz.Cx8, hf]
 refine callK_pure (Tryz.far_c l bx) ?_
 have cA := Tryz.awake_c hm
 cases hfar : farB l
 · obtain ⟨h1, h2, h3, h4⟩ := far_small hfar
   by_cases hb : 200 < nm.length
   · have hb' : (200 : Int) < nm.length := by omega
     simp [go_sem, hb']
     refine callK_pure cA ?_
     simp [go_sem]
     exact ret_pure (by simp [go_sem]) ⟨by simp [go_sem], rfl⟩
   · have hb' : ¬ (200 : Int) < nm.length := by omega
     have cK := Tryz.Check_c hm l h2
     have cL := Tryz.rCheck_c l h2 bx
     have cN := Tryz.Canon_c hm nm (by omega)
     have cM := Tryz.rCanon_c nm (by omega) bx
     have cC := Tryz.Combined_c hm l h2 nm (by omega)
     have cD := Tryz.rCombined_c l h2 nm (by omega) bx
     have e1 : ∃ s e, canV nm = .tup [.str s, .int .i64 e] := by
       unfold canV
       split <;> exact ⟨_, _, rfl⟩
     have e2 : ∃ s e, comR l nm = .tup [.str s, .int .i64 e] := by
       unfold comR
       repeat' split
       all_goals exact ⟨_, _, rfl⟩
     obtain ⟨s, e, hse⟩ := e1
     obtain ⟨s2, e2, hse2⟩ := e2
     rw [hse] at cN cM
     rw [hse2] at cC cD
     simp [go_sem, hb']
     refine callK_pure cN ?_
     simp [go_sem]
     refine callK_pure cM ?_
     simp [go_sem]
     refine callK_pure cC ?_
     simp [go_sem]
     refine callK_pure cD ?_
     simp [go_sem]
     refine callK_pure cK ?_
     simp [go_sem]
     refine callK_pure cL ?_
     simp [go_sem]
     refine gK_pure cA (by simp) (by simp [go_sem]) ?_
     simp [go_sem]
     exact ret_pure (by simp [go_sem]) ⟨by simp [go_sem], rfl⟩
 · simp [go_sem]
   refine callK_pure cA ?_
   simp [go_sem]
   exact ret_pure (by simp [go_sem]) ⟨by simp [go_sem], rfl⟩
end Go.Proofs

set_option linter.unusedSimpArgs false
set_option linter.unusedVariables false
set_option maxRecDepth 100000
namespace Go.Proofs
open Go Go.Pl Go.RowKit
end Go.Proofs
