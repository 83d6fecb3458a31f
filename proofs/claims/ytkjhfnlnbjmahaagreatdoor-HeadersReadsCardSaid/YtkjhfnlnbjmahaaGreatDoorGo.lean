/- Texts of the proof, put together: FS, FY, FT, FU, FV. -/
import Derived.Test.YtkjhfnlnbjmahaaGreatDoorGm
import Derived.Test.YtkjhfnlnbjmahaaGreatDoorGn
import Derived.Test.YtkjhfnlnbjmahaaGreatDoorRows
import Derived.Test.YtkjhfnlnbjmahaaGreatDoorTie
import Derived.Test.YtkjhfnlnbjmahaaGreatDoorCards
import Derived.Test.YtkjhfnlnbjmahaaGreatDoorGe
import Derived.WalkKit
import Derived.ProofKit
import Derived.Lay
import Derived.LaidOnce
import Derived.SevenTiedAt
import Derived.Test.YtkjhfnlnbjmahaaGreatDoorGk

set_option linter.unusedSimpArgs false
set_option linter.unusedVariables false
set_option maxRecDepth 100000
namespace Go.Proofs
open Go Go.Pl Go.RowKit
def exL : List Fd := [([72, 111, 115, 116], [97]), ([67, 111, 110, 110, 101, 99, 116, 105, 111, 110], [99, 108, 111, 115, 101, 44, 32, 88, 45, 72, 111, 112]), ([120, 45, 104, 111, 112], [49]), ([65, 99, 99, 101, 112, 116], [98]), ([97, 99, 99, 101, 112, 116], [99])]
theorem Tryz.Example_c (bx : Boxes) : PureCall Tryz.prog 40 [] bx (.sl 2 (exL.map fdV)) := by
 refine Tryz.ctrx40 fun hf => ?_
 simp [go_sem, Tryz.Cx40, hf]
 intro b hb
 refine ret_own (b := b) (sz := 2) (n := 5) (ty := 38) (es := exL.map fdV) (by simp [go_sem]) ((Ext.refl _).new hb _) (by simp [go_sem]) (by show upd _ _ _ _ = _; rw [upd_eq]; rfl) hb (by decide) rfl ⟨rfl, rfl⟩
theorem exSmall : Small exL := by unfold Small exL; simp
theorem Tryz.awake_c {bx : Boxes} (hm : Mk bx) : PureCall Tryz.prog 12 [] bx (.bool true) := by
 refine Tryz.ctrx12 fun hf => ?_
 simp [go_sem, Tryz.Cx12, hf]
 refine callK_pure (Tryz.Example_c bx) ?_
 simp [go_sem, hf]
 have cG := Tryz.Get_c hm exL exSmall [65, 67, 67, 69, 80, 84] (by decide)
 have eG : getR exL [65, 67, 67, 69, 80, 84] = .tup [.sl 1 [.str [98], .str [99]], .int .i64 0] := by
   unfold getR
   rw [show askE exL [65, 67, 67, 69, 80, 84] = 0 by decide +kernel, show getL exL [65, 67, 67, 69, 80, 84] = [[98], [99]] by decide +kernel]
   rfl
 rw [eG] at cG
 have cS := Tryz.Strip_c hm exL exSmall
 have eS : stripF exL = ([([72, 111, 115, 116], [97]), ([65, 99, 99, 101, 112, 116], [98]), ([97, 99, 99, 101, 112, 116], [99])], 0) := by decide +kernel
 rw [eS] at cS
 have cH := Tryz.Hop_c hm exL exSmall
 have eH : hopF exL = ([connB, [120, 45, 104, 111, 112]], 0) := by
   unfold hopF
   rw [if_pos (by decide +kernel), show namesF exL = some (fixedL ++ [[99, 108, 111, 115, 101], [120, 45, 104, 111, 112]]) by decide +kernel]
   show (sortB (metL exL (fixedL ++ [[99, 108, 111, 115, 101], [120, 45, 104, 111, 112]])), (0 : Int)) = _
   rw [show metL exL (fixedL ++ [[99, 108, 111, 115, 101], [120, 45, 104, 111, 112]]) = [connB, [120, 45, 104, 111, 112]] by decide +kernel, ← sort_uniq (List.Perm.refl _) (by decide)]
 have cC := Tryz.Canon_c hm [120, 45, 72, 79, 80] (by decide)
 have eC : canV [120, 45, 72, 79, 80] = .tup [.str [88, 45, 72, 111, 112], .int .i64 0] := by
   unfold canV
   rw [if_pos (by decide +kernel), show capsB true (Lib.toLowerA [120, 45, 72, 79, 80]) = [88, 45, 72, 111, 112] by decide +kernel]
 rw [eC] at cC
 have cP := Tryz.Parse_c hm [65, 58, 32, 98, 13, 10, 13, 10, 120] (by decide)
 have eP : parseF [65, 58, 32, 98, 13, 10, 13, 10, 120] = ([([65], [98])], 8, 0) := by
   unfold parseF
   rw [prs, dif_pos (by decide), if_neg (by decide), if_pos (by decide +kernel), if_neg (by decide), show lineF (cutC [65, 58, 32, 98, 13, 10, 13, 10, 120] 10).1.dropLast = some ([65], [98]) by decide +kernel]
   dsimp only
   rw [if_neg (by decide), prs, dif_pos (by decide), if_neg (by decide), if_pos (by decide +kernel), if_pos (by decide)]
   rfl
 rw [eP] at cP
 have cW := Tryz.Print_c hm [([65], [98])] (by unfold Small; simp)
 have eW : prtR [([65], [98])] = .tup [.str [65, 58, 32, 98, 13, 10, 13, 10], .int .i64 0] := by
   unfold prtR
   rw [if_pos (by decide +kernel), show prtB [([65], [98])] = [65, 58, 32, 98, 13, 10, 13, 10] by decide +kernel]
 rw [eW] at cW
 rw [eH] at cH
 refine callK_pure cG ?_
 simp [go_sem, hf]
 refine callK_pure (Tryz.Example_c bx) ?_
 simp [go_sem, hf]
 refine callK_pure cS ?_
 simp [go_sem, hf, resL]
 refine callK_pure (Tryz.Example_c bx) ?_
 simp [go_sem, hf]
 refine callK_pure cH ?_
 simp [go_sem, hf, resS]
 refine callK_pure cC ?_
 simp [go_sem, hf]
 intro b hb
 simp [upd_none hb, hf]
 refine callK_pure (show PureCall Tryz.prog 27 _ bx _ from cP) ?_
 simp [go_sem, hf, prsV]
 refine callK_pure (show PureCall Tryz.prog 25 _ bx _ from cW) ?_
 simp [go_sem, hf]
 have s1 := Tryz.Strings_c [[98], [99]] [[98], [99]] (by decide) bx
 have s2 := Tryz.Equal_c [([72, 111, 115, 116], [97]), ([65, 99, 99, 101, 112, 116], [98]), ([97, 99, 99, 101, 112, 116], [99])] [([72, 111, 115, 116], [97]), ([65, 99, 99, 101, 112, 116], [98]), ([97, 99, 99, 101, 112, 116], [99])] (by decide) bx
 have s3 := Tryz.Strings_c [connB, [120, 45, 104, 111, 112]] [connB, [120, 45, 104, 111, 112]] (by decide) bx
 have s4 := Tryz.Equal_c [([65], [98])] [([65], [98])] (by decide) bx
 refine callK_pure s1 ?_
 simp [go_sem, hf]
 refine gK_pure (show PureCall Tryz.prog 20 _ bx _ from s2) (by simp) (by simp [go_sem]) ?_
 simp [go_sem, hf]
 refine gK_pure (show PureCall Tryz.prog 19 _ bx _ from s3) (by simp) (by simp [go_sem]) ?_
 simp [go_sem, hf]
 refine gK_pure (show PureCall Tryz.prog 20 _ bx _ from s4) (by simp) (by simp [go_sem]) ?_
 simp [go_sem, hf]
 exact ret_pure (by simp [go_sem]) ⟨by simp [go_sem], rfl⟩
end Go.Proofs

set_option linter.unusedVariables false
set_option linter.unusedSimpArgs false
set_option maxRecDepth 100000
namespace Go.Proofs.YtkjhfnlnbjmahaaGreatDoor
open Go Go.Pl Go.Proofs
open Go.ChangeShapes Go.WideShapes Go.ChangeAt Go.RowKit
theorem own : ownKnob Tryz.prog.godebug = none := by kernel_rfl
theorem hasByte {n : Nat} {xs : List V} (h : HasL Tryz.prog n 5 xs) : ∃ c : UInt8, xs = [byteV c] := by
 obtain ⟨i, rfl, hw⟩ := h.int Tryz.knd5
 simp [Lit.wf, IntKind.min, IntKind.max, IntKind.signed, IntKind.bits] at hw
 refine ⟨UInt8.ofNat i.toNat, ?_⟩
 unfold byteV
 have : ((UInt8.ofNat i.toNat).toNat : Int) = i := by
   simp
   omega
 rw [this]
theorem hasBytes {n : Nat} {xs : List V} (h : HasL Tryz.prog (n + 1) 43 xs) : ∃ l : List UInt8, xs = [.sl 1 (l.map byteV)] := by
 obtain ⟨l, h, hl⟩ := HasL.slice (r := byteV) Tryz.knd43 h fun ys hy => by
   obtain ⟨c, rfl⟩ := hasByte hy
   exact ⟨c, elV_one Tryz.tagg5⟩
 rw [Tryz.tsz5] at h
 exact ⟨l, h⟩
end Go.Proofs.YtkjhfnlnbjmahaaGreatDoor

set_option linter.unusedSimpArgs false
set_option linter.unusedVariables false
set_option maxRecDepth 100000
namespace Go.Proofs
open Go Go.Pl Go.RowKit
end Go.Proofs

set_option linter.unusedVariables false
set_option linter.unusedSimpArgs false
set_option maxRecDepth 100000
namespace Go.Proofs
open Go Go.Pl
theorem cut_app {a b : List UInt8} {c : UInt8} (h : ¬ c ∈ a) : cutC (a ++ c :: b) c = (a, b, true) := by
 have := cut_at (s := a ++ c :: b) (c := c) (n := a.length) (by simp) (by simpa using h)
 rw [this]
 simp [List.drop_append]
theorem tok_mem {s : List UInt8} (h : tokB s = true) {c : UInt8} (hc : c ∈ s) : letB c = true := by
 unfold tokB at h
 rw [Bool.and_eq_true] at h
 exact List.all_eq_true.1 h.2 c hc
theorem plain_mem {s : List UInt8} (h : plainB s = true) {c : UInt8} (hc : c ∈ s) : plain1 c = true := List.all_eq_true.1 h c hc
theorem tok_no10 {s : List UInt8} (h : tokB s = true) : ¬ (10 : UInt8) ∈ s := fun hc => absurd (tok_mem h hc) (by decide)
theorem tok_no13 {s : List UInt8} (h : tokB s = true) : ¬ (13 : UInt8) ∈ s := fun hc => absurd (tok_mem h hc) (by decide)
theorem tok_no58 {s : List UInt8} (h : tokB s = true) : ¬ (58 : UInt8) ∈ s := fun hc => absurd (tok_mem h hc) (by decide)
theorem plain_no10 {s : List UInt8} (h : plainB s = true) : ¬ (10 : UInt8) ∈ s := fun hc => absurd (plain_mem h hc) (by decide)
theorem plain_no13 {s : List UInt8} (h : plainB s = true) : ¬ (13 : UInt8) ∈ s := fun hc => absurd (plain_mem h hc) (by decide)
structure OkF (f : Fd) : Prop where
 tok : tokB f.1 = true
 pl : plainB f.2 = true
 tr : trimB f.2 = f.2
 len : f.2.length ≤ 2000
theorem OkF.chk {f : Fd} (h : OkF f) : chkF f = 0 := by
 unfold chkF
 rw [if_pos (by simp [h.tok, h.pl, h.tr]), if_neg (by have := h.len; omega)]
theorem chkL_of {l : List Fd} (h1 : l.length ≤ 100) (h2 : ∀ f, f ∈ l → OkF f) : chkL l = if 8192 < sumF l then 3 else 0 := by
 unfold chkL
 rw [if_neg (by omega), List.find?_eq_none.2 fun f hf => by simp [(h2 f hf).chk]]
theorem line_eq (f : Fd) : lineB f = (f.1 ++ [58, 32] ++ f.2 ++ [13]) ++ [10] := by simp [lineB]
theorem line_no10 {f : Fd} (h : OkF f) : ¬ (10 : UInt8) ∈ f.1 ++ [58, 32] ++ f.2 ++ [13] := by
 simp [tok_no10 h.tok, plain_no10 h.pl]
theorem line_drop (f : Fd) : (f.1 ++ [58, 32] ++ f.2 ++ [13]).dropLast = f.1 ++ [58, 32] ++ f.2 := by
 rw [List.dropLast_concat]
theorem line_ok {f : Fd} (h : OkF f) : lineOk (f.1 ++ [58, 32] ++ f.2 ++ [13]) = true := by
 unfold lineOk
 rw [line_drop, List.getLast?_concat]
 simp [tok_no13 h.tok, plain_no13 h.pl]
theorem line_F {f : Fd} (h : OkF f) : lineF (f.1 ++ [58, 32] ++ f.2) = some f := by
 unfold lineF
 have e : f.1 ++ [58, 32] ++ f.2 = f.1 ++ 58 :: (32 :: f.2) := by simp
 rw [e, cut_app (tok_no58 h.tok)]
 have hp : plainB (32 :: f.2) = true := by
   unfold plainB
   rw [List.all_cons]
   have := h.pl
   unfold plainB at this
   rw [this]; rfl
 have ht : trimB (32 :: f.2) = f.2 := by
   have := h.tr
   unfold trimB at this ⊢
   rw [List.dropWhile_cons_of_pos (by decide)]
   exact this
 rw [if_pos (by simp [h.tok, hp]), ht]
theorem prs_ln {len at_ : Nat} {out : List Fd} {f : Fd} {ln : List UInt8} (h1 : ¬ (10 : UInt8) ∈ ln) (h2 : lineOk ln = true) (h3 : ln.dropLast ≠ []) (h4 : lineF ln.dropLast = some f) (hf : f.2.length ≤ 2000) (hat : at_ + ln.length < 8192) (ho : out.length < 100) (r : List UInt8) :
   prs len at_ out (ln ++ 10 :: r) = prs len (at_ + ln.length + 1) (out ++ [f]) r := by
 have e1 : (ln ++ 10 :: r).take ln.length = ln := by simp
 have e2 : (ln ++ 10 :: r).drop (ln.length + 1) = r := by simp [List.drop_append]
 rw [prs_at (n := ln.length) (by simp) (by rw [e1]; exact h1), e1, e2, if_neg (by omega), if_pos h2, if_neg h3, h4]
 dsimp only
 rw [if_neg (by omega)]
theorem prs_line {len at_ : Nat} {out : List Fd} {f : Fd} (h : OkF f) (hat : at_ + sizF f ≤ 8192) (ho : out.length < 100) (r : List UInt8) : prs len at_ out (lineB f ++ r) = prs len (at_ + sizF f) (out ++ [f]) r := by
 have hl : (f.1 ++ [58, 32] ++ f.2 ++ [13]).length + 1 = sizF f := by unfold sizF; simp; omega
 have e : lineB f ++ r = (f.1 ++ [58, 32] ++ f.2 ++ [13]) ++ 10 :: r := by rw [line_eq, List.append_assoc]; rfl
 rw [e, prs_ln (line_no10 h) (line_ok h) (by rw [line_drop]; simp) (by rw [line_drop]; exact line_F h) h.len (by omega) ho, ← hl, Nat.add_assoc]
theorem prs_end {len at_ : Nat} {out : List Fd} (hat : at_ + 2 ≤ 8192) (r : List UInt8) : prs len at_ out ([13, 10] ++ r) = (out, at_ + 2, 0) := by
 rw [prs_at (n := 1) (by simp) (by simp), if_neg (by omega), if_pos (by simp [lineOk]), if_pos (by simp)]
theorem prt_cons (f : Fd) (l : List Fd) : prtB (f :: l) = lineB f ++ prtB l := by simp [prtB, linesB]
theorem prt_len (l : List Fd) : (prtB l).length = sumF l := by
 have := linesB_len l
 unfold prtB
 simp
 omega
theorem sumF_cons (f : Fd) (l : List Fd) : sumF (f :: l) = sizF f + sumF l := by simp [sumF]; omega
theorem prs_print {len : Nat} (more : List UInt8) : ∀ (l out : List Fd) (at_ : Nat), (∀ f, f ∈ l → OkF f) → out.length + l.length ≤ 100 → at_ + sumF l ≤ 8192 → prs len at_ out (prtB l ++ more) = (out ++ l, at_ + sumF l, 0)
 | [], out, at_, h, ho, hs => by
   have h2 : sumF [] = 2 := rfl
   rw [h2] at hs ⊢
   rw [List.append_nil]
   exact prs_end hs more
 | f :: l, out, at_, h, ho, hs => by
   rw [sumF_cons] at hs ⊢
   rw [List.length_cons] at ho
   rw [prt_cons, List.append_assoc, prs_line (h f (by simp)) (by omega) (by omega), prs_print more l _ _ (fun g hg => h g (by simp [hg])) (by simp; omega) (by omega)]
   simp
   omega
theorem dw_idem (p : UInt8 → Bool) : ∀ s : List UInt8, (s.dropWhile p).dropWhile p = s.dropWhile p
 | [] => rfl
 | c :: s => by
   by_cases h : p c = true
   · rw [List.dropWhile_cons_of_pos h]; exact dw_idem p s
   · rw [List.dropWhile_cons_of_neg h, List.dropWhile_cons_of_neg h]
theorem dw_head (p : UInt8 → Bool) : ∀ (s : List UInt8) {c : UInt8} {t : List UInt8}, s.dropWhile p = c :: t → ¬ p c = true
 | [], c, t, h => by cases h
 | d :: s, c, t, h => by
   by_cases hd : p d = true
   · rw [List.dropWhile_cons_of_pos hd] at h; exact dw_head p s h
   · rw [List.dropWhile_cons_of_neg hd] at h
     injection h with h1 h2
     subst h1; exact hd
theorem trim_idem (s : List UInt8) : trimB (trimB s) = trimB s := by
 unfold trimB
 generalize hu : s.dropWhile blank1 = u
 have h1 : ((u.reverse.dropWhile blank1).reverse).dropWhile blank1 = (u.reverse.dropWhile blank1).reverse := by
   cases u with
   | nil => rfl
   | cons c t =>
     have hc := dw_head blank1 s hu
     have : ((c :: t).reverse.dropWhile blank1).reverse = c :: ((t.reverse.dropWhile blank1).reverse) := by
       rw [List.reverse_cons, List.dropWhile_append]
       by_cases he : (t.reverse.dropWhile blank1).isEmpty = true
       · rw [if_pos he, List.dropWhile_cons_of_neg hc]
         have : t.reverse.dropWhile blank1 = [] := List.isEmpty_iff.1 he
         rw [this]; rfl
       · rw [if_neg he]; simp
     rw [this, List.dropWhile_cons_of_neg hc]
 rw [h1, List.reverse_reverse, dw_idem]
theorem trim_plain {s : List UInt8} (h : plainB s = true) : plainB (trimB s) = true := by
 refine List.all_eq_true.2 fun c hc => plain_mem h ?_
 unfold trimB at hc
 have h1 := List.mem_reverse.1 hc
 have h2 := (List.dropWhile_sublist _).subset h1
 exact (List.dropWhile_sublist _).subset (List.mem_reverse.1 h2)
theorem lineF_ok {s : List UInt8} {f : Fd} (h : lineF s = some f) (h2 : f.2.length ≤ 2000) : OkF f := by
 unfold lineF at h
 split at h
 · rename_i hc
   injection h with h
   subst h
   simp at hc
   exact ⟨hc.1.2, trim_plain hc.2, trim_idem _, h2⟩
 · cases h
theorem prs_inv {len len2 : Nat} : ∀ (n at_ : Nat) (out : List Fd) (r : List UInt8), r.length ≤ n → (∀ f, f ∈ out → OkF f) → out.length ≤ 100 →
   ((prs len at_ out r).2.2 ≠ 0 ∧ (prs len at_ out r).1 = [] ∧ (prs len at_ out r).2.1 = 0) ∨
   ∃ k, (prs len at_ out r).2.2 = 0 ∧ (prs len at_ out r).2.1 = at_ + k ∧ 2 ≤ k ∧ k ≤ r.length ∧ at_ + k ≤ 8192 ∧ (∀ f, f ∈ (prs len at_ out r).1 → OkF f) ∧ (prs len at_ out r).1.length ≤ 100 ∧ prs len2 at_ out (r.take k) = prs len at_ out r
 | n, at_, out, r, hn, ho, hl => by
   by_cases h : (10 : UInt8) ∈ r
   · obtain ⟨m, h1, h2, h3, h4⟩ := idx_some h
     have hp := prs_at (len := len) (at_ := at_) (out := out) h3 h4
     have hp2 : ∀ k, m + 1 ≤ k → prs len2 at_ out (r.take k) = _ := fun k hk => prs_at (len := len2) (at_ := at_) (out := out) (r := r.take k) (n := m) (by rw [List.getElem?_take_of_lt (by omega)]; exact h3) (by rw [List.take_take, Nat.min_eq_left (by omega)]; exact h4)
     rw [hp]
     by_cases c1 : 8192 ≤ at_ + m
     · rw [if_pos c1]; exact .inl ⟨by decide, rfl, rfl⟩
     rw [if_neg c1]
     by_cases c2 : lineOk (r.take m) = true
     · rw [if_pos c2]
       have hm1 : 1 ≤ m := by
         rcases m with _ | m
         · simp [lineOk] at c2
         · omega
       by_cases c3 : (r.take m).dropLast = []
       · rw [if_pos c3]
         refine .inr ⟨m + 1, rfl, rfl, by omega, by omega, by omega, ho, hl, ?_⟩
         rw [hp2 (m + 1) (Nat.le_refl _), if_neg c1]
         have e : (r.take (m + 1)).take m = r.take m := by rw [List.take_take, Nat.min_eq_left (by omega)]
         rw [e, if_pos c2, if_pos c3]
       · rw [if_neg c3]
         cases hF : lineF (r.take m).dropLast with
         | none => exact .inl ⟨by show (6 : Int) ≠ 0; decide, rfl, rfl⟩
         | some f =>
           dsimp only
           by_cases c4 : 2000 < f.2.length ∨ out.length = 100
           · rw [if_pos c4]; exact .inl ⟨by decide, rfl, rfl⟩
           · rw [if_neg c4]
             have hf := lineF_ok hF (by omega)
             cases n with
             | zero => omega
             | succ n =>
               rcases prs_inv (len := len) (len2 := len2) n (at_ + m + 1) (out ++ [f]) (r.drop (m + 1)) (by simp; omega) (fun g hg => by
                 rcases List.mem_append.1 hg with hg | hg
                 · exact ho g hg
                 · simp at hg; subst hg; exact hf) (by simp; omega) with h5 | ⟨k, g1, g2, g3, g4, g5, g6, g7, g8⟩
               · exact .inl h5
               · simp at g4
                 refine .inr ⟨m + 1 + k, g1, by rw [g2]; omega, by omega, by omega, by omega, g6, g7, ?_⟩
                 rw [hp2 _ (by omega), if_neg c1]
                 have e : (r.take (m + 1 + k)).take m = r.take m := by rw [List.take_take, Nat.min_eq_left (by omega)]
                 have e2 : (r.take (m + 1 + k)).drop (m + 1) = (r.drop (m + 1)).take k := by rw [List.drop_take]; congr 1; omega
                 rw [e, if_pos c2, if_neg c3, hF]
                 dsimp only
                 rw [if_neg c4, e2]
                 exact g8
     · rw [if_neg c2]; exact .inl ⟨by decide, rfl, rfl⟩
   · rw [prs_no h]
     refine .inl ⟨?_, rfl, rfl⟩
     dsimp only
     split <;> decide
end Go.Proofs

set_option linter.unusedSimpArgs false
set_option linter.unusedVariables false
set_option maxRecDepth 100000
namespace Go.Proofs
open Go Go.Pl Go.RowKit
theorem okL_small {l : List Fd} (h : ∀ f, f ∈ l → OkF f) : Small l := fun f hf => by
 have h1 := (h f hf).len
 have h2 := (h f hf).tok
 unfold tokB at h2
 simp at h2
 omega
set_option maxHeartbeats 4000000 in
theorem Tryz.headersReads_c {bx : Boxes} (hm : Mk bx) (b : List UInt8) : PureCall Tryz.prog 7 [.sl 1 (b.map byteV)] bx (.bool true) := by
 refine Tryz.ctrx7 fun hf => ?_
 have cA := Tryz.awake_c hm
 by_cases hb : 9000 < b.length
 · have hb' : (9000 : Int) < b.length := by omega
   simp [go_sem, Tryz.Cx7, hf, hb']
   refine callK_pure cA ?_
   simp [go_sem]
   exact ret_pure (by simp [go_sem]) ⟨by simp [go_sem], rfl⟩
 have hb' : ¬ (9000 : Int) < b.length := by omega
 simp [go_sem, Tryz.Cx7, hf, hb']
 have cR := Tryz.Parse_c hm b (by omega)
 have hinv : ∀ len2, _ := fun len2 => prs_inv (len := b.length) (len2 := len2) b.length 0 [] b (Nat.le_refl _) (fun f hf => by cases hf) (by simp)
 have hpe : parseF b = prs b.length 0 [] b := rfl
 rw [hpe] at cR
 generalize prs b.length 0 [] b = R at *
 obtain ⟨L, n, e⟩ := R
 unfold prsV at cR
 dsimp only at cR hinv
 refine callK_pure cR ?_
 by_cases he : e = 0
 · subst he
   rcases hinv n with ⟨h1, _⟩ | ⟨k, _, g2, g3, g4, g5, g6, g7, g8⟩
   · exact absurd rfl h1
   rw [Nat.zero_add] at g2 g5
   subst g2
   have hL := okL_small g6
   have cR2 := Tryz.Parse_c hm (b.take n) (by simp; omega)
   have hpe2 : parseF (b.take n) = (L, n, 0) := by
     unfold parseF
     rw [List.length_take, Nat.min_eq_left g4]
     exact g8
   rw [hpe2] at cR2
   unfold prsV at cR2
   dsimp only at cR2
   have cE := Tryz.Equal_c L L (by omega) bx
   have cP := Tryz.Print_c hm L hL
   have hck := chkL_of g7 g6
   have i1 : ¬ (n : Int) < 2 := by omega
   have i2 : ¬ (b.length : Int) < n := by omega
   have i3 : ¬ (8192 : Int) < n := by omega
   have i4 : ¬ (100 : Int) < L.length := by omega
   simp [go_sem, i1, i2, i3, i4, hf]
   refine ⟨g4, ?_⟩
   have et : List.take n (b.map byteV) = (b.take n).map byteV := List.map_take.symm
   rw [et]
   refine callK_pure cR2 ?_
   simp [go_sem]
   refine gK_pure cE (by simp) (by simp [go_sem]) ?_
   simp [go_sem]
   refine callK_pure cP ?_
   by_cases hs : 8192 < sumF L
   · rw [if_pos hs] at hck
     have hp : prtR L = .tup [.str [], .int .i64 3] := by unfold prtR; rw [hck]; rfl
     rw [hp]
     simp [go_sem]
     have hsm := fun j hj => sumF_le hL j hj
     refine pw_upto L.length (fun k => ⟨135, slk [(3, .sl 2 (L.map fdV)), (10, .int .i64 (sumF (L.take k))), (11, .int .i64 k)], bx⟩) (cov_look (by simp [go_sem, sumF])) (fun k hk N hN => ?_) (fun N => ?_)
     · have hw := wr_succ (k := k) (by omega)
       have ht := sumF_take hk
       have hle := hsm k (by omega)
       obtain ⟨hs1, hs2⟩ := hL L[k] (List.getElem_mem hk)
       have w1 : IntKind.i64.wrap ((sumF (L.take k) : Int) + (L[k].1.length : Int)) = (sumF (L.take k) : Int) + (L[k].1.length : Int) := wr64 (by omega)
       have w2 : IntKind.i64.wrap ((sumF (L.take k) : Int) + (L[k].1.length : Int) + (L[k].2.length : Int)) = (sumF (L.take k) : Int) + (L[k].1.length : Int) + (L[k].2.length : Int) := wr64 (by omega)
       have w3 : IntKind.i64.wrap ((sumF (L.take k) : Int) + (L[k].1.length : Int) + (L[k].2.length : Int) + 4) = (sumF (L.take (k + 1)) : Int) := by
         rw [wr64 (by omega), ht]; unfold sizF; omega
       simp [go_sem, Tryz.Lx7_0, hk, hf, hw, fdV, w1, w2, w3]
       exact hN _ (cov_look (by simp [go_sem, fdV]))
     · have hs' : (8192 : Int) < sumF L := by omega
       simp [go_sem, Tryz.Lx7_0, hf, hs']
       refine gK_pure cA (by simp) (by simp [go_sem]) ?_
       simp [go_sem]
       exact ret_pure (by simp [go_sem]) ⟨by simp [go_sem], rfl⟩
   · rw [if_neg hs] at hck
     have hp : prtR L = .tup [.str (prtB L), .int .i64 0] := by unfold prtR; rw [if_pos hck]
     have hlen := prt_len L
     have cR3 := Tryz.Parse_c hm (prtB L) (by omega)
     have hpe3 : parseF (prtB L) = (L, sumF L, 0) := by
       have := prs_print (len := (prtB L).length) [] L [] 0 g6 (by simp; omega) (by omega)
       rw [List.append_nil] at this
       unfold parseF
       rw [this]
       simp
     rw [hpe3] at cR3
     unfold prsV at cR3
     dsimp only at cR3
     rw [hp]
     simp [go_sem]
     refine ⟨by omega, callK_pure cR3 ?_⟩
     simp [go_sem, hlen]
     refine gK_pure cE (by simp) (by simp [go_sem]) ?_
     simp [go_sem]
     refine gK_pure cA (by simp) (by simp [go_sem]) ?_
     simp [go_sem]
     exact ret_pure (by simp [go_sem]) ⟨by simp [go_sem], rfl⟩
 · rcases hinv 0 with ⟨_, h2, h3⟩ | ⟨k, h1, _⟩
   · subst h2 h3
     simp [go_sem, he]
     refine gK_pure cA (by simp) (by simp [go_sem]) ?_
     simp [go_sem]
     exact ret_pure (by simp [go_sem]) ⟨by simp [go_sem], rfl⟩
   · exact absurd h1 he
end Go.Proofs
