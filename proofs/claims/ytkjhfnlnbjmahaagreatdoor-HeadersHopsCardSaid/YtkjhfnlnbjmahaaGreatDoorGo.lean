/- Texts of the proof, put together: FS, FY. -/
import Derived.Test.YtkjhfnlnbjmahaaGreatDoorGm
import Derived.Test.YtkjhfnlnbjmahaaGreatDoorGn
import Derived.Test.YtkjhfnlnbjmahaaGreatDoorRows
import Derived.Test.YtkjhfnlnbjmahaaGreatDoorTie
import Derived.Test.YtkjhfnlnbjmahaaGreatDoorCards
import Derived.Test.YtkjhfnlnbjmahaaGreatDoorGe
import Derived.WalkKit
import Derived.ProofKit
import Derived.Lay
import Derived.LaidOnce
import Derived.SevenTiedAt

set_option linter.unusedSimpArgs false
set_option linter.unusedVariables false
set_option maxRecDepth 100000
namespace Go.Proofs
open Go Go.Pl Go.RowKit
def cut1 (f : Fd) : Nat := min f.1.length 12001 + min f.2.length 12001
def cutS1 (l : List Fd) : Nat := (l.map cut1).sum
def farB (l : List Fd) : Bool := decide (110 < l.length) || decide (12000 < cutS1 l)
theorem cutS1_take {l : List Fd} {k : Nat} (hk : k < l.length) : cutS1 (l.take (k + 1)) = cutS1 (l.take k) + cut1 l[k] := by
 unfold cutS1
 rw [List.take_succ_eq_append_getElem hk, List.map_append, List.sum_append]
 simp
theorem cutS1_le (l : List Fd) : ∀ k, k ≤ l.length → cutS1 (l.take k) ≤ k * 24002
 | 0, _ => by simp [cutS1]
 | k + 1, hk => by
   have := cutS1_le l k (by omega)
   rw [cutS1_take (by omega)]
   unfold cut1
   omega
theorem sum_mem {a : Nat} : ∀ {l : List Nat}, a ∈ l → a ≤ l.sum
 | [], h => by cases h
 | b :: l, h => by
   rw [List.sum_cons]
   rcases List.mem_cons.1 h with rfl | h
   · omega
   · have := sum_mem h; omega
theorem cutS1_mem {l : List Fd} {f : Fd} (h : f ∈ l) : cut1 f ≤ cutS1 l := by
 unfold cutS1
 exact sum_mem (List.mem_map.2 ⟨f, h, rfl⟩)
theorem far_small {l : List Fd} (h : farB l = false) : l.length ≤ 110 ∧ Small l ∧ (∀ f, f ∈ l → f.1.length + f.2.length ≤ 12000) ∧ (l.map fun f => f.1.length + f.2.length).sum ≤ 12000 := by
 unfold farB at h
 simp at h
 obtain ⟨h1, h2⟩ := h
 have h3 : ∀ f, f ∈ l → f.1.length + f.2.length ≤ 12000 := fun f hf => by
   have := cutS1_mem hf
   unfold cut1 at this
   omega
 refine ⟨h1, fun f hf => ?_, h3, ?_⟩
 · have := h3 f hf; omega
 · have : (l.map fun f => f.1.length + f.2.length) = l.map cut1 := List.map_congr_left fun f hf => by
     have := h3 f hf
     unfold cut1
     omega
   rw [this]
   exact h2
theorem Tryz.far_c (l : List Fd) (bx : Boxes) : PureCall Tryz.prog 11 [.sl 2 (l.map fdV)] bx (.bool (farB l)) := by
 refine Tryz.ctrx11 fun hf => ?_
 unfold farB
 by_cases h1 : 110 < l.length
 · have h1' : (110 : Int) < l.length := by omega
   simp [go_sem, Tryz.Cx11, hf, h1']
   exact ret_pure (by simp [go_sem]) ⟨by simp [go_sem, h1], rfl⟩
 · have h1' : ¬ (110 : Int) < l.length := by omega
   simp [go_sem, Tryz.Cx11, hf, h1']
   refine pw_upto l.length (fun k => ⟨33, slk [(0, .sl 2 (l.map fdV)), (3, .int .i64 (cutS1 (l.take k))), (4, .int .i64 k)], bx⟩) (cov_look (by simp [go_sem, cutS1])) (fun k hk N hN => ?_) (fun N => ?_)
   · have hw := wr_succ (k := k) (by omega)
     have ht := cutS1_take hk
     have hle := cutS1_le l k (by omega)
     have w1 : IntKind.i64.wrap ((cutS1 (l.take k) : Int) + if (12001 : Int) < (l[k].1.length : Int) then 12001 else (l[k].1.length : Int)) = (cutS1 (l.take k) : Int) + if (12001 : Int) < (l[k].1.length : Int) then 12001 else (l[k].1.length : Int) := wr64 (by split <;> omega)
     have w2 : IntKind.i64.wrap (((cutS1 (l.take k) : Int) + if (12001 : Int) < (l[k].1.length : Int) then 12001 else (l[k].1.length : Int)) + if (12001 : Int) < (l[k].2.length : Int) then 12001 else (l[k].2.length : Int)) = (cutS1 (l.take (k + 1)) : Int) := by
       rw [wr64 (by split <;> split <;> omega), ht]; unfold cut1; split <;> split <;> omega
     simp [go_sem, Tryz.Lx11_0, hk, hf, hw, fdV]
     exact hN _ (cov_look (by simp [go_sem, fdV, w1, w2]))
   · simp [go_sem, Tryz.Lx11_0, hf]
     refine ret_pure (by simp [go_sem]) ⟨?_, rfl⟩
     simp [go_sem, h1]
     omega
def exL : List Fd := [([72, 111, 115, 116], [97]), ([67, 111, 110, 110, 101, 99, 116, 105, 111, 110], [99, 108, 111, 115, 101, 44, 32, 88, 45, 72, 111, 112]), ([120, 45, 104, 111, 112], [49]), ([65, 99, 99, 101, 112, 116], [98]), ([97, 99, 99, 101, 112, 116], [99])]
theorem Tryz.Example_c (bx : Boxes) : PureCall Tryz.prog 40 [] bx (.sl 2 (exL.map fdV)) := by
 refine Tryz.ctrx40 fun hf => ?_
 simp [go_sem, Tryz.Cx40, hf]
 intro b hb
 refine ret_own (b := b) (sz := 2) (n := 5) (ty := 38) (es := exL.map fdV) (by simp [go_sem]) ((Ext.refl _).new hb _) (by simp [go_sem]) (by show upd _ _ _ _ = _; rw [upd_eq]; rfl) hb (by decide) rfl ⟨rfl, rfl⟩
theorem exSmall : Small exL := by unfold Small exL; simp
theorem Tryz.awake_c {bx : Boxes} (hm : Mk bx) : PureCall Tryz.prog 12 [] bx (.bool true) := by
 refine Tryz.ctrx12 fun hf => ?_
 simp [go_sem, Tryz.Cx12, hf]
 refine callK_pure (Tryz.Example_c bx) ?_
 simp [go_sem, hf]
 have cG := Tryz.Get_c hm exL exSmall [65, 67, 67, 69, 80, 84] (by decide)
 have eG : getR exL [65, 67, 67, 69, 80, 84] = .tup [.sl 1 [.str [98], .str [99]], .int .i64 0] := by
   unfold getR
   rw [show askE exL [65, 67, 67, 69, 80, 84] = 0 by decide +kernel, show getL exL [65, 67, 67, 69, 80, 84] = [[98], [99]] by decide +kernel]
   rfl
 rw [eG] at cG
 have cS := Tryz.Strip_c hm exL exSmall
 have eS : stripF exL = ([([72, 111, 115, 116], [97]), ([65, 99, 99, 101, 112, 116], [98]), ([97, 99, 99, 101, 112, 116], [99])], 0) := by decide +kernel
 rw [eS] at cS
 have cH := Tryz.Hop_c hm exL exSmall
 have eH : hopF exL = ([connB, [120, 45, 104, 111, 112]], 0) := by
   unfold hopF
   rw [if_pos (by decide +kernel), show namesF exL = some (fixedL ++ [[99, 108, 111, 115, 101], [120, 45, 104, 111, 112]]) by decide +kernel]
   show (sortB (metL exL (fixedL ++ [[99, 108, 111, 115, 101], [120, 45, 104, 111, 112]])), (0 : Int)) = _
   rw [show metL exL (fixedL ++ [[99, 108, 111, 115, 101], [120, 45, 104, 111, 112]]) = [connB, [120, 45, 104, 111, 112]] by decide +kernel, ← sort_uniq (List.Perm.refl _) (by decide)]
 have cC := Tryz.Canon_c hm [120, 45, 72, 79, 80] (by decide)
 have eC : canV [120, 45, 72, 79, 80] = .tup [.str [88, 45, 72, 111, 112], .int .i64 0] := by
   unfold canV
   rw [if_pos (by decide +kernel), show capsB true (Lib.toLowerA [120, 45, 72, 79, 80]) = [88, 45, 72, 111, 112] by decide +kernel]
 rw [eC] at cC
 have cP := Tryz.Parse_c hm [65, 58, 32, 98, 13, 10, 13, 10, 120] (by decide)
 have eP : parseF [65, 58, 32, 98, 13, 10, 13, 10, 120] = ([([65], [98])], 8, 0) := by
   unfold parseF
   rw [prs, dif_pos (by decide), if_neg (by decide), if_pos (by decide +kernel), if_neg (by decide), show lineF (cutC [65, 58, 32, 98, 13, 10, 13, 10, 120] 10).1.dropLast = some ([65], [98]) by decide +kernel]
   dsimp only
   rw [if_neg (by decide), prs, dif_pos (by decide), if_neg (by decide), if_pos (by decide +kernel), if_pos (by decide)]
   rfl
 rw [eP] at cP
 have cW := Tryz.Print_c hm [([65], [98])] (by unfold Small; simp)
 have eW : prtR [([65], [98])] = .tup [.str [65, 58, 32, 98, 13, 10, 13, 10], .int .i64 0] := by
   unfold prtR
   rw [if_pos (by decide +kernel), show prtB [([65], [98])] = [65, 58, 32, 98, 13, 10, 13, 10] by decide +kernel]
 rw [eW] at cW
 rw [eH] at cH
 refine callK_pure cG ?_
 simp [go_sem, hf]
 refine callK_pure (Tryz.Example_c bx) ?_
 simp [go_sem, hf]
 refine callK_pure cS ?_
 simp [go_sem, hf, resL]
 refine callK_pure (Tryz.Example_c bx) ?_
 simp [go_sem, hf]
 refine callK_pure cH ?_
 simp [go_sem, hf, resS]
 refine callK_pure cC ?_
 simp [go_sem, hf]
 intro b hb
 simp [upd_none hb, hf]
 refine callK_pure (show PureCall Tryz.prog 27 _ bx _ from cP) ?_
 simp [go_sem, hf, prsV]
 refine callK_pure (show PureCall Tryz.prog 25 _ bx _ from cW) ?_
 simp [go_sem, hf]
 have s1 := Tryz.Strings_c [[98], [99]] [[98], [99]] (by decide) bx
 have s2 := Tryz.Equal_c [([72, 111, 115, 116], [97]), ([65, 99, 99, 101, 112, 116], [98]), ([97, 99, 99, 101, 112, 116], [99])] [([72, 111, 115, 116], [97]), ([65, 99, 99, 101, 112, 116], [98]), ([97, 99, 99, 101, 112, 116], [99])] (by decide) bx
 have s3 := Tryz.Strings_c [connB, [120, 45, 104, 111, 112]] [connB, [120, 45, 104, 111, 112]] (by decide) bx
 have s4 := Tryz.Equal_c [([65], [98])] [([65], [98])] (by decide) bx
 refine callK_pure s1 ?_
 simp [go_sem, hf]
 refine gK_pure (show PureCall Tryz.prog 20 _ bx _ from s2) (by simp) (by simp [go_sem]) ?_
 simp [go_sem, hf]
 refine gK_pure (show PureCall Tryz.prog 19 _ bx _ from s3) (by simp) (by simp [go_sem]) ?_
 simp [go_sem, hf]
 refine gK_pure (show PureCall Tryz.prog 20 _ bx _ from s4) (by simp) (by simp [go_sem]) ?_
 simp [go_sem, hf]
 exact ret_pure (by simp [go_sem]) ⟨by simp [go_sem], rfl⟩
end Go.Proofs

set_option linter.unusedVariables false
set_option linter.unusedSimpArgs false
set_option maxRecDepth 100000
namespace Go.Proofs.YtkjhfnlnbjmahaaGreatDoor
open Go Go.Pl Go.Proofs
open Go.ChangeShapes Go.WideShapes Go.ChangeAt Go.RowKit
theorem own : ownKnob Tryz.prog.godebug = none := by kernel_rfl
theorem hasStr {n : Nat} {xs : List V} (h : HasL Tryz.prog n 9 xs) : ∃ s : List UInt8, xs = [.str s] ∧ s.length ≤ maxLen := h.str Tryz.knd9
theorem hasFd {n : Nat} {xs : List V} (h : HasL Tryz.prog (n + 1) 38 xs) : ∃ f : Fd, .agg xs = fdV f := by
 obtain ⟨x, y, rfl⟩ := len2 (h.len.trans Tryz.tsz38)
 have h0 := h.fld Tryz.knd38 Tryz.fld38_0
 rw [Tryz.tsz9] at h0
 have h1 := h.fld Tryz.knd38 Tryz.fld38_1
 rw [Tryz.tsz9] at h1
 obtain ⟨a, ha, _⟩ := hasStr h0
 obtain ⟨b, hb, _⟩ := hasStr h1
 simp at ha hb
 subst ha hb
 exact ⟨(a, b), rfl⟩
theorem hasFds {n : Nat} {xs : List V} (h : HasL Tryz.prog (n + 2) 22 xs) : ∃ l : List Fd, xs = [.sl 2 (l.map fdV)] := by
 obtain ⟨l, h, hl⟩ := HasL.slice (r := fdV) Tryz.knd22 h fun ys hy => by
   obtain ⟨f, hf⟩ := hasFd hy
   exact ⟨f, by rw [elV_agg Tryz.tagg38]; exact hf⟩
 rw [Tryz.tsz38] at h
 exact ⟨l, h⟩
end Go.Proofs.YtkjhfnlnbjmahaaGreatDoor
