/- Texts of the proof, put together: DW, FO, DBe. -/
import Derived.Test.YtfibpdlpnbnooaaDoorGk
import Derived.Test.YtfibpdlpnbnooaaDoorGl
import Derived.Test.YtfibpdlpnbnooaaDoorGi

set_option linter.unusedVariables false
set_option linter.unusedSimpArgs false
set_option maxRecDepth 100000
namespace Go.Proofs
open Go Go.Pl
def e1L : List UInt8 := [51, 13, 10, 104, 101, 108, 13, 10, 50, 13, 10, 108, 111, 13, 10, 48, 13, 10, 13, 10]
def e3L : List UInt8 := [50, 59, 120, 61, 49, 13, 10, 97, 98, 13, 10, 48, 48, 13, 10, 65, 58, 32, 49, 13, 10, 13, 10]
def e4L : List UInt8 := [50, 10]
def e5L : List UInt8 := [103]
def e6L : List UInt8 := [49, 50, 51, 52, 53, 54, 55, 56, 57]
def e7L : List UInt8 := [49, 13, 10, 97, 98]
def heL : List UInt8 := [104, 101, 108, 108, 111]
def abL : List UInt8 := [97, 98]
theorem ex1 : encF heL [3, 2] [] = (e1L, 0) := by decide +kernel
theorem dx1 : decF e1L = (heL, [], 20, 0) := by decide +kernel
theorem dx2 : decF (e1L.take 19) = ([], [], 0, 10) := by decide +kernel
theorem dx3 : decF e3L = (abL, [([65], [49])], 23, 0) := by decide +kernel
theorem dx4 : decF e4L = ([], [], 0, 6) := by decide +kernel
theorem dx5 : decF e5L = ([], [], 0, 6) := by decide +kernel
theorem dx6 : decF e6L = ([], [], 0, 3) := by decide +kernel
theorem dx7 : decF e7L = ([], [], 0, 6) := by decide +kernel
theorem cx1 : cutF 7 3 = ([3, 3, 1], 0) := by decide +kernel
set_option maxHeartbeats 4000000 in
theorem Tryd.shown_c {bx : Boxes} (hm : Mk bx) : PureCall Tryd.prog 5 [] bx (.bool true) := by
 refine Tryd.ctrx5 fun hf => ?_
 have tb : toByte ∘ byteV = id := funext toByte_byteV
 have m1 : heL.map byteV = [V.int IntKind.u8 104, V.int IntKind.u8 101, V.int IntKind.u8 108, V.int IntKind.u8 108, V.int IntKind.u8 111] := rfl
 have cE : PureCall Tryd.prog 9 [.sl 1 [V.int IntKind.u8 104, V.int IntKind.u8 101, V.int IntKind.u8 108, V.int IntKind.u8 108, V.int IntKind.u8 111], .sl 1 [V.int IntKind.i64 3, V.int IntKind.i64 2], .nils] bx (encV (e1L, 0)) := by
   have h := Tryd.Encode_c hm heL [3, 2] [] (.inl (by decide)) (by decide) (fun f hf => by cases hf) (by decide)
   rw [ex1] at h
   refine AbsCall.args (args' := [.sl 1 (heL.map byteV), .sl 1 ([3, 2].map iV), .sl 2 (([] : List Fd).map fdV)]) h rfl fun i c c' hc hc' => ?_
   match i with
   | 0 => simp at hc hc'; subst hc hc'; exact Wk.refl _
   | 1 => simp at hc hc'; subst hc hc'; exact Wk.refl _
   | 2 => simp at hc hc'; subst hc hc'; exact wk_nils 2
   | i + 3 => simp at hc
 unfold encV at cE
 dsimp only at cE
 have c1 := Tryd.Decode_c hm e1L (by decide)
 have c2 := Tryd.Decode_c hm (e1L.take 19) (by decide)
 have c3 := Tryd.Decode_c hm e3L (by decide)
 have c4 := Tryd.Decode_c hm e4L (by decide)
 have c5 := Tryd.Decode_c hm e5L (by decide)
 have c6 := Tryd.Decode_c hm e6L (by decide)
 have c7 := Tryd.Decode_c hm e7L (by decide)
 have c8 := Tryd.Cut_c 7 3 (by decide) (by decide) bx
 rw [dx1] at c1
 rw [dx2] at c2
 rw [dx3] at c3
 rw [dx4] at c4
 rw [dx5] at c5
 rw [dx6] at c6
 rw [dx7] at c7
 rw [cx1] at c8
 unfold decV at c1 c2 c3 c4 c5 c6 c7
 unfold cutV at c8
 dsimp only at c1 c2 c3 c4 c5 c6 c7 c8
 simp [go_sem, Tryd.Cx5, hf]
 intro b hb
 rw [upd_self hb]
 refine callK_pure cE ?_
 have hu : ∀ l : List UInt8, ∀ x, x ∈ l → isU8 (byteV x) = true := fun _ _ _ => rfl
 have e1s : e1L = [51, 13, 10, 104, 101, 108, 13, 10, 50, 13, 10, 108, 111, 13, 10, 48, 13, 10, 13, 10] := rfl
 have l1 : e1L.length = 20 := rfl
 have hes : heL = [104, 101, 108, 108, 111] := rfl
 have abs_ : abL = [97, 98] := rfl
 have htk : List.take 19 (e1L.map byteV) = (e1L.take 19).map byteV := by rw [List.map_take]
 have m3 : e3L.map byteV = [V.int IntKind.u8 50, V.int IntKind.u8 59, V.int IntKind.u8 120, V.int IntKind.u8 61, V.int IntKind.u8 49, V.int IntKind.u8 13, V.int IntKind.u8 10, V.int IntKind.u8 97, V.int IntKind.u8 98, V.int IntKind.u8 13, V.int IntKind.u8 10, V.int IntKind.u8 48, V.int IntKind.u8 48, V.int IntKind.u8 13, V.int IntKind.u8 10, V.int IntKind.u8 65, V.int IntKind.u8 58, V.int IntKind.u8 32, V.int IntKind.u8 49, V.int IntKind.u8 13, V.int IntKind.u8 10, V.int IntKind.u8 13, V.int IntKind.u8 10] := rfl
 rw [m3] at c3
 have m4 : e4L.map byteV = [V.int IntKind.u8 50, V.int IntKind.u8 10] := rfl
 rw [m4] at c4
 have m5 : e5L.map byteV = [V.int IntKind.u8 103] := rfl
 rw [m5] at c5
 have m6 : e6L.map byteV = [V.int IntKind.u8 49, V.int IntKind.u8 50, V.int IntKind.u8 51, V.int IntKind.u8 52, V.int IntKind.u8 53, V.int IntKind.u8 54, V.int IntKind.u8 55, V.int IntKind.u8 56, V.int IntKind.u8 57] := rfl
 rw [m6] at c6
 have m7 : e7L.map byteV = [V.int IntKind.u8 49, V.int IntKind.u8 13, V.int IntKind.u8 10, V.int IntKind.u8 97, V.int IntKind.u8 98] := rfl
 rw [m7] at c7
 simp [go_sem, hf, tb, u8V, ← e1s]
 refine callK_pure c1 ?_
 simp [go_sem, hf, tb, u8V, l1]
 rw [htk]
 refine callK_pure c2 ?_
 simp [go_sem, hf, tb, u8V, ← hes]
 intro b3 hb3
 rw [upd_self hb3]
 refine callK_pure c3 ?_
 simp [go_sem, hf, tb, u8V, ← abs_, fdV]
 intro b4 hb4
 rw [upd_self hb4]
 refine callK_pure c4 ?_
 simp [go_sem, hf]
 intro b5 hb5
 rw [upd_self hb5]
 refine callK_pure c5 ?_
 simp [go_sem, hf]
 intro b6 hb6
 rw [upd_self hb6]
 refine callK_pure c6 ?_
 simp [go_sem, hf]
 intro b7 hb7
 rw [upd_self hb7]
 refine callK_pure c7 ?_
 simp [go_sem, hf]
 refine callK_pure c8 ?_
 simp [go_sem, hf, intsV]
 exact ret_pure (by simp [go_sem]) ⟨by simp [go_sem], rfl⟩
end Go.Proofs

set_option linter.unusedSimpArgs false
set_option linter.unusedVariables false
set_option maxRecDepth 100000
namespace Go.Proofs
open Go Go.Pl Go.RowKit
theorem Tryd.Equal_c (l m : List Fd) (hl : l.length ≤ 1000000) (bx : Boxes) : PureCall Tryd.prog 8 [.sl 2 (l.map fdV), .sl 2 (m.map fdV)] bx (.bool (decide (l = m))) := by
 refine Tryd.ctr8 fun hf => ?_
 by_cases he : l.length = m.length
 · have he' : (l.length : Int) = m.length := by omega
   simp [go_sem, Tryd.C8, hf, he']
   refine pw_find l.length (fun i => decide (l.getD i ([], []) ≠ m.getD i ([], []))) (fun k => ⟨26, slk [(0, .sl 2 (l.map fdV)), (1, .sl 2 (m.map fdV)), (5, .int .i64 k)], bx⟩) (cov_look (by simp [go_sem])) (fun k hk hJ N hN => ?_) (fun hJ N => ?_)
   · have hw := wr_succ (k := k) (by omega)
     have hkm : k < m.length := by omega
     have g1 : l.getD k ([], []) = l[k] := by simp [hk]
     have g2 : m.getD k ([], []) = m[k] := by simp [hkm]
     rw [g1, g2] at hN
     have hee : (l[k] = m[k]) ↔ (l[k].1 = m[k].1 ∧ l[k].2 = m[k].2) := Prod.ext_iff
     simp [go_sem, Tryd.L8_0, hf, hk, hkm, fdV]
     refine ⟨fun c => ret_pure (by simp [go_sem]) ?_, fun c1 c2 => hN _ (by simpa using hee.2 ⟨c1, c2⟩) (cov_look (by simp [go_sem, hw, fdV]))⟩
     have hne : l ≠ m := fun e => by subst e; simp at c
     simp [go_sem, hne]
   · have hlm : l = m := by
       apply List.ext_getElem he
       intro i h1 h2
       have := hJ i h1
       simp [h1, h2] at this
       exact this
     subst hlm
     simp [go_sem, Tryd.L8_0, hf]
     exact ret_pure (by simp [go_sem]) ⟨by simp [go_sem], rfl⟩
 · have he' : ¬ (l.length : Int) = m.length := by omega
   have hne : l ≠ m := fun e => he (by rw [e])
   simp [go_sem, Tryd.C8, hf, he']
   exact ret_pure (by simp [go_sem]) ⟨by simp [go_sem, hne], rfl⟩
end Go.Proofs

set_option linter.unusedVariables false
set_option linter.unusedSimpArgs false
set_option maxRecDepth 100000
namespace Go.Proofs
open Go Go.Pl
theorem Tryd.chunksKnown_c {bx : Boxes} (hm : Mk bx) : PureCall Tryd.prog 4 [] bx (.bool true) := by
 refine Tryd.ctrx4 fun hf => ?_
 have cS := Tryd.shown_c hm
 simp [go_sem, Tryd.Cx4, hf]
 refine callK_pure cS ?_
 simp [go_sem]
 exact ret_pure (by simp [go_sem]) ⟨by simp [go_sem], rfl⟩
theorem step_tr {s : CS} {c : UInt8} (h0 : (stepC s c).2 = 0) (h : s.tr.length ≤ 100) : (stepC s c).1.tr.length ≤ 100 := by
 have hp := parse_ok (l := s.line ++ [c])
 unfold stepC at h0 ⊢
 split at h0 <;> rename_i k0
 · rw [if_pos k0]
   split
   · split
     · exact h
     · split <;> exact h
   · exact h
 · rw [if_neg k0]
   split
   · exact h
   · split
     · split
       · exact h
       · split <;> exact h
     · rename_i k1 k2
       rw [if_neg k1, if_neg k2] at h0
       split
       · exact h
       · rename_i k3
         rw [if_neg k3] at h0
         split
         · rename_i k4
           rw [if_pos k4] at h0
           exact absurd h0 k4
         · rename_i k4
           have := (hp (Decidable.not_not.1 k4)).2
           split
           · exact this
           · split <;> exact this
theorem run_tr : ∀ (b : List UInt8) (s : CS) (n : Nat), s.tr.length ≤ 100 → (runC s n b).1.tr.length ≤ 100
 | [], s, n, h => h
 | c :: b, s, n, h => by
   rw [runC]
   split
   · exact h
   · split
     · exact h
     · rename_i k1
       exact run_tr b _ _ (step_tr (Decidable.not_not.1 k1) h)
theorem dec_tr (b : List UInt8) : (decF b).2.1.length ≤ 100 := by
 unfold decF
 split
 · simp
 · split
   · simp
   · exact run_tr b st0 0 (by decide)
set_option maxHeartbeats 4000000 in
theorem Tryd.chunksBeginnings_c {bx : Boxes} (hm : Mk bx) (b u : List UInt8) : PureCall Tryd.prog 3 [.sl 1 (b.map byteV), .sl 1 (u.map byteV)] bx (.bool true) := by
 refine Tryd.ctrx3 fun hf => ?_
 have cS := Tryd.shown_c hm
 by_cases h1 : 150 < b.length
 · have k1 : (150 : Int) < b.length := by omega
   simp [go_sem, Tryd.Cx3, hf, k1]
   refine callK_pure cS ?_
   simp [go_sem]
   exact ret_pure (by simp [go_sem]) ⟨by simp [go_sem], rfl⟩
 have k1 : ¬ (150 : Int) < b.length := by omega
 by_cases h2 : 50 < u.length
 · have k2 : (50 : Int) < u.length := by omega
   simp [go_sem, Tryd.Cx3, hf, k1, k2]
   refine callK_pure cS ?_
   simp [go_sem]
   exact ret_pure (by simp [go_sem]) ⟨by simp [go_sem], rfl⟩
 have k2 : ¬ (50 : Int) < u.length := by omega
 have c1 := Tryd.Decode_c hm b (by omega)
 have htr := dec_tr b
 have hlaw := dec_begin (b := b)
 have herr := dec_err (b := b)
 generalize decF b = D at *
 obtain ⟨d, l, n, e⟩ := D
 unfold decV at c1
 dsimp only at c1 htr hlaw herr
 simp [go_sem, Tryd.Cx3, hf, k1, k2]
 refine callK_pure c1 ?_
 by_cases he : e = 0
 · subst he
   obtain ⟨hn, hpre, hbeh⟩ := hlaw rfl
   have k3 : ¬ (n : Int) < 0 := by omega
   have k4 : ¬ (b.length : Int) < n := by omega
   simp [go_sem, hf, k3, k4]
   refine pw_upto n (fun k => ⟨108, slk [(0, .sl 1 (b.map byteV)), (1, .sl 1 (u.map byteV)), (5, .sl 1 (d.map byteV)), (6, .sl 2 (l.map fdV)), (7, .int .i64 n), (9, .int .i64 k)], bx⟩) (cov_look (by simp [go_sem])) (fun k hk N hN => ?_) (fun N => ?_)
   · have hw := wr_succ (k := k) (by omega)
     have ck := Tryd.Decode_c hm (b.take k) (by rw [List.length_take]; omega)
     rw [hpre k hk] at ck
     unfold decV at ck
     dsimp only at ck
     rw [List.map_take] at ck
     have k5 : k ≤ b.length := by omega
     simp [go_sem, Tryd.Lx3_0, hf, hk, k5]
     refine callK_pure ck ?_
     simp [go_sem, hf, hw]
     exact hN _ (cov_look (by simp [go_sem]))
   · simp [go_sem, Tryd.Lx3_0, hf]
     intro b1 hb1
     refine ⟨hn, ?_⟩
     rw [← List.map_take]
     have hrl : (b.take n).length ≤ 150 := by rw [List.length_take]; omega
     have hl2 := hbeh u
     generalize hr : b.take n = r at *
     have ha0 := acc_new hb1 hf 5 1 [] 0 rfl
     refine acc_append (es := []) (news := r.map byteV) (e := 5) (sz := 1) (.int .u8 0) ha0 (Ext.refl _) ha0.fin Tryd.knd22 Tryd.tsz5 (by simp [go_sem, srcEls]) Tryd.tzero5 (by simp [go_sem]) (by decide) (by simp [Tryd.tby5]; omega) (by simp; omega) (by simp [go_sem]) ?_
     intro v3 bx3 ha3
     rw [List.nil_append] at ha3
     simp [go_sem, ha3.fin, ha3.strip, ha3.live]
     refine acc_append (es := r.map byteV) (news := u.map byteV) (e := 5) (sz := 1) (.int .u8 0) ha3 (Ext.refl _) ha3.fin Tryd.knd22 Tryd.tsz5 (by simp [go_sem, srcEls]) Tryd.tzero5 (by simp [go_sem]) (by decide) (by simp [Tryd.tby5]; omega) (by simp; omega) (by simp [go_sem]) ?_
     intro v4 bx4 ha4
     have e5 : r.map byteV ++ u.map byteV = (r ++ u).map byteV := by simp
     rw [e5] at ha4
     have cD := Tryd.Decode_c hm (r ++ u) (by simp; omega)
     rw [hl2] at cD
     unfold decV at cD
     dsimp only at cD
     have cD2 := AbsCall.acc1 (rest := []) ha4 (by decide) cD
     simp [go_sem, ha4.fin, ha4.strip, ha4.live]
     refine callK_abs cD2 ?_
     rintro q bx5 ⟨rfl, rfl⟩
     have cB := Tryd.bytes_c d d bx5
     have cE := Tryd.Equal_c l l (by omega) bx5
     simp [go_sem, hf]
     refine gK_pure cB (by simp) (by simp [go_sem]) ?_
     simp [go_sem, hf]
     refine gK_pure cE (by simp) (by simp [go_sem]) ?_
     simp [go_sem, hf]
     refine gK_pure cS (by simp) (by simp [go_sem]) ?_
     simp [go_sem, hf]
     exact ret_pure (by simp [go_sem]) ⟨by simp [go_sem], rfl⟩
 · have hn := herr he
   simp only [Prod.mk.injEq] at hn
   obtain ⟨rfl, rfl, rfl, -⟩ := hn
   simp [go_sem, hf, he]
   refine gK_pure cS (by simp) (by simp [go_sem]) ?_
   simp [go_sem, hf]
   exact ret_pure (by simp [go_sem]) ⟨by simp [go_sem], rfl⟩
end Go.Proofs
