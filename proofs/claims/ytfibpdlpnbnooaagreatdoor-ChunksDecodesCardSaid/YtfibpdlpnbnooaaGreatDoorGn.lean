/- Texts of the proof, put together: DW, FO, DX, DY, DZ. -/
import Derived.Test.YtfibpdlpnbnooaaGreatDoorGk
import Derived.Test.YtfibpdlpnbnooaaGreatDoorGl
import Derived.Test.YtfibpdlpnbnooaaGreatDoorGm
import Derived.Test.YtfibpdlpnbnooaaGreatDoorGi

set_option linter.unusedVariables false
set_option linter.unusedSimpArgs false
set_option maxRecDepth 100000
namespace Go.Proofs
open Go Go.Pl
def e1L : List UInt8 := [51, 13, 10, 104, 101, 108, 13, 10, 50, 13, 10, 108, 111, 13, 10, 48, 13, 10, 13, 10]
def e3L : List UInt8 := [50, 59, 120, 61, 49, 13, 10, 97, 98, 13, 10, 48, 48, 13, 10, 65, 58, 32, 49, 13, 10, 13, 10]
def e4L : List UInt8 := [50, 10]
def e5L : List UInt8 := [103]
def e6L : List UInt8 := [49, 50, 51, 52, 53, 54, 55, 56, 57]
def e7L : List UInt8 := [49, 13, 10, 97, 98]
def heL : List UInt8 := [104, 101, 108, 108, 111]
def abL : List UInt8 := [97, 98]
theorem ex1 : encF heL [3, 2] [] = (e1L, 0) := by decide +kernel
theorem dx1 : decF e1L = (heL, [], 20, 0) := by decide +kernel
theorem dx2 : decF (e1L.take 19) = ([], [], 0, 10) := by decide +kernel
theorem dx3 : decF e3L = (abL, [([65], [49])], 23, 0) := by decide +kernel
theorem dx4 : decF e4L = ([], [], 0, 6) := by decide +kernel
theorem dx5 : decF e5L = ([], [], 0, 6) := by decide +kernel
theorem dx6 : decF e6L = ([], [], 0, 3) := by decide +kernel
theorem dx7 : decF e7L = ([], [], 0, 6) := by decide +kernel
theorem cx1 : cutF 7 3 = ([3, 3, 1], 0) := by decide +kernel
set_option maxHeartbeats 4000000 in
theorem Tryz.shown_c {bx : Boxes} (hm : Mk bx) : PureCall Tryz.prog 6 [] bx (.bool true) := by
 refine Tryz.ctrx6 fun hf => ?_
 have tb : toByte ∘ byteV = id := funext toByte_byteV
 have m1 : heL.map byteV = [V.int IntKind.u8 104, V.int IntKind.u8 101, V.int IntKind.u8 108, V.int IntKind.u8 108, V.int IntKind.u8 111] := rfl
 have cE : PureCall Tryz.prog 12 [.sl 1 [V.int IntKind.u8 104, V.int IntKind.u8 101, V.int IntKind.u8 108, V.int IntKind.u8 108, V.int IntKind.u8 111], .sl 1 [V.int IntKind.i64 3, V.int IntKind.i64 2], .nils] bx (encV (e1L, 0)) := by
   have h := Tryz.Encode_c hm heL [3, 2] [] (.inl (by decide)) (by decide) (fun f hf => by cases hf) (by decide)
   rw [ex1] at h
   refine AbsCall.args (args' := [.sl 1 (heL.map byteV), .sl 1 ([3, 2].map iV), .sl 2 (([] : List Fd).map fdV)]) h rfl fun i c c' hc hc' => ?_
   match i with
   | 0 => simp at hc hc'; subst hc hc'; exact Wk.refl _
   | 1 => simp at hc hc'; subst hc hc'; exact Wk.refl _
   | 2 => simp at hc hc'; subst hc hc'; exact wk_nils 2
   | i + 3 => simp at hc
 unfold encV at cE
 dsimp only at cE
 have c1 := Tryz.Decode_c hm e1L (by decide)
 have c2 := Tryz.Decode_c hm (e1L.take 19) (by decide)
 have c3 := Tryz.Decode_c hm e3L (by decide)
 have c4 := Tryz.Decode_c hm e4L (by decide)
 have c5 := Tryz.Decode_c hm e5L (by decide)
 have c6 := Tryz.Decode_c hm e6L (by decide)
 have c7 := Tryz.Decode_c hm e7L (by decide)
 have c8 := Tryz.Cut_c 7 3 (by decide) (by decide) bx
 rw [dx1] at c1
 rw [dx2] at c2
 rw [dx3] at c3
 rw [dx4] at c4
 rw [dx5] at c5
 rw [dx6] at c6
 rw [dx7] at c7
 rw [cx1] at c8
 unfold decV at c1 c2 c3 c4 c5 c6 c7
 unfold cutV at c8
 dsimp only at c1 c2 c3 c4 c5 c6 c7 c8
 simp [go_sem, Tryz.Cx6, hf]
 intro b hb
 rw [upd_self hb]
 refine callK_pure cE ?_
 have hu : ∀ l : List UInt8, ∀ x, x ∈ l → isU8 (byteV x) = true := fun _ _ _ => rfl
 have e1s : e1L = [51, 13, 10, 104, 101, 108, 13, 10, 50, 13, 10, 108, 111, 13, 10, 48, 13, 10, 13, 10] := rfl
 have l1 : e1L.length = 20 := rfl
 have hes : heL = [104, 101, 108, 108, 111] := rfl
 have abs_ : abL = [97, 98] := rfl
 have htk : List.take 19 (e1L.map byteV) = (e1L.take 19).map byteV := by rw [List.map_take]
 have m3 : e3L.map byteV = [V.int IntKind.u8 50, V.int IntKind.u8 59, V.int IntKind.u8 120, V.int IntKind.u8 61, V.int IntKind.u8 49, V.int IntKind.u8 13, V.int IntKind.u8 10, V.int IntKind.u8 97, V.int IntKind.u8 98, V.int IntKind.u8 13, V.int IntKind.u8 10, V.int IntKind.u8 48, V.int IntKind.u8 48, V.int IntKind.u8 13, V.int IntKind.u8 10, V.int IntKind.u8 65, V.int IntKind.u8 58, V.int IntKind.u8 32, V.int IntKind.u8 49, V.int IntKind.u8 13, V.int IntKind.u8 10, V.int IntKind.u8 13, V.int IntKind.u8 10] := rfl
 rw [m3] at c3
 have m4 : e4L.map byteV = [V.int IntKind.u8 50, V.int IntKind.u8 10] := rfl
 rw [m4] at c4
 have m5 : e5L.map byteV = [V.int IntKind.u8 103] := rfl
 rw [m5] at c5
 have m6 : e6L.map byteV = [V.int IntKind.u8 49, V.int IntKind.u8 50, V.int IntKind.u8 51, V.int IntKind.u8 52, V.int IntKind.u8 53, V.int IntKind.u8 54, V.int IntKind.u8 55, V.int IntKind.u8 56, V.int IntKind.u8 57] := rfl
 rw [m6] at c6
 have m7 : e7L.map byteV = [V.int IntKind.u8 49, V.int IntKind.u8 13, V.int IntKind.u8 10, V.int IntKind.u8 97, V.int IntKind.u8 98] := rfl
 rw [m7] at c7
 simp [go_sem, hf, tb, u8V, ← e1s]
 refine callK_pure c1 ?_
 simp [go_sem, hf, tb, u8V, l1]
 rw [htk]
 refine callK_pure c2 ?_
 simp [go_sem, hf, tb, u8V, ← hes]
 intro b3 hb3
 rw [upd_self hb3]
 refine callK_pure c3 ?_
 simp [go_sem, hf, tb, u8V, ← abs_, fdV]
 intro b4 hb4
 rw [upd_self hb4]
 refine callK_pure c4 ?_
 simp [go_sem, hf]
 intro b5 hb5
 rw [upd_self hb5]
 refine callK_pure c5 ?_
 simp [go_sem, hf]
 intro b6 hb6
 rw [upd_self hb6]
 refine callK_pure c6 ?_
 simp [go_sem, hf]
 intro b7 hb7
 rw [upd_self hb7]
 refine callK_pure c7 ?_
 simp [go_sem, hf]
 refine callK_pure c8 ?_
 simp [go_sem, hf, intsV]
 exact ret_pure (by simp [go_sem]) ⟨by simp [go_sem], rfl⟩
end Go.Proofs

set_option linter.unusedSimpArgs false
set_option linter.unusedVariables false
set_option maxRecDepth 100000
namespace Go.Proofs
open Go Go.Pl Go.RowKit
theorem Tryz.Equal_c (l m : List Fd) (hl : l.length ≤ 1000000) (bx : Boxes) : PureCall Tryz.prog 10 [.sl 2 (l.map fdV), .sl 2 (m.map fdV)] bx (.bool (decide (l = m))) := by
 refine Tryz.ctr10 fun hf => ?_
 by_cases he : l.length = m.length
 · have he' : (l.length : Int) = m.length := by omega
   simp [go_sem, Tryz.C10, hf, he']
   refine pw_find l.length (fun i => decide (l.getD i ([], []) ≠ m.getD i ([], []))) (fun k => ⟨26, slk [(0, .sl 2 (l.map fdV)), (1, .sl 2 (m.map fdV)), (5, .int .i64 k)], bx⟩) (cov_look (by simp [go_sem])) (fun k hk hJ N hN => ?_) (fun hJ N => ?_)
   · have hw := wr_succ (k := k) (by omega)
     have hkm : k < m.length := by omega
     have g1 : l.getD k ([], []) = l[k] := by simp [hk]
     have g2 : m.getD k ([], []) = m[k] := by simp [hkm]
     rw [g1, g2] at hN
     have hee : (l[k] = m[k]) ↔ (l[k].1 = m[k].1 ∧ l[k].2 = m[k].2) := Prod.ext_iff
     simp [go_sem, Tryz.L10_0, hf, hk, hkm, fdV]
     refine ⟨fun c => ret_pure (by simp [go_sem]) ?_, fun c1 c2 => hN _ (by simpa using hee.2 ⟨c1, c2⟩) (cov_look (by simp [go_sem, hw, fdV]))⟩
     have hne : l ≠ m := fun e => by subst e; simp at c
     simp [go_sem, hne]
   · have hlm : l = m := by
       apply List.ext_getElem he
       intro i h1 h2
       have := hJ i h1
       simp [h1, h2] at this
       exact this
     subst hlm
     simp [go_sem, Tryz.L10_0, hf]
     exact ret_pure (by simp [go_sem]) ⟨by simp [go_sem], rfl⟩
 · have he' : ¬ (l.length : Int) = m.length := by omega
   have hne : l ≠ m := fun e => he (by rw [e])
   simp [go_sem, Tryz.C10, hf, he']
   exact ret_pure (by simp [go_sem]) ⟨by simp [go_sem, hne], rfl⟩
end Go.Proofs

set_option linter.unusedVariables false
set_option linter.unusedSimpArgs false
set_option maxRecDepth 100000
namespace Go.Proofs
open Go Go.Pl
theorem step_tr {s : CS} {c : UInt8} (h0 : (stepC s c).2 = 0) (h : s.tr.length ≤ 100) : (stepC s c).1.tr.length ≤ 100 := by
 have hp := parse_ok (l := s.line ++ [c])
 unfold stepC at h0 ⊢
 split at h0 <;> rename_i k0
 · rw [if_pos k0]
   split
   · split
     · exact h
     · split <;> exact h
   · exact h
 · rw [if_neg k0]
   split
   · exact h
   · split
     · split
       · exact h
       · split <;> exact h
     · rename_i k1 k2
       rw [if_neg k1, if_neg k2] at h0
       split
       · exact h
       · rename_i k3
         rw [if_neg k3] at h0
         split
         · rename_i k4
           rw [if_pos k4] at h0
           exact absurd h0 k4
         · rename_i k4
           have := (hp (Decidable.not_not.1 k4)).2
           split
           · exact this
           · split <;> exact this
theorem run_tr : ∀ (b : List UInt8) (s : CS) (n : Nat), s.tr.length ≤ 100 → (runC s n b).1.tr.length ≤ 100
 | [], s, n, h => h
 | c :: b, s, n, h => by
   rw [runC]
   split
   · exact h
   · split
     · exact h
     · rename_i k1
       exact run_tr b _ _ (step_tr (Decidable.not_not.1 k1) h)
theorem dec_tr (b : List UInt8) : (decF b).2.1.length ≤ 100 := by
 unfold decF
 split
 · simp
 · split
   · simp
   · exact run_tr b st0 0 (by decide)
theorem Tryz.chunksDecodes_c {bx : Boxes} (hm : Mk bx) (b : List UInt8) : PureCall Tryz.prog 3 [.sl 1 (b.map byteV)] bx (.bool true) := by
 refine Tryz.ctrx3 fun hf => ?_
 have cS := Tryz.shown_c hm
 by_cases hb : 600 < b.length
 · have hb' : (600 : Int) < b.length := by omega
   simp [go_sem, Tryz.Cx3, hf, hb']
   refine callK_pure cS ?_
   simp [go_sem]
   exact ret_pure (by simp [go_sem]) ⟨by simp [go_sem], rfl⟩
 have hb' : ¬ (600 : Int) < b.length := by omega
 have c1 := Tryz.Decode_c hm b (by omega)
 have c2 := Tryz.rDecode_c b (by omega) bx
 have htr := dec_tr b
 generalize decF b = D at *
 obtain ⟨d, l, n, e⟩ := D
 unfold decV at c1 c2
 dsimp only at c1 c2 htr
 have cB := Tryz.bytes_c d d bx
 have cE := Tryz.Equal_c l l (by omega) bx
 simp [go_sem, Tryz.Cx3, hf, hb']
 refine callK_pure c1 ?_
 simp [go_sem, hf]
 refine callK_pure c2 ?_
 simp [go_sem, hf]
 refine callK_pure cB ?_
 simp [go_sem, hf]
 refine gK_pure cE (by simp) (by simp [go_sem]) ?_
 simp [go_sem, hf]
 refine gK_pure cS (by simp) (by simp [go_sem]) ?_
 simp [go_sem, hf]
 exact ret_pure (by simp [go_sem]) ⟨by simp [go_sem], rfl⟩
end Go.Proofs

set_option linter.unusedVariables false
set_option linter.unusedSimpArgs false
set_option maxRecDepth 100000
namespace Go.Proofs
open Go Go.Pl
theorem cutL_len {m : Nat} : ∀ (k n : Nat), n ≤ k → (cutL n m).length ≤ n
 | k, n, h => by
   by_cases h0 : n = 0 ∨ m = 0
   · rw [cutL, dif_pos h0]; simp
   · rw [cutL_pos (by omega) (by omega), List.length_cons]
     cases k with
     | zero => omega
     | succ k =>
       have := cutL_len (m := m) k (n - min n m) (by omega)
       omega
theorem cutF_len (n m : Int) : (cutF n m).1.length ≤ 65536 := by
 unfold cutF
 split
 · simp
 · split
   · simp
   · have := cutL_len (m := m.toNat) _ n.toNat (Nat.le_refl _)
     dsimp only
     omega
set_option maxHeartbeats 4000000 in
theorem Tryz.chunksEncodes_c {bx : Boxes} (hm : Mk bx) (data : List UInt8) (ns : List Int) (l : List Fd) (hr : ∀ n, n ∈ ns → -9223372036854775808 ≤ n ∧ n ≤ 9223372036854775807) :
   PureCall Tryz.prog 4 [.sl 1 (data.map byteV), .sl 1 (ns.map iV), .sl 2 (l.map fdV)] bx (.bool true) := by
 refine Tryz.ctrx4 fun hf => ?_
 have cS := Tryz.shown_c hm
 have cF := Tryz.far_c l bx
 have cT := Tryz.rCut_c
 have cC := Tryz.Cut_c
 by_cases h1 : 2000 < data.length ∧ data.length ≤ 65536
 · have k1 : (2000 : Int) < data.length := by omega
   have k2 : (data.length : Int) ≤ 65536 := by omega
   simp [go_sem, Tryz.Cx4, hf, k1, k2]
   refine gK_off (.bool false) (by simp [go_sem]) ?_
   simp [go_sem, hf]
   refine callK_pure cS ?_
   simp [go_sem]
   exact ret_pure (by simp [go_sem]) ⟨by simp [go_sem], rfl⟩
 by_cases h2 : 66000 < data.length
 · have k1 : (2000 : Int) < data.length := by omega
   have k2 : ¬ (data.length : Int) ≤ 65536 := by omega
   have k3 : (66000 : Int) < data.length := by omega
   simp [go_sem, Tryz.Cx4, hf, k1, k2, k3]
   refine gK_off (.bool false) (by simp [go_sem]) ?_
   simp [go_sem, hf]
   refine callK_pure cS ?_
   simp [go_sem]
   exact ret_pure (by simp [go_sem]) ⟨by simp [go_sem], rfl⟩
 have k3 : ¬ (66000 : Int) < data.length := by omega
 have k4 : ¬ ((2000 : Int) < data.length ∧ (data.length : Int) ≤ 65536) := by omega
 have hd : data.length ≤ 2000 ∨ 65536 < data.length := by omega
 have hlen : ∀ n m, (cutF n m).1.length ≤ 1000000 := fun n m => Nat.le_trans (cutF_len n m) (by decide)
 by_cases h4 : data.length ≤ 2000
 · have k1 : ¬ (2000 : Int) < data.length := by omega
   by_cases h3 : 2000 < ns.length
   · have k5 : (2000 : Int) < ns.length := by omega
     simp [go_sem, Tryz.Cx4, hf, k1, k3, k5]
     refine gK_off (.bool false) (by simp [go_sem]) ?_
     simp [go_sem, hf]
     refine callK_pure cS ?_
     simp [go_sem]
     exact ret_pure (by simp [go_sem]) ⟨by simp [go_sem], rfl⟩
   have k5 : ¬ (2000 : Int) < ns.length := by omega
   simp [go_sem, Tryz.Cx4, hf, k1, k3, k5]
   refine gK_pure cF (by simp) (by simp [go_sem]) ?_
   cases hfar : farB l
   · obtain ⟨hsm, hll⟩ := far_small hfar
     have cEn := Tryz.Encode_c hm data ns l hd (by omega) hsm (by omega)
     have cRe := Tryz.rEncode_c data ns l hd (by omega) hr hsm (by omega) bx
     generalize encF data ns l = D at cEn cRe
     obtain ⟨r, e⟩ := D
     unfold encV at cEn cRe
     dsimp only at cEn cRe
     have cB := Tryz.bytes_c r r bx
     simp [go_sem, hf]
     refine callK_pure cEn ?_
     simp [go_sem, hf]
     refine callK_pure cRe ?_
     simp [go_sem, hf]
     refine callK_pure cB ?_
     simp [go_sem, hf]
     refine pw_upto (min (ns.length - 1) 10) (fun k => ⟨121, slk [(1, .sl 1 (ns.map iV)), (11, .int .i64 k)], bx⟩) (cov_look (by simp [go_sem])) (fun k hk N hN => ?_) (fun N => ?_)
     · have hw := wr_succ (k := k) (by omega)
       have q1 : k < ns.length := by omega
       have q2 : k + 1 < ns.length := by omega
       have q3 : (k : Int) < 10 := by omega
       have q4 : (k : Int) + 1 < ns.length := by omega
       have q5 : k < 10 := by omega
       have hr1 := hr ns[k] (List.getElem_mem q1)
       have hr2 := hr ns[k + 1] (List.getElem_mem q2)
       have cc := cC ns[k] ns[k + 1] hr1 hr2 bx
       have ct := cT ns[k] ns[k + 1] hr1 hr2 bx
       have cl := hlen ns[k] ns[k + 1]
       generalize cutF ns[k] ns[k + 1] = D2 at cc ct cl
       obtain ⟨q, f⟩ := D2
       unfold cutV at cc ct
       dsimp only at cc ct cl
       have ci := Tryz.ints_c q q cl bx
       have fin : N ⟨121, slk [(1, .sl 1 (ns.map iV)), (11, .int .i64 ((k : Int) + 1))], bx⟩ := hN _ (cov_look (by simp [go_sem]))
       by_cases c5 : (5000 : Int) < ns[k]
       · by_cases c6 : ns[k] ≤ 65536
         · simp [go_sem, Tryz.Lx4_0, hf, q1, q2, q3, q4, q5, hw, iV, c5, c6]
           exact fin
         · simp [go_sem, Tryz.Lx4_0, hf, q1, q2, q3, q4, q5, hw, iV, c5, c6]
           refine ⟨by omega, callK_pure cc ?_⟩
           simp [go_sem, hf, q1, q2, hw, iV]
           refine ⟨by omega, callK_pure ct ?_⟩
           simp [go_sem, hf, q1, q2, hw, iV]
           refine callK_pure ci ?_
           simp [go_sem, hf, hw]
           exact fin
       · simp [go_sem, Tryz.Lx4_0, hf, q1, q2, q3, q4, q5, hw, iV, c5]
         refine ⟨by omega, callK_pure cc ?_⟩
         simp [go_sem, hf, q1, q2, hw, iV]
         refine ⟨by omega, callK_pure ct ?_⟩
         simp [go_sem, hf, q1, q2, hw, iV]
         refine callK_pure ci ?_
         simp [go_sem, hf, hw]
         exact fin
     · by_cases g0 : ns.length = 0
       · have g2 : min (ns.length - 1) 10 = 0 := by omega
         have w1 : IntKind.i64.wrap 1 = 1 := by decide
         rw [g2]
         simp [go_sem, Tryz.Lx4_0, hf, w1, g0]
         refine callK_pure cS ?_
         simp [go_sem]
         exact ret_pure (by simp [go_sem]) ⟨by simp [go_sem], rfl⟩
       by_cases g1 : ns.length - 1 < 10
       · have g2 : min (ns.length - 1) 10 = ns.length - 1 := by omega
         rw [g2]
         have w1 : IntKind.i64.wrap (((ns.length - 1 : Nat) : Int) + 1) = ns.length := by rw [wr64 (by omega)]; omega
         simp [go_sem, Tryz.Lx4_0, hf, w1]
         refine callK_pure cS ?_
         simp [go_sem]
         exact ret_pure (by simp [go_sem]) ⟨by simp [go_sem], rfl⟩
       · have g2 : min (ns.length - 1) 10 = 10 := by omega
         rw [g2]
         have w1 : IntKind.i64.wrap 11 = 11 := by decide
         have g3 : 11 ≤ ns.length := by omega
         by_cases g4 : 11 < ns.length
         · have g5 : (11 : Int) < ns.length := by omega
           simp [go_sem, Tryz.Lx4_0, hf, w1, g4, g5]
           refine callK_pure cS ?_
           simp [go_sem]
           exact ret_pure (by simp [go_sem]) ⟨by simp [go_sem], rfl⟩
         · have g5 : ¬ (11 : Int) < ns.length := by omega
           simp [go_sem, Tryz.Lx4_0, hf, w1, g4, g5]
           refine callK_pure cS ?_
           simp [go_sem]
           exact ret_pure (by simp [go_sem]) ⟨by simp [go_sem], rfl⟩
   · simp [go_sem, hf]
     refine callK_pure cS ?_
     simp [go_sem]
     exact ret_pure (by simp [go_sem]) ⟨by simp [go_sem], rfl⟩
 · have k1 : (2000 : Int) < data.length := by omega
   have k2 : ¬ (data.length : Int) ≤ 65536 := by omega
   by_cases h3 : 2000 < ns.length
   · have k5 : (2000 : Int) < ns.length := by omega
     simp [go_sem, Tryz.Cx4, hf, k1, k2, k3, k5]
     refine gK_off (.bool false) (by simp [go_sem]) ?_
     simp [go_sem, hf]
     refine callK_pure cS ?_
     simp [go_sem]
     exact ret_pure (by simp [go_sem]) ⟨by simp [go_sem], rfl⟩
   have k5 : ¬ (2000 : Int) < ns.length := by omega
   simp [go_sem, Tryz.Cx4, hf, k1, k2, k3, k5]
   refine gK_pure cF (by simp) (by simp [go_sem]) ?_
   cases hfar : farB l
   · obtain ⟨hsm, hll⟩ := far_small hfar
     have cEn := Tryz.Encode_c hm data ns l hd (by omega) hsm (by omega)
     have cRe := Tryz.rEncode_c data ns l hd (by omega) hr hsm (by omega) bx
     generalize encF data ns l = D at cEn cRe
     obtain ⟨r, e⟩ := D
     unfold encV at cEn cRe
     dsimp only at cEn cRe
     have cB := Tryz.bytes_c r r bx
     simp [go_sem, hf]
     refine callK_pure cEn ?_
     simp [go_sem, hf]
     refine callK_pure cRe ?_
     simp [go_sem, hf]
     refine callK_pure cB ?_
     simp [go_sem, hf]
     refine pw_upto (min (ns.length - 1) 10) (fun k => ⟨121, slk [(1, .sl 1 (ns.map iV)), (11, .int .i64 k)], bx⟩) (cov_look (by simp [go_sem])) (fun k hk N hN => ?_) (fun N => ?_)
     · have hw := wr_succ (k := k) (by omega)
       have q1 : k < ns.length := by omega
       have q2 : k + 1 < ns.length := by omega
       have q3 : (k : Int) < 10 := by omega
       have q4 : (k : Int) + 1 < ns.length := by omega
       have q5 : k < 10 := by omega
       have hr1 := hr ns[k] (List.getElem_mem q1)
       have hr2 := hr ns[k + 1] (List.getElem_mem q2)
       have cc := cC ns[k] ns[k + 1] hr1 hr2 bx
       have ct := cT ns[k] ns[k + 1] hr1 hr2 bx
       have cl := hlen ns[k] ns[k + 1]
       generalize cutF ns[k] ns[k + 1] = D2 at cc ct cl
       obtain ⟨q, f⟩ := D2
       unfold cutV at cc ct
       dsimp only at cc ct cl
       have ci := Tryz.ints_c q q cl bx
       have fin : N ⟨121, slk [(1, .sl 1 (ns.map iV)), (11, .int .i64 ((k : Int) + 1))], bx⟩ := hN _ (cov_look (by simp [go_sem]))
       by_cases c5 : (5000 : Int) < ns[k]
       · by_cases c6 : ns[k] ≤ 65536
         · simp [go_sem, Tryz.Lx4_0, hf, q1, q2, q3, q4, q5, hw, iV, c5, c6]
           exact fin
         · simp [go_sem, Tryz.Lx4_0, hf, q1, q2, q3, q4, q5, hw, iV, c5, c6]
           refine ⟨by omega, callK_pure cc ?_⟩
           simp [go_sem, hf, q1, q2, hw, iV]
           refine ⟨by omega, callK_pure ct ?_⟩
           simp [go_sem, hf, q1, q2, hw, iV]
           refine callK_pure ci ?_
           simp [go_sem, hf, hw]
           exact fin
       · simp [go_sem, Tryz.Lx4_0, hf, q1, q2, q3, q4, q5, hw, iV, c5]
         refine ⟨by omega, callK_pure cc ?_⟩
         simp [go_sem, hf, q1, q2, hw, iV]
         refine ⟨by omega, callK_pure ct ?_⟩
         simp [go_sem, hf, q1, q2, hw, iV]
         refine callK_pure ci ?_
         simp [go_sem, hf, hw]
         exact fin
     · by_cases g0 : ns.length = 0
       · have g2 : min (ns.length - 1) 10 = 0 := by omega
         have w1 : IntKind.i64.wrap 1 = 1 := by decide
         rw [g2]
         simp [go_sem, Tryz.Lx4_0, hf, w1, g0]
         refine callK_pure cS ?_
         simp [go_sem]
         exact ret_pure (by simp [go_sem]) ⟨by simp [go_sem], rfl⟩
       by_cases g1 : ns.length - 1 < 10
       · have g2 : min (ns.length - 1) 10 = ns.length - 1 := by omega
         rw [g2]
         have w1 : IntKind.i64.wrap (((ns.length - 1 : Nat) : Int) + 1) = ns.length := by rw [wr64 (by omega)]; omega
         simp [go_sem, Tryz.Lx4_0, hf, w1]
         refine callK_pure cS ?_
         simp [go_sem]
         exact ret_pure (by simp [go_sem]) ⟨by simp [go_sem], rfl⟩
       · have g2 : min (ns.length - 1) 10 = 10 := by omega
         rw [g2]
         have w1 : IntKind.i64.wrap 11 = 11 := by decide
         have g3 : 11 ≤ ns.length := by omega
         by_cases g4 : 11 < ns.length
         · have g5 : (11 : Int) < ns.length := by omega
           simp [go_sem, Tryz.Lx4_0, hf, w1, g4, g5]
           refine callK_pure cS ?_
           simp [go_sem]
           exact ret_pure (by simp [go_sem]) ⟨by simp [go_sem], rfl⟩
         · have g5 : ¬ (11 : Int) < ns.length := by omega
           simp [go_sem, Tryz.Lx4_0, hf, w1, g4, g5]
           refine callK_pure cS ?_
           simp [go_sem]
           exact ret_pure (by simp [go_sem]) ⟨by simp [go_sem], rfl⟩
   · simp [go_sem, hf]
     refine callK_pure cS ?_
     simp [go_sem]
     exact ret_pure (by simp [go_sem]) ⟨by simp [go_sem], rfl⟩
end Go.Proofs

set_option linter.unusedVariables false
set_option linter.unusedSimpArgs false
set_option maxRecDepth 100000
namespace Go.Proofs
open Go Go.Pl
theorem encS_len : ∀ (ns : List Int) (rest out : List UInt8) (p : List UInt8 × List UInt8), rest.length < 4294967296 → encS rest ns out = some p → p.1.length + 13 * p.2.length ≤ out.length + 13 * rest.length
 | [], rest, out, p, _, h => by
   rw [encS] at h
   injection h with h
   subst h
   exact Nat.le_refl _
 | n :: ns, rest, out, p, hr, h => by
   rw [encS] at h
   split at h
   · cases h
   · rename_i k
     have h8 := hexB_len 8 n.toNat (by have : (16 : Nat) ^ 8 = 4294967296 := by decide
                                       omega)
     have := encS_len ns _ _ p (by rw [List.length_drop]; omega) h
     simp at this
     omega
theorem encF_len {data : List UInt8} {ns : List Int} {l : List Fd} (hd : data.length ≤ 2000) : (encF data ns l).1.length ≤ 60000 := by
 unfold encF
 rw [if_neg (by omega)]
 unfold encT
 split
 · simp
 · rename_i p hp
   have := encS_len ns data [] p (by omega) hp
   split
   · simp
   · split
     · simp
     · rename_i k1
       have h2 : (prtB l).length ≤ 8192 := by rw [prt_len]; exact (chkL_ok (Decidable.not_not.1 k1)).2.2
       split
       · simp
       · simp at this ⊢
         omega
theorem ints_iV (q : List Nat) : intsV q = (q.map fun (n : Nat) => (n : Int)).map iV := by
 unfold intsV iV
 rw [List.map_map]
 rfl
set_option maxHeartbeats 8000000 in
theorem Tryz.chunksBack_c {bx : Boxes} (hm : Mk bx) (data : List UInt8) (m : Int) (l : List Fd) (hr : -9223372036854775808 ≤ m ∧ m ≤ 9223372036854775807) :
   PureCall Tryz.prog 5 [.sl 1 (data.map byteV), .int .i64 m, .sl 2 (l.map fdV)] bx (.bool true) := by
 refine Tryz.ctrx5 fun hf => ?_
 have cS := Tryz.shown_c hm
 have cF := Tryz.far_c l bx
 by_cases h1 : 300 < data.length
 · have k1 : (300 : Int) < data.length := by omega
   simp [go_sem, Tryz.Cx5, hf, k1]
   refine gK_off (.bool false) (by simp [go_sem]) ?_
   simp [go_sem, hf]
   refine callK_pure cS ?_
   simp [go_sem]
   exact ret_pure (by simp [go_sem]) ⟨by simp [go_sem], rfl⟩
 have k1 : ¬ (300 : Int) < data.length := by omega
 by_cases h2 : 40 < l.length
 · have k2 : (40 : Int) < l.length := by omega
   simp [go_sem, Tryz.Cx5, hf, k1, k2]
   refine gK_off (.bool false) (by simp [go_sem]) ?_
   simp [go_sem, hf]
   refine callK_pure cS ?_
   simp [go_sem]
   exact ret_pure (by simp [go_sem]) ⟨by simp [go_sem], rfl⟩
 have k2 : ¬ (40 : Int) < l.length := by omega
 simp [go_sem, Tryz.Cx5, hf, k1, k2]
 refine gK_pure cF (by simp) (by simp [go_sem]) ?_
 cases hfar : farB l
 · obtain ⟨hsm, hll⟩ := far_small hfar
   have cC := Tryz.Cut_c data.length m (by omega) hr bx
   simp [go_sem, hf]
   by_cases h3 : m < 1
   · have e1 : cutF data.length m = ([], 2) := by unfold cutF; rw [if_pos (.inr h3)]
     rw [e1] at cC
     unfold cutV at cC
     dsimp only at cC
     refine callK_pure cC ?_
     simp [go_sem, hf, h3]
     refine gK_pure cS (by simp) (by simp [go_sem]) ?_
     simp [go_sem, hf]
     exact ret_pure (by simp [go_sem]) ⟨by simp [go_sem], rfl⟩
   have e1 : cutF data.length m = (cutL data.length m.toNat, 0) := by
     unfold cutF
     rw [if_neg (by omega), if_neg (by omega), Int.toNat_natCast]
   rw [e1] at cC
   unfold cutV at cC
   dsimp only at cC
   have hm0 : m.toNat ≠ 0 := by omega
   have cql := cutL_len (m := m.toNat) _ data.length (Nat.le_refl _)
   have cE := Tryz.Encode_c hm data ((cutL data.length m.toNat).map fun (n : Nat) => (n : Int)) l (by omega) (by simp; omega) hsm (by omega)
   have hlaw := back_law hm0 (by omega) (d := data) (l := l)
   have herr := back_err hm0 (by omega) (d := data) (l := l)
   have hel := encF_len (data := data) (ns := (cutL data.length m.toNat).map fun (n : Nat) => (n : Int)) (l := l) (by omega)
   rw [← ints_iV] at cE
   generalize encF data ((cutL data.length m.toNat).map fun (n : Nat) => (n : Int)) l = D at *
   obtain ⟨r, e⟩ := D
   unfold encV at cE
   dsimp only at cE hlaw herr hel
   refine callK_pure cC ?_
   simp [go_sem, hf]
   refine callK_pure cE ?_
   by_cases he : e = 0
   · subst he
     have hl2 := hlaw rfl [48, 13, 10, 120]
     simp [go_sem, hf]
     intro b1 hb1
     have ha0 := acc_new hb1 hf 5 1 [] 0 rfl
     refine acc_append (es := []) (news := r.map byteV) (e := 5) (sz := 1) (.int .u8 0) ha0 (Ext.refl _) ha0.fin Tryz.knd22 Tryz.tsz5 (by simp [go_sem, srcEls]) Tryz.tzero5 (by simp [go_sem]) (by decide) (by simp [Tryz.tby5]; omega) (by simp; omega) (by simp [go_sem]) ?_
     intro v3 bx3 ha3
     rw [List.nil_append] at ha3
     simp [go_sem, ha3.fin, ha3.strip, ha3.live]
     refine acc_append (es := r.map byteV) (news := [.int .u8 48, .int .u8 13, .int .u8 10, .int .u8 120]) (e := 5) (sz := 1) (.int .u8 0) ha3 (Ext.refl _) ha3.fin Tryz.knd22 Tryz.tsz5 (by simp [go_sem, srcEls, byteV]) Tryz.tzero5 (by simp [go_sem]) (by decide) (by simp [Tryz.tby5]; omega) (by simp; omega) (by simp [go_sem]) ?_
     intro v4 bx4 ha4
     have e5 : r.map byteV ++ [V.int IntKind.u8 48, V.int IntKind.u8 13, V.int IntKind.u8 10, V.int IntKind.u8 120] = (r ++ [48, 13, 10, 120]).map byteV := by simp [byteV]
     rw [e5] at ha4
     have cD := Tryz.Decode_c hm (r ++ [48, 13, 10, 120]) (by simp; omega)
     rw [hl2] at cD
     unfold decV at cD
     dsimp only at cD
     have cD2 := AbsCall.acc1 (rest := []) ha4 (by decide) cD
     simp [go_sem, ha4.fin, ha4.strip, ha4.live]
     refine callK_abs cD2 ?_
     rintro q bx5 ⟨rfl, rfl⟩
     have cB := Tryz.bytes_c data data bx5
     simp [go_sem, hf]
     refine gK_pure cB (by simp) (by simp [go_sem]) ?_
     simp [go_sem, hf]
     refine pw_upto l.length (fun k => ⟨111, slk [(2, .sl 2 (l.map fdV)), (11, .sl 2 (l.map fdV)), (13, .int .i64 k)], bx5⟩) (cov_look (by simp [go_sem])) (fun k hk N hN => ?_) (fun N => ?_)
     · have hw := wr_succ (k := k) (by omega)
       simp [go_sem, Tryz.Lx5_0, hf, hk, fdV, hw]
       exact hN _ (cov_look (by simp [go_sem, fdV]))
     · simp [go_sem, Tryz.Lx5_0, hf]
       refine callK_pure cS ?_
       simp [go_sem]
       exact ret_pure (by simp [go_sem]) ⟨by simp [go_sem], rfl⟩
   · have hor := herr he
     have cCk := Tryz.rCheck_c l hsm bx
     have cB := Tryz.rBad_c l hsm (by omega) bx
     simp [go_sem, hf, he]
     refine callK_pure cCk ?_
     by_cases hk : chkL l = 0
     · have hb : badB l = true := by
         rcases hor with h | h
         · exact absurd hk h
         · exact h
       rw [hb] at cB
       simp [go_sem, hf, hk]
       refine gK_pure cB (by simp) (by simp [go_sem]) ?_
       simp [go_sem, hf]
       refine gK_pure cS (by simp) (by simp [go_sem]) ?_
       simp [go_sem, hf]
       exact ret_pure (by simp [go_sem]) ⟨by simp [go_sem], rfl⟩
     · generalize chkL l = ck at *
       simp [go_sem, hf, hk]
       refine gK_off (.bool false) (by simp [go_sem]) ?_
       simp [go_sem, hf, hk]
       refine gK_pure cS (by simp) (by simp [go_sem]) ?_
       simp [go_sem, hf]
       exact ret_pure (by simp [go_sem]) ⟨by simp [go_sem], rfl⟩
 · simp [go_sem, hf]
   refine callK_pure cS ?_
   simp [go_sem]
   exact ret_pure (by simp [go_sem]) ⟨by simp [go_sem], rfl⟩
end Go.Proofs
