/- Texts of the proof, put together: XI, XJ, XY, XK, XL. -/
import Derived.Test.YtiogeggilnhajaaGreatDoorGj
import Derived.Test.YtiogeggilnhajaaGreatDoorGk
import Derived.Test.YtiogeggilnhajaaGreatDoorRows
import Derived.Test.YtiogeggilnhajaaGreatDoorTie
import Derived.Test.YtiogeggilnhajaaGreatDoorCards
import Derived.Test.YtiogeggilnhajaaGreatDoorGe
import Derived.WalkKit
import Derived.ProofKit
import Derived.Lay
import Derived.LaidOnce
import Derived.SevenTiedAt

set_option linter.unusedVariables false
set_option linter.unusedSimpArgs false
set_option maxRecDepth 100000
namespace Go.Proofs
open Go Go.Pl Go.RowKit Go.Shelf
theorem itoa_big {n : Int} (h : 9 < n ∨ n < -9) : Lib.itoa n = Lib.itoa (n.tdiv 10) ++ [UInt8.ofNat (48 + n.natAbs % 10)] := by
 unfold Lib.itoa
 rcases h with h | h
 · have e : n.tdiv 10 = n / 10 := Int.tdiv_eq_ediv_of_nonneg (by omega)
   rw [e, if_neg (by omega), if_neg (by omega)]
   conv => lhs; rw [Lib.decDigits, dif_neg (by omega)]
   have e1 : n.toNat / 10 = (n / 10).toNat := by omega
   have e2 : n.toNat % 10 = n.natAbs % 10 := by omega
   rw [e1, e2]
 · have e : n.tdiv 10 = -((-n) / 10) := by
     have := Int.neg_tdiv (-n) 10
     rw [Int.neg_neg] at this
     rw [this, Int.tdiv_eq_ediv_of_nonneg (by omega)]
   rw [e, if_pos (by omega), if_pos (by omega)]
   conv => lhs; rw [Lib.decDigits, dif_neg (by omega)]
   have e1 : n.natAbs / 10 = (-((-n) / 10)).natAbs := by omega
   rw [e1]; rfl
theorem itoa_neg {n : Int} (h : n < 0) : Lib.itoa n = 45 :: Lib.itoa (-n) := by
 unfold Lib.itoa
 rw [if_pos h, if_neg (by omega)]
 congr 2
 omega
theorem itoa_dig {n : Int} (h0 : 0 ≤ n) (h : n ≤ 9) : Lib.itoa n = [UInt8.ofNat (48 + n.toNat)] := by
 unfold Lib.itoa
 rw [if_neg (by omega), Lib.decDigits_one (by omega)]
set_option maxHeartbeats 1000000 in
theorem Tryz.rDigits : ∀ (m : Nat) (n : Int), n.natAbs ≤ m → -9223372036854775808 ≤ n → n ≤ 9223372036854775807 → ∀ bx, PureCall Tryz.prog 53 [.int .i64 n] bx (.str (Lib.itoa n)) := by
 have hdig : ∀ (n : Int), 0 ≤ n → n ≤ 9 → ∀ bx, PureCall Tryz.prog 53 [.int .i64 n] bx (.str (Lib.itoa n)) := by
   intro n h0 h9 bx
   refine Tryz.ctrx53 fun hf => ?_
   have c1 : ¬ (9 : Int) < n := by omega
   have c2 : ¬ n < -9 := by omega
   have c3 : ¬ n < 0 := by omega
   have w1 : IntKind.i64.wrap (48 + n) = 48 + n := wr64 (by omega)
   have w2 : IntKind.u8.wrap (48 + n) = 48 + n := wru8 (by omega)
   have e1 : (48 + n).toNat = 48 + n.toNat := by omega
   simp [go_sem, Tryz.Cx53, hf, c1, c2, c3, w1, w2, toByte, e1]
   refine ret_pure (by simp [go_sem]) ⟨by simp [go_sem, itoa_dig h0 h9], rfl⟩
 intro m
 induction m with
 | zero =>
   intro n hn _ _ bx
   exact hdig n (by omega) (by omega) bx
 | succ m ih =>
   intro n hn h0 h1 bx
   by_cases c : 9 < n ∨ n < -9
   · rw [itoa_big c]
     have hq : (n.tdiv 10).natAbs = n.natAbs / 10 := by rw [Int.natAbs_tdiv]; rfl
     have d1 := ih (n.tdiv 10) (by omega) (by omega) (by omega)
     have hq2 : IntKind.i64.wrap (n.tdiv 10) = n.tdiv 10 := wr64 (by omega)
     have l1 := Lib.itoa_length_le (n.tdiv 10) (by omega) (by omega)
     have hr : (n.tmod 10).natAbs = n.natAbs % 10 := by rw [Int.natAbs_tmod]; rfl
     have hr2 : IntKind.i64.wrap (n.tmod 10) = n.tmod 10 := wr64 (by omega)
     generalize Lib.itoa (n.tdiv 10) = x at *
     obtain ⟨k, hk⟩ : ∃ k, n.natAbs % 10 = k := ⟨_, rfl⟩
     rw [hk] at hr ⊢
     have hk9 : k < 10 := by omega
     have w1 : IntKind.i64.wrap (48 + (k : Int)) = 48 + (k : Int) := wr64 (by omega)
     have w2 : IntKind.u8.wrap (48 + (k : Int)) = 48 + (k : Int) := wru8 (by omega)
     have e1 : (48 + (k : Int)).toNat = 48 + k := by omega
     have hc : (9 : Int) < n ∨ ¬ (9 : Int) < n ∧ n < -9 := by omega
     have l3 : x.length + 1 ≤ 9223372036854775807 := by omega
     have fin : ∀ (u : Int), (if u < 0 then -u else u) = k → n.tmod 10 = u → AbsCall Tryz.prog 53 [.int .i64 n] bx (fun r bx' => r = .str (x ++ [UInt8.ofNat (48 + k)]) ∧ bx' = bx) := fun u hu hm => by
       refine Tryz.ctrx53 fun hf => ?_
       have w3 : IntKind.i64.wrap (k : Int) = k := wr64 (by omega)
       by_cases hneg : u < 0
       · rw [if_pos hneg] at hu
         have w5 : IntKind.i64.wrap (-u) = k := by rw [hu]; exact w3
         rcases hc with hc | ⟨hc1, hc2⟩
         · simp [go_sem, Tryz.Cx53, hf, hc, hr2, hq2, hm, hneg, w5, w1, w2, toByte, e1]
           refine ⟨by simp [fzAt, fzb], callK_pure (d1 _) ?_⟩
           simp [go_sem, hf, l3, w3, w1, w2, toByte, e1]
           exact ret_pure (by simp [go_sem]) ⟨by simp [go_sem], rfl⟩
         · simp [go_sem, Tryz.Cx53, hf, hc1, hc2, hr2, hq2, hm, hneg, w5, w1, w2, toByte, e1]
           refine ⟨by simp [fzAt, fzb], callK_pure (d1 _) ?_⟩
           simp [go_sem, hf, l3, w3, w1, w2, toByte, e1]
           exact ret_pure (by simp [go_sem]) ⟨by simp [go_sem], rfl⟩
       · rw [if_neg hneg] at hu
         subst hu
         rcases hc with hc | ⟨hc1, hc2⟩
         · simp [go_sem, Tryz.Cx53, hf, hc, hr2, hq2, hm, hneg, w3, w1, w2, toByte, e1]
           refine ⟨by simp [fzAt, fzb], callK_pure (d1 _) ?_⟩
           simp [go_sem, hf, l3, w3, w1, w2, toByte, e1]
           exact ret_pure (by simp [go_sem]) ⟨by simp [go_sem], rfl⟩
         · simp [go_sem, Tryz.Cx53, hf, hc1, hc2, hr2, hq2, hm, hneg, w3, w1, w2, toByte, e1]
           refine ⟨by simp [fzAt, fzb], callK_pure (d1 _) ?_⟩
           simp [go_sem, hf, l3, w3, w1, w2, toByte, e1]
           exact ret_pure (by simp [go_sem]) ⟨by simp [go_sem], rfl⟩
     exact fin (n.tmod 10) (by split <;> omega) rfl
   · by_cases hneg : n < 0
     · refine Tryz.ctrx53 fun hf => ?_
       have c1 : ¬ (9 : Int) < n := by omega
       have c2 : ¬ n < -9 := by omega
       have w1 : IntKind.i64.wrap (-n) = -n := wr64 (by omega)
       rw [itoa_neg hneg]
       have l1 := Lib.itoa_length_le (-n) (by omega) (by omega)
       simp [go_sem, Tryz.Cx53, hf, c1, c2, hneg, w1]
       refine callK_pure (hdig (-n) (by omega) (by omega) _) ?_
       have l4 : 1 + (Lib.itoa (-n)).length ≤ 9223372036854775807 := by omega
       have l5 : (Lib.itoa (-n)).length + 1 ≤ 9223372036854775807 := by omega
       have l6 : (Lib.itoa (-n)).length ≤ 9223372036854775806 := by omega
       simp [go_sem, hf, l4, l5, l6]
       exact ret_pure (by simp [go_sem]) ⟨by simp [go_sem], rfl⟩
     · exact hdig n (by omega) (by omega) bx
theorem Tryz.Names_p (bx : Boxes) : PureCall Tryz.prog 54 [] bx (.sl 1 (namesL.map .str)) := by
 refine Tryz.ctr54 fun hf => ?_
 simp [go_sem, Tryz.C54, hf]
 intro b hb
 refine ret_frz 1 (by simp [go_sem]) ((Ext.refl bx).upd_own hb _) ⟨?_, rfl⟩
 simp [go_sem, frz, upd_eq, hb, namesL]
set_option maxHeartbeats 2000000 in
theorem Tryz.rPrint (l : List (Int × Int)) (hl : l.length ≤ 1000) (hr : ∀ f, f ∈ l → inR f) (bx : Boxes) : PureCall Tryz.prog 25 [.sl 2 (l.map fltV)] bx (.tup [.str (printI l).1, iI (printI l).2]) := by
 obtain ⟨Kc, hKc⟩ : ∃ Kc : V → Boxes → Prop, Kc = fun r bx' => r = .tup [.str (printI l).1, iI (printI l).2] ∧ bx' = bx := ⟨_, rfl⟩
 show AbsCall _ _ _ _ (fun r bx' => r = .tup [.str (printI l).1, iI (printI l).2] ∧ bx' = bx)
 rw [← hKc]
 refine Tryz.ctr25 fun hf => ?_
 simp [go_sem, Tryz.C25, hf]
 refine pw_for (ι := Boxes) l.length (fun k bx2 => (FinB bx2 ∧ Ext bx bx2) ∧ ∀ j (hj : j < l.length), j < k → ¬ (l[j].1 < 1 ∨ 13 < l[j].1)) (fun k bx2 => ⟨47, slk [(0, .sl 2 (l.map fltV)), (4, .str ((l.take k).flatMap lineP)), (5, .int .i64 k)], bx2⟩) bx ⟨⟨hf, Ext.refl _⟩, fun j hj h => absurd h (Nat.not_lt_zero _)⟩ (cov_look (by simp [go_sem])) (fun k bx2 hk hJ N hN => ?_) (fun bx2 hJ N => ?_)
 · obtain ⟨⟨hf2, hx2⟩, hall⟩ := hJ
   have hw := wr_succ (k := k) (by omega)
   have hin := hr l[k] (List.getElem_mem hk)
   have hlt := lines_len (l.take k) fun f hf => hr f (List.mem_of_mem_take hf)
   rw [List.length_take] at hlt
   simp [go_sem, Tryz.L25_0, hk, hf2, fltV, iI]
   refine ⟨fun h1 => ?_, fun h1 h2 => ?_⟩
   · have hz : printI l = ([], 2) := by
       unfold printI
       rw [if_pos (List.any_eq_true.2 ⟨l[k], List.getElem_mem hk, by simpa using h1⟩)]
     refine ret_drop (by simp [go_sem]) hx2 ?_
     rw [hKc, hz]
     exact ⟨by simp [go_sem, iI], rfl⟩
   · refine callK_pure (Tryz.rDigits l[k].2.natAbs l[k].2 (Nat.le_refl _) hin.2.1 hin.2.2 _) ?_
     obtain ⟨NL, hNL⟩ : ∃ NL, namesL = NL := ⟨_, rfl⟩
     have hNl : NL.length = 13 := by rw [← hNL]; rfl
     have cN := Tryz.Names_p bx2
     rw [hNL] at cN
     obtain ⟨m, hm, hm13⟩ : ∃ m : Nat, l[k].1 = (m : Int) + 1 ∧ m < 13 := ⟨(l[k].1 - 1).toNat, by omega, by omega⟩
     have hw1 : IntKind.i64.wrap (l[k].1 - 1) = (m : Int) := by rw [wr64 (by omega)]; omega
     have hi1 := Lib.itoa_length_le l[k].2 hin.2.1 hin.2.2
     have hi2 : (NL[m]'(by omega)).length ≤ 9 := by
       have := namesL_len m
       rw [hNL, List.getD_eq_getElem?_getD, List.getElem?_eq_getElem (by omega)] at this
       exact this
     have hg : NL[m]? = some (NL[m]'(by omega)) := List.getElem?_eq_getElem _
     have hline : lineP l[k] = Lib.itoa l[k].2 ++ 32 :: (NL[m]'(by omega) ++ [10]) := by
       unfold lineP
       rw [hNL, show (l[k].1 - 1).toNat = m by omega, List.getD_eq_getElem?_getD, List.getElem?_eq_getElem (show m < NL.length by omega)]
       rfl
     have hnext : (l.take (k + 1)).flatMap lineP = (l.take k).flatMap lineP ++ (Lib.itoa l[k].2 ++ 32 :: (NL[m]'(by omega) ++ [10])) := by
       rw [List.take_succ_eq_append_getElem hk, List.flatMap_append, ← hline]
       simp
     rw [hnext] at hN
     obtain ⟨T, hT⟩ : ∃ T, (l.take k).flatMap lineP = T := ⟨_, rfl⟩
     rw [hT] at hlt hN ⊢
     obtain ⟨D, hD⟩ : ∃ D, Lib.itoa l[k].2 = D := ⟨_, rfl⟩
     rw [hD] at hi1 hN ⊢
     have s1 : T.length + D.length ≤ 9223372036854775807 := by omega
     have s2 : T.length + D.length + 1 ≤ 9223372036854775807 := by omega
     simp [go_sem, hf2, s1, s2]
     refine callK_pure cN ?_
     simp [go_sem, hf2, hk, hw1, hm13, hNl, hg, fltV, iI]
     refine ⟨by omega, by omega, by omega, ?_⟩
     refine hN _ bx2 ⟨⟨hf2, hx2⟩, fun j hj hjk => ?_⟩ (cov_look (by simp [go_sem, hw]))
     rcases Nat.lt_or_ge j k with h | h
     · exact hall j hj h
     · have : j = k := by omega
       subst this
       omega
 · obtain ⟨⟨hf2, hx2⟩, hall⟩ := hJ
   rw [List.take_of_length_le (Nat.le_refl _)]
   have hz : printI l = (l.flatMap lineP, 0) := by
     unfold printI
     rw [if_neg]
     intro h
     obtain ⟨f, hf1, hf2⟩ := List.any_eq_true.1 h
     obtain ⟨j, hj, rfl⟩ := List.getElem_of_mem hf1
     exact hall j hj hj (by simpa using hf2)
   simp [go_sem, Tryz.L25_0, hf2]
   refine ret_drop (by simp [go_sem]) hx2 ?_
   rw [hKc, hz]
   exact ⟨by simp [go_sem, iI], rfl⟩
end Go.Proofs

set_option linter.unusedVariables false
set_option linter.unusedSimpArgs false
set_option maxRecDepth 100000
namespace Go.Proofs
open Go Go.Pl
theorem Tryz.law_Prints (l : List (Int × Int)) (hr : ∀ f, f ∈ l → inR f) (bx : Boxes) : PureCall Tryz.prog 6 [.sl 2 (l.map fltV)] bx (.bool true) := by
 refine Tryz.ctr6 fun hf => ?_
 have cA := fun bx' => Tryz.awake_i bx'
 by_cases h3 : 300 < l.length
 · have h3' : (300 : Int) < (l.length : Int) := by omega
   simp [go_sem, Tryz.C6, hf, h3']
   refine callK_pure (cA _) ?_
   simp [go_sem, hf]
   exact ret_pure (by simp [go_sem]) ⟨by simp [go_sem], rfl⟩
 · have h3' : ¬ (300 : Int) < (l.length : Int) := by omega
   have c1 := fun bx' => Tryz.Print_i l (by omega) hr bx'
   have c2 := fun bx' => Tryz.rPrint l (by omega) hr bx'
   generalize printI l = z at c1 c2
   simp [go_sem, Tryz.C6, hf, h3']
   refine callK_pure (c1 _) ?_
   simp [go_sem, hf, iI]
   refine callK_pure (c2 _) ?_
   simp [go_sem, hf, iI]
   refine gK_pure (cA _) (by simp) (by simp [go_sem]) ?_
   simp [go_sem, hf]
   exact ret_pure (by simp [go_sem]) ⟨by simp [go_sem], rfl⟩
theorem far_len {L : List Lim} {l : List Ex} {n : Int} (h : farI L l n = false) : L.length ≤ 20 ∧ ((l.length : Int) ≤ n ∨ 2000 < l.length) ∧ l.length ≤ 2010 := by
 unfold farI at h
 simp only [Bool.or_eq_false_iff, Bool.and_eq_false_iff, decide_eq_false_iff_not] at h
 omega
set_option maxHeartbeats 4000000 in
theorem Tryz.law_Begins (L : List Lim) (most : Int) (l : List Ex) (n : Nat) (hn : n < 65536) (hne : ∀ e, e ∈ l → NE e) (bx : Boxes) : PureCall Tryz.prog 8 [logV L most l, .int .u16 n] bx (.bool true) := by
 refine Tryz.ctrx8 fun hf => ?_
 have cA := fun bx' => Tryz.awake_i bx'
 have cf := fun bx' => Tryz.far_i L most l 200 bx'
 simp [go_sem, Tryz.Cx8, hf, logV]
 refine callK_pure (cf _) ?_
 cases hfar : farI L l 200
 rotate_left
 · simp [go_sem, hf]
   refine callK_pure (cA _) ?_
   simp [go_sem, hf]
   exact ret_pure (by simp [go_sem]) ⟨by simp [go_sem], rfl⟩
 obtain ⟨f1, f2, f3⟩ := far_len hfar
 have cF := fun bx' => Tryz.Find_p L most l (by omega) (by omega) hne bx'
 simp [go_sem, hf, iI]
 refine callK_pure (cF _) ?_
 by_cases hck : (checkI L most l).2 = 0
 rotate_left
 · have hf0 : findI L most l = ([], (checkI L most l).2) := by unfold findI; rw [if_neg hck]
   rw [hf0]
   simp [go_sem, hf, iI, hck]
   refine gK_pure (cA _) (by simp) (by simp [go_sem]) ?_
   simp [go_sem, hf]
   exact ret_pure (by simp [go_sem]) ⟨by simp [go_sem], rfl⟩
 rw [find_flt hck]
 obtain ⟨k, hk⟩ : ∃ k, n % (l.length + 1) = k := ⟨_, rfl⟩
 have hkl : k ≤ l.length := by have := Nat.mod_lt n (show 0 < l.length + 1 by omega); omega
 have hck2 : (checkI L most (l.take k)).2 = 0 := check_take hck k
 have cG := fun bx' => Tryz.Find_p L most (l.take k) (by omega) (by rw [List.length_take]; omega) (fun e he => hne e (List.mem_of_mem_take he)) bx'
 rw [find_flt hck2] at cG
 obtain ⟨hm1, hm2⟩ := begins_many L most l k hkl
 obtain ⟨ho1, ho2⟩ := fltI_ord L most l
 have hA5 : (fltI L most l).length ≤ 5 * l.length := (runI_good (beg_good L most l) l.length).flt
 generalize fltI L most (l.take k) = B at cG hm1 hm2
 generalize fltI L most l = A at hm1 hm2 ho1 ho2 hA5 ⊢
 have hw1 : IntKind.i64.wrap ((l.length : Int) + 1) = (l.length : Int) + 1 := wr64 (by omega)
 have hw2 : IntKind.i64.wrap (n : Int) = (n : Int) := wr64 (by omega)
 have hmod : ((n : Int).tmod ((l.length : Int) + 1)) = (k : Int) := by
   rw [Int.tmod_eq_emod_of_nonneg (by omega), ← hk, show (l.length : Int) + 1 = ((l.length + 1 : Nat) : Int) by omega]
   rfl
 have hl1 : ¬ (l.length : Int) + 1 = 0 := by omega
 simp [go_sem, hf, iI, hw1, hw2, hmod, hl1]
 intro b hb
 refine ⟨hkl, ?_⟩
 rw [← List.map_take]
 have hx1 : Ext bx (upd bx b (some (Box.row 25 3 [V.agg [V.sl 4 (L.map limV), V.int .i64 most, V.sl 8 ((l.take k).map exV)]]))) := (Ext.refl bx).upd_own hb _
 have hf1 : FinB (upd bx b (some (Box.row 25 3 [V.agg [V.sl 4 (L.map limV), V.int .i64 most, V.sl 8 ((l.take k).map exV)]]))) := (finB_upd _ _ _).2 hf
 generalize upd bx b _ = bx1 at *
 refine callK_pure (cG _) ?_
 simp [go_sem, hf1, iI]
 have hcl : ∀ j, (A.take j).countP (fun f => decide (f.2 < (k : Int))) ≤ A.length := fun j => Nat.le_trans List.countP_le_length (by rw [List.length_take]; omega)
 refine pw_upto A.length (fun j => ⟨143, slk [(2, .ep (.agg [.sl 4 (L.map limV), .int .i64 most, .sl 8 (l.map exV)]) 0), (5, .sl 2 (A.map fltV)), (7, .int .i64 k), (9, .sl 2 (B.map fltV)), (10, .int .i64 0), (11, .int .i64 ((A.take j).countP fun f => decide (f.2 < (k : Int)))), (12, .int .i64 j)], bx1⟩) (cov_look (by simp [go_sem])) (fun j hj N hN => ?_) (fun N => ?_)
 · have hwj := wr_succ (k := j) (by omega)
   obtain ⟨a1, a2, a3, a4⟩ := ho2 A[j] (List.getElem_mem hj)
   have hcj := hcl j
   have hsucc : (A.take (j + 1)).countP (fun f => decide (f.2 < (k : Int))) = (A.take j).countP (fun f => decide (f.2 < (k : Int))) + if A[j].2 < (k : Int) then 1 else 0 := by
     rw [List.take_succ_eq_append_getElem hj, List.countP_append, List.countP_singleton]
     simp
   rw [hsucc] at hN
   generalize (A.take j).countP (fun f => decide (f.2 < (k : Int))) = c at hcj hN ⊢
   have hwc := wr_succ (k := c) (by omega)
   have b1 : ¬ A[j].2 < 0 := by omega
   have b2 : ¬ (l.length : Int) ≤ A[j].2 := by omega
   by_cases hj0 : j = 0
   · subst hj0
     have hwj1 : IntKind.i64.wrap 1 = 1 := wr64 (by omega)
     have hwm1 : IntKind.i64.wrap (-1) = -1 := wr64 (by omega)
     have hend : ∀ s, Cov s ⟨143, slk [(2, .ep (.agg [.sl 4 (L.map limV), .int .i64 most, .sl 8 (l.map exV)]) 0), (5, .sl 2 (A.map fltV)), (7, .int .i64 k), (9, .sl 2 (B.map fltV)), (10, .int .i64 0), (11, .int .i64 ((c + if A[0].2 < (k : Int) then 1 else 0 : Nat))), (12, .int .i64 1)], bx1⟩ → N s := hN
     clear hN
     by_cases hlt : A[0].2 < (k : Int)
     · rw [if_pos hlt] at hend
       simp [go_sem, Tryz.Lx8_0, hf1, hj, fltV, iI, b1, b2, hlt, hwc, hwj1, hwm1]
       exact hend _ (cov_look (by simp [go_sem]))
     · rw [if_neg hlt] at hend
       simp [go_sem, Tryz.Lx8_0, hf1, hj, fltV, iI, b1, b2, hlt, hwc, hwj1, hwm1]
       exact hend _ (cov_look (by simp [go_sem]))
   · obtain ⟨i, hi1⟩ : ∃ i, j = i + 1 := ⟨j - 1, by omega⟩
     have hi : i < A.length := by omega
     have b3 : 0 < j := by omega
     have hwi : IntKind.i64.wrap ((j : Int) - 1) = (i : Int) := by rw [wr64 (by omega)]; omega
     have hpr := (List.pairwise_iff_getElem.1 ho1) i j hi hj (by omega)
     unfold ltF at hpr
     have b4 : ¬ A[j].2 < A[i].2 := by omega
     have hend : ∀ s, Cov s ⟨143, slk [(2, .ep (.agg [.sl 4 (L.map limV), .int .i64 most, .sl 8 (l.map exV)]) 0), (5, .sl 2 (A.map fltV)), (7, .int .i64 k), (9, .sl 2 (B.map fltV)), (10, .int .i64 0), (11, .int .i64 ((c + if A[j].2 < (k : Int) then 1 else 0 : Nat))), (12, .int .i64 ((j + 1 : Nat) : Int))], bx1⟩ → N s := hN
     clear hN
     by_cases heq : A[j].2 = A[i].2
     · have b5 : ¬ A[j].1 ≤ A[i].1 := by omega
       have b1i : ¬ A[i].2 < 0 := by omega
       have b2i : ¬ (l.length : Int) ≤ A[i].2 := by omega
       by_cases hlt : A[j].2 < (k : Int)
       · have hlti : A[i].2 < (k : Int) := by omega
         rw [if_pos hlt] at hend
         simp [go_sem, Tryz.Lx8_0, hf1, hj, hi, hwi, fltV, iI, b1i, b2i, b3, b5, heq, hlti, hwc, hwj]
         exact hend _ (cov_look (by simp [go_sem]))
       · have hlti : ¬ A[i].2 < (k : Int) := by omega
         rw [if_neg hlt] at hend
         simp [go_sem, Tryz.Lx8_0, hf1, hj, hi, hwi, fltV, iI, b1i, b2i, b3, b5, heq, hlti, hwc, hwj]
         exact hend _ (cov_look (by simp [go_sem]))
     · by_cases hlt : A[j].2 < (k : Int)
       · rw [if_pos hlt] at hend
         simp [go_sem, Tryz.Lx8_0, hf1, hj, hi, hwi, fltV, iI, b1, b2, b3, b4, heq, hlt, hwc, hwj]
         exact hend _ (cov_look (by simp [go_sem]))
       · rw [if_neg hlt] at hend
         simp [go_sem, Tryz.Lx8_0, hf1, hj, hi, hwi, fltV, iI, b1, b2, b3, b4, heq, hlt, hwc, hwj]
         exact hend _ (cov_look (by simp [go_sem]))
 · rw [List.take_of_length_le (Nat.le_refl _), hm2]
   rw [hm2] at hm1
   have hBA : B.length ≤ A.length := by rw [← hm2]; exact List.countP_le_length
   have cS := fun bx' => Tryz.Same_i B B (by omega) bx'
   have hz : decide (B = B) = true := by simp
   rw [hz] at cS
   simp [go_sem, Tryz.Lx8_0, hf1]
   refine ⟨hBA, ?_⟩
   rw [← List.map_take, hm1]
   refine gK_pure (cS _) (by simp) (by simp [go_sem]) ?_
   simp [go_sem, hf1]
   refine gK_pure (cA _) (by simp) (by simp [go_sem]) ?_
   simp [go_sem, hf1]
   exact ret_drop (by simp [go_sem]) hx1 ⟨by simp [go_sem], rfl⟩
end Go.Proofs

set_option linter.unusedVariables false
set_option linter.unusedSimpArgs false
set_option maxRecDepth 100000
namespace Go.Proofs.YtiogeggilnhajaaGreatDoor
open Go Go.Pl Go.Proofs
open Go.ChangeShapes Go.WideShapes Go.ChangeAt Go.RowKit
theorem own : ownKnob Tryz.prog.godebug = none := by kernel_rfl
theorem len8 {α : Type} {l : List α} (h : l.length = 8) : ∃ a b c d e f g i, l = [a, b, c, d, e, f, g, i] := by
 obtain _ | ⟨a, _ | ⟨b, _ | ⟨c, _ | ⟨d, _ | ⟨e, _ | ⟨f, _ | ⟨g, _ | ⟨i, _ | ⟨j, l⟩⟩⟩⟩⟩⟩⟩⟩⟩ := l <;> simp at h
 exact ⟨a, b, c, d, e, f, g, i, rfl⟩
theorem hasI {n : Nat} {xs : List V} (h : HasL Tryz.prog n 3 xs) : ∃ i : Int, xs = [iI i] ∧ -9223372036854775808 ≤ i ∧ i ≤ 9223372036854775807 := by
 obtain ⟨i, rfl, hw⟩ := h.int Tryz.knd3
 simp [Lit.wf, IntKind.min, IntKind.max, IntKind.signed, IntKind.bits] at hw
 exact ⟨i, rfl, by omega⟩
theorem hasJ {n : Nat} {xs : List V} (h : HasL Tryz.prog n 2 xs) : ∃ i : Int, xs = [iI i] := by
 obtain ⟨i, rfl, hw⟩ := h.int Tryz.knd2
 exact ⟨i, rfl⟩
theorem hasB {n : Nat} {xs : List V} (h : HasL Tryz.prog n 4 xs) : ∃ b : Bool, xs = [.bool b] := h.bool Tryz.knd4
theorem hasU16 {n : Nat} {xs : List V} (h : HasL Tryz.prog n 64 xs) : ∃ i : Nat, xs = [.int .u16 i] ∧ i < 65536 := by
 obtain ⟨i, rfl, hw⟩ := h.int Tryz.knd64
 simp [Lit.wf, IntKind.min, IntKind.max, IntKind.signed, IntKind.bits] at hw
 exact ⟨i.toNat, by congr 2; omega, by omega⟩
theorem hasFlt {n : Nat} {xs : List V} (h : HasL Tryz.prog (n + 1) 66 xs) : ∃ f : Int × Int, .agg xs = fltV f ∧ inR f := by
 obtain ⟨x, y, rfl⟩ := len2 (h.len.trans Tryz.tsz66)
 have h0 := h.fld Tryz.knd66 Tryz.fld66_0
 have h1 := h.fld Tryz.knd66 Tryz.fld66_1
 rw [Tryz.tsz3] at h0 h1
 obtain ⟨a, ha, ra⟩ := hasI h0
 obtain ⟨b, hb, rb⟩ := hasI h1
 simp at ha hb
 subst ha hb
 exact ⟨(a, b), rfl, ra, rb⟩
theorem hasFlts {n : Nat} {xs : List V} (h : HasL Tryz.prog (n + 2) 31 xs) : ∃ l : List (Int × Int), xs = [.sl 2 (l.map fltV)] ∧ (∀ f, f ∈ l → inR f) := by
 obtain ⟨l, h, hl⟩ := HasL.slice (r := fun x : {f : Int × Int // inR f} => fltV x.1) Tryz.knd31 h fun ys hy => by
   obtain ⟨f, hf, hr⟩ := hasFlt hy
   exact ⟨⟨f, hr⟩, by rw [elV_agg Tryz.tagg66]; exact hf⟩
 rw [Tryz.tsz66] at h
 refine ⟨l.map (·.1), by rw [h, List.map_map]; rfl, fun f hf => ?_⟩
 obtain ⟨y, _, rfl⟩ := List.mem_map.1 hf
 exact y.2
theorem hasLim {n : Nat} {xs : List V} (h : HasL Tryz.prog (n + 1) 111 xs) : ∃ m : Lim, .agg xs = limV m := by
 obtain ⟨x, y, z, u, rfl⟩ := len4 (h.len.trans Tryz.tsz111)
 have h0 := h.fld Tryz.knd111 Tryz.fld111_0
 have h1 := h.fld Tryz.knd111 Tryz.fld111_1
 have h2 := h.fld Tryz.knd111 Tryz.fld111_2
 have h3 := h.fld Tryz.knd111 Tryz.fld111_3
 rw [Tryz.tsz3] at h0 h1
 rw [Tryz.tsz2] at h2 h3
 obtain ⟨a, ha, _⟩ := hasI h0
 obtain ⟨b, hb, _⟩ := hasI h1
 obtain ⟨c, hc⟩ := hasJ h2
 obtain ⟨d, hd⟩ := hasJ h3
 simp at ha hb hc hd
 subst ha hb hc hd
 exact ⟨⟨a, b, c, d⟩, rfl⟩
theorem hasLims {n : Nat} {xs : List V} (h : HasL Tryz.prog (n + 2) 22 xs) : ∃ l : List Lim, xs = [.sl 4 (l.map limV)] := by
 obtain ⟨l, h, hl⟩ := HasL.slice (r := limV) Tryz.knd22 h fun ys hy => by
   obtain ⟨f, hf⟩ := hasLim hy
   exact ⟨f, by rw [elV_agg Tryz.tagg111]; exact hf⟩
 rw [Tryz.tsz111] at h
 exact ⟨l, h⟩
theorem hasEv {n : Nat} {xs : List V} (h : HasL Tryz.prog (n + 1) 69 xs) : ∃ e : Ex, .agg xs = exV e ∧ NE e := by
 obtain ⟨x0, x1, x2, x3, x4, x5, x6, x7, rfl⟩ := len8 (h.len.trans Tryz.tsz69)
 have h0 := h.fld Tryz.knd69 Tryz.fld69_0
 have h1 := h.fld Tryz.knd69 Tryz.fld69_1
 have h2 := h.fld Tryz.knd69 Tryz.fld69_2
 have h3 := h.fld Tryz.knd69 Tryz.fld69_3
 have h4 := h.fld Tryz.knd69 Tryz.fld69_4
 have h5 := h.fld Tryz.knd69 Tryz.fld69_5
 have h6 := h.fld Tryz.knd69 Tryz.fld69_6
 have h7 := h.fld Tryz.knd69 Tryz.fld69_7
 rw [Tryz.tsz3] at h0 h1
 rw [Tryz.tsz2] at h2 h3 h4 h5 h6
 rw [Tryz.tsz4] at h7
 obtain ⟨a0, e0, _⟩ := hasI h0
 obtain ⟨a1, e1, _⟩ := hasI h1
 obtain ⟨a2, e2⟩ := hasJ h2
 obtain ⟨a3, e3⟩ := hasJ h3
 obtain ⟨a4, e4⟩ := hasJ h4
 obtain ⟨a5, e5⟩ := hasJ h5
 obtain ⟨a6, e6⟩ := hasJ h6
 obtain ⟨a7, e7⟩ := hasB h7
 simp at e0 e1 e2 e3 e4 e5 e6 e7
 subst e0 e1 e2 e3 e4 e5 e6 e7
 exact ⟨⟨⟨a0, a1.toNat, a2, a3, a4, a5, a6, a7⟩, a1⟩, rfl, rfl⟩
theorem hasEvs {n : Nat} {xs : List V} (h : HasL Tryz.prog (n + 2) 23 xs) : ∃ l : List Ex, xs = [.sl 8 (l.map exV)] ∧ (∀ e, e ∈ l → NE e) := by
 obtain ⟨l, h, hl⟩ := HasL.slice (r := fun x : {e : Ex // NE e} => exV x.1) Tryz.knd23 h fun ys hy => by
   obtain ⟨f, hf, hr⟩ := hasEv hy
   exact ⟨⟨f, hr⟩, by rw [elV_agg Tryz.tagg69]; exact hf⟩
 rw [Tryz.tsz69] at h
 refine ⟨l.map (·.1), by rw [h, List.map_map]; rfl, fun f hf => ?_⟩
 obtain ⟨y, _, rfl⟩ := List.mem_map.1 hf
 exact y.2
theorem hasLog {n : Nat} {xs : List V} (h : HasL Tryz.prog (n + 3) 25 xs) : ∃ (L : List Lim) (most : Int) (l : List Ex),   .agg xs = logV L most l ∧ (∀ e, e ∈ l → NE e) := by
 obtain ⟨x, y, z, rfl⟩ := len3 (h.len.trans Tryz.tsz25)
 have h0 := h.fld Tryz.knd25 Tryz.fld25_0
 have h1 := h.fld Tryz.knd25 Tryz.fld25_1
 have h2 := h.fld Tryz.knd25 Tryz.fld25_2
 rw [Tryz.tsz22] at h0
 rw [Tryz.tsz3] at h1
 rw [Tryz.tsz23] at h2
 obtain ⟨L, hL⟩ := hasLims h0
 obtain ⟨m, hm, _⟩ := hasI h1
 obtain ⟨l, hl, hn⟩ := hasEvs h2
 simp at hL hm hl
 subst hL hm hl
 exact ⟨L, m, l, rfl, hn⟩
theorem tabIs_of_laid {P : Program} {W : World} {name : String} {k : IntKind} {zs : List Int} {g : Nat} {t e : TypeId} {n : Nat}
   (hg : P.globalNamed name = some g) (hty : (P.globals[g]?).map (·.type) = some t) (ht : P.underlying t = some (.array n e)) (he : P.underlying e = some (.int k)) (hce : P.cellsOf e = 1) (hct : P.cellsOf t = n) :
   ∀ (laid : List (String × DataW Unit)) (ps : List MemPlace), (name, Lib.tabData k zs) ∈ laid → DataW.LaidVars P W laid ps → Lib.TabIs P W name k zs
 | [], _, hm, _ => by simp at hm
 | (n', d') :: r, ps, hm, h => by
   obtain ⟨g', t', cs, fuel, p, q, hg', ht', hvar, hd, hr, _⟩ := h
   rcases List.mem_cons.1 hm with e1 | e1
   · injection e1 with e1 e2
     subst e1 e2
     obtain rfl := Option.some.inj (hg.symm.trans hg')
     obtain rfl := Option.some.inj (hty.symm.trans ht')
     unfold Lib.TabIs
     rw [hvar, ← Lib.cells_of_tab ht he hce hct hd]
   · exact tabIs_of_laid hg hty ht he hce hct r q e1 hr
def debT : List Int := [0, 1, 56, 2, 57, 49, 28, 3, 61, 58, 42, 50, 38, 29, 17, 4, 62, 47, 59, 36, 45, 43, 51, 22, 53, 39, 33, 30, 24, 18, 12, 5, 63, 55, 48, 27, 60, 41, 37, 16, 46, 35, 44, 21, 52, 32, 23, 11, 54, 26, 40, 15, 34, 20, 31, 10, 25, 14, 19, 9, 13, 8, 7, 6]
theorem deb_data : (Rows.laid_math_bits_deBruijn64tab : DataW Unit) = Lib.tabData .u8 debT := by kernel_rfl
theorem pow_data : (Rows.laid_internal_strconv_uint64pow10 : DataW Unit) = Lib.tabData .u64 Lib.pow10Tab := by kernel_rfl
theorem sp_data : (Rows.laid_strings_asciiSpace : DataW Unit) = Lib.tabData .u8 Lib.asciiSpaceTab := by kernel_rfl
theorem beT3_n {g1 g2 g3 : Nat} : ∀ b, 4 ≤ b → beT3 g1 g2 g3 b = none := fun b hb => by unfold beT3; rw [if_neg (by omega), if_neg (by omega), if_neg (by omega), if_neg (by omega)]
theorem gl_laid {laid : List (String × DataW Unit)} (h1 : ("math/bits.deBruijn64tab", (Rows.laid_math_bits_deBruijn64tab : DataW Unit)) ∈ laid) (h2 : ("internal/strconv.uint64pow10", (Rows.laid_internal_strconv_uint64pow10 : DataW Unit)) ∈ laid) (h0 : ("strings.asciiSpace", (Rows.laid_strings_asciiSpace : DataW Unit)) ∈ laid)
   (hp : (laid.all fun x => x.2.handleName?.isNone) = true) {W : World} (h : laidMetH Tryz.prog laid W) : GlOk Tryz.prog (beT3 2 4 0) W (FzAll W) := by
 rw [MakeChecks.laidMetH_plain _ _ _ hp] at h
 obtain ⟨ps, h3, _⟩ := h
 rw [deb_data] at h1
 rw [pow_data] at h2
 rw [sp_data] at h0
 exact gl_three (by kernel_rfl) (by kernel_rfl) (by kernel_rfl)
   (tabIs_of_laid (g := 2) (t := 275) (e := 255) (n := 20) (by kernel_rfl) (by kernel_rfl) (by kernel_rfl) (by kernel_rfl) (by kernel_rfl) (by kernel_rfl) laid ps h2 h3)
   (tabIs_of_laid (g := 4) (t := 288) (e := 5) (n := 64) (by kernel_rfl) (by kernel_rfl) (by kernel_rfl) (by kernel_rfl) (by kernel_rfl) (by kernel_rfl) laid ps h1 h3)
   (tabIs_of_laid (g := 0) (t := 166) (e := 5) (n := 256) (by kernel_rfl) (by kernel_rfl) (by kernel_rfl) (by kernel_rfl) (by kernel_rfl) (by kernel_rfl) laid ps h0 h3)
end Go.Proofs.YtiogeggilnhajaaGreatDoor

set_option linter.unusedVariables false
set_option linter.unusedSimpArgs false
set_option maxRecDepth 100000
namespace Go.Proofs
open Go Go.Pl
theorem tw_stop {p : Int × Int → Bool} : ∀ (A : List (Int × Int)) (h : (A.takeWhile p).length < A.length), p (A[(A.takeWhile p).length]) = false
 | [], h => by simp at h
 | a :: A, h => by
   by_cases h0 : p a = true
   · have e : (a :: A).takeWhile p = a :: A.takeWhile p := List.takeWhile_cons_of_pos h0
     simp only [e, List.length_cons] at h ⊢
     exact tw_stop A (by omega)
   · have e : (a :: A).takeWhile p = [] := List.takeWhile_cons_of_neg h0
     simp only [e, List.length_nil]
     simpa using h0
theorem tw_mem {p : Int × Int → Bool} {x : Int × Int} : ∀ (A : List (Int × Int)), x ∈ A.takeWhile p → p x = true
 | [], h => by simp at h
 | a :: A, h => by
   by_cases h0 : p a = true
   · rw [List.takeWhile_cons_of_pos h0] at h
     rcases List.mem_cons.1 h with rfl | h
     · exact h0
     · exact tw_mem A h
   · rw [List.takeWhile_cons_of_neg h0] at h; simp at h
set_option maxHeartbeats 2000000 in
theorem Tryz.alike_i (B A : List (Int × Int)) (t : Int) (hA : A.length ≤ 1000000) (bx : Boxes) : PureCall Tryz.prog 29 [.sl 2 (B.map fltV), .sl 2 (A.map fltV), .int .i64 t] bx (.bool (alikeI B A t)) := by
 refine Tryz.ctr29 fun hf => ?_
 obtain ⟨G, hG⟩ : ∃ G, (A.takeWhile fun f => f.2 == (A.headD (0, 0)).2) = G := ⟨_, rfl⟩
 have hGl : G.length ≤ A.length := by rw [← hG]; exact (List.takeWhile_sublist _).length_le
 have hGe : G = A.take G.length := by
   rw [← hG]
   exact List.prefix_iff_eq_take.1 (List.takeWhile_prefix _)
 have hal : alikeI B A t = decide (B = G.map fun f => (f.1, t)) := by unfold alikeI; rw [hG]
 rw [hal]
 have hgj : ∀ j, j < G.length → G[j]? = A[j]? := fun j hj => by
   have h2 : (A.take G.length)[j]? = A[j]? := by rw [List.getElem?_take, if_pos hj]
   rw [← h2, ← hGe]
 have hin : ∀ j (hj : j < A.length), j < G.length → A[j].2 = (A.headD (0, 0)).2 := fun j hj hjG => by
   have h1 := hgj j hjG
   rw [List.getElem?_eq_getElem hj] at h1
   have h2 : A[j] ∈ A.takeWhile fun f => f.2 == (A.headD (0, 0)).2 := by rw [hG]; exact List.mem_of_getElem? h1
   simpa using tw_mem A h2
 have hstop : ∀ (h : G.length < A.length), ¬ A[G.length].2 = (A.headD (0, 0)).2 := fun h => by
   have := tw_stop (p := fun f => f.2 == (A.headD (0, 0)).2) A (by rw [hG]; exact h)
   simp only [hG] at this
   simpa using this
 have hA0 : ∀ (h : 0 < A.length), (A.headD (0, 0)).2 = A[0].2 := fun h => by cases A with
   | nil => simp at h
   | cons a A => rfl
 simp [go_sem, Tryz.C29, hf]
 refine pw_upto G.length (fun k => ⟨57, slk [(0, .sl 2 (B.map fltV)), (1, .sl 2 (A.map fltV)), (2, .int .i64 t), (7, .int .i64 k)], bx⟩) (cov_look (by simp [go_sem])) (fun k hk N hN => ?_) (fun N => ?_)
 · have hkA : k < A.length := by omega
   have h0A : 0 < A.length := by omega
   have hw := wr_succ (k := k) (by omega)
   have hh := (hin k hkA hk).trans (hA0 h0A)
   simp [go_sem, Tryz.L29_0, hf, hkA, h0A, fltV, iI, hh, hw]
   exact hN _ (cov_look (by simp [go_sem]))
 · by_cases hGA : G.length < A.length
   rotate_left
   simp [go_sem, Tryz.L29_0, hf, hGA, fltV, iI]
   rotate_left
   have h0A : 0 < A.length := by omega
   have hh := hstop hGA
   rw [hA0 h0A] at hh
   simp [go_sem, Tryz.L29_0, hf, hGA, h0A, fltV, iI, hh]
   all_goals
     refine ⟨fun hne => ?_, fun heq => ?_⟩
     · have hz : decide (B = G.map fun f => (f.1, t)) = false := by
         rw [decide_eq_false_iff_not]; intro h; apply hne; rw [h, List.length_map]
       exact ret_pure (by simp [go_sem]) ⟨by simp [go_sem, hz], rfl⟩
     · have hBG : B.length = G.length := by omega
       refine pw_find B.length (fun i => B.getD i (0, 0) != ((A.getD i (0, 0)).1, t)) (fun i => ⟨57, slk [(0, .sl 2 (B.map fltV)), (1, .sl 2 (A.map fltV)), (2, .int .i64 t), (8, .int .i64 i)], bx⟩) (cov_look (by simp [go_sem])) (fun i hi hJ N hN => ?_) (fun hJ N => ?_)
       · have hiA : i < A.length := by omega
         have hw := wr_succ (k := i) (by omega)
         have g1 : B.getD i (0, 0) = B[i] := by simp [hi]
         have g2 : A.getD i (0, 0) = A[i] := by simp [hiA]
         rw [g1, g2] at hN
         have hGi := hgj i (by omega)
         rw [List.getElem?_eq_getElem hiA] at hGi
         have hbad : B[i] ≠ (A[i].1, t) → decide (B = G.map fun f => (f.1, t)) = false := fun h => by
           rw [decide_eq_false_iff_not]
           intro he
           have h2 : B[i]? = some (A[i].1, t) := by rw [he, List.getElem?_map, hGi]; rfl
           rw [List.getElem?_eq_getElem hi] at h2
           injection h2 with h2
           exact h h2
         by_cases e2 : B[i].2 = t
         · by_cases e1 : B[i].1 = A[i].1
           · simp [go_sem, Tryz.L29_1, hf, hi, hiA, hw, fltV, iI, e1, e2]
             exact hN _ (by simp [← e1, ← e2]) (cov_look (by simp [go_sem]))
           · have hz := hbad fun h => e1 (by rw [h])
             simp [go_sem, Tryz.L29_1, hf, hi, hiA, hw, fltV, iI, e1, e2]
             exact ret_pure (by simp [go_sem]) ⟨by simp [go_sem, hz], rfl⟩
         · have hz := hbad fun h => e2 (by rw [h])
           simp [go_sem, Tryz.L29_1, hf, hi, hiA, hw, fltV, iI, e2]
           exact ret_pure (by simp [go_sem]) ⟨by simp [go_sem, hz], rfl⟩
       · have hz : decide (B = G.map fun f => (f.1, t)) = true := by
           rw [decide_eq_true_eq]
           apply List.ext_getElem?
           intro i
           by_cases hi : i < B.length
           · have hiA : i < A.length := by omega
             have h1 := hJ i hi
             have hGi := hgj i (by omega)
             rw [List.getElem?_eq_getElem hiA] at hGi
             rw [List.getElem?_map, hGi, List.getElem?_eq_getElem hi]
             simpa [hi, hiA] using h1
           · rw [List.getElem?_eq_none (by omega), List.getElem?_eq_none (by rw [List.length_map]; omega)]
         simp [go_sem, Tryz.L29_1, hf]
         exact ret_pure (by simp [go_sem]) ⟨by simp [go_sem, hz], rfl⟩
set_option maxHeartbeats 4000000 in
theorem Tryz.law_Short (L : List Lim) (most : Int) (l : List Ex) (hne : ∀ e, e ∈ l → NE e) (bx : Boxes) : PureCall Tryz.prog 9 [logV L most l] bx (.bool true) := by
 refine Tryz.ctrx9 fun hf => ?_
 have cA := fun bx' => Tryz.awake_i bx'
 have cf := fun bx' => Tryz.far_i L most l 70 bx'
 simp [go_sem, Tryz.Cx9, hf, logV]
 refine callK_pure (cf _) ?_
 cases hfar : farI L l 70
 rotate_left
 · simp [go_sem, hf]
   refine callK_pure (cA _) ?_
   simp [go_sem, hf]
   exact ret_pure (by simp [go_sem]) ⟨by simp [go_sem], rfl⟩
 obtain ⟨f1, f2, f3⟩ := far_len hfar
 have cF := fun bx' => Tryz.Find_p L most l (by omega) (by omega) hne bx'
 have cC := fun bx' => Tryz.Cut_i L most l (by omega) (by omega) hne bx'
 simp [go_sem, hf, iI]
 refine callK_pure (cC _) ?_
 by_cases hck : (checkI L most l).2 = 0
 rotate_left
 · have hf0 : findI L most l = ([], (checkI L most l).2) := by unfold findI; rw [if_neg hck]
   have hz : cutI L most l = ([], (checkI L most l).2) := by unfold cutI; rw [if_pos hck]
   rw [hf0] at cF
   rw [hz]
   have hcv : cutV L most ([], (checkI L most l).2) = .agg [.nils, .int .i64 0, .nils] := by unfold cutV; rw [if_neg hck]; rfl
   rw [hcv]
   simp [go_sem, hf, iI]
   intro b hb
   rw [upd_noneX hb]
   refine callK_pure (cF _) ?_
   simp [go_sem, hf, iI, hck]
   refine gK_pure (cA _) (by simp) (by simp [go_sem]) ?_
   simp [go_sem, hf]
   exact ret_pure (by simp [go_sem]) ⟨by simp [go_sem], rfl⟩
 rw [find_flt hck] at cF
 cases hfl : fltI L most l with
 | nil =>
   have hz : cutI L most l = ([], 4) := by unfold cutI; rw [if_neg (by simpa using hck), hfl]
   rw [hz, show cutV L most ([], 4) = .agg [.nils, .int .i64 0, .nils] from rfl]
   rw [hfl] at cF
   simp [go_sem, hf, iI]
   intro b hb
   rw [upd_noneX hb]
   refine callK_pure (cF _) ?_
   simp [go_sem, hf, iI]
   refine gK_pure (cA _) (by simp) (by simp [go_sem]) ?_
   simp [go_sem, hf]
   exact ret_pure (by simp [go_sem]) ⟨by simp [go_sem], rfl⟩
 | cons f t =>
   by_cases h60 : 60 ≤ f.2
   · have hz : cutI L most l = ([], 3) := by unfold cutI; rw [if_neg (by simpa using hck), hfl]; dsimp only; rw [if_pos h60]
     rw [hz, show cutV L most ([], 3) = .agg [.nils, .int .i64 0, .nils] from rfl]
     rw [hfl] at cF
     have hg : ¬ ((t.length : Int) + 1 = 0) := by omega
     have hg2 : (0 : Int) < (t.length : Int) + 1 := by omega
     simp [go_sem, hf, iI]
     intro b hb
     rw [upd_noneX hb]
     refine callK_pure (cF _) ?_
     simp [go_sem, hf, iI, fltV, h60, hg, hg2]
     refine gK_pure (cA _) (by simp) (by simp [go_sem]) ?_
     simp [go_sem, hf]
     exact ret_pure (by simp [go_sem]) ⟨by simp [go_sem], rfl⟩
   have hz : cutI L most l = (cutR L most (l.take (f.2.toNat + 1)), 0) := by unfold cutI; rw [if_neg (by simpa using hck), hfl]; dsimp only; rw [if_neg h60]
   obtain ⟨R, hR⟩ : ∃ R, cutR L most (l.take (f.2.toNat + 1)) = R := ⟨_, rfl⟩
   have hS := cut_short hck hfl R hR
   rw [hz, hR, show cutV L most (R, 0) = .agg [.sl 4 (L.map limV), .int .i64 most, .sl 8 (R.map exV)] from rfl]
   obtain ⟨s1, s2, s3, s4, s5, s6, s7, s8, s9⟩ := hS
   have cG := fun bx' => Tryz.Find_p L most R (by omega) (by omega) (fun e he => by
     have hsub : R.Sublist (l.take (f.2.toNat + 1)) := by
       rw [← hR]
       unfold cutR
       have hl1 : 1 ≤ (l.take (f.2.toNat + 1)).length := by rw [List.length_take]; omega
       exact (loopC_ok _ _ _ hl1 (Nat.le_refl _)).sub
     exact hne e (List.mem_of_mem_take (hsub.subset he))) bx'
   rw [find_flt s6] at cG
   have hRne : ∀ e, e ∈ R → NE e := fun e he => by
     have hsub : R.Sublist (l.take (f.2.toNat + 1)) := by
       rw [← hR]
       unfold cutR
       have hl1 : 1 ≤ (l.take (f.2.toNat + 1)).length := by rw [List.length_take]; omega
       exact (loopC_ok _ _ _ hl1 (Nat.le_refl _)).sub
     exact hne e (List.mem_of_mem_take (hsub.subset he))
   obtain ⟨m, hm⟩ : ∃ m : Nat, f.2 = m := ⟨f.2.toNat, by omega⟩
   rw [show f.2.toNat = m by omega] at s5
   have hml : m < l.length := by omega
   obtain ⟨k, hk⟩ : ∃ k, R.length = k + 1 := ⟨R.length - 1, by omega⟩
   have hRk : R[k]? = some l[m] := by
     rw [List.getLast?_eq_getElem?, hk, Nat.add_sub_cancel] at s5
     rw [s5, List.getElem?_eq_getElem hml]
   have hB5 : (fltI L most R).length ≤ 5 * R.length := (runI_good (beg_good L most R) R.length).flt
   have hA5 : (fltI L most l).length ≤ 5 * l.length := (runI_good (beg_good L most l) l.length).flt
   have cK := fun (B : List (Int × Int)) (u : Int) bx' => Tryz.alike_i B (fltI L most l) u (by omega) bx'
   have hBne : fltI L most R ≠ [] := s7
   clear hR hz hck cC hfar cf s5
   rw [hfl] at cF cK s8 s9
   generalize fltI L most R = B at *
   obtain ⟨g, u, rfl⟩ : ∃ g u, B = g :: u := by cases B with
     | nil => exact absurd rfl hBne
     | cons g u => exact ⟨g, u, rfl⟩
   have hg : ¬ ((t.length : Int) + 1 = 0) := by omega
   have hg1 : ¬ ((u.length : Int) + 1 = 0) := by omega
   have hwk : IntKind.i64.wrap ((R.length : Int) - 1) = (k : Int) := by rw [wr64 (by omega)]; omega
   have hn0 : ¬ ((R.length : Int) = 0) := by omega
   have hnl : ¬ ((l.length : Int) < (R.length : Int)) := by omega
   have hm1 : ¬ ((m : Int) < 0) := by omega
   have hm2 : ¬ ((l.length : Int) ≤ (m : Int)) := by omega
   have hkR : k < R.length := by omega
   have hRk2 : R[k] = l[m] := by rw [List.getElem?_eq_getElem hkR] at hRk; injection hRk
   have hRn : ¬ R = [] := by intro h; rw [h] at hk; simp at hk
   have h8 : 8 ≤ (exV l[m]).cells.length := Nat.le_refl 8
   have hce : cellsEq [Knd.int IntKind.i64, Knd.int IntKind.i64, Knd.int IntKind.i64, Knd.int IntKind.i64, Knd.int IntKind.i64, Knd.int IntKind.i64, Knd.int IntKind.i64, Knd.bool] (List.take 8 (exV l[m]).cells) (List.take 8 (exV l[m]).cells) = some true := by simp [cellsEq, cellEq, exV, evW, iI, V.cells]
   obtain ⟨fk, fe⟩ := f
   dsimp only at hm
   subst hm
   have eF : V.agg [V.int .i64 fk, V.int .i64 m] :: t.map fltV = ((fk, (m : Int)) :: t).map fltV := rfl
   have eG : V.agg [V.int .i64 g.1, V.int .i64 g.2] :: u.map fltV = (g :: u).map fltV := rfl
   simp [go_sem, hf, iI]
   intro b hb
   rw [upd_noneX hb]
   refine callK_pure (cF _) ?_
   simp [go_sem, hf, iI]
   refine callK_pure (cG _) ?_
   simp [go_sem, hf, iI, fltV, hg, hg1, hwk, hn0, hnl, hm1, hm2, hkR, hml, hRk2, hRn, hce, h8]
   rw [eF, eG]
   have s8' := s8
   rw [show (R.length : Int) - 1 = (k : Int) by omega] at s8'
   have cK1 := cK (g :: u) (k : Int) bx
   rw [s8'] at cK1
   refine callK_pure cK1 ?_
   simp [go_sem, hf, iI]
   refine pw_for (ι := Boxes) k (fun i bx2 => FinB bx2 ∧ Ext bx bx2) (fun i bx2 => ⟨184, slk [(3, .ep (.agg [.sl 4 (L.map limV), .int .i64 most, .sl 8 (R.map exV)]) 0), (5, .sl 2 (((fk, (m : Int)) :: t).map fltV)), (9, .int .i64 R.length), (10, .int .i64 i)], bx2⟩) bx ⟨hf, Ext.refl _⟩ (cov_look (by simp [go_sem])) (fun i bx2 hi hJ N hN => ?_) (fun bx2 hJ N => ?_)
   · obtain ⟨hf2, hx2⟩ := hJ
     have hwi := wr_succ (k := i) (by omega)
     have hik : (i : Int) < (k : Int) := by omega
     obtain ⟨z1, z2⟩ := s9 i (by omega)
     have hiR : i ≤ R.length := by omega
     have hiR1 : i + 1 ≤ R.length := by omega
     simp [go_sem, Tryz.Lx9_0, hf2, hwk, hik, iI, hwi, hiR, hiR1]
     intro b0 h0 b1 h1
     have n01 : b0 ≠ b1 := by rintro rfl; simp [upd_eq] at h1
     have h10 : bx2 b1 = none := by rwa [upd_ne _ _ n01.symm] at h1
     have h00 : bx b0 = none := hx2.none h0
     have h11 : bx b1 = none := hx2.none h10
     rw [← List.map_take]
     obtain ⟨bx3, hbx3⟩ : ∃ bx3, upd (upd bx2 b0 (some (Box.row 25 3 [V.agg [V.sl 4 (L.map limV), V.int .i64 most, V.sl 8 (R.map exV)]]))) b1 (some (Box.row 69 8 [])) = bx3 := ⟨_, rfl⟩
     have ho : OwnV bx3 69 8 [] (.own b1 8 0 0) := .inr ⟨b1, rfl, by rw [← hbx3, upd_eq]⟩
     have hnv : NewV bx (.own b1 8 0 0) := fun b sz o m e => by injection e with e; rw [← e]; exact h11
     have hf3 : FinB bx3 := by rw [← hbx3]; exact (finB_upd _ _ _).2 ((finB_upd _ _ _).2 hf2)
     have hx3 : Ext bx bx3 := by rw [← hbx3]; exact (hx2.upd_own h00 _).upd_own h11 _
     have r0 : bx3 b0 = some (Box.row 25 3 [V.agg [V.sl 4 (L.map limV), V.int .i64 most, V.sl 8 (R.map exV)]]) := by rw [← hbx3, upd_ne _ _ n01, upd_eq]
     rw [hbx3]
     clear hbx3 h1 h10
     refine own_app (.agg #[.int .i64 0, .int .i64 0, .int .i64 0, .int .i64 0, .int .i64 0, .int .i64 0, .int .i64 0, .bool false]) ho hf3 (news := (R.take i).map exV) Tryz.knd23 Tryz.tsz69 (by simp [srcEls]) Tryz.tzero69 (by simp [go_sem]) (by decide) (by simp [Tryz.tby69]; omega) (by simp; omega) (by simp [go_sem]) fun v4 bx4 ha4 hm4 _ => ?_
     obtain ⟨x4, n4⟩ := hm4.base hx3 hnv
     have q0 := (hm4.other (by rw [r0]; simp) (fun sz o m e => by injection e with e; exact n01 e.symm)).trans r0
     have hf4 := hm4.fin
     clear ho hnv hm4 r0 hf3 hx3
     rw [List.nil_append] at ha4
     simp [go_sem, hf4, ha4.strip, ha4.live, ha4.cells, ha4.okV, hwi, hiR1]
     have htk : (R.map exV).take R.length = R.map exV := List.take_of_length_le (by simp)
     refine ⟨by omega, ?_⟩
     rw [htk, ← List.map_drop]
     have nv0 := ha4.ne q0 (by decide)
     refine own_app (.agg #[.int .i64 0, .int .i64 0, .int .i64 0, .int .i64 0, .int .i64 0, .int .i64 0, .int .i64 0, .bool false]) ha4 hf4 (news := (R.drop (i + 1)).map exV) Tryz.knd23 Tryz.tsz69 (by simp [srcEls]) Tryz.tzero69 (by simp [go_sem]) (by decide) (by simp [Tryz.tby69]; omega) (by simp; omega) (by simp [go_sem]) fun v5 bx5 ha5 hm5 _ => ?_
     obtain ⟨x5, n5⟩ := hm5.base x4 n4
     have u0 := (hm5.other (by rw [q0]; simp) nv0).trans q0
     have hf5 := hm5.fin
     rw [← List.map_append, show R.take i ++ R.drop (i + 1) = dropAt R i from rfl] at ha5
     clear ha4 hm5 q0 nv0 n4 x4 hf4
     simp [go_sem, hf5, ha5.strip, ha5.live, ha5.cells, ha5.okV, u0, upd_eq, finB_upd]
     have cD := fun bx' => Tryz.Find_p L most (dropAt R i) (by omega) (by rw [dropAt_len (by omega)]; omega) (fun e he => hRne e ((dropAt_sub R i).subset he)) bx'
     rw [find_flt z1] at cD
     have ha6 := ha5.put u0 (by decide) (some (Box.row 25 3 [V.agg [V.sl 4 (L.map limV), V.int .i64 most, v5]]))
     have hx6 : Ext bx (upd bx5 b0 (some (Box.row 25 3 [V.agg [V.sl 4 (L.map limV), V.int .i64 most, v5]]))) := x5.upd_own h00 _
     generalize upd bx5 b0 (some (Box.row 25 3 [V.agg [V.sl 4 (L.map limV), V.int .i64 most, v5]])) = BX at ha6 hx6 ⊢
     have e5 : Wk (frz BX bx 1 v5) (.sl 8 ((dropAt R i).map exV)) := by
       rcases ha6 with ⟨h0, rfl⟩ | ⟨b3, rfl, hb3⟩
       · rw [h0]; exact wk_nils 8
       · rw [frz_own1 hb3 (n5 _ _ _ _ rfl) (by decide) rfl]; exact Wk.refl _
     have hfz : Wk (frz BX bx 2 (.agg [.sl 4 (L.map limV), .int .i64 most, v5])) (logV L most (dropAt R i)) := by
       rw [show frz BX bx 2 (.agg [.sl 4 (L.map limV), .int .i64 most, v5]) = .agg [.sl 4 (L.map limV), .int .i64 most, frz BX bx 1 v5] from rfl]
       refine wk_aggL rfl fun i c d hc hd => ?_
       rcases i with _ | _ | _ | i
       · injection hc with hc; injection hd with hd; rw [← hc, ← hd]; exact Wk.refl _
       · injection hc with hc; injection hd with hd; rw [← hc, ← hd]; exact Wk.refl _
       · injection hc with hc; injection hd with hd; rw [← hc, ← hd]; exact e5
       · cases hc
     have cD2 := AbsCall.cov (args := [.agg [.sl 4 (L.map limV), .int .i64 most, v5]]) (args' := [logV L most (dropAt R i)]) hx6 rfl (fun j c c' hc hc' => by
       rcases j with _ | j
       · injection hc with hc; injection hc' with hc'; rw [← hc, ← hc']; exact .inr ⟨2, hfz⟩
       · cases hc) (cD bx)
     refine callK_abs cD2 ?_
     rintro r bx7 ⟨rfl, rfl⟩
     have hwm : IntKind.i64.wrap ((R.length : Int) - 2) = (R.length : Int) - 2 := wr64 (by omega)
     have cL := fun bx' => cK (fltI L most (dropAt R i)) ((R.length : Int) - 2) bx'
     rw [z2] at cL
     simp [go_sem, hf, iI, hwm]
     refine gK_pure (cL _) (by simp) (by simp [go_sem]) ?_
     simp [go_sem, hf, iI, hwi]
     exact hN _ bx7 ⟨hf, Ext.refl _⟩ (cov_look (by simp [go_sem]))
   · obtain ⟨hf2, hx2⟩ := hJ
     simp [go_sem, Tryz.Lx9_0, hf2, hwk, iI]
     refine callK_pure (cA _) ?_
     simp [go_sem, hf2]
     exact ret_drop (by simp [go_sem]) hx2 ⟨by simp [go_sem], rfl⟩
end Go.Proofs


