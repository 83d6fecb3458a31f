/- Texts of the proof, put together: DG, DQ. -/
import Derived.Test.YtfibpdlpnbnooaaGreatDoorGk

set_option linter.unusedVariables false
set_option linter.unusedSimpArgs false
set_option maxRecDepth 100000
namespace Go.Proofs
open Go Go.Pl
theorem cs0 : csV st0 = .agg [.int .i64 0, .str [], .str [], .int .i64 0, .nils] := rfl
theorem Tryz.rCheck0_c (bx : Boxes) : PureCall Tryz.prog 37 [csV st0] bx (.int .i64 0) := by
 refine Tryz.ctr37 fun hf => ?_
 rw [cs0]
 simp [go_sem, Tryz.C37, hf]
 intro b hb
 have hfb : FinB (upd bx b (some (.row 44 5 [.agg [.int .i64 0, .str [], .str [], .int .i64 0, .nils]]))) := (finB_upd _ _ _).2 hf
 refine pw_upto 0 (fun _ => ⟨145, slk [(1, .ep (.agg [.int .i64 0, .str [], .str [], .int .i64 0, .nils]) 0), (3, .bool true), (4, .ptr b 5 0 0), (5, .int .i64 0)], upd bx b (some (.row 44 5 [.agg [.int .i64 0, .str [], .str [], .int .i64 0, .nils]]))⟩) (cov_look (by simp [go_sem])) (fun k hk => absurd hk (by omega)) (fun N => ?_)
 simp [go_sem, Tryz.L37_0, hfb]
 exact ret_drop (by simp [go_sem]) ((Ext.refl _).new hb _) ⟨by simp [go_sem], rfl⟩
def feedV (R : CS × Nat × Int) : V := .tup [if R.2.2 = 0 then csV R.1 else csV st0, .int .i64 R.2.1, .int .i64 R.2.2]
structure FJ (b : List UInt8) (R : CS × Nat × Int) (k : Nat) (s : CS) : Prop where
 lb : k ≤ b.length
 inv : Inv s
 eq : runC s k (b.drop k) = R
theorem Tryz.rFeed_c (b : List UInt8) (hbl : b.length ≤ 100000) (bx : Boxes) : PureCall Tryz.prog 21 [csV st0, .sl 1 (b.map byteV)] bx (feedV (runC st0 0 b)) := by
 refine Tryz.ctr21 fun hf => ?_
 simp [go_sem, Tryz.C21, hf]
 rw [cs0]
 simp [go_sem, hf]
 intro b4 hb4
 have hf4 : FinB (upd bx b4 (some (.row 44 5 [.agg [.int .i64 0, .str [], .str [], .int .i64 0, .nils]]))) := (finB_upd _ _ _).2 hf
 have cC := Tryz.rCheck0_c (upd bx b4 (some (.row 44 5 [.agg [.int .i64 0, .str [], .str [], .int .i64 0, .nils]])))
 rw [cs0] at cC
 refine callK_pure cC ?_
 simp [go_sem, hf4]
 intro b8 hb8
 obtain ⟨n1, n2⟩ := new_ne hb8
 refine pw_for (ι := CS) b.length (fun k s => FJ b (runC st0 0 b) k s) (fun k s => ⟨44, slk [(1, .sl 1 (b.map byteV)), (2, .ep (csV st0) 0), (4, .ptr b4 5 0 0), (8, .ptr b8 5 0 0), (9, .int .i64 k)], upd (upd bx b4 (some (.row 44 5 [csV st0]))) b8 (some (.row 44 5 [csV s]))⟩) st0 ⟨Nat.zero_le _, inv0, by simp⟩ ?_ (fun k s hk hJ N hN => ?_) (fun s hJ N => ?_)
 · rw [cs0]
   exact cov_look (by simp [go_sem])
 · have hw := wr_succ (k := k) (by omega)
   have hfb : FinB (upd (upd bx b4 (some (.row 44 5 [csV st0]))) b8 (some (.row 44 5 [csV s]))) := by simp [finB_upd, hf]
   have hR := hJ.eq
   rw [run_at hk] at hR
   rw [cs0] at hfb ⊢
   by_cases h4 : s.ph = 4
   · have h4' : (s.ph : Int) = 4 := by omega
     rw [if_pos h4] at hR
     rw [← hR]
     unfold csV at hfb ⊢
     simp [go_sem, Tryz.L21_0, hk, upd_eq, upd_ne, n1, Ne.symm n1, hfb, h4']
     exact ret_drop (by simp [go_sem, upd_eq, upd_ne, n1, Ne.symm n1]) (ext_new2 hb4 n2 fun d k1 k2 => by simp [upd_ne, k1, k2]) ⟨by simp [go_sem, upd_eq, upd_ne, n1, Ne.symm n1, feedV, csV, h4], rfl⟩
   · have h4' : ¬ (s.ph : Int) = 4 := by omega
     rw [if_neg h4] at hR
     have cS := Tryz.rstep_c s b[k] hJ.inv h4
     have hin := step_inv (c := b[k]) hJ.inv h4
     unfold stV at cS
     generalize stepC s b[k] = p at *
     obtain ⟨s', e⟩ := p
     dsimp only at hR cS hin
     unfold csV at hfb cS ⊢
     simp [go_sem, Tryz.L21_0, hk, upd_eq, upd_ne, n1, Ne.symm n1, hfb, h4', byteV]
     refine callK_pure (cS _) ?_
     by_cases he : e = 0
     · subst he
       rw [if_neg (by simp)] at hR
       simp [go_sem, hfb, finB_upd, hf, upd_eq, upd_ne, n1, Ne.symm n1, hw]
       exact hN _ s' ⟨hk, hin rfl, hR⟩ (cov_look (by simp [go_sem, csV, st0, trV]))
     · rw [if_pos he] at hR
       rw [← hR]
       simp [go_sem, hfb, finB_upd, hf, upd_eq, upd_ne, n1, Ne.symm n1, hw, he]
       exact ret_drop (by simp [go_sem, upd_eq, upd_ne, n1, Ne.symm n1]) (ext_new2 hb4 n2 fun d k1 k2 => by simp [upd_ne, k1, k2]) ⟨by simp [go_sem, upd_eq, upd_ne, n1, Ne.symm n1, feedV, cs0, he], rfl⟩
 · have hfb : FinB (upd (upd bx b4 (some (.row 44 5 [csV st0]))) b8 (some (.row 44 5 [csV s]))) := by simp [finB_upd, hf]
   have hR := hJ.eq
   rw [List.drop_length, runC] at hR
   rw [← hR]
   unfold csV at hfb ⊢
   simp [go_sem, Tryz.L21_0, upd_eq, upd_ne, n1, Ne.symm n1, hfb]
   exact ret_drop (by simp [go_sem, upd_eq, upd_ne, n1, Ne.symm n1]) (ext_new2 hb4 n2 fun d k1 k2 => by simp [upd_ne, k1, k2]) ⟨by simp [go_sem, upd_eq, upd_ne, n1, Ne.symm n1, feedV, csV], rfl⟩
theorem run_inv : ∀ (b : List UInt8) (s : CS) (n : Nat), Inv s → (runC s n b).2.2 = 0 → Inv (runC s n b).1
 | [], s, n, h, _ => h
 | c :: b, s, n, h, h0 => by
   rw [runC] at h0 ⊢
   by_cases h4 : s.ph = 4
   · rw [if_pos h4]; exact h
   rw [if_neg h4] at h0 ⊢
   by_cases he : (stepC s c).2 ≠ 0
   · rw [if_pos he] at h0; exact absurd h0 he
   rw [if_neg he] at h0 ⊢
   exact run_inv b _ _ (step_inv h h4 (Decidable.not_not.1 he)) h0
theorem Tryz.rDecode_c (b : List UInt8) (hbl : b.length ≤ 100000) (bx : Boxes) : PureCall Tryz.prog 8 [.sl 1 (b.map byteV)] bx (decV (decF b)) := by
 refine PureCall.wk (Tryz.ctr8 fun hf => ?_)
 have cF := Tryz.rFeed_c b hbl bx
 unfold decF
 have hri := run_inv b st0 0 inv0
 generalize runC st0 0 b = R at *
 obtain ⟨s, n, e⟩ := R
 unfold feedV at cF
 dsimp only at cF hri ⊢
 have e0 (e : Int) : Wk (.tup [.nils, .nils, .int .i64 0, .int .i64 e]) (decV ([], [], 0, e)) := by
   refine wk_tupL rfl fun i x y hx hy => ?_
   match i with
   | 0 => simp at hx hy; subst hx hy; exact wk_nils 1
   | 1 => simp at hx hy; subst hx hy; exact wk_nils 2
   | 2 => simp at hx hy; subst hx hy; exact Wk.refl _
   | 3 => simp at hx hy; subst hx hy; exact Wk.refl _
   | i + 4 => simp at hx
 simp [go_sem, Tryz.C8, hf]
 rw [cs0] at cF
 refine callK_pure cF ?_
 by_cases he : e = 0
 · subst he
   unfold csV
   by_cases h4 : s.ph = 4
   · have h4' : (s.ph : Int) = 4 := by omega
     simp [go_sem, hf, h4, h4']
     intro b6 hb6
     rw [upd_self hb6]
     have hd := (hri rfl).d
     refine ⟨by omega, ret_wk0 (by simp [go_sem]) (by simp [go_sem, decV, trV, h4]; exact Wk.refl _)⟩
   · have h4' : ¬ (s.ph : Int) = 4 := by omega
     simp [go_sem, hf, h4, h4']
     intro b6 hb6
     rw [upd_self hb6]
     exact ret_wk0 (by simp [go_sem]) (by simp only [go_sem]; exact e0 10)
 · simp [go_sem, hf, he]
   intro b6 hb6
   rw [upd_self hb6]
   exact ret_wk0 (by simp [go_sem]) (by simp only [go_sem]; exact e0 e)
end Go.Proofs

set_option linter.unusedVariables false
set_option linter.unusedSimpArgs false
set_option maxRecDepth 100000
namespace Go.Proofs
open Go Go.Pl Go.RowKit Go.Shelf
theorem RD.at {bx0 bx : Boxes} {br : Nat} {s : CS} {fo si : Int} (h : RD bx0 br s fo si bx) : ∃ dv lv, bx br = some (rdB s fo si dv lv) := by
 obtain ⟨bx2, dv, lv, h1, h2, h3⟩ := h.ex
 exact ⟨dv, lv, by rw [h2.ext br (by rw [h1.at]; simp), h1.at]⟩
structure IJ (bx0 : Boxes) (br : Nat) (b : List UInt8) (R : CS × Nat × Int) (k : Nat) (s : CS) (bx : Boxes) : Prop where
 j : FJ b R k s
 rs : RS bx0 br s bx
theorem extB {bx bx3 : Boxes} {b4 : Nat} {Y : Box} (hb : bx b4 = none) (hx : Ext (upd bx b4 (some Y)) bx3) (y : Option Box) : Ext bx (upd bx3 b4 y) := fun c hc => by
 have hne : c ≠ b4 := fun e => hc (by rw [e]; exact hb)
 rw [upd_ne _ _ hne, hx c (by rw [upd_ne _ _ hne]; exact hc), upd_ne _ _ hne]
set_option maxHeartbeats 4000000 in
theorem Tryz.Feed_c {bx : Boxes} (hm : Mk bx) (b : List UInt8) (hbl : b.length ≤ 100000) : PureCall Tryz.prog 19 [csV st0, .sl 1 (b.map byteV)] bx (feedV (runC st0 0 b)) := by
 refine Tryz.ctr19 fun hf => ?_
 have e0 : csV st0 = .agg [.int .i64 0, .str [], .str [], .int .i64 0, .nils] := rfl
 rw [e0]
 simp [go_sem, Tryz.C19, hf]
 intro b4 hb4
 have hX : ∀ y, Ext bx (upd bx b4 y) := fun y => (Ext.refl _).new hb4 y
 have cO := Tryz.open_c (upd bx b4 (some (.row 44 5 [.agg [.int .i64 0, .str [], .str [], .int .i64 0, .nils]])))
 rw [e0] at cO
 refine callK_abs cO ?_
 rintro r bx1 ⟨br, rfl, hrs⟩
 simp [go_sem, hrs.fin]
 intro b9 hb9
 rw [upd_self hb9]
 have hmA := mk_ext hm (hX (some (.row 44 5 [.agg [.int .i64 0, .str [], .str [], .int .i64 0, .nils]])))
 refine pw_for (ι := CS × Boxes) b.length (fun k i => IJ (upd bx b4 (some (.row 44 5 [.agg [.int .i64 0, .str [], .str [], .int .i64 0, .nils]]))) br b (runC st0 0 b) k i.1 i.2) (fun k i => ⟨65, slk [(1, .sl 1 (b.map byteV)), (2, .ep (.agg [.int .i64 0, .str [], .str [], .int .i64 0, .nils]) 0), (4, .ptr b4 5 0 0), (7, .ptr br 9 0 0), (9, .ep (.agg [V.fn (Fn.yield 32) [V.ptr br 9 0 0], V.fn (Fn.yield 33) [V.ptr br 9 0 0], V.fn (Fn.yield 34) [V.ptr br 9 0 0], V.fn (Fn.yield 35) [V.ptr br 9 0 0]]) 0), (31, .sl 1 (b.map byteV)), (32, .int .i64 b.length), (33, .int .i64 k)], i.2⟩) (st0, bx1) ⟨⟨Nat.zero_le _, inv0, by simp⟩, hrs⟩ (cov_look (by simp [go_sem])) (fun k i hk hJ N hN => ?_) (fun i hJ N => ?_)
 · obtain ⟨s, bx2⟩ := i
   dsimp only at hJ hN ⊢
   have hw := wr_succ (k := k) (by omega)
   have hfb := hJ.rs.fin
   have hR := hJ.j.eq
   have hI := hJ.j.inv
   rw [run_at hk] at hR
   obtain ⟨dv, lv, hbr⟩ := hJ.rs.at
   have h4x := hJ.rs.ext b4 (by rw [upd_eq]; simp)
   rw [upd_eq] at h4x
   unfold rdB at hbr
   by_cases h4 : s.ph = 4
   · have h4' : (s.ph : Int) = 4 := by omega
     rw [h4'] at hbr
     rw [if_pos h4] at hR
     rw [← hR]
     simp [go_sem, Tryz.L19_0, hk, hfb, hbr, byteV]
     refine callK_abs (Tryz.state_c hJ.rs) ?_
     rintro r bx3 ⟨rfl, hx⟩
     have h43 := hx b4 (by rw [upd_eq]; simp)
     rw [upd_eq] at h43
     unfold csV
     simp [go_sem, h43, upd_eq]
     exact ret_drop (by simp [go_sem, upd_eq]) (extB hb4 hx _) ⟨by simp [go_sem, upd_eq, feedV, csV], rfl⟩
   · rw [if_neg h4] at hR
     have hin := step_inv (c := b[k]) hI h4
     have hph : s.ph = 0 ∨ s.ph = 1 ∨ s.ph = 2 ∨ s.ph = 3 := by have := hI.ph; omega
     rcases hph with h0 | h0 | h0 | h0
     · have h0I : (s.ph : Int) = 0 := by omega
       rw [h0I] at hbr
       have cS := Tryz.inSize_c hmA b[k] hJ.rs hI h0
       simp [go_sem, Tryz.L19_0, hk, hfb, hbr, byteV]
       refine callK_abs cS ?_
       rintro r bx3 ⟨rfl, hx1, hx2⟩
       generalize stepC s b[k] = p at *
       obtain ⟨s', e⟩ := p
       dsimp only at hR hin hx2 ⊢
       have h43 := hx1 b4 (by rw [upd_eq]; simp)
       rw [upd_eq] at h43
       by_cases he : e = 0
       · subst he
         rw [if_neg (by simp)] at hR
         simp [go_sem, hw, (hx2 rfl).fin]
         exact hN _ (s', bx3) ⟨⟨hk, hin rfl, hR⟩, hx2 rfl⟩ (cov_look (by simp [go_sem]))
       · rw [if_pos he] at hR
         rw [← hR]
         simp [go_sem, hw, he, h43, upd_eq]
         exact ret_drop (by simp [go_sem, upd_eq]) (extB hb4 hx1 _) ⟨by simp [go_sem, upd_eq, feedV, e0, he], rfl⟩
     · have h0I : (s.ph : Int) = 1 := by omega
       rw [h0I] at hbr
       have cS := Tryz.inData_c b[k] hJ.rs hI h0
       simp [go_sem, Tryz.L19_0, hk, hfb, hbr, byteV]
       refine callK_abs cS ?_
       rintro r bx3 ⟨rfl, hx1, hx2⟩
       generalize stepC s b[k] = p at *
       obtain ⟨s', e⟩ := p
       dsimp only at hR hin hx2 ⊢
       have h43 := hx1 b4 (by rw [upd_eq]; simp)
       rw [upd_eq] at h43
       by_cases he : e = 0
       · subst he
         rw [if_neg (by simp)] at hR
         simp [go_sem, hw, (hx2 rfl).fin]
         exact hN _ (s', bx3) ⟨⟨hk, hin rfl, hR⟩, hx2 rfl⟩ (cov_look (by simp [go_sem]))
       · rw [if_pos he] at hR
         rw [← hR]
         simp [go_sem, hw, he, h43, upd_eq]
         exact ret_drop (by simp [go_sem, upd_eq]) (extB hb4 hx1 _) ⟨by simp [go_sem, upd_eq, feedV, e0, he], rfl⟩
     · have h0I : (s.ph : Int) = 2 := by omega
       rw [h0I] at hbr
       have cS := Tryz.inEnd_c b[k] hJ.rs hI h0
       simp [go_sem, Tryz.L19_0, hk, hfb, hbr, byteV]
       refine callK_abs cS ?_
       rintro r bx3 ⟨rfl, hx1, hx2⟩
       generalize stepC s b[k] = p at *
       obtain ⟨s', e⟩ := p
       dsimp only at hR hin hx2 ⊢
       have h43 := hx1 b4 (by rw [upd_eq]; simp)
       rw [upd_eq] at h43
       by_cases he : e = 0
       · subst he
         rw [if_neg (by simp)] at hR
         simp [go_sem, hw, (hx2 rfl).fin]
         exact hN _ (s', bx3) ⟨⟨hk, hin rfl, hR⟩, hx2 rfl⟩ (cov_look (by simp [go_sem]))
       · rw [if_pos he] at hR
         rw [← hR]
         simp [go_sem, hw, he, h43, upd_eq]
         exact ret_drop (by simp [go_sem, upd_eq]) (extB hb4 hx1 _) ⟨by simp [go_sem, upd_eq, feedV, e0, he], rfl⟩
     · have h0I : (s.ph : Int) = 3 := by omega
       rw [h0I] at hbr
       have cS := Tryz.inTrailer_c hmA b[k] hJ.rs hI h0
       simp [go_sem, Tryz.L19_0, hk, hfb, hbr, byteV]
       refine callK_abs cS ?_
       rintro r bx3 ⟨rfl, hx1, hx2⟩
       generalize stepC s b[k] = p at *
       obtain ⟨s', e⟩ := p
       dsimp only at hR hin hx2 ⊢
       have h43 := hx1 b4 (by rw [upd_eq]; simp)
       rw [upd_eq] at h43
       by_cases he : e = 0
       · subst he
         rw [if_neg (by simp)] at hR
         simp [go_sem, hw, (hx2 rfl).fin]
         exact hN _ (s', bx3) ⟨⟨hk, hin rfl, hR⟩, hx2 rfl⟩ (cov_look (by simp [go_sem]))
       · rw [if_pos he] at hR
         rw [← hR]
         simp [go_sem, hw, he, h43, upd_eq]
         exact ret_drop (by simp [go_sem, upd_eq]) (extB hb4 hx1 _) ⟨by simp [go_sem, upd_eq, feedV, e0, he], rfl⟩
 · obtain ⟨s, bx2⟩ := i
   dsimp only at hJ ⊢
   have hfb := hJ.rs.fin
   have hR := hJ.j.eq
   rw [List.drop_length, runC] at hR
   rw [← hR]
   simp [go_sem, Tryz.L19_0, hfb]
   refine callK_abs (Tryz.state_c hJ.rs) ?_
   rintro r bx3 ⟨rfl, hx⟩
   have h43 := hx b4 (by rw [upd_eq]; simp)
   rw [upd_eq] at h43
   unfold csV
   simp [go_sem, h43, upd_eq]
   exact ret_drop (by simp [go_sem, upd_eq]) (extB hb4 hx _) ⟨by simp [go_sem, upd_eq, feedV, csV], rfl⟩
theorem Tryz.Decode_c {bx : Boxes} (hm : Mk bx) (b : List UInt8) (hbl : b.length ≤ 100000) : PureCall Tryz.prog 7 [.sl 1 (b.map byteV)] bx (decV (decF b)) := by
 refine PureCall.wk (Tryz.ctr7 fun hf => ?_)
 have cF := Tryz.Feed_c hm b hbl
 unfold decF
 have hri := run_inv b st0 0 inv0
 generalize runC st0 0 b = R at *
 obtain ⟨s, n, e⟩ := R
 unfold feedV at cF
 dsimp only at cF hri ⊢
 have e0 (e : Int) : Wk (.tup [.nils, .nils, .int .i64 0, .int .i64 e]) (decV ([], [], 0, e)) := by
   refine wk_tupL rfl fun i x y hx hy => ?_
   match i with
   | 0 => simp at hx hy; subst hx hy; exact wk_nils 1
   | 1 => simp at hx hy; subst hx hy; exact wk_nils 2
   | 2 => simp at hx hy; subst hx hy; exact Wk.refl _
   | 3 => simp at hx hy; subst hx hy; exact Wk.refl _
   | i + 4 => simp at hx
 simp [go_sem, Tryz.C7, hf]
 refine callK_pure (Tryz.Start_c bx) ?_
 simp [go_sem, hf]
 rw [cs0] at cF ⊢
 simp [go_sem, hf]
 refine callK_pure cF ?_
 by_cases he : e = 0
 · subst he
   unfold csV
   by_cases h4 : s.ph = 4
   · have h4' : (s.ph : Int) = 4 := by omega
     simp [go_sem, hf, h4, h4']
     intro b6 hb6
     rw [upd_self hb6]
     have hd := (hri rfl).d
     refine ⟨by omega, ret_wk0 (by simp [go_sem]) (by simp [go_sem, decV, trV, h4]; exact Wk.refl _)⟩
   · have h4' : ¬ (s.ph : Int) = 4 := by omega
     simp [go_sem, hf, h4, h4']
     intro b6 hb6
     rw [upd_self hb6]
     exact ret_wk0 (by simp [go_sem]) (by simp only [go_sem]; exact e0 10)
 · simp [go_sem, hf, he]
   intro b6 hb6
   rw [upd_self hb6]
   exact ret_wk0 (by simp [go_sem]) (by simp only [go_sem]; exact e0 e)
end Go.Proofs
