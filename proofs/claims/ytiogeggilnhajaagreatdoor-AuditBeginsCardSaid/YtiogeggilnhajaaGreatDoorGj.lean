/- Texts of the proof, put together: UP, VS, VT, VU, VV, VW, VX, VY, XA, XD, XC, XE, XF, XG, XH. -/
import Derived.Test.YtiogeggilnhajaaGreatDoorGi
import Derived.Test.YtiogeggilnhajaaGreatDoorGe
import Derived.Deep.RegionLaw
import Derived.Below
import Derived.Test.YtiogeggilnhajaaGreatDoorGh
import Derived.Shelf.Strings.Builder1
import Derived.Shelf.RegionOpenPlain
import Derived.Shelf.Strings.Fields
import Derived.Shelf.Strconv.Itoa4
import Derived.Lib.ItoaLen

set_option linter.unusedSimpArgs false
set_option linter.unusedVariables false
set_option maxRecDepth 100000
namespace Go.Proofs
open Go Go.Pl
def VE (nb : Nat) (e : Ex) : Prop := 1 ≤ e.ev.kind ∧ e.ev.kind ≤ 19 ∧ (2 ≤ e.ev.kind → e.ev.kind ≤ 16 → e.b = e.ev.bk ∧ e.ev.bk < nb)
structure Gd (l : List Ex) (L : List Lim) (k : Nat) (w : RW) : Prop where
 evs : w.evs = l
 lims : w.lims = L
 len : w.bks.length = L.length
 flt : w.flt.length ≤ 5 * k
 cns : w.cns.length ≤ k
 rqs : w.rqs.length ≤ k
 que : ∀ b, b ∈ w.bks → b.waits.length ≤ k ∧ b.dials.length ≤ k
 beg : Beg w
theorem Gd.ev {l : List Ex} {L : List Lim} {k : Nat} {w : RW} (h : Gd l L k w) (i : Int) : Gd l L k { w with ev := i } := ⟨h.evs, h.lims, h.len, h.flt, h.cns, h.rqs, h.que, ⟨h.beg.c, h.beg.d, h.beg.q⟩⟩
end Go.Proofs

set_option linter.unusedSimpArgs false
set_option linter.unusedVariables false
set_option maxRecDepth 100000
namespace Go.Proofs
open Go Go.Pl
def begI (L : List Lim) (most : Int) (l : List Ex) : IW := ⟨L, most, l, 0, 0, List.replicate L.length ib0, [], [], [], [], [], false, []⟩
def stepX (s : IW) (k : Nat) (x : Ev) : IW := let s0 : IW := { s with at_ := (k : Int) }; postI s.flt.length (stepI (preI s0 x) x)
def runI (s : IW) (l : List Ex) : Nat → IW
 | 0 => s
 | k + 1 => match l[k]? with
   | some e => stepX (runI s l k) k e.ev
   | none => runI s l k
structure GI (l : List Ex) (L : List Lim) (k : Nat) (s : IW) : Prop where
 evs : s.evs = l
 lims : s.lims = L
 len : s.bks.length = L.length
 flt : s.flt.length ≤ 5 * k
 cns : s.cns.length ≤ k
 wts : ∀ b, b ∈ s.bks → b.waits.length ≤ k
 inv : InvI s
theorem Tryz.step_i {bx0 bx : Boxes} {ad : Adr} {s : IW} (h : WI bx0 ad s bx) {p : Nat} (hp : ad .w = some p) (e : Ex) (hv : VE s.bks.length e) (hL : s.lims.length = s.bks.length) (hb : s.bks.length ≤ 1000) (hf : s.flt.length ≤ 50000) (ho : s.ord.length ≤ 50000) (hw : ∀ b, b ∈ s.bks → b.waits.length ≤ 50000) (hi : InvI s) :
   AbsCall Tryz.prog (68 + e.ev.kind.toNat) [.ptr p 13 0 0, evW e.ev e.b] bx (StepI bx0 ad (stepI s e.ev)) := by
 obtain ⟨h1, h2, h3⟩ := hv
 have hV : 2 ≤ e.ev.kind → e.ev.kind ≤ 16 → evW e.ev e.b = evV e.ev ∧ e.ev.bk < s.bks.length ∧ e.ev.bk < s.lims.length := fun a b => by
   obtain ⟨q1, q2⟩ := h3 a b
   exact ⟨by rw [q1]; rfl, q2, by omega⟩
 have hwb : ∀ (hx : e.ev.bk < s.bks.length), s.bks[e.ev.bk].waits.length ≤ 50000 := fun hx => hw _ (List.getElem_mem hx)
 have hfd : ∀ i, ownI s e.ev = some i → ∃ j, lkI s.rqs e.ev.call = some j := fun i ho => Option.isSome_iff_exists.1 ((lkI_iff _ _).2 (own_mem ho hi))
 obtain ⟨n, hn⟩ : ∃ n : Nat, e.ev.kind = n := ⟨e.ev.kind.toNat, by omega⟩
 have ht : e.ev.kind.toNat = n := by omega
 unfold stepI
 rw [ht]
 have h16 : 2 ≤ n → n ≤ 16 → evW e.ev e.b = evV e.ev ∧ e.ev.bk < s.bks.length ∧ e.ev.bk < s.lims.length := fun a b => hV (by omega) (by omega)
 rcases (show n = 1 ∨ n = 2 ∨ n = 3 ∨ n = 4 ∨ n = 5 ∨ n = 6 ∨ n = 7 ∨ n = 8 ∨ n = 9 ∨ n = 10 ∨ n = 11 ∨ n = 12 ∨ n = 13 ∨ n = 14 ∨ n = 15 ∨ n = 16 ∨ n = 17 ∨ n = 18 ∨ n = 19 by omega) with rfl | rfl | rfl | rfl | rfl | rfl | rfl | rfl | rfl | rfl | rfl | rfl | rfl | rfl | rfl | rfl | rfl | rfl | rfl
 · exact Tryz.begin_i h hp e.ev e.b
 · obtain ⟨e1, x1, x2⟩ := h16 (by decide) (by decide); rw [e1]; exact Tryz.pick_i h hp e.ev x1 (by omega)
 · obtain ⟨e1, x1, x2⟩ := h16 (by decide) (by decide); rw [e1]; exact Tryz.wait_i h hp e.ev x1 x2 (by omega) (by have := hwb x1; omega)
 · obtain ⟨e1, x1, x2⟩ := h16 (by decide) (by decide); rw [e1]; exact Tryz.leave_i h hp e.ev x1 (by have := hwb x1; omega)
 · obtain ⟨e1, x1, x2⟩ := h16 (by decide) (by decide); rw [e1]; exact Tryz.dial_i h hp e.ev x1 x2 (by omega) (by have := hwb x1; omega)
 · obtain ⟨e1, x1, x2⟩ := h16 (by decide) (by decide); rw [e1]; exact Tryz.refused_i h hp e.ev x1
 · obtain ⟨e1, x1, x2⟩ := h16 (by decide) (by decide); rw [e1]; exact Tryz.open_i h hp e.ev x1 (by omega)
 · obtain ⟨e1, x1, x2⟩ := h16 (by decide) (by decide); rw [e1]; exact Tryz.lease_i h hp e.ev x1 x2 (by omega) (by have := hwb x1; omega)
 · obtain ⟨e1, x1, x2⟩ := h16 (by decide) (by decide); rw [e1]; exact Tryz.send_i h hp e.ev (by omega) hfd
 · obtain ⟨e1, x1, x2⟩ := h16 (by decide) (by decide); rw [e1]; exact Tryz.read_i h hp e.ev (by omega)
 · obtain ⟨e1, x1, x2⟩ := h16 (by decide) (by decide); rw [e1]; exact Tryz.free_i h hp e.ev
 · obtain ⟨e1, x1, x2⟩ := h16 (by decide) (by decide); rw [e1]; exact Tryz.idle_i h hp e.ev (by omega)
 · obtain ⟨e1, x1, x2⟩ := h16 (by decide) (by decide); rw [e1]; exact Tryz.close_i h hp e.ev x1 (by omega)
 · obtain ⟨e1, x1, x2⟩ := h16 (by decide) (by decide); rw [e1]; exact Tryz.mark_i h hp e.ev x1
 · obtain ⟨e1, x1, x2⟩ := h16 (by decide) (by decide); rw [e1]; exact Tryz.trip_i h hp e.ev x1
 · obtain ⟨e1, x1, x2⟩ := h16 (by decide) (by decide); rw [e1]; exact Tryz.report_i h hp e.ev x1
 · exact Tryz.end_i h hp e.ev e.b
 · exact Tryz.stop_i h hp e.ev e.b
 · exact Tryz.over_i h hp e.ev e.b (by omega) hb
theorem pre_ci (s : IW) (x : Ev) : CI [12] 0 0 s (preI s x) := by
 have h := CI.faultIf s (decide (x.t < s.now)) 12
 unfold preI
 generalize s.faultIf (decide (x.t < s.now)) 12 = s1 at *
 exact ⟨h.evs, h.lims, h.most, h.at_, h.len, h.cns, h.wts, fun hi => ⟨(h.inv hi).ord, (h.inv hi).nod, (h.inv hi).beg, (h.inv hi).bsy⟩, h.flt⟩
theorem stepX_ci (s : IW) (k : Nat) (x : Ev) (hi : InvI s) : ∃ E : List Int, E.Nodup ∧ (∀ k, k ∈ E → 1 ≤ k ∧ k ≤ 13) ∧ E.length ≤ 5 ∧ (stepX s k x).flt = s.flt ++ srtF (E.map fun q => (q, (k : Int))) ∧ InvI (stepX s k x) ∧ (stepX s k x).evs = s.evs ∧ (stepX s k x).lims = s.lims ∧ (stepX s k x).most = s.most ∧ (stepX s k x).bks.length = s.bks.length ∧ (stepX s k x).cns.length ≤ s.cns.length + 1 ∧ (∀ m, (∀ b, b ∈ s.bks → b.waits.length ≤ m) → ∀ b, b ∈ (stepX s k x).bks → b.waits.length ≤ m + 1) := by
 obtain ⟨s0, hs0⟩ : ∃ s0 : IW, ({ s with at_ := (k : Int) } : IW) = s0 := ⟨_, rfl⟩
 have hi0 : InvI s0 := by rw [← hs0]; exact ⟨hi.ord, hi.nod, hi.beg, hi.bsy⟩
 have h1 := pre_ci s0 x
 have hi1 := h1.inv hi0
 obtain ⟨l2, ⟨hl1, hl2, hl3⟩, h2⟩ := step_ci (preI s0 x) x hi1
 have h3 := CI.faultIf (stepI (preI s0 x) x).1 (!(stepI (preI s0 x) x).2) 13
 have hh := (h1.trans h2).trans h3
 have hs : stepX s k x = { (stepI (preI s0 x) x).1.faultIf (!(stepI (preI s0 x) x).2) 13 with flt := ((stepI (preI s0 x) x).1.faultIf (!(stepI (preI s0 x) x).2) 13).flt.take s.flt.length ++ srtF (((stepI (preI s0 x) x).1.faultIf (!(stepI (preI s0 x) x).2) 13).flt.drop s.flt.length) } := by
   rw [← hs0]; rfl
 rw [hs]
 generalize (stepI (preI s0 x) x).1.faultIf (!(stepI (preI s0 x) x).2) 13 = s3 at *
 obtain ⟨E, hE, hsub⟩ := hh.flt
 have e0 : s0.flt = s.flt ∧ s0.at_ = (k : Int) ∧ s0.evs = s.evs ∧ s0.lims = s.lims ∧ s0.bks = s.bks ∧ s0.cns = s.cns ∧ s0.most = s.most := by rw [← hs0]; exact ⟨rfl, rfl, rfl, rfl, rfl, rfl, rfl⟩
 obtain ⟨f1, f2, f3, f4, f5, f6, f7⟩ := e0
 have hnd : ([12] ++ l2 ++ [13]).Nodup := by
   rw [List.nodup_append, List.nodup_append]
   refine ⟨⟨by simp, hl1, fun a ha b hb => ?_⟩, by simp, fun a ha b hb => ?_⟩
   · simp at ha; have := hl2 b hb; omega
   · simp at hb
     rcases List.mem_append.1 ha with ha | ha
     · simp at ha; omega
     · have := hl2 a ha; omega
 have hlen := hsub.length_le
 simp at hlen
 refine ⟨E, hsub.nodup hnd, fun q hq => ?_, by omega, ?_, ?_, by dsimp only; rw [hh.evs, f3], by dsimp only; rw [hh.lims, f4], by dsimp only; rw [hh.most, f7], by dsimp only; rw [hh.len, f5], by dsimp only; have := hh.cns; rw [f6] at this; omega, fun m hm b hb => ?_⟩
 · have := hsub.subset hq
   rcases List.mem_append.1 this with h | h
   · rcases List.mem_append.1 h with h | h
     · simp at h; omega
     · have := hl2 q h; omega
   · simp at h; omega
 · dsimp only
   rw [hE, f1, f2]
   rw [List.take_left' rfl, List.drop_left' rfl]
 · have := hh.inv hi0
   exact ⟨this.ord, this.nod, this.beg, this.bsy⟩
 · have := hh.wts m (by rw [f5]; exact hm) b hb
   omega
theorem stepX_good {l : List Ex} {L : List Lim} {k : Nat} {s : IW} (h : GI l L k s) (i : Nat) (x : Ev) : GI l L (k + 1) (stepX s i x) := by
 obtain ⟨E, e1, e2, e3, e4, e5, e6, e7, e8, e9, e10, e11⟩ := stepX_ci s i x h.inv
 refine ⟨e6.trans h.evs, e7.trans h.lims, e9.trans h.len, ?_, by have := h.cns; omega, fun b hb => by have := e11 k h.wts b hb; omega, e5⟩
 rw [e4, List.length_append, srtF_len, List.length_map]
 have := h.flt
 omega
theorem runI_good {l : List Ex} {L : List Lim} {s : IW} (h : GI l L 0 s) : ∀ k, GI l L k (runI s l k)
 | 0 => h
 | k + 1 => by
   have ih := runI_good h k
   unfold runI
   split
   · exact stepX_good ih k _
   · exact ⟨ih.evs, ih.lims, ih.len, by have := ih.flt; omega, by have := ih.cns; omega, fun b hb => by have := ih.wts b hb; omega, ih.inv⟩
theorem beg_good (L : List Lim) (most : Int) (l : List Ex) : GI l L 0 (begI L most l) := by
 refine ⟨rfl, rfl, by simp [begI], by simp [begI], by simp [begI], fun b hb => ?_, ⟨rfl, List.nodup_nil, fun c hc => by simp [begI] at hc, fun q hq => by simp [begI] at hq⟩⟩
 have := (List.mem_replicate.1 hb).2
 rw [this]
 exact Nat.le_refl _
end Go.Proofs

set_option linter.unusedSimpArgs false
set_option linter.unusedVariables false
set_option maxRecDepth 100000
namespace Go.Proofs
open Go Go.Pl
def adB (b bc br bm bw p : Nat) : Adr := fun c => match c with
 | .w => some p
 | .bks => some b
 | .mc => some bc
 | .mr => some br
 | .mb => some bm
 | .mw => some bw
 | _ => none
theorem begin_wi {bx : Boxes} (hf : FinB bx) (L : List Lim) (most : Int) (l : List Ex) {b bc br bm bw p : Nat} (h1 : bx b = none) (h2 : bx bc = none) (h3 : bx br = none) (h4 : bx bm = none) (h5 : bx bw = none) (h6 : bx p = none)
   (d1 : bc ≠ b) (d2 : br ≠ b ∧ br ≠ bc) (d3 : bm ≠ b ∧ bm ≠ bc ∧ bm ≠ br) (d4 : bw ≠ b ∧ bw ≠ bc ∧ bw ≠ br ∧ bw ≠ bm) (d5 : p ≠ b ∧ p ≠ bc ∧ p ≠ br ∧ p ≠ bm ∧ p ≠ bw) :
   WI bx (adB b bc br bm bw p) (begI L most l) (upd (upd (upd (upd (upd (upd bx b (some (.row 194 6 (List.replicate L.length (ibV .nils ib0))))) bc (some (.map []))) br (some (.map []))) bm (some (.map []))) bw (some (.map []))) p (some (.row 94 13 [.agg [.sl 4 (L.map limV), iI most, .sl 8 (l.map exV), iI 0, iI 0, .own b 6 0 L.length, .mp bc, .nils, .mp br, .mp bm, .mp bw, .bool false, .nils]]))) := by
 refine ⟨?_, ?_, fun c x hc => ?_, fun c hc ho => ?_, fun c c' x hc hc' => ?_⟩
 · repeat' apply (finB_upd _ _ _).2
   exact hf
 · exact ((((((Ext.refl bx).upd_own h1 _).upd_own h2 _).upd_own h3 _).upd_own h4 _).upd_own h5 _).upd_own h6 _
 · have hrep : (List.replicate L.length ib0).mapIdx (ibW (adB b bc br bm bw p)) = List.replicate L.length (ibV .nils ib0) := by
     apply List.ext_getElem?
     intro j
     rw [List.getElem?_mapIdx, List.getElem?_replicate, List.getElem?_replicate]
     split <;> rfl
   cases c <;> simp only [adB, Option.some.injEq, reduceCtorEq] at hc
   · subst hc; exact ⟨h6, by rw [upd_eq]; simp [cont, iwV, stV, begI, adB, slV, adr], trivial⟩
   · subst hc
     refine ⟨h1, ?_, trivial⟩
     rw [upd_ne _ _ (Ne.symm d5.1), upd_ne _ _ (Ne.symm d4.1), upd_ne _ _ (Ne.symm d3.1), upd_ne _ _ (Ne.symm d2.1), upd_ne _ _ (Ne.symm d1), upd_eq]
     show _ = some (Box.row _ 6 ((List.replicate L.length ib0).mapIdx _))
     rw [hrep]
   · subst hc
     refine ⟨h2, ?_, trivial⟩
     rw [upd_ne _ _ (Ne.symm d5.2.1), upd_ne _ _ (Ne.symm d4.2.1), upd_ne _ _ (Ne.symm d3.2.1), upd_ne _ _ (Ne.symm d2.2), upd_eq]
     rfl
   · subst hc
     refine ⟨h3, ?_, trivial⟩
     rw [upd_ne _ _ (Ne.symm d5.2.2.1), upd_ne _ _ (Ne.symm d4.2.2.1), upd_ne _ _ (Ne.symm d3.2.2), upd_eq]
     rfl
   · subst hc
     refine ⟨h4, ?_, trivial⟩
     rw [upd_ne _ _ (Ne.symm d5.2.2.2.1), upd_ne _ _ (Ne.symm d4.2.2.2), upd_eq]
     rfl
   · subst hc
     refine ⟨h5, ?_, trivial⟩
     rw [upd_ne _ _ (Ne.symm d5.2.2.2.2), upd_eq]
     rfl
 · cases c <;> simp only [adB, reduceCtorEq] at hc
   · rfl
   · rfl
   · rename_i i
     show ((List.replicate L.length ib0).getD i ib0).waits = []
     rw [List.getD_eq_getElem?_getD, List.getElem?_replicate]
     split <;> rfl
   · exact absurd ho (Nat.not_lt_zero _)
   · exact absurd ho (Nat.not_lt_zero _)
 · cases c <;> cases c' <;> simp only [adB, Option.some.injEq, reduceCtorEq] at hc hc' <;> first | rfl | (exfalso; subst hc; simp_all)
set_option maxHeartbeats 1000000 in
theorem Tryz.run_i (L : List Lim) (most : Int) (l : List Ex) (hL : L.length ≤ 1000) (hl : l.length ≤ 2000) (hv : ∀ e, e ∈ l → VE L.length e) (bx : Boxes) : AbsCall Tryz.prog 38 [logV L most l] bx fun r bx' => ∃ p ad, r = .ptr p 13 0 0 ∧ ad .w = some p ∧ WI bx ad (runI (begI L most l) l l.length) bx' := by
 obtain ⟨Kc, hKc⟩ : ∃ Kc : V → Boxes → Prop, Kc = fun r bx' => ∃ p ad, r = .ptr p 13 0 0 ∧ ad .w = some p ∧ WI bx ad (runI (begI L most l) l l.length) bx' := ⟨_, rfl⟩
 rw [← hKc]
 refine Tryz.ctr38 fun hf => ?_
 simp [go_sem, Tryz.C38, hf, logV]
 refine ⟨by simp [fzAt, fzb], ?_⟩
 simp [go_sem, hf, iI]
 simp [go_sem, makK, hf]
 refine ⟨by omega, by omega, ?_⟩
 intro b hb bc hbc br hbr bm hbm bw hbw p hp
 obtain ⟨k1, hp⟩ := new_ne hp
 obtain ⟨k2, hp⟩ := new_ne hp
 obtain ⟨k3, hp⟩ := new_ne hp
 obtain ⟨k4, hp⟩ := new_ne hp
 obtain ⟨k5, hp⟩ := new_ne hp
 obtain ⟨k6, hbw⟩ := new_ne hbw
 obtain ⟨k7, hbw⟩ := new_ne hbw
 obtain ⟨k8, hbw⟩ := new_ne hbw
 obtain ⟨k9, hbw⟩ := new_ne hbw
 obtain ⟨k10, hbm⟩ := new_ne hbm
 obtain ⟨k11, hbm⟩ := new_ne hbm
 obtain ⟨k12, hbm⟩ := new_ne hbm
 obtain ⟨k13, hbr⟩ := new_ne hbr
 obtain ⟨k14, hbr⟩ := new_ne hbr
 obtain ⟨k15, hbc⟩ := new_ne hbc
 have h0 := begin_wi hf L most l hb hbc hbr hbm hbw hp k15 ⟨k14, k13⟩ ⟨k12, k11, k10⟩ ⟨k9, k8, k7, k6⟩ ⟨k5, k4, k3, k2, k1⟩
 refine callK_abs (Tryz.rules_i _) ?_
 rintro r bx2 ⟨b7, h7, rfl, hbx2⟩
 obtain ⟨RL, hRL⟩ : ∃ RL, (List.range 20).map ruleV = RL := ⟨_, rfl⟩
 have h1 := h0.beside h7 rulesB
 have hb70 : bx b7 = none := h0.bx0none h7
 have h2 : WI (upd bx b7 (some (.row 86 7 RL))) (adB b bc br bm bw p) (begI L most l) bx2 := by rw [hbx2, ← hRL]; exact h1
 have hRl : RL.length = 20 := by rw [← hRL]; rfl
 have hRg : ∀ n (h : n < RL.length), n < 20 → RL[n] = ruleV n := fun n h hn => by
   have : RL[n]? = some (ruleV n) := by rw [← hRL, List.getElem?_map, List.getElem?_range hn]; rfl
   rw [List.getElem?_eq_getElem h] at this
   injection this
 clear h0 h1 hbx2 h7
 have hpb : adB b bc br bm bw p .w = some p := rfl
 generalize adB b bc br bm bw p = ad0 at *
 have hf2 := h2.fin
 simp [go_sem, hf2]
 refine pw_for (ι := Adr × Boxes) l.length (fun k q => q.1 .w = some p ∧ WI (upd bx b7 (some (.row 86 7 RL))) q.1 (runI (begI L most l) l k) q.2) (fun k q => ⟨41, slk [(3, .ptr p 13 0 0), (4, .own b7 7 0 20), (20, .sl 8 (l.map exV)), (21, .int .i64 l.length), (22, .int .i64 k)], q.2⟩) (ad0, bx2) ⟨hpb, h2⟩ (cov_look (by simp [go_sem])) (fun k q hk hJ N hN => ?_) (fun q hJ N => ?_)
 · obtain ⟨ad, bx3⟩ := q
   obtain ⟨hpw, h3⟩ := hJ
   dsimp only at hpw h3 ⊢
   have hg := runI_good (beg_good L most l) k
   have hve := hv _ (List.getElem_mem hk)
   have hz : runI (begI L most l) l (k + 1) = stepX (runI (begI L most l) l k) k l[k].ev := by rw [runI, List.getElem?_eq_getElem hk]
   rw [hz] at hN
   generalize runI (begI L most l) l k = s at *
   have hf3 := h3.fin
   obtain ⟨pb, pc, pr, pm, pw', hn⟩ := h3.names hpw
   have hrow := h3.row hn
   unfold stV at hrow
   simp only [iI] at hrow
   have h4 := h3.world hn s.now (k : Int) s.stop
   unfold stV at h4
   simp only [iI] at h4
   obtain ⟨_, hb7, hne7⟩ := h3.back hb70
   obtain ⟨n, hn'⟩ : ∃ n : Nat, l[k].ev.kind = n := ⟨l[k].ev.kind.toNat, by have := hve.1; omega⟩
   have hn1 : 1 ≤ n := by have := hve.1; omega
   have hn20 : n < 20 := by have := hve.2.1; omega
   have hw := wr_succ (k := k) (by omega)
   have hself : ∀ b, bx3 b = none → upd bx3 b none = bx3 := fun b hb => by
     funext c
     by_cases e : c = b
     · rw [e, upd_eq, hb]
     · rw [upd_ne _ _ e]
   simp [go_sem, Tryz.L38_0, hk, hf3, hrow, exV, evW, iI, hn']
   intro b6 hb6
   rw [hself b6 hb6]
   simp [go_sem, hf3, hrow]
   refine ⟨by omega, ?_⟩
   generalize (upd bx3 p (some (Box.row 94 13 [V.agg [V.sl 4 (s.lims.map limV), V.int .i64 s.most, V.sl 8 (s.evs.map exV), V.int .i64 s.now, V.int .i64 k, V.own pb 6 0 s.bks.length, V.mp pc, slV (ad .ord) 1 s.ord.length, V.mp pr, V.mp pm, V.mp pw', V.bool s.stop, slV (ad .flt) 2 s.flt.length]]))) = bx4 at *
   obtain ⟨_, hb74, _⟩ := h4.back hb70
   have hf4 := h4.fin
   have hrt : ∀ j, V.agg (List.take 7 (ruleV j).cells) = ruleV j := fun j => by unfold ruleV ndV; rfl
   have hrv : ruleV n = .agg [.bool (nd n).call, .bool (nd n).bk, .bool (nd n).conn, .bool (nd n).of_, .int .i64 (nd n).low, .int .i64 (nd n).high, .fn (.func (68 + n)) []] := by
     unfold ruleV ndV
     rw [if_neg (by omega)]
     rfl
   have hr1 : (ruleV n).liveB = true ∧ (ruleV n).strip = ruleV n := by rw [hrv]; exact ⟨rfl, rfl⟩
   have evh : V.agg [V.int .i64 n, V.int .i64 l[k].b, V.int .i64 l[k].ev.t, V.int .i64 l[k].ev.call, V.int .i64 l[k].ev.conn, V.int .i64 l[k].ev.of_, V.int .i64 l[k].ev.n, V.bool l[k].ev.yes] = evW l[k].ev l[k].b := by simp [evW, iI, hn']
   simp [go_sem, hf4, hb74, hRl, hRg, hn20, ruleV_len, hrt, hr1.1, hr1.2]
   rw [evh, hrv]
   generalize l[k] = e at *
   obtain ⟨s0, hs0⟩ : ∃ s0 : IW, ({ s with at_ := (k : Int) } : IW) = s0 := ⟨_, rfl⟩
   have h4 : WI (upd bx b7 (some (.row 86 7 RL))) ad s0 bx4 := by rw [← hs0]; exact h4
   have g0 : GI l L k s0 := by rw [← hs0]; exact ⟨hg.evs, hg.lims, hg.len, hg.flt, hg.cns, hg.wts, ⟨hg.inv.ord, hg.inv.nod, hg.inv.beg, hg.inv.bsy⟩⟩
   have hz2 : stepX s k e.ev = postI s0.flt.length (stepI (preI s0 e.ev) e.ev) := by rw [← hs0]; rfl
   rw [hz2] at hN
   have h1 := pre_ci s0 e.ev
   have i1 := h1.inv g0.inv
   obtain ⟨l2, ⟨hl1, hl2, hl3⟩, hs2⟩ := step_ci (preI s0 e.ev) e.ev i1
   have hh := h1.trans hs2
   obtain ⟨E, hE, hsub⟩ := hh.flt
   have hEl := hsub.length_le
   simp only [List.length_append, List.length_singleton] at hEl
   have hEm : ∀ q, q ∈ E → 1 ≤ q ∧ q ≤ 13 := fun q hq => by
     rcases List.mem_append.1 (hsub.subset hq) with h | h
     · simp at h; omega
     · have := hl2 q h; omega
   have hF : ∀ bx0' bx' ad', WI bx0' ad' (preI s0 e.ev) bx' → ad' .w = some p → AbsCall Tryz.prog (68 + n) [.ptr p 13 0 0, evW e.ev e.b] bx' (StepI bx0' ad' (stepI (preI s0 e.ev) e.ev)) := by
     intro bx0' bx' ad' hw' hp'
     have hq := h1.flt
     obtain ⟨E1, hE1, hs1⟩ := hq
     have := hs1.length_le
     have hf1 : (preI s0 e.ev).flt.length ≤ 50000 := by
       rw [hE1, List.length_append, List.length_map]
       have := g0.flt
       simp only [List.length_singleton] at *
       omega
     have hb1 : (preI s0 e.ev).bks.length = L.length := h1.len.trans g0.len
     have hc1 := h1.cns
     have := Tryz.step_i hw' hp' e (by rw [hb1]; exact hve) (by rw [hb1, h1.lims, g0.lims]) (by omega) hf1 (by rw [i1.ord, List.length_map]; have := g0.cns; omega) (fun b hb => by have := h1.wts k g0.wts b hb; omega) i1
     rw [hn'] at this
     exact this
   have gf := g0.flt
   have hzl : (stepI (preI s0 e.ev) e.ev).1.flt.length = s0.flt.length + E.length := by rw [hE, List.length_append, List.length_map]
   have cE := Tryz.event_i h4 hpw e.ev e.b (68 + n) (nd n).call (nd n).bk (nd n).conn (nd n).of_ (nd n).low (nd n).high (stepI (preI s0 e.ev) e.ev) hF (by omega) (by omega) (by omega) (fun f hf => by
     rw [hE, List.drop_left' rfl] at hf
     obtain ⟨q, hq, rfl⟩ := List.mem_map.1 hf
     have := hEm q hq
     dsimp only
     omega)
   refine callK_abs cE ?_
   generalize postI s0.flt.length (stepI (preI s0 e.ev) e.ev) = s9 at *
   rintro r bx5 ⟨rfl, ad5, hk5, h5⟩
   have hf5 := h5.fin
   simp [go_sem, hf5, hw]
   exact hN _ (ad5, bx5) ⟨hk5 _ _ hpw rfl, h5⟩ (cov_look (by simp [go_sem]))
 · obtain ⟨ad, bx3⟩ := q
   obtain ⟨hpw, h3⟩ := hJ
   dsimp only at hpw h3 ⊢
   have hf3 := h3.fin
   simp [go_sem, Tryz.L38_0, hf3]
   refine ret_keep (by simp [go_sem]) ?_
   rw [hKc]
   exact ⟨p, ad, by simp [go_sem], hpw, (h3.back hb70).1⟩
end Go.Proofs

set_option linter.unusedSimpArgs false
set_option linter.unusedVariables false
set_option maxRecDepth 100000
namespace Go.Proofs
open Go Go.Pl
def SlV (sz : Nat) (es : List V) (v : V) : Prop := v = .sl sz es ∨ (es = [] ∧ v = .nils)
theorem SlV.ok {sz : Nat} {es : List V} {v : V} (h : SlV sz es v) : v.cells = [v] ∧ okV v = true ∧ v.strip = v ∧ v.liveB = true := by
 rcases h with rfl | ⟨_, rfl⟩ <;> exact ⟨rfl, rfl, rfl, rfl⟩
theorem WI.frzFlt {bx0 bx : Boxes} {ad : Adr} {s : IW} (h : WI bx0 ad s bx) : SlV 2 (s.flt.map fltV) (frz bx bx0 1 (slV (ad .flt) 2 s.flt.length)) := by
 cases hc : ad .flt with
 | none =>
   have h0 : s.flt = [] := h.none_ .flt hc trivial
   exact .inr ⟨by rw [h0]; rfl, rfl⟩
 | some b =>
   obtain ⟨h1, h2, _⟩ := h.at_ .flt b hc
   exact .inl (frz_own1 h2 h1 (by decide) (by simp))
def NE (e : Ex) : Prop := e.ev.bk = e.b.toNat
theorem nd_bk {n : Nat} (h1 : 2 ≤ n) (h2 : n ≤ 16) : (nd n).bk = true := by
 rcases (show n = 2 ∨ n = 3 ∨ n = 4 ∨ n = 5 ∨ n = 6 ∨ n = 7 ∨ n = 8 ∨ n = 9 ∨ n = 10 ∨ n = 11 ∨ n = 12 ∨ n = 13 ∨ n = 14 ∨ n = 15 ∨ n = 16 by omega) with rfl | rfl | rfl | rfl | rfl | rfl | rfl | rfl | rfl | rfl | rfl | rfl | rfl | rfl | rfl <;> rfl
theorem bad_ve {nb : Nat} {e : Ex} (h : evBad nb e = false) (hn : NE e) : VE nb e := by
 unfold evBad at h
 simp only [Bool.or_eq_false_iff, decide_eq_false_iff_not] at h
 obtain ⟨⟨h1, h2⟩, h3⟩ := h
 refine ⟨by omega, by omega, fun a b => ?_⟩
 have hb := nd_bk (n := e.ev.kind.toNat) (by omega) (by omega)
 unfold badI at h3
 simp only [Bool.or_eq_false_iff, hb, Bool.true_and, decide_eq_false_iff_not] at h3
 obtain ⟨⟨⟨⟨_, h4, h5⟩, _⟩, _⟩, _⟩ := h3
 unfold NE at hn
 exact ⟨by omega, by omega⟩
theorem check_ok {L : List Lim} {most : Int} {l : List Ex} (h : (checkI L most l).2 = 0) : L.length ≤ 16 ∧ 1 ≤ L.length ∧ L.any wrongI = false ∧ 0 ≤ most ∧ most ≤ 20 ∧ l.length ≤ 2000 ∧ ∀ e, e ∈ l → evBad L.length e = false := by
 unfold checkI at h
 split at h
 · rename_i h1; exact absurd h h1
 rename_i h1
 split at h
 · cases h
 rename_i h2
 split at h
 · cases h
 rename_i h3
 split at h
 · cases h
 rename_i h4
 rw [List.findIdx?_eq_none_iff] at h4
 unfold newI at h1
 split at h1
 · exact absurd (by decide) h1
 rename_i h5
 split at h1
 · exact absurd (by decide) h1
 rename_i h6
 exact ⟨by omega, by omega, by simpa using h6, by omega, by omega, by omega, fun e he => by simpa using h4 e he⟩
def findI (L : List Lim) (most : Int) (l : List Ex) : List (Int × Int) × Int := if (checkI L most l).2 = 0 then ((runI (begI L most l) l l.length).flt, 0) else ([], (checkI L most l).2)
set_option maxHeartbeats 1000000 in
theorem Tryz.Find_i (L : List Lim) (most : Int) (l : List Ex) (hL : L.length ≤ 1000000) (hl : l.length ≤ 4000000000000000000) (hne : ∀ e, e ∈ l → NE e) (bx : Boxes) : AbsCall Tryz.prog 15 [logV L most l] bx fun r bx' => bx' = bx ∧ ∃ v, SlV 2 ((findI L most l).1.map fltV) v ∧ r = .tup [v, iI (findI L most l).2] := by
 obtain ⟨Kc, hKc⟩ : ∃ Kc : V → Boxes → Prop, Kc = fun r bx' => bx' = bx ∧ ∃ v, SlV 2 ((findI L most l).1.map fltV) v ∧ r = .tup [v, iI (findI L most l).2] := ⟨_, rfl⟩
 rw [← hKc]
 refine Tryz.ctr15 fun hf => ?_
 have hc := Tryz.Check_i L most l hL hl bx
 have hr := Tryz.run_i L most l
 have hg := runI_good (beg_good L most l) l.length
 unfold findI at hKc
 have hck := check_ok (L := L) (most := most) (l := l)
 obtain ⟨c, hce⟩ : ∃ c, checkI L most l = c := ⟨_, rfl⟩
 rw [hce] at hc hKc hck
 obtain ⟨s, hs⟩ : ∃ s, runI (begI L most l) l l.length = s := ⟨_, rfl⟩
 rw [hs] at hr hKc hg
 obtain ⟨lv, hlv⟩ : ∃ lv, logV L most l = lv := ⟨_, rfl⟩
 have hlo : lv.strip = lv ∧ lv.liveB = true ∧ okV lv = true ∧ lv.cells.length = 3 ∧ V.agg (List.take 3 lv.cells) = lv := by rw [← hlv]; exact ⟨rfl, rfl, rfl, rfl, rfl⟩
 obtain ⟨v1, v2, v3, v4, v5⟩ := hlo
 rw [hlv] at hc hr ⊢
 simp [go_sem, Tryz.C15, hf, v1, v2, v3, v4, v5]
 refine callK_pure hc ?_
 by_cases e0 : c.2 = 0
 · rw [if_pos e0] at hKc
   obtain ⟨q1, q2, q3, q4, q5, q6, q7⟩ := hck e0
   simp [go_sem, hf, v1, v2, v3, v4, v5, iI, e0]
   refine callK_abs (hr (by omega) q6 (fun e he => bad_ve (q7 e he) (hne e he)) bx) ?_
   rintro r bx1 ⟨p, ad, rfl, hp, hw⟩
   obtain ⟨pb, pc, pr, pm, pw', hn⟩ := hw.names hp
   have hrow := hw.row hn
   unfold stV at hrow
   have hf1 := hw.fin
   have ho := hw.fltO
   simp [go_sem, hf1, hrow, ho.strip, ho.live]
   refine ret_frz 2 (by simp [go_sem, ho.strip, ho.live]) hw.ext ?_
   have e4 : ∀ vv, vv = slV (ad .flt) 2 s.flt.length → frz bx1 bx 2 (resV Tryz.prog ⟨19, slk [(2, vv), (3, .int .i64 0)], bx1⟩ [.tmp 2, .tmp 3]) = .tup [frz bx1 bx 1 vv, .int .i64 0] := fun vv hv => by
     have e5 : vv.strip = vv := by rw [hv]; exact ho.strip
     simp [go_sem, frz, e5]
   rw [e4 _ rfl, hKc]
   exact ⟨rfl, _, hw.frzFlt, rfl⟩
 · rw [if_neg e0] at hKc
   simp [go_sem, hf, iI, e0]
   refine ret_pure (by simp [go_sem]) ?_
   rw [hKc]
   exact ⟨rfl, .nils, .inr ⟨rfl, rfl⟩, by simp [go_sem, iI]⟩
end Go.Proofs

set_option linter.unusedSimpArgs false
set_option linter.unusedVariables false
set_option maxRecDepth 100000
namespace Go.Proofs
open Go Go.Pl
def kindsF (n : Nat) (F : List (Int × Int)) : List Int × Bool := if F.any (fun f => decide (f.2 < (n : Int) - 1)) then ([], false) else (F.map (·.1), true)
def kindsI (L : List Lim) (most : Int) (l : List Ex) : List Int × Bool := kindsF l.length (runI (begI L most l) l l.length).flt
theorem upd_none {bx : Boxes} {b : Nat} (hb : bx b = none) : upd bx b none = bx := by
 funext c
 by_cases e : c = b
 · rw [e, upd_eq, hb]
 · rw [upd_ne _ _ e]
theorem OwnV.beside {bx : Boxes} {e sz : Nat} {es : List V} {v : V} (ho : OwnV bx e sz es v) {b : Nat} (hb : bx b = none) (x : Option Box) : OwnV (upd bx b x) e sz es v := by
 rcases ho with h | ⟨b2, hv, hb2⟩
 · exact .inl h
 · exact .inr ⟨b2, hv, by rw [upd_ne _ _ (by rintro rfl; rw [hb2] at hb; cases hb), hb2]⟩
theorem kindsF_hit {n : Nat} {F : List (Int × Int)} {j : Nat} (hj : j < F.length) (h : F[j].2 < (n : Int) - 1) : kindsF n F = ([], false) := by
 unfold kindsF
 rw [if_pos (List.any_eq_true.2 ⟨_, List.getElem_mem hj, by simpa using h⟩)]
theorem kindsF_none {n : Nat} {F : List (Int × Int)} (h : ∀ j (hj : j < F.length), ¬ F[j].2 < (n : Int) - 1) : kindsF n F = (F.map (·.1), true) := by
 unfold kindsF
 rw [if_neg]
 intro h2
 obtain ⟨f, hf, h3⟩ := List.any_eq_true.1 h2
 obtain ⟨j, hj, rfl⟩ := List.getElem_of_mem hf
 exact h j hj (by simpa using h3)
set_option maxHeartbeats 1000000 in
theorem Tryz.kinds_i (L : List Lim) (most : Int) (l : List Ex) (hL : L.length ≤ 1000) (hl : l.length ≤ 2000) (hv : ∀ e, e ∈ l → VE L.length e) (bx : Boxes) : AbsCall Tryz.prog 43 [logV L most l] bx fun r bx' => bx' = bx ∧ ∃ v, SlV 1 ((kindsI L most l).1.map iI) v ∧ r = .tup [v, .bool (kindsI L most l).2] := by
 obtain ⟨Kc, hKc⟩ : ∃ Kc : V → Boxes → Prop, Kc = fun r bx' => bx' = bx ∧ ∃ v, SlV 1 ((kindsI L most l).1.map iI) v ∧ r = .tup [v, .bool (kindsI L most l).2] := ⟨_, rfl⟩
 rw [← hKc]
 refine Tryz.ctr43 fun hf => ?_
 have hr := Tryz.run_i L most l hL hl hv bx
 have hg := runI_good (beg_good L most l) l.length
 unfold kindsI at hKc
 obtain ⟨s, hs⟩ : ∃ s, runI (begI L most l) l l.length = s := ⟨_, rfl⟩
 rw [hs] at hr hKc hg
 obtain ⟨R, hR⟩ : ∃ R, kindsF l.length s.flt = R := ⟨_, rfl⟩
 rw [hR] at hKc
 simp [go_sem, Tryz.C43, hf, logV]
 refine callK_abs hr ?_
 rintro r bx1 ⟨p, ad, rfl, hp, hw⟩
 obtain ⟨pb, pc, pr, pm, pw', hn⟩ := hw.names hp
 have hrow := hw.row hn
 unfold stV at hrow
 have hf1 := hw.fin
 have ho := hw.fltO
 have hx1 := hw.ext
 have hlen := fun bx2 => own_len (bx2 := bx2) (t := 31) ho Tryz.knd31
 simp [go_sem, ho.strip, ho.live] at hlen
 have hwl : IntKind.i64.wrap ((l.length : Int) - 1) = (l.length : Int) - 1 := wr64 (by omega)
 have hfl := hg.flt
 simp [go_sem, hf1, hrow, ho.strip, ho.live, hlen]
 cases hc : ad .flt with
 | none =>
   have h0 : s.flt = [] := hw.none_ .flt hc trivial
   have hR0 : R = ([], true) := by rw [← hR, h0]; rfl
   simp only [h0, slV, List.length_nil]
   refine pw_upto 0 (fun k => ⟨31, slk [(1, .ep (.agg [.sl 4 (L.map limV), iI most, .sl 8 (l.map exV)]) 0), (4, .nils), (11, .nils), (12, .int .i64 0), (13, .int .i64 0)], bx1⟩) (cov_look (by simp [go_sem, iI])) (fun k hk N hN => by omega) (fun N => ?_)
   simp [go_sem, Tryz.L43_0, hf1]
   refine ret_drop (by simp [go_sem]) hx1 ?_
   rw [hKc, hR0]
   exact ⟨rfl, .nils, .inr ⟨rfl, rfl⟩, by simp [go_sem]⟩
 | some b =>
   obtain ⟨hb0, hbr, _⟩ := hw.at_ .flt b hc
   have hbr : bx1 b = some (.row tyF 2 (s.flt.map fltV)) := hbr
   clear hlen ho
   generalize s.flt = F at *
   simp only [slV]
   refine pw_for (ι := V × Boxes) F.length (fun k q => FinB q.2 ∧ Ext bx q.2 ∧ q.2 b = some (.row tyF 2 (F.map fltV)) ∧ OwnV q.2 3 1 (((F.take k).map (·.1)).map iI) q.1 ∧ NewV bx q.1 ∧ ∀ j (hj : j < F.length), j < k → ¬ F[j].2 < (l.length : Int) - 1) (fun k q => ⟨31, slk [(1, .ep (.agg [.sl 4 (L.map limV), iI most, .sl 8 (l.map exV)]) 0), (4, q.1), (11, .own b 2 0 F.length), (12, .int .i64 F.length), (13, .int .i64 k)], q.2⟩) (.nils, bx1) ⟨hf1, hx1, hbr, .inl ⟨rfl, rfl⟩, (show NewV bx .nils from fun b sz o m e => by cases e), fun j hj h => absurd h (Nat.not_lt_zero _)⟩ (cov_look (by simp [go_sem, iI])) (fun k q hk hJ N hN => ?_) (fun q hJ N => ?_)
   · obtain ⟨v, bx2⟩ := q
     obtain ⟨hf2, hx2, hb2, ho, hnv, hall⟩ := hJ
     dsimp only at hf2 hx2 hb2 ho hnv hall ⊢
     have hw := wr_succ (k := k) (by omega)
     simp [go_sem, Tryz.L43_0, hk, hf2, hb2, fltV, iI, hwl]
     intro b6 hb6
     rw [upd_none hb6]
     refine ⟨fun h1 => ?_, fun h1 => ?_⟩
     · have hR1 : R = ([], false) := by rw [← hR]; exact kindsF_hit hk h1
       refine ret_drop (by simp [go_sem]) hx2 ?_
       rw [hKc, hR1]
       exact ⟨rfl, .nils, .inr ⟨rfl, rfl⟩, by simp [go_sem]⟩
     · intro b7 hb7
       have hn7 : b ≠ b7 := by rintro rfl; rw [hb2] at hb7; cases hb7
       have hb70 : bx b7 = none := hx2.none hb7
       have ho7 := ho.beside hb7 (some (Box.row 3 1 [V.int .i64 F[k].1]))
       have hf7 : FinB (upd bx2 b7 (some (Box.row 3 1 [V.int .i64 F[k].1]))) := (finB_upd _ _ _).2 hf2
       have hx7 : Ext bx (upd bx2 b7 (some (Box.row 3 1 [V.int .i64 F[k].1]))) := hx2.upd_own hb70 _
       have hbb : upd bx2 b7 (some (Box.row 3 1 [V.int .i64 F[k].1])) b = some (.row tyF 2 (F.map fltV)) := by rw [upd_ne _ _ hn7, hb2]
       have hb77 : upd bx2 b7 (some (Box.row 3 1 [V.int .i64 F[k].1])) b7 = some (Box.row 3 1 [V.int .i64 F[k].1]) := upd_eq _ _ _
       generalize upd bx2 b7 (some (Box.row 3 1 [V.int .i64 F[k].1])) = bx3 at *
       refine own_app (.int .i64 0) ho7 hf7 (news := [iI F[k].1]) Tryz.knd113 Tryz.tsz3 (by simp [go_sem, srcEls, hb77, iI]) Tryz.tzero3 (by simp [go_sem]) (by decide) (by simp [Tryz.tby3]; omega) (by simp; omega) (by simp [go_sem]) fun v' bx' ha hm _ => ?_
       obtain ⟨e1, e2⟩ := hm.base hx7 hnv
       have hne : ∀ sz o m, v ≠ .own b sz o m := ho7.ne hbb (by decide)
       have hb' : bx' b = _ := (hm.other (by rw [hbb]; simp) hne).trans hbb
       have ha' : OwnV bx' 3 1 (((F.take (k + 1)).map (·.1)).map iI) v' := by
         rw [List.take_succ_eq_append_getElem hk, List.map_append, List.map_append]; exact ha
       simp [go_sem, hm.fin, ha.strip, ha.live, ha.cells, ha.okV, hw]
       exact hN _ (v', bx') ⟨hm.fin, e1, hb', ha', e2, fun j hj hjk => by
         rcases Nat.lt_or_ge j k with h | h
         · exact hall j hj h
         · have : j = k := by omega
           subst this
           omega⟩ (cov_look (by simp [go_sem, iI]))
   · obtain ⟨v, bx2⟩ := q
     obtain ⟨hf2, hx2, hb2, ho, hnv, hall⟩ := hJ
     dsimp only at hf2 hx2 hb2 ho hnv hall ⊢
     have hR1 : R = (F.map (·.1), true) := by rw [← hR]; exact kindsF_none fun j hj => hall j hj hj
     rw [List.take_of_length_le (Nat.le_refl _)] at ho
     simp [go_sem, Tryz.L43_0, hf2, ho.strip, ho.live]
     refine ret_frz 2 (by simp [go_sem, ho.strip, ho.live]) hx2 ?_
     have e4 : frz bx2 bx 2 (resV Tryz.prog ⟨31, slk [(2, v), (3, .bool true)], bx2⟩ [.tmp 2, .tmp 3]) = .tup [frz bx2 bx 1 v, .bool true] := by simp [go_sem, frz, ho.strip]
     rw [e4, hKc, hR1]
     refine ⟨rfl, _, ?_, rfl⟩
     rcases ho with ⟨h0, rfl⟩ | ⟨b3, rfl, hb3⟩
     · exact .inr ⟨h0, rfl⟩
     · exact .inl (frz_own1 hb3 (hnv _ _ _ _ rfl) (by decide) rfl)
end Go.Proofs

set_option linter.unusedSimpArgs false
set_option linter.unusedVariables false
set_option maxRecDepth 100000
namespace Go.Proofs
open Go Go.Pl
theorem SlV.wk {sz : Nat} {es : List V} {v : V} (h : SlV sz es v) : Wk v (.sl sz es) := by
 rcases h with rfl | ⟨h0, rfl⟩
 · exact Wk.refl _
 · exact wk_nil' h0
theorem Tryz.Find_p (L : List Lim) (most : Int) (l : List Ex) (hL : L.length ≤ 1000000) (hl : l.length ≤ 4000000000000000000) (hne : ∀ e, e ∈ l → NE e) (bx : Boxes) : PureCall Tryz.prog 15 [logV L most l] bx (.tup [.sl 2 ((findI L most l).1.map fltV), iI (findI L most l).2]) := by
 refine PureCall.wk ((Tryz.Find_i L most l hL hl hne bx).mono ?_)
 rintro r bx' ⟨rfl, v, hv, rfl⟩
 exact ⟨wk_tup2 hv.wk (Wk.refl _), rfl⟩
theorem Tryz.kinds_p (L : List Lim) (most : Int) (l : List Ex) (hL : L.length ≤ 1000) (hl : l.length ≤ 2000) (hv : ∀ e, e ∈ l → VE L.length e) (bx : Boxes) : PureCall Tryz.prog 43 [logV L most l] bx (.tup [.sl 1 ((kindsI L most l).1.map iI), .bool (kindsI L most l).2]) := by
 refine PureCall.wk ((Tryz.kinds_i L most l hL hl hv bx).mono ?_)
 rintro r bx' ⟨rfl, v, hv, rfl⟩
 exact ⟨wk_tup2 hv.wk (Wk.refl _), rfl⟩
theorem Tryz.CloneE_a (es : List V) (hl : es.length ≤ 100000) (bx : Boxes) : AbsCall Tryz.prog 42 [.sl 8 es] bx fun r bx' => Acc bx 69 8 es r bx' := by
 refine Tryz.ctr42 fun hf => ?_
 simp [go_sem, Tryz.C42, hf]
 refine ⟨fun b hb => ?_, fun h0 => ?_⟩
 · refine acc_append (.agg #[.int .i64 0, .int .i64 0, .int .i64 0, .int .i64 0, .int .i64 0, .int .i64 0, .int .i64 0, .bool false]) (acc_new hb hf _ 8 [] 0 rfl) (Ext.refl _) ((finB_upd _ _ _).2 hf) Tryz.knd23 Tryz.tsz69 (news := es) ?_ Tryz.tzero69 (by simp [go_sem]) (by decide) ?_ ?_ (by simp [go_sem]) fun v' bx3 ha => ?_
   · simp [srcEls]
   · simp [Tryz.tby69]; omega
   · simp; omega
   · simp only [List.nil_append] at ha
     simp [go_sem]
     refine ret_keep (by simp [go_sem, ha.live]) ?_
     simpa [go_sem, ha.strip] using ha
 · subst h0
   refine ret_keep (by simp [go_sem]) ?_
   simpa [go_sem] using acc_nil hf _ 8
theorem Tryz.CloneE_p (es : List V) (hl : es.length ≤ 100000) (bx : Boxes) : PureCall Tryz.prog 42 [.sl 8 es] bx (.sl 8 es) := by
 refine PureCall.wk ?_
 refine Tryz.ctr42 fun hf => ?_
 simp [go_sem, Tryz.C42, hf]
 refine ⟨fun b hb => ?_, fun h0 => ?_⟩
 · refine acc_append (.agg #[.int .i64 0, .int .i64 0, .int .i64 0, .int .i64 0, .int .i64 0, .int .i64 0, .int .i64 0, .bool false]) (acc_new hb hf _ 8 [] 0 rfl) (Ext.refl _) ((finB_upd _ _ _).2 hf) Tryz.knd23 Tryz.tsz69 (news := es) ?_ Tryz.tzero69 (by simp [go_sem]) (by decide) ?_ ?_ (by simp [go_sem]) fun v' bx3 ha => ?_
   · simp [srcEls]
   · simp [Tryz.tby69]; omega
   · simp; omega
   · simp only [List.nil_append] at ha
     simp [go_sem]
     refine ret_accw (e := 69) (by simp [go_sem, ha.live]) ?_ (by decide)
     simpa [go_sem, ha.strip] using ha
 · refine ret_wk0 (by simp [go_sem]) ?_
   simpa [go_sem] using wk_nil' h0
theorem Tryz.CloneM_p (es : List V) (hl : es.length ≤ 100000) (bx : Boxes) : PureCall Tryz.prog 41 [.sl 4 es] bx (.sl 4 es) := by
 refine PureCall.wk ?_
 refine Tryz.ctr41 fun hf => ?_
 simp [go_sem, Tryz.C41, hf]
 refine ⟨fun b hb => ?_, fun h0 => ?_⟩
 · refine acc_append (.agg #[.int .i64 0, .int .i64 0, .int .i64 0, .int .i64 0]) (acc_new hb hf _ 4 [] 0 rfl) (Ext.refl _) ((finB_upd _ _ _).2 hf) Tryz.knd22 Tryz.tsz111 (news := es) ?_ Tryz.tzero111 (by simp [go_sem]) (by decide) ?_ ?_ (by simp [go_sem]) fun v' bx3 ha => ?_
   · simp [srcEls]
   · simp [Tryz.tby111]; omega
   · simp; omega
   · simp only [List.nil_append] at ha
     simp [go_sem]
     refine ret_accw (e := 111) (by simp [go_sem, ha.live]) ?_ (by decide)
     simpa [go_sem, ha.strip] using ha
 · refine ret_wk0 (by simp [go_sem]) ?_
   simpa [go_sem] using wk_nil' h0
theorem Tryz.Equal_i (a b : List Int) (ha : a.length ≤ 1000000) (bx : Boxes) : PureCall Tryz.prog 45 [.sl 1 (a.map iI), .sl 1 (b.map iI)] bx (.bool (decide (a = b))) := by
 refine Tryz.ctr45 fun hf => ?_
 by_cases he : a.length = b.length
 rotate_left
 · have he' : ¬ (a.length : Int) = b.length := by omega
   have hz : decide (a = b) = false := by simp; rintro rfl; exact he rfl
   simp [go_sem, Tryz.C45, hf, he', he]
   exact ret_pure (by simp [go_sem]) ⟨by simp [go_sem, hz], rfl⟩
 · have he' : (a.length : Int) = b.length := by omega
   simp [go_sem, Tryz.C45, hf, he', he]
   refine pw_find b.length (fun i => a.getD i 0 != b.getD i 0) (fun i => ⟨26, slk [(0, .sl 1 (a.map iI)), (1, .sl 1 (b.map iI)), (12, .int .i64 b.length), (13, .int .i64 i)], bx⟩) (cov_look (by simp [go_sem])) (fun i hi hJ N hN => ?_) (fun hJ N => ?_)
   · have hia : i < a.length := by omega
     have hw := wr_succ (k := i) (by omega)
     have g1 : a.getD i 0 = a[i] := by simp [hia]
     have g2 : b.getD i 0 = b[i] := by simp [hi]
     rw [g1, g2] at hN
     by_cases e : a[i] = b[i]
     · simp [go_sem, Tryz.L45_0, hf, hi, hia, hw, iI, e]
       exact hN _ (by simp [e]) (cov_look (by simp [go_sem]))
     · have hz : decide (a = b) = false := by simp; rintro rfl; exact e rfl
       simp [go_sem, Tryz.L45_0, hf, hi, hia, hw, iI, e]
       exact ret_pure (by simp [go_sem]) ⟨by simp [go_sem, hz], rfl⟩
   · have hz : a = b := by
       apply List.ext_getElem he
       intro i h1 h2
       have := hJ i h2
       simpa [h1, h2] using this
     simp [go_sem, Tryz.L45_0, hf]
     exact ret_pure (by simp [go_sem]) ⟨by simp [go_sem, hz], rfl⟩
end Go.Proofs

set_option linter.unusedSimpArgs false
set_option linter.unusedVariables false
namespace Go.Pl
open Go
theorem step_app_run8 {P : Program} {ops : Array Oper} {o : Oper} {a : Act} {w w' : World} {K : Act → World → Prop} {Q : Exit → Act → World → Prop} {E : Prop}
   (hg : o.guard = none) (s x : Operand) (t : TypeId) (hop : o.op = Op.call { callee := Callee.builtin Builtin.append, args := #[s, x], argTypes := #[t, t] })
   (vs vx r : Value) (hs : a.eval s = vs) (hx : a.eval x = vx) (hrun : (Builtin.append_ #[t, t] o.type #[vs, vx]).run P w = .ok r w')
   (hK : K (a.put o.dst r) w') :
   if Region.wanted o (yielded ops a.tmps) = true then Oper.wp P o a w K Q else E := by
 have hw : Region.wanted o (yielded ops a.tmps) = true := by simp [Region.wanted, hg]
 rw [if_pos hw]
 unfold Oper.wp
 simp [execOp, hop, resolve, invoke, builtin, hs, hx, hrun, Result.andThen]
 exact hK
theorem run_clear8 {P : Program} {w : World} {t ty e : TypeId} {i : TypeInfo} {z : Value} {fr : Nat × Nat} (ht : P.underlying t = some (.slice e)) (hi : P.info? e = some i) (hz : i.zero = some z) (hz8 : z.cells.size = 8) (hz1 : ∀ v ∈ z.cells.toList, v.oneCell' = true) {blk o cap : Nat} {ty' : TypeId} {cur : Array Value} (hcur : w.heap[blk]? = some (.cells cur ty' fr)) (hfr : FrOk cur.size fr) (hfit : o + 8 ≤ cur.size) :
   (Builtin.clear_ #[t] ty #[.slice (some ⟨blk, o, none⟩) 1 cap]).run P w = .ok (.tuple #[]) (w.setRow blk (cur.toList.take o ++ z.cells.toList ++ cur.toList.drop (o + 8)).toArray) := by
 have hzc : (Builtin.zeroCells z.cells 1).toList = z.cells.toList := by
   simp [Builtin.zeroCells, hz8]
   apply List.ext_getElem
   · simp [hz8]
   · intro i h1 h2
     have : i < 8 := by simpa using h1
     simp [Nat.mod_eq_of_lt this, show i < z.cells.size by omega]
 have hst := run_storeCells_fr (P := P) blk o ty' fr z.cells.toList 0 cur w hcur hfr (by simpa [hz8] using hfit) hz1
 simp only [Nat.add_zero, Array.length_toList, hz8] at hst
 simp [Builtin.clear_, run_underlying ht, zeroValue, typeInfo, hi, hz, hzc, hst]
end Go.Pl
namespace Go.Proofs
open Go Go.Pl Go.Lib Go.RowKit Go.Shelf
set_option maxHeartbeats 4000000 in
set_option maxRecDepth 100000 in
theorem Tryz.del_Event (w : World) (b n c i : Nat) (cur : Array Value) {fr : Nat × Nat} (hg : w.heap[b]? = some (.cells cur 69 fr)) (hfr : FrOk cur.size fr) (hi : i < n) (hnc : n ≤ c) (hc63 : c ≤ 9223372036854775807) (hcap : c * 8 ≤ cur.size)
   (h1c : ∀ j, j < n * 8 → (cur.getD j undef).oneCell' = true) :
   Calls Tryz.prog 44 #[.slice (some ⟨b, 0, none⟩) n c, .int .i64 i, .int .i64 ((i : Int) + 1)] w fun e w' =>
     e = .returned (.slice (some ⟨b, 0, none⟩) (n - 1) c) ∧ ∃ cur', w' = w.drew.setRow b cur' ∧ cur'.size = cur.size ∧ cur'.toList.take ((n - 1) * 8) = cur.toList.take (i * 8) ++ (cur.toList.drop ((i + 1) * 8)).take ((n - 1 - i) * 8) := by
 have uS : Tryz.prog.underlying 23 = some (.slice 69) := by kernel_rfl
 have uT := run_underlying uS
 have mixed : Tryz.prog.follows .mixedOrders = true := by kernel_rfl
 obtain ⟨i0, hi0, hs0, z, hz0, hzs, hz1⟩ : ∃ i0, Tryz.prog.info? 69 = some i0 ∧ i0.size = 8 ∧ ∃ z, i0.zero = some z ∧ z.cells.size = 8 ∧ ∀ v ∈ z.cells.toList, v.oneCell' = true := by
   refine ⟨(Tryz.prog.info? 69).get (by kernel_rfl), by kernel_rfl, by kernel_rfl, ((Tryz.prog.info? 69).get (by kernel_rfl)).zero.get (by kernel_rfl), by kernel_rfl, by kernel_rfl, ?_⟩
   have e : (((Tryz.prog.info? 69).get (by kernel_rfl)).zero.get (by kernel_rfl)).cells.toList = [.int .i64 0, .int .i64 0, .int .i64 0, .int .i64 0, .int .i64 0, .int .i64 0, .int .i64 0, .bool false] := by kernel_rfl
   rw [e]
   intro v hv
   simp at hv
   rcases hv with rfl | rfl <;> rfl
 have hb0 : w.drew.heap[b]? = some (.cells cur 69 fr) := hg
 obtain ⟨news, hnews⟩ : ∃ news, news = (cur.toList.drop ((i + 1) * 8)).take ((n - 1 - i) * 8) := ⟨_, rfl⟩
 have hnl : news.length = (n - 1 - i) * 8 := by rw [hnews]; simp; omega
 have hcell : ∀ j v, news[j]? = some v → w.drew.cell? ⟨b, (i + 1) * 8 + j, none⟩ = some v := fun j v hj => by
   rw [hnews, List.getElem?_take] at hj
   split at hj
   · rw [List.getElem?_drop] at hj
     rw [cell_of_row w.drew b _ cur 69 fr hb0]; simpa using hj
   · cases hj
 have hn1 : ∀ v ∈ news, v.oneCell' = true := fun v hv => by
   obtain ⟨j, hj, rfl⟩ := List.getElem_of_mem hv
   have h3 := hcell j _ (List.getElem?_eq_getElem hj)
   rw [cell_of_row w.drew b _ cur 69 fr hb0] at h3
   have h2 := h1c ((i + 1) * 8 + j) (by omega)
   rw [Array.getD_eq_getD_getElem?, h3] at h2
   exact h2
 obtain ⟨A, hA, hsrc⟩ : ∃ A : Addr, (if c = i + 1 then some (⟨b, 0, none⟩ : Addr) else some ⟨b, (i + 1) * 8, none⟩) = some A ∧ Hid (∀ t u, news[t]? = some u → w.drew.cell? (A.add t) = some u) := by
   by_cases h : c = i + 1
   · refine ⟨⟨b, 0, none⟩, by simp [h], fun t u hu => ?_⟩
     have h0 : news.length = 0 := by rw [hnl]; omega
     rw [List.length_eq_zero_iff.1 h0] at hu
     simp at hu
   · refine ⟨⟨b, (i + 1) * 8, none⟩, by simp [h], fun t u hu => ?_⟩
     rw [Addr.add_lit]; exact hcell t u hu
 obtain ⟨row1, hrow1⟩ : ∃ row1, row1 = (cur.toList.take (i * 8) ++ news ++ cur.toList.drop (i * 8 + news.length)).toArray := ⟨_, rfl⟩
 have hr1 : row1.size = cur.size := by rw [hrow1]; simp; omega
 have hap : ∀ ty' cc, (Builtin.append_ #[23, 23] ty' #[.slice (some ⟨b, 0, none⟩) i c, .slice (some A) (n - (i + 1)) cc]).run Tryz.prog w.drew = .ok (.slice (some ⟨b, 0, none⟩) (i + (n - (i + 1))) c) (w.drew.setRow b row1) := fun ty' cc => by
   have h := run_append_room_fr (P := Tryz.prog) (w := w.drew) 23 ty' 69 i0 uS hi0 b i c cur hb0 hfr A (n - (i + 1)) cc news (by rw [hs0, hnl]; omega) hsrc.out hn1 (by omega) (by rw [hs0]; omega)
   rw [h, hrow1, hs0]
 obtain ⟨W1, hW1⟩ : ∃ W1, W1 = w.drew.setRow b row1 := ⟨_, rfl⟩
 have hW1h : W1.heap[b]? = some (.cells row1 69 fr) := by rw [hW1]; exact setRow_heap w.drew b cur _ 69 _ hb0
 obtain ⟨row2, hrow2⟩ : ∃ row2, row2 = (row1.toList.take ((n - 1) * 8) ++ z.cells.toList ++ row1.toList.drop ((n - 1) * 8 + 8)).toArray := ⟨_, rfl⟩
 have hcl : ∀ ty, (Builtin.clear_ #[23] ty #[.slice (some ⟨b, (i + (n - (i + 1))) * 8, none⟩) (n - (i + (n - (i + 1)))) (c - (i + (n - (i + 1))))]).run Tryz.prog W1 = .ok (.tuple #[]) (W1.setRow b row2) := fun ty => by
   rw [show i + (n - (i + 1)) = n - 1 by omega, show n - (n - 1) = 1 by omega, hrow2]
   exact run_clear8 uS hi0 hz0 hzs hz1 hW1h (by rw [hr1]; exact hfr) (by rw [hr1]; omega)
 have X : Aside (W1.setRow b row2 = w.drew.setRow b row2 ∧ row2.size = cur.size ∧ row2.toList.take ((n - 1) * 8) = cur.toList.take (i * 8) ++ (cur.toList.drop ((i + 1) * 8)).take ((n - 1 - i) * 8)) := by
   refine ⟨by rw [hW1, setRow_setRow], by rw [hrow2]; simp [hzs, hr1]; omega, ?_⟩
   have l1 : (cur.toList.take (i * 8) ++ news).length = (n - 1) * 8 := by simp [hnl]; omega
   have e1 : row1.toList.take ((n - 1) * 8) = cur.toList.take (i * 8) ++ news := by
     rw [hrow1]
     show List.take _ (cur.toList.take (i * 8) ++ news ++ _) = _
     rw [← l1, List.take_left]
   rw [hrow2]
   show List.take _ (List.take ((n - 1) * 8) row1.toList ++ z.cells.toList ++ _) = _
   rw [e1, List.append_assoc, ← l1, List.take_left, hnews]
 have hW : Hid (W1 = w.drew.setRow b row1) := hW1
 have hlt1 : ¬ ((i : Int) = (i : Int) + 1) := by omega
 have hic : i ≤ c := by omega
 have hjc : i + 1 ≤ c := by omega
 have hjn : i + 1 ≤ n := by omega
 have hw1 : IntKind.i64.wrap ((i : Int) + 1) = (i : Int) + 1 := by rw [IntKind.wrap_i64]; omega
 have htn : ((i : Int) + 1).toNat = i + 1 := by omega
 have hb1 : (0 : Int) ≤ (i : Int) + 1 := by omega
 have hb3 : (i : Int) ≤ (i : Int) + 1 := by omega
 have hb5 : (i : Int) + 1 ≤ (n : Int) := by omega
 clear hW1 hW1h hcell hn1 hnl hnews hr1 hrow1 hrow2
 go_enter Tryz.func44, Tryz.ntmps44
 go_wp2_with fail
 go_region_law_o (refine step_app_run8 rfl (.tmp 22) (.tmp 25) 23 rfl (.slice (some ⟨b, 0, none⟩) i c) (.slice (some A) (n - (i + 1)) (c - (i + 1))) _ (by simp [Act.eval, Act.put]) (by simp [Act.eval, Act.put]) (hap _ (c - (i + 1))) ?_; rw [← hW.out])
 go_wp2
 go_ret
 refine ⟨by rw [show n - 1 = i + (n - (i + 1)) by omega]; rfl, row2, X.out⟩
end Go.Proofs

set_option linter.unusedSimpArgs false
set_option linter.unusedVariables false
set_option maxRecDepth 100000
namespace Go.Pl
open Go
theorem AbsCall.frz {P : Program} {f : FuncId} {args : List V} {bx : Boxes} {Kc K2 : V → Boxes → Prop} (h : AbsCall P f args bx Kc) (hs : ∀ r bx', Kc r bx' → ∃ bx2 d, SubBx bx' bx2 ∧ K2 (Go.Pl.frz bx' bx2 d r) bx2) : AbsCall P f args bx K2 := by
 refine ⟨h.1, fun β M w vs h1 h2 h3 h4 => (h.2 β M w vs h1 h2 h3 h4).mono ?_⟩
 rintro e w' ⟨v, r, bx', β', rfl, hk, hok, ht, hrep⟩
 obtain ⟨bx2, d, hs2, hk2⟩ := hs r bx' hk
 exact ⟨v, _, bx2, β', rfl, hk2, hok.sub hs2, ht.trans hs2.tr, frz_rep hok hs2 d _ _ hrep⟩
end Go.Pl
namespace Go.Proofs
open Go Go.Pl
theorem rowRep_sub {β : Beta} {w : World} {F : Nat → Prop} {sz o n : Nat} {es : List V} {cur : Array Value} (h : RowRep β w F sz es cur) (hn : o + n ≤ es.length) : RowRep β w F sz ((es.drop o).take n) ((cur.toList.drop (o * sz)).take (n * sz)).toArray := by
 intro i e he
 rw [List.getElem?_take, List.getElem?_drop] at he
 split at he
 · rename_i hi
   obtain ⟨h1, h2⟩ := h (o + i) e he
   refine ⟨h1, fun j c hc => ?_⟩
   have hj : j < sz := by have := (List.getElem?_eq_some_iff.1 hc).1; omega
   have hb : i * sz + j < n * sz := by
     have : (i + 1) * sz ≤ n * sz := Nat.mul_le_mul_right _ hi
     rw [Nat.succ_mul] at this
     omega
   have e2 : ((cur.toList.drop (o * sz)).take (n * sz)).toArray.getD (i * sz + j) undef = cur.getD ((o + i) * sz + j) undef := by
     simp only [Array.getD_eq_getD_getElem?, List.getElem?_toArray, List.getElem?_take, hb, if_true, List.getElem?_drop, Array.getElem?_toList]
     congr 2
     rw [Nat.add_mul]; omega
   rw [e2]
   exact h2 j c hc
 · cases he
theorem rowRep_oneE {β : Beta} {w : World} {F : Nat → Prop} {sz : Nat} {es : List V} {cur : Array Value} (h : RowRep β w F sz es cur) (hs : 0 < sz) : ∀ m, m < es.length * sz → (cur.getD m undef).oneCell' = true := by
 intro m hm
 have h4 : m / sz < es.length := (Nat.div_lt_iff_lt_mul hs).2 hm
 have h5 : m % sz < sz := Nat.mod_lt _ hs
 obtain ⟨h7, h8⟩ := h (m / sz) _ (List.getElem?_eq_getElem h4)
 have h9 := (h8 (m % sz) _ (List.getElem?_eq_getElem (by omega))).1
 have h10 : m / sz * sz + m % sz = m := by
   have := Nat.div_add_mod m sz
   rw [Nat.mul_comm] at this
   omega
 rw [h10] at h9
 exact h9
set_option maxHeartbeats 2000000 in
theorem Tryz.delm_Event {bx : Boxes} {b : Nat} {es : List V} {i : Nat} (hb : bx b = some (.row 69 8 es)) (hi : i < es.length) :
   AbsCall Tryz.prog 44 [.own b 8 0 es.length, .int .i64 i, .int .i64 ((i : Int) + 1)] bx fun r bx' => ∃ b', upd bx b none b' = none ∧ r = .own b' 8 0 (es.length - 1) ∧ bx' = upd (upd bx b none) b' (some (.row 69 8 (es.take i ++ es.drop (i + 1)))) := by
 refine ⟨enters_of Tryz.func44 (by kernel_rfl) rfl, fun β M w vs hok hgl hvs hrep => ?_⟩
 have h0 := hrep 0 _ rfl
 have h1 := hrep 1 _ rfl
 have h2 := hrep 2 _ rfl
 have hvs2 : vs = #[vs.getD 0 undef, vs.getD 1 undef, vs.getD 2 undef] := by
   apply Array.ext
   · simpa using hvs
   · intro k k1 k2
     have k3 : k < 3 := by simpa using k2
     rcases k with _ | _ | _ | k
     · simp [k1]
     · simp [k1]
     · simp [k1]
     · omega
 rw [hvs2]
 generalize vs.getD 0 undef = u0 at *
 generalize vs.getD 1 undef = u1 at *
 generalize vs.getD 2 undef = u2 at *
 clear hvs2 hvs hrep
 generalize hN : es.length = n at h0
 cases h1
 cases h2
 cases h0 with
 | own0 _ _ hβ => omega
 | own _ _ _ _ blk cap m ty' hβ hs hm hn hmax =>
   subst hN
   rcases hok.live b _ hb with ⟨h3, _⟩ | ⟨blk', h3, hlt, hMn, cur, fr, hcur, hfr, hlc, hrow⟩
   · rw [hβ] at h3; cases h3
   · rw [hβ] at h3
     injection h3 with h3
     injection h3 with h3
     subst h3
     have hcap : cap * 8 ≤ cur.size := by
       rw [shape_of hcur] at hs
       injection hs with hs
       injection hs with _ hs
       rw [hs]; simpa using hm
     have hone : ∀ j, j < es.length * 8 → (cur.getD j undef).oneCell' = true := rowRep_oneE hrow (by decide)
     have R1 := rowRep_sub (o := 0) (n := i) hrow (by omega)
     have R3 := rowRep_sub (o := i + 1) (n := es.length - 1 - i) hrow (by omega)
     simp only [List.drop_zero, Nat.zero_mul] at R1
     have e3 : (es.drop (i + 1)).take (es.length - 1 - i) = es.drop (i + 1) := List.take_of_length_le (by simp; omega)
     rw [e3] at R3
     have l1 : (List.take (i * 8) cur.toList).length = (es.take i).length * 8 := by simp; omega
     have hlen : (es.take i ++ es.drop (i + 1)).length = es.length - 1 := by simp; omega
     have row : ∀ cur' : Array Value, cur'.toList.take ((es.length - 1) * 8) = cur.toList.take (i * 8) ++ (cur.toList.drop ((i + 1) * 8)).take ((es.length - 1 - i) * 8) → RowRep β w (Fz β M bx w) 8 (es.take i ++ es.drop (i + 1)) cur' := fun cur' hc' => by
       refine rowRep_append (sz := 8) (es := es.take i) (news := es.drop (i + 1)) (xs := List.take (i * 8) cur.toList) (vals := (cur.toList.drop ((i + 1) * 8)).take ((es.length - 1 - i) * 8)) l1 R1 R3 (by simp; omega) cur' (by
         rw [← hc']
         congr 1
         simp; omega)
     obtain ⟨b', hb1, hb2⟩ := hok.fresh
     have hb2' : upd bx b none b' = none := by
       by_cases e0 : b' = b
       · subst e0; exact upd_eq _ _ _
       · rw [upd_ne _ _ e0]; exact hb2
     simp only [Nat.zero_mul]
     refine (Tryz.del_Event w blk es.length cap i cur hcur hfr hi hn (by simp only [maxLen] at hmax; omega) hcap hone).mono ?_
     rintro e w' ⟨rfl, cur', rfl, hsz', htk⟩
     have hkk : ∀ k, k ≠ blk → (w.drew.setRow blk cur').heap[k]? = w.heap[k]? := fun k hk => setRow_other w.drew blk k cur' hk
     have hgg : (w.drew.setRow blk cur').heap[blk]? = some (.cells cur' 69 fr) := setRow_heap w.drew blk cur cur' _ _ hcur
     have hss : (w.drew.setRow blk cur').heap.size = w.heap.size := by simp [World.setRow]
     have hshape : ∀ k y, w.shape? k = some y → (w.drew.setRow blk cur').shape? k = some y := fun k y hy => by
       by_cases e : k = blk
       · subst e
         rw [shape_of hgg, hsz', ← shape_of hcur]; exact hy
       · rw [shape_heap (hkk k e)]; exact hy
     obtain ⟨h5, h6⟩ := rebox hok b hb1 (w' := w.drew.setRow blk cur') rfl rfl rfl (Nat.le_succ _) (by rw [hss]; exact Nat.le_refl _) (fun k hk1 hk2 => hkk k fun e => hk2 (by rw [hb]; simp) (by rw [e]; exact hβ)) hshape (some blk) 69 8 (es.take i ++ es.drop (i + 1)) (.inl (by decide)) (fun h => by cases h) (fun g hg => by
       injection hg with hg
       subst hg
       exact ⟨.inr ⟨by rw [hb]; simp, hβ⟩, by rw [hss]; exact hlt, cur', fr, hgg, by rw [hsz']; exact hfr, by rw [hlen]; omega, row cur' htk⟩)
     refine ⟨_, _, _, _, rfl, ⟨b', hb2', rfl, rfl⟩, h5, h6, ?_⟩
     have := Rep.own (β := upd β b' (some (some blk))) (w := w.drew.setRow blk cur') (F := Fz (upd β b' (some (some blk))) M (upd (upd bx b none) b' (some (.row 69 8 (es.take i ++ es.drop (i + 1))))) (w.drew.setRow blk cur')) b' 8 0 (es.length - 1) blk cap _ 69 (upd_eq _ _ _) (shape_of hgg) (by rw [hsz']; simpa using hcap) (by omega) (by simpa using hmax)
     simpa using this
theorem Tryz.delf_Event {bx : Boxes} {b : Nat} {es : List V} {i : Nat} (hb : bx b = some (.row 69 8 es)) (hi : i < es.length) :
   AbsCall Tryz.prog 44 [.own b 8 0 es.length, .int .i64 i, .int .i64 ((i : Int) + 1)] bx fun r bx' => r = .sl 8 (es.take i ++ es.drop (i + 1)) ∧ bx' = upd bx b none := by
 refine (Tryz.delm_Event hb hi).frz ?_
 rintro r bx' ⟨b', hb', rfl, rfl⟩
 refine ⟨upd bx b none, 1, (((Ext.refl (upd bx b none)).upd_own hb' _).sub), ?_, rfl⟩
 exact frz_own1 (upd_eq _ _ _) hb' (by decide) (by simp; omega)
end Go.Proofs

set_option linter.unusedSimpArgs false
set_option linter.unusedVariables false
set_option maxRecDepth 100000
namespace Go.Proofs
open Go Go.Pl
def dropAt (l : List Ex) (k : Nat) : List Ex := l.take k ++ l.drop (k + 1)
def tryC (ok : List Ex → Bool) (l : List Ex) (k : Nat) : List Ex := if ok (dropAt l k) then dropAt l k else l
def passC (ok : List Ex → Bool) : Nat → List Ex → List Ex
 | 0, l => l
 | k + 1, l => passC ok k (tryC ok l k)
def loopC (ok : List Ex → Bool) : Nat → List Ex → List Ex
 | 0, l => l
 | n + 1, l => if (passC ok (l.length - 1) l).length = l.length then passC ok (l.length - 1) l else loopC ok n (passC ok (l.length - 1) l)
theorem dropAt_len {l : List Ex} {k : Nat} (h : k < l.length) : (dropAt l k).length = l.length - 1 := by
 unfold dropAt; simp; omega
theorem dropAt_sub (l : List Ex) (k : Nat) : (dropAt l k).Sublist l := by
 unfold dropAt
 have h := List.take_append_drop k l
 have h2 : (l.drop (k + 1)).Sublist (l.drop k) := by
   have : l.drop (k + 1) = (l.drop k).drop 1 := by rw [List.drop_drop]
   rw [this]
   exact List.drop_sublist _ _
 have h3 := (List.Sublist.refl (l.take k)).append h2
 rw [h] at h3
 exact h3
theorem dropAt_last {l : List Ex} {k : Nat} (h : k + 1 < l.length) : (dropAt l k).getLast? = l.getLast? := by
 unfold dropAt
 rw [List.getLast?_append, List.getLast?_drop, if_neg (by omega)]
 cases hl : l.getLast? with
 | none => rw [List.getLast?_eq_none_iff] at hl; subst hl; simp at h
 | some x => rfl
theorem tryC_len (ok : List Ex → Bool) {l : List Ex} {k : Nat} (h : k < l.length) : l.length - 1 ≤ (tryC ok l k).length ∧ (tryC ok l k).length ≤ l.length := by
 unfold tryC
 have hl := dropAt_len h
 split
 · omega
 · omega
theorem tryC_sub (ok : List Ex → Bool) (l : List Ex) (k : Nat) : (tryC ok l k).Sublist l := by
 unfold tryC
 split
 · exact dropAt_sub l k
 · exact .refl _
theorem passC_len (ok : List Ex → Bool) : ∀ (k : Nat) (l : List Ex), k < l.length → (passC ok k l).length ≤ l.length ∧ 1 ≤ (passC ok k l).length
 | 0, l, h => ⟨Nat.le_refl _, h⟩
 | k + 1, l, h => by
   have h1 := tryC_len ok (l := l) (k := k) (by omega)
   have h2 := passC_len ok k (tryC ok l k) (by omega)
   unfold passC
   omega
theorem passC_sub (ok : List Ex → Bool) : ∀ (k : Nat) (l : List Ex), (passC ok k l).Sublist l
 | 0, l => .refl _
 | k + 1, l => by
   unfold passC
   exact (passC_sub ok k _).trans (tryC_sub ok l k)
theorem passC_last (ok : List Ex → Bool) : ∀ (k : Nat) (l : List Ex), k < l.length → (passC ok k l).getLast? = l.getLast?
 | 0, l, h => rfl
 | k + 1, l, h => by
   have h1 := tryC_len ok (l := l) (k := k) (by omega)
   unfold passC
   rw [passC_last ok k _ (by omega)]
   unfold tryC
   split
   · exact dropAt_last h
   · rfl
theorem passC_ok (ok : List Ex → Bool) : ∀ (k : Nat) (l : List Ex), ok l = true → ok (passC ok k l) = true
 | 0, l, h => h
 | k + 1, l, h => by
   unfold passC
   refine passC_ok ok k _ ?_
   unfold tryC
   split
   · assumption
   · exact h
theorem passC_fix (ok : List Ex → Bool) : ∀ (k : Nat) (l : List Ex), k < l.length → (passC ok k l).length = l.length → passC ok k l = l ∧ ∀ i, i < k → ok (dropAt l i) = false
 | 0, l, _, _ => ⟨rfl, fun i hi => by omega⟩
 | k + 1, l, h, he => by
   have h1 := tryC_len ok (l := l) (k := k) (by omega)
   have h2 := passC_len ok k (tryC ok l k) (by omega)
   unfold passC at he ⊢
   cases ho : ok (dropAt l k)
   · have e : tryC ok l k = l := by unfold tryC; rw [ho]; rfl
     rw [e] at he ⊢
     obtain ⟨h3, h4⟩ := passC_fix ok k l (by omega) he
     refine ⟨h3, fun i hi => ?_⟩
     rcases Nat.lt_or_ge i k with h5 | h5
     · exact h4 i h5
     · rw [show i = k by omega]; exact ho
   · have e : tryC ok l k = dropAt l k := by unfold tryC; rw [ho]; rfl
     have hl := dropAt_len (l := l) (k := k) (by omega)
     rw [e] at he h2
     omega
structure CutOk (ok : List Ex → Bool) (l R : List Ex) : Prop where
 ok_ : ok l = true → ok R = true
 sub : R.Sublist l
 last : R.getLast? = l.getLast?
 pos : 1 ≤ R.length
 min : ∀ i, i + 1 < R.length → ok (dropAt R i) = false
theorem loopC_ok (ok : List Ex → Bool) : ∀ (n : Nat) (l : List Ex), 1 ≤ l.length → l.length ≤ n → CutOk ok l (loopC ok n l)
 | 0, l, h1, h2 => by omega
 | n + 1, l, h1, h2 => by
   have h3 := passC_len ok (l.length - 1) l (by omega)
   unfold loopC
   split
   · rename_i he
     obtain ⟨h4, h5⟩ := passC_fix ok (l.length - 1) l (by omega) he
     rw [h4]
     exact ⟨fun h => h, .refl _, rfl, h1, fun i hi => h5 i (by omega)⟩
   · rename_i he
     have ih := loopC_ok ok n (passC ok (l.length - 1) l) h3.2 (by omega)
     exact ⟨fun h => ih.ok_ (passC_ok ok _ _ h), ih.sub.trans (passC_sub ok _ _), ih.last.trans (passC_last ok _ _ (by omega)), ih.pos, ih.min⟩
def ltF (f g : Int × Int) : Prop := f.2 < g.2 ∨ f.2 = g.2 ∧ f.1 < g.1
theorem pw_strict {E : List (Int × Int)} {k : Int} (hn : (E.map (·.1)).Nodup) (h2 : ∀ f, f ∈ E → f.2 = k) : ∀ l : List (Int × Int), l.Sublist E → l.Pairwise (fun a b => a.1 ≤ b.1) → l.Pairwise ltF
 | [], _, _ => .nil
 | f :: l, hs, hp => by
   rw [List.pairwise_cons] at hp ⊢
   have hf : f ∈ E := hs.subset (by simp)
   have hs2 : l.Sublist E := (List.sublist_cons_self f l).trans hs
   have hnd : ((f :: l).map (·.1)).Nodup := (hs.map _).nodup hn
   simp only [List.map_cons, List.nodup_cons] at hnd
   refine ⟨fun g hg => .inr ⟨by rw [h2 f hf, h2 g (hs2.subset hg)], ?_⟩, pw_strict hn h2 l hs2 hp.2⟩
   have h3 := hp.1 g hg
   have h4 : f.1 ≠ g.1 := fun e => hnd.1 (by rw [e]; exact List.mem_map_of_mem hg)
   omega
theorem srtF_ev {E : List Int} {k : Nat} (hn : E.Nodup) (hk : ∀ q, q ∈ E → 1 ≤ q ∧ q ≤ 13) : (srtF (E.map fun q => (q, (k : Int)))).Pairwise ltF ∧ ∀ f, f ∈ srtF (E.map fun q => (q, (k : Int))) → f.2 = k ∧ 1 ≤ f.1 ∧ f.1 ≤ 13 := by
 have hp := srtF_perm (E.map fun q => (q, (k : Int)))
 have hm : ∀ f, f ∈ srtF (E.map fun q => (q, (k : Int))) → f.2 = k ∧ 1 ≤ f.1 ∧ f.1 ≤ 13 := fun f hf => by
   obtain ⟨q, hq, rfl⟩ := List.mem_map.1 (hp.mem_iff.1 hf)
   exact ⟨rfl, hk q hq⟩
 refine ⟨pw_strict (k := k) ?_ (fun f hf => (hm f hf).1) _ (List.Sublist.refl _) (srtF_sorted _), hm⟩
 have h0 : ((E.map fun q => (q, (k : Int))).map (·.1)) = E := by rw [List.map_map]; exact List.map_id' E
 exact (hp.map (·.1)).nodup_iff.2 (by rw [h0]; exact hn)
theorem runI_some {s : IW} {l : List Ex} {k : Nat} {e : Ex} (h : l[k]? = some e) : runI s l (k + 1) = stepX (runI s l k) k e.ev := by show (match l[k]? with | some e => _ | none => _) = _; rw [h]
theorem runI_none {s : IW} {l : List Ex} {k : Nat} (h : l[k]? = none) : runI s l (k + 1) = runI s l k := by show (match l[k]? with | some e => _ | none => _) = _; rw [h]
theorem runI_inv {s : IW} (hi : InvI s) (l : List Ex) : ∀ k, InvI (runI s l k)
 | 0 => hi
 | k + 1 => by
   have ih := runI_inv hi l k
   unfold runI
   split
   · rename_i e _
     obtain ⟨E, _, _, _, _, h, _⟩ := stepX_ci (runI s l k) k e.ev ih
     exact h
   · exact ih
theorem runI_more {s : IW} (hi : InvI s) (l : List Ex) (k : Nat) : ∀ j, ∃ G : List (Int × Int), (runI s l (k + j)).flt = (runI s l k).flt ++ G ∧ G.Pairwise ltF ∧ ∀ f, f ∈ G → (k : Int) ≤ f.2 ∧ f.2 < ((k + j : Nat) : Int) ∧ 1 ≤ f.1 ∧ f.1 ≤ 13
 | 0 => ⟨[], by simp, .nil, fun f hf => by simp at hf⟩
 | j + 1 => by
   obtain ⟨G, h1, h2, h3⟩ := runI_more hi l k j
   show ∃ G, (runI s l ((k + j) + 1)).flt = _ ∧ _
   cases he : l[k + j]? with
   | some e =>
     rw [runI_some he]
     obtain ⟨E, e1, e2, _, e4, _⟩ := stepX_ci (runI s l (k + j)) (k + j) e.ev (runI_inv hi l _)
     obtain ⟨p1, p2⟩ := srtF_ev (k := k + j) e1 e2
     refine ⟨G ++ srtF (E.map fun q => (q, ((k + j : Nat) : Int))), by rw [e4, h1, List.append_assoc], ?_, fun f hf => ?_⟩
     · rw [List.pairwise_append]
       refine ⟨h2, p1, fun f hf g hg => .inl ?_⟩
       have := (h3 f hf).2.1
       have := (p2 g hg).1
       omega
     · rcases List.mem_append.1 hf with h | h
       · have := h3 f h; omega
       · have := p2 f h; omega
   | none =>
     rw [runI_none he]
     exact ⟨G, h1, h2, fun f hf => by have := h3 f hf; omega⟩
theorem run_flt (L : List Lim) (most : Int) (l0 l : List Ex) (n : Nat) : (runI (begI L most l0) l n).flt.Pairwise ltF ∧ ∀ f, f ∈ (runI (begI L most l0) l n).flt → 0 ≤ f.2 ∧ f.2 < n ∧ 1 ≤ f.1 ∧ f.1 ≤ 13 := by
 obtain ⟨G, h1, h2, h3⟩ := runI_more (beg_good L most l0).inv l 0 n
 have e : (runI (begI L most l0) l 0).flt = [] := rfl
 rw [e, List.nil_append, Nat.zero_add] at h1
 rw [h1]
 exact ⟨h2, fun f hf => by have := h3 f hf; omega⟩
def IW.ev (s : IW) (e : List Ex) : IW := { s with evs := e }
def onE (e : List Ex) (z : IW × Bool) : IW × Bool := (z.1.ev e, z.2)
theorem faultIf_ev (s : IW) (e : List Ex) (c : Bool) (k : Int) : (s.ev e).faultIf c k = (s.faultIf c k).ev e := by cases c <;> rfl
theorem becomesI_ev (s : IW) (e : List Ex) (x : Ev) (q : IP) : becomesI (s.ev e) x q = (becomesI s x q).ev e := by unfold becomesI; split <;> rfl
theorem waitsI_ev (s : IW) (e : List Ex) (x : Ev) : waitsI (s.ev e) x = waitsI s x := rfl
theorem readyI_ev (s : IW) (e : List Ex) (x : Int) : readyI (s.ev e) x = readyI s x := rfl
theorem mayI_ev (s : IW) (e : List Ex) (x : Ev) : mayI (s.ev e) x = mayI s x := rfl
theorem thereI_ev (s : IW) (e : List Ex) (x : Ev) : thereI (s.ev e) x = thereI s x := rfl
theorem ownI_ev (s : IW) (e : List Ex) (x : Ev) : ownI (s.ev e) x = ownI s x := rfl
theorem firstI_ev (s : IW) (e : List Ex) (x : Ev) : firstI (s.ev e) x = firstI s x := rfl
theorem busyOf_ev (s : IW) (e : List Ex) (x : Int) : busyOf (s.ev e) x = busyOf s x := rfl
theorem whereOf_ev (s : IW) (e : List Ex) (x : Int) : whereOf (s.ev e) x = whereOf s x := rfl
theorem servedI_ev (s : IW) (e : List Ex) (x : Ev) : servedI (s.ev e) x = (servedI s x).ev e := rfl
theorem setB_ev (s : IW) (e : List Ex) (i : Nat) (b : IB) : (s.ev e).setB i b = (s.setB i b).ev e := rfl
theorem setC_ev (s : IW) (e : List Ex) (i : Nat) (b : IC) : (s.ev e).setC i b = (s.setC i b).ev e := rfl
theorem setR_ev (s : IW) (e : List Ex) (i : Nat) (b : IR) : (s.ev e).setR i b = (s.setR i b).ev e := rfl
theorem takeI_ev (s : IW) (e : List Ex) (i : Nat) (x : Ev) : takeI (s.ev e) i x = (takeI s i x).ev e := by
 unfold takeI
 exact becomesI_ev { s with cns := s.cns.set i { s.cns.getD i ic0 with st := 1, call := x.call, leases := w64 ((s.cns.getD i ic0).leases + 1) } } e x _
theorem dialledI_ev (s : IW) (e : List Ex) (x : Ev) : dialledI (s.ev e) x = onE e (dialledI s x) := by
 unfold dialledI
 rw [busyOf_ev, whereOf_ev]
 split
 · exact congrArg (fun z => (z, true)) (becomesI_ev { s with bks := s.bks.set x.bk { s.bks.getD x.bk ib0 with dials := w64 ((s.bks.getD x.bk ib0).dials - 1) } } e x ip0)
 · rfl
theorem ev_bks (s : IW) (e : List Ex) : (s.ev e).bks = s.bks := rfl
theorem ev_cns (s : IW) (e : List Ex) : (s.ev e).cns = s.cns := rfl
theorem ev_rqs (s : IW) (e : List Ex) : (s.ev e).rqs = s.rqs := rfl
theorem ev_lims (s : IW) (e : List Ex) : (s.ev e).lims = s.lims := rfl
theorem ev_now (s : IW) (e : List Ex) : (s.ev e).now = s.now := rfl
theorem ev_most (s : IW) (e : List Ex) : (s.ev e).most = s.most := rfl
theorem ev_stop (s : IW) (e : List Ex) : (s.ev e).stop = s.stop := rfl
theorem stepI_ev (s : IW) (e : List Ex) (x : Ev) : stepI (s.ev e) x = onE e (stepI s x) := by
 unfold stepI
 split
 · unfold beginI
   rw [ev_rqs, ev_stop]
   split <;> rfl
 · unfold pickI
   rw [readyI_ev]
   split
   · rfl
   · dsimp only
     simp only [faultIf_ev, setB_ev, setR_ev, ev_bks, ev_rqs, ev_most]
     split <;> simp only [faultIf_ev, setB_ev, setR_ev] <;> rfl
 · unfold waitI
   rw [waitsI_ev, mayI_ev]
   split
   · rfl
   · dsimp only
     simp only [faultIf_ev, setB_ev, becomesI_ev, ev_bks, ev_lims]
     rfl
 · unfold leaveI
   rw [waitsI_ev]
   split
   · simp only [servedI_ev, becomesI_ev]; rfl
   · rfl
 · unfold dialI
   rw [mayI_ev]
   split
   · dsimp only
     simp only [faultIf_ev, firstI_ev, servedI_ev, setB_ev, becomesI_ev, ev_bks, ev_lims]
     rfl
   · rfl
 · exact dialledI_ev s e x
 · unfold openI
   rw [ev_cns, dialledI_ev]
   split
   · rfl
   · dsimp only [onE]
     split
     · split
       · generalize (dialledI s x).1 = d
         exact congrArg (fun z => (z, true)) (takeI_ev (({ d with cns := d.cns ++ [(⟨x.conn, x.bk, 0, d.now, -1, 0, 0, 3, 0, 0⟩ : IC)], ord := d.ord ++ [x.conn] } : IW).setB x.bk { d.bks.getD x.bk ib0 with conns := w64 ((d.bks.getD x.bk ib0).conns + 1) }) e d.cns.length x)
       · rfl
     · rfl
 · unfold leaseI
   rw [mayI_ev, thereI_ev]
   split
   · split
     · rfl
     · dsimp only
       rw [ev_cns]
       split
       · rfl
       · split
         · rfl
         · simp only [faultIf_ev, firstI_ev, servedI_ev, takeI_ev, ev_now, ev_lims]
           rfl
   · rfl
 · unfold sendI
   rw [ownI_ev, ev_rqs]
   split
   · rfl
   · split
     · rfl
     · dsimp only
       simp only [faultIf_ev, setR_ev, setC_ev, ev_cns, ev_rqs]
       rfl
 · unfold readI
   rw [ownI_ev]
   split
   · rfl
   · dsimp only
     simp only [faultIf_ev, setC_ev, ev_cns]
     rfl
 · unfold freeI
   rw [ownI_ev]
   split
   · rfl
   · simp only [setC_ev, becomesI_ev, ev_cns]
     rfl
 · unfold idleI
   rw [thereI_ev]
   split
   · rfl
   · dsimp only
     rw [ev_cns]
     (repeat' split) <;> rfl
 · unfold closeI
   rw [thereI_ev]
   split
   · rfl
   · dsimp only
     rw [ev_cns]
     split <;> rfl
 · rfl
 · rfl
 · unfold reportI
   rw [ev_rqs]
   split
   · rfl
   · dsimp only
     rw [ev_bks]
     (repeat' split) <;> rfl
 · unfold endI
   rw [readyI_ev]
   split <;> rfl
 · rfl
 · unfold overI
   rw [ev_stop]
   split
   · exact congrArg (fun z => (z, true)) (faultIf_ev s e _ 11)
   · rfl
theorem stepX_ev (s : IW) (e : List Ex) (k : Nat) (x : Ev) : stepX (s.ev e) k x = (stepX s k x).ev e := by
 unfold stepX
 have h1 : ({ s.ev e with at_ := (k : Int) } : IW) = ({ s with at_ := (k : Int) } : IW).ev e := rfl
 dsimp only
 rw [h1]
 generalize ({ s with at_ := (k : Int) } : IW) = s0
 have h2 : preI (s0.ev e) x = (preI s0 x).ev e := by
   unfold preI
   rw [faultIf_ev]; rfl
 rw [h2, stepI_ev]
 unfold postI onE
 dsimp only
 rw [faultIf_ev]
 rfl
theorem runI_ev (s : IW) (e : List Ex) (l : List Ex) : ∀ k, runI (s.ev e) l k = (runI s l k).ev e
 | 0 => rfl
 | k + 1 => by
   cases he : l[k]? with
   | some x => rw [runI_some he, runI_some he, runI_ev s e l k, stepX_ev]
   | none => rw [runI_none he, runI_none he, runI_ev s e l k]
theorem runI_take (s : IW) (l : List Ex) (m : Nat) : ∀ k, k ≤ m → runI s (l.take m) k = runI s l k
 | 0, _ => rfl
 | k + 1, h => by
   have ih := runI_take s l m k (by omega)
   have e : (l.take m)[k]? = l[k]? := by rw [List.getElem?_take]; simp; omega
   cases he : l[k]? with
   | some x => rw [runI_some he, runI_some (e.trans he), ih]
   | none => rw [runI_none he, runI_none (e.trans he), ih]
def fltI (L : List Lim) (most : Int) (l : List Ex) : List (Int × Int) := (runI (begI L most l) l l.length).flt
theorem fltI_take (L : List Lim) (most : Int) (l : List Ex) (k : Nat) (hk : k ≤ l.length) : ∃ G, fltI L most l = fltI L most (l.take k) ++ G ∧ (∀ f, f ∈ fltI L most (l.take k) → f.2 < k) ∧ ∀ f, f ∈ G → (k : Int) ≤ f.2 := by
 obtain ⟨G, h1, h2, h3⟩ := runI_more (beg_good L most l).inv l k (l.length - k)
 rw [show k + (l.length - k) = l.length by omega] at h1
 have e : fltI L most (l.take k) = (runI (begI L most l) l k).flt := by
   unfold fltI
   have h4 : begI L most (l.take k) = (begI L most l).ev (l.take k) := rfl
   rw [h4, runI_ev]
   show (runI (begI L most l) (l.take k) _).flt = _
   rw [List.length_take, Nat.min_eq_left hk, runI_take _ _ _ _ (Nat.le_refl _)]
 refine ⟨G, by rw [e]; exact h1, fun f hf => ?_, fun f hf => (h3 f hf).1⟩
 rw [e] at hf
 exact ((run_flt L most l l k).2 f hf).2.1
theorem fltI_ord (L : List Lim) (most : Int) (l : List Ex) : (fltI L most l).Pairwise ltF ∧ ∀ f, f ∈ fltI L most l → 0 ≤ f.2 ∧ f.2 < l.length ∧ 1 ≤ f.1 ∧ f.1 ≤ 13 := run_flt L most l l l.length
theorem check_take {L : List Lim} {most : Int} {l : List Ex} (h : (checkI L most l).2 = 0) (k : Nat) : (checkI L most (l.take k)).2 = 0 := by
 obtain ⟨h1, h2, h3, h4, h5, h6, h7⟩ := check_ok h
 unfold checkI newI
 rw [if_neg (show ¬ (L.length = 0 ∨ 16 < L.length) by omega), h3]
 rw [if_neg (by simp), if_neg (by omega), if_neg (by rw [List.length_take]; omega)]
 have e : (l.take k).findIdx? (evBad L.length) = none := by
   rw [List.findIdx?_eq_none_iff]
   exact fun x hx => h7 x (List.mem_of_mem_take hx)
 rw [e]
theorem check_sub {L : List Lim} {most : Int} {l R : List Ex} (h : (checkI L most l).2 = 0) (hs : ∀ e, e ∈ R → e ∈ l) (hl : R.length ≤ l.length) : (checkI L most R).2 = 0 := by
 obtain ⟨h1, h2, h3, h4, h5, h6, h7⟩ := check_ok h
 unfold checkI newI
 rw [if_neg (show ¬ (L.length = 0 ∨ 16 < L.length) by omega), h3]
 rw [if_neg (by simp), if_neg (by omega), if_neg (by omega)]
 have e : R.findIdx? (evBad L.length) = none := by
   rw [List.findIdx?_eq_none_iff]
   exact fun x hx => h7 x (hs x hx)
 rw [e]
def okK (L : List Lim) (most : Int) (want : List Int) (l : List Ex) : Bool := (kindsI L most l).2 && decide ((kindsI L most l).1 = want)
def wantC (L : List Lim) (most : Int) (l : List Ex) : List Int := (kindsI L most l).1
def cutR (L : List Lim) (most : Int) (l : List Ex) : List Ex := loopC (okK L most (wantC L most l)) l.length l
def cutI (L : List Lim) (most : Int) (l : List Ex) : List Ex × Int :=
 if (checkI L most l).2 ≠ 0 then ([], (checkI L most l).2)
 else match fltI L most l with
   | [] => ([], 4)
   | f :: _ => if 60 ≤ f.2 then ([], 3) else (cutR L most (l.take (f.2.toNat + 1)), 0)
def alikeI (b a : List (Int × Int)) (t : Int) : Bool := decide (b = (a.takeWhile fun f => f.2 == (a.headD (0, 0)).2).map fun f => (f.1, t))
theorem kinds_true {L : List Lim} {most : Int} {l : List Ex} {want : List Int} (h : okK L most want l = true) : (∀ f, f ∈ fltI L most l → f.2 = (l.length : Int) - 1) ∧ (fltI L most l).map (·.1) = want := by
 unfold okK kindsI kindsF at h
 simp only [Bool.and_eq_true, decide_eq_true_eq] at h
 have ho := (fltI_ord L most l).2
 unfold fltI at ho ⊢
 split at h
 · exact absurd h.1 (by simp)
 · rename_i h1
   refine ⟨fun f hf => ?_, h.2⟩
   have h2 := ho f hf
   have h3 : ¬ f.2 < (l.length : Int) - 1 := fun h4 => h1 (List.any_eq_true.2 ⟨f, hf, by simpa using h4⟩)
   omega
theorem kinds_of {L : List Lim} {most : Int} {l : List Ex} {want : List Int} (h : (∀ f, f ∈ fltI L most l → f.2 = (l.length : Int) - 1) ∧ (fltI L most l).map (·.1) = want) : okK L most want l = true := by
 unfold okK kindsI kindsF
 unfold fltI at h
 rw [if_neg]
 · simp [h.2]
 · intro h1
   obtain ⟨f, hf, h2⟩ := List.any_eq_true.1 h1
   have := h.1 f hf
   simp at h2
   omega
theorem pairs_eq {b B : List (Int × Int)} {t : Int} (h1 : ∀ f, f ∈ b → f.2 = t) (h2 : b.map (·.1) = B.map (·.1)) : b = B.map fun f => (f.1, t) := by
 induction b generalizing B with
 | nil => cases B with
   | nil => rfl
   | cons => simp at h2
 | cons f b ih => cases B with
   | nil => simp at h2
   | cons g B =>
     simp only [List.map_cons, List.cons.injEq] at h2 ⊢
     refine ⟨?_, ih (fun f hf => h1 f (by simp [hf])) h2.2⟩
     have := h1 f (by simp)
     rw [← h2.1, ← this]
theorem take_group {a B G : List (Int × Int)} {t : Int} (ha : a = B ++ G) (hB : ∀ f, f ∈ B → f.2 = t) (hG : ∀ f, f ∈ G → t < f.2) : (a.takeWhile fun f => f.2 == t) = B := by
 subst ha
 rw [List.takeWhile_append_of_pos (by intro f hf; simp [hB f hf])]
 cases G with
 | nil => simp
 | cons g G =>
   have := hG g (by simp)
   rw [List.takeWhile_cons_of_neg (by simp; omega)]
   simp
theorem first_group {L : List Lim} {most : Int} {l : List Ex} {f : Int × Int} {t : List (Int × Int)} (h : fltI L most l = f :: t) : ∃ k : Nat, f.2 = k ∧ k < l.length ∧ (fltI L most (l.take (k + 1))) = (fltI L most l).takeWhile (fun g => g.2 == f.2) ∧ (∀ g, g ∈ fltI L most (l.take (k + 1)) → g.2 = f.2) ∧ f ∈ fltI L most (l.take (k + 1)) := by
 obtain ⟨h1, h2⟩ := fltI_ord L most l
 have hf := h2 f (by rw [h]; simp)
 obtain ⟨k, hk⟩ : ∃ k : Nat, f.2 = k := ⟨f.2.toNat, by omega⟩
 obtain ⟨G, g1, g2, g3⟩ := fltI_take L most l (k + 1) (by omega)
 have hge : ∀ g, g ∈ fltI L most l → f.2 ≤ g.2 := fun g hg => by
   rw [h] at hg h1
   rcases List.mem_cons.1 hg with rfl | hg
   · exact Int.le_refl _
   · rcases (List.pairwise_cons.1 h1).1 g hg with h3 | h3 <;> omega
 have hB : ∀ g, g ∈ fltI L most (l.take (k + 1)) → g.2 = f.2 := fun g hg => by
   have h3 := hge g (by rw [g1]; exact List.mem_append_left _ hg)
   have h4 := g2 g hg
   omega
 refine ⟨k, hk, by omega, (take_group g1 hB fun g hg => by have := g3 g hg; omega).symm, hB, ?_⟩
 have hm : f ∈ fltI L most l := by rw [h]; simp
 rw [g1] at hm
 rcases List.mem_append.1 hm with h5 | h5
 · exact h5
 · have := g3 f h5; omega
theorem cut_start {L : List Lim} {most : Int} {l : List Ex} {f : Int × Int} {t : List (Int × Int)} (h : fltI L most l = f :: t) : okK L most (wantC L most (l.take (f.2.toNat + 1))) (l.take (f.2.toNat + 1)) = true ∧ wantC L most (l.take (f.2.toNat + 1)) = ((fltI L most l).takeWhile (fun g => g.2 == f.2)).map (·.1) := by
 obtain ⟨k, h1, h2, h3, h4, h5⟩ := first_group h
 rw [show f.2.toNat = k by omega]
 have hw : wantC L most (l.take (k + 1)) = (fltI L most (l.take (k + 1))).map (·.1) := by
   unfold wantC kindsI kindsF
   rw [if_neg]
   · rfl
   · intro h6
     obtain ⟨g, hg, h7⟩ := List.any_eq_true.1 h6
     have := h4 g hg
     simp only [List.length_take, decide_eq_true_eq] at h7
     omega
 refine ⟨kinds_of ⟨fun g hg => ?_, hw.symm⟩, by rw [hw, h3]⟩
 have := h4 g hg
 simp only [List.length_take]
 omega
theorem cut_short {L : List Lim} {most : Int} {l : List Ex} {f : Int × Int} {t : List (Int × Int)} (hc : (checkI L most l).2 = 0) (h : fltI L most l = f :: t) (R : List Ex) (hR : cutR L most (l.take (f.2.toNat + 1)) = R) :
   0 ≤ f.2 ∧ f.2 < l.length ∧ 1 ≤ R.length ∧ R.length ≤ l.length ∧ R.getLast? = l[f.2.toNat]? ∧ (checkI L most R).2 = 0 ∧ fltI L most R ≠ [] ∧ alikeI (fltI L most R) (fltI L most l) ((R.length : Int) - 1) = true ∧ ∀ i, i + 1 < R.length → (checkI L most (dropAt R i)).2 = 0 ∧ alikeI (fltI L most (dropAt R i)) (fltI L most l) ((R.length : Int) - 2) = false := by
 obtain ⟨k, h1, h2, h3, h4, h5⟩ := first_group h
 obtain ⟨h6, h7⟩ := cut_start h
 have hk : f.2.toNat = k := by omega
 rw [hk] at hR h6 h7 ⊢
 have hlen : (l.take (k + 1)).length = k + 1 := by rw [List.length_take]; omega
 unfold cutR at hR
 have hco := loopC_ok (okK L most (wantC L most (l.take (k + 1)))) (l.take (k + 1)).length (l.take (k + 1)) (by omega) (Nat.le_refl _)
 rw [hR] at hco
 have hmem : ∀ e, e ∈ R → e ∈ l := fun e he => List.mem_of_mem_take (hco.sub.subset he)
 have hle := hco.sub.length_le
 have hd : ∀ (M : List Ex), alikeI (fltI L most M) (fltI L most l) ((M.length : Int) - 1) = okK L most (wantC L most (l.take (k + 1))) M := fun M => by
   have hh : ((fltI L most l).headD (0, 0)).2 = f.2 := by rw [h]; rfl
   unfold alikeI
   rw [hh, h7]
   cases ho : okK L most (((fltI L most l).takeWhile (fun g => g.2 == f.2)).map (·.1)) M
   · rw [decide_eq_false_iff_not]
     intro he
     have := kinds_of (L := L) (most := most) (l := M) (want := ((fltI L most l).takeWhile (fun g => g.2 == f.2)).map (·.1)) ⟨fun g hg => by rw [he] at hg; obtain ⟨q, _, rfl⟩ := List.mem_map.1 hg; rfl, by rw [he, List.map_map]; rfl⟩
     rw [this] at ho
     cases ho
   · obtain ⟨q1, q2⟩ := kinds_true ho
     exact decide_eq_true (pairs_eq q1 q2)
 have hok := hco.ok_ h6
 refine ⟨by omega, by omega, hco.pos, by omega, ?_, check_sub hc hmem (by omega), ?_, by rw [hd, hok], fun i hi => ?_⟩
 · rw [hco.last, List.getLast?_eq_getElem?, hlen, List.getElem?_take]
   simp
 · intro h0
   have := (kinds_true hok).2
   rw [h0, h7, ← h3] at this
   rw [List.eq_nil_of_map_eq_nil this.symm] at h5
   simp at h5
 · have hl := dropAt_len (l := R) (k := i) (by omega)
   refine ⟨check_sub hc (fun e he => hmem e ((dropAt_sub R i).subset he)) (by omega), ?_⟩
   have h8 := hd (dropAt R i)
   rw [hl, show ((R.length - 1 : Nat) : Int) - 1 = (R.length : Int) - 2 by omega, hco.min i hi] at h8
   exact h8
theorem begins_many (L : List Lim) (most : Int) (l : List Ex) (k : Nat) (hk : k ≤ l.length) : (fltI L most l).take ((fltI L most l).countP fun f => decide (f.2 < (k : Int))) = fltI L most (l.take k) ∧ ((fltI L most l).countP fun f => decide (f.2 < (k : Int))) = (fltI L most (l.take k)).length := by
 obtain ⟨G, h1, h2, h3⟩ := fltI_take L most l k hk
 have e : (fltI L most l).countP (fun f => decide (f.2 < (k : Int))) = (fltI L most (l.take k)).length := by
   rw [h1, List.countP_append, List.countP_eq_length.2 (fun f hf => by simpa using h2 f hf), List.countP_eq_zero.2 (fun f hf => by have := h3 f hf; simp; omega)]
   rfl
 refine ⟨?_, e⟩
 rw [e]
 conv => lhs; rw [h1]
 exact List.take_left' rfl
def evB (k : Int) (call conn t of_ n : Int) (yes : Bool) : Ex := ⟨⟨k, 0, t, call, conn, of_, n, yes⟩, 0⟩
def exL : List Lim := [⟨1, 1, 10, 100⟩]
def exE : List Ex := [evB 1 1 0 0 0 0 true, evB 2 1 0 0 0 0 false, evB 5 1 0 1 0 0 false, evB 7 1 7 2 0 0 true, evB 9 1 7 3 0 20 false, evB 10 1 7 4 1 30 false, evB 11 1 7 4 0 0 true, evB 12 0 7 5 0 0 false]
def exLate : List Ex := exE ++ [evB 1 2 0 15 0 0 false, evB 2 2 0 15 0 0 false, evB 8 2 7 15 0 0 false]
def exOver : List Ex := exE ++ [evB 18 0 0 6 0 0 false, evB 19 0 0 6 0 0 false]
theorem ex5 : cutI exL 1 exOver = ([evB 1 1 0 0 0 0 true, evB 18 0 0 6 0 0 false, evB 19 0 0 6 0 0 false], 0) := by decide
end Go.Proofs

set_option linter.unusedSimpArgs false
set_option linter.unusedVariables false
set_option maxRecDepth 100000
namespace Go.Proofs
open Go Go.Pl
def lifeV (c : IC) : V := .agg [iI c.num, iI c.bk, iI c.leases, iI c.born, iI c.gone, iI c.sent, iI c.read]
def livesI (L : List Lim) (most : Int) (l : List Ex) : List IC × Int := if (checkI L most l).2 = 0 then ((runI (begI L most l) l l.length).cns, 0) else ([], (checkI L most l).2)
set_option maxHeartbeats 2000000 in
theorem Tryz.Lives_i (L : List Lim) (most : Int) (l : List Ex) (hL : L.length ≤ 1000000) (hl : l.length ≤ 4000000000000000000) (hne : ∀ e, e ∈ l → NE e) (bx : Boxes) : AbsCall Tryz.prog 18 [logV L most l] bx fun r bx' => bx' = bx ∧ ∃ v, SlV 7 ((livesI L most l).1.map lifeV) v ∧ r = .tup [v, iI (livesI L most l).2] := by
 obtain ⟨Kc, hKc⟩ : ∃ Kc : V → Boxes → Prop, Kc = fun r bx' => bx' = bx ∧ ∃ v, SlV 7 ((livesI L most l).1.map lifeV) v ∧ r = .tup [v, iI (livesI L most l).2] := ⟨_, rfl⟩
 rw [← hKc]
 refine Tryz.ctr18 fun hf => ?_
 have hc := Tryz.Check_i L most l hL hl bx
 have hr := Tryz.run_i L most l
 have hg := runI_good (beg_good L most l) l.length
 unfold livesI at hKc
 have hck := check_ok (L := L) (most := most) (l := l)
 obtain ⟨c, hce⟩ : ∃ c, checkI L most l = c := ⟨_, rfl⟩
 rw [hce] at hc hKc hck
 obtain ⟨s, hs⟩ : ∃ s, runI (begI L most l) l l.length = s := ⟨_, rfl⟩
 rw [hs] at hr hKc hg
 obtain ⟨lv, hlv⟩ : ∃ lv, logV L most l = lv := ⟨_, rfl⟩
 have hlo : lv.strip = lv ∧ lv.liveB = true ∧ okV lv = true ∧ lv.cells.length = 3 ∧ V.agg (List.take 3 lv.cells) = lv := by rw [← hlv]; exact ⟨rfl, rfl, rfl, rfl, rfl⟩
 obtain ⟨v1, v2, v3, v4, v5⟩ := hlo
 rw [hlv] at hc hr ⊢
 simp [go_sem, Tryz.C18, hf, v1, v2, v3, v4, v5]
 refine callK_pure hc ?_
 by_cases e0 : c.2 = 0
 rotate_left
 · rw [if_neg e0] at hKc
   simp [go_sem, hf, iI, e0]
   refine ret_pure (by simp [go_sem]) ?_
   rw [hKc]
   exact ⟨rfl, .nils, .inr ⟨rfl, rfl⟩, by simp [go_sem, iI]⟩
 rw [if_pos e0] at hKc
 obtain ⟨q1, q2, q3, q4, q5, q6, q7⟩ := hck e0
 simp [go_sem, hf, v1, v2, v3, v4, v5, iI, e0]
 refine callK_abs (hr (by omega) q6 (fun e he => bad_ve (q7 e he) (hne e he)) bx) ?_
 rintro r bx1 ⟨p, ad, rfl, hp, hw⟩
 obtain ⟨pb, pc, pr, pm, pw', hn⟩ := hw.names hp
 have hrow := hw.row hn
 unfold stV at hrow
 have hf1 := hw.fin
 have ho := hw.ordO
 have hmc := hw.mcR hn
 have hcn := fun i (hi : i < s.cns.length) => hw.cnR hi
 have hx1 := hw.ext
 have hord := hg.inv.ord
 have hnod := hg.inv.nod
 have hcl := hg.cns
 have hol : s.ord.length = s.cns.length := by rw [hord, List.length_map]
 have hlen := fun bx2 => own_len (bx2 := bx2) (t := 60) ho Tryz.knd60
 simp [go_sem, ho.strip, ho.live] at hlen
 simp [go_sem, hf1, hrow, ho.strip, ho.live, hlen]
 cases hc : ad .ord with
 | none =>
   have h0 : s.ord = [] := hw.none_ .ord hc trivial
   have hC0 : s.cns = [] := by rw [h0] at hol; exact List.length_eq_zero_iff.1 hol.symm
   simp only [h0, slV, List.length_nil]
   refine pw_upto 0 (fun k => ⟨43, slk [(6, .ptr p 13 0 0), (7, .nils), (23, .nils), (24, .int .i64 0), (25, .int .i64 0)], bx1⟩) (cov_look (by simp [go_sem, iI])) (fun k hk N hN => by omega) (fun N => ?_)
   simp [go_sem, Tryz.L18_0, hf1]
   refine ret_drop (by simp [go_sem]) hx1 ?_
   rw [hKc, hC0]
   exact ⟨rfl, .nils, .inr ⟨rfl, rfl⟩, by simp [go_sem, iI]⟩
 | some b =>
   obtain ⟨hb0, hbr, _⟩ := hw.at_ .ord b hc
   have hbr : bx1 b = some (.row 2 1 (s.ord.map iI)) := hbr
   have hfind := fun k (hk : k < s.cns.length) => cn_find s s.cns[k].num ad
   clear hlen ho
   simp only [slV]
   refine pw_for (ι := V × Boxes) s.cns.length (fun k q => FinB q.2 ∧ Ext bx1 q.2 ∧ OwnV q.2 77 7 ((s.cns.take k).map lifeV) q.1 ∧ NewV bx1 q.1) (fun k q => ⟨43, slk [(6, .ptr p 13 0 0), (7, q.1), (23, .own b 1 0 s.ord.length), (24, .int .i64 s.ord.length), (25, .int .i64 k)], q.2⟩) (.nils, bx1) ⟨hf1, Ext.refl _, .inl ⟨rfl, rfl⟩, (show NewV bx1 .nils from fun b sz o m e => by cases e)⟩ (cov_look (by simp [go_sem, iI])) (fun k q hk hJ N hN => ?_) (fun q hJ N => ?_)
   · obtain ⟨v, bx2⟩ := q
     obtain ⟨hf2, hx2, ho, hnv⟩ := hJ
     dsimp only at hf2 hx2 ho hnv ⊢
     have hw1 := wr_succ (k := k) (by omega)
     have hko : k < s.ord.length := by omega
     have r1 := (hx2 p (by rw [hrow]; simp)).trans hrow
     have r2 := (hx2 b (by rw [hbr]; simp)).trans hbr
     have r3 := (hx2 pc (by rw [hmc]; simp)).trans hmc
     obtain ⟨bc, hbc, hrc⟩ := hcn k hk
     have r4 := (hx2 bc (by rw [hrc]; simp)).trans hrc
     have hfk := hfind k hk
     have hidx : (s.cns.map (·.num)).findIdx? (· == s.cns[k].num) = some k := by
       rw [List.findIdx?_eq_some_iff_getElem]
       refine ⟨by simpa using hk, by simp, fun j hj => ?_⟩
       have := List.nodup_iff_pairwise_ne.1 hnod
       rw [List.pairwise_iff_getElem] at this
       have := this j k (by rw [List.length_map]; omega) (by simpa using hk) hj
       simpa using this
     rw [hidx] at hfk
     simp only [Option.map_some, adr_of hbc] at hfk
     have hok : s.ord[k] = s.cns[k].num := by simp [hord]
     simp [go_sem, Tryz.L18_0, hk, hko, hf2, r1, r2, r3, r4, iI, hok, hfk, icV, ho.strip, ho.live, ho.cells, ho.okV]
     intro b7 hb7
     have ho7 := ho.beside hb7 (some (Box.row 77 7 [V.agg [V.int .i64 s.cns[k].num, V.int .i64 s.cns[k].bk, V.int .i64 s.cns[k].leases, V.int .i64 s.cns[k].born, V.int .i64 s.cns[k].gone, V.int .i64 s.cns[k].sent, V.int .i64 s.cns[k].read]]))
     have hb71 : bx1 b7 = none := hx2.none hb7
     have hf7 : FinB (upd bx2 b7 (some (Box.row 77 7 [V.agg [V.int .i64 s.cns[k].num, V.int .i64 s.cns[k].bk, V.int .i64 s.cns[k].leases, V.int .i64 s.cns[k].born, V.int .i64 s.cns[k].gone, V.int .i64 s.cns[k].sent, V.int .i64 s.cns[k].read]]))) := (finB_upd _ _ _).2 hf2
     have hx7 : Ext bx1 (upd bx2 b7 (some (Box.row 77 7 [V.agg [V.int .i64 s.cns[k].num, V.int .i64 s.cns[k].bk, V.int .i64 s.cns[k].leases, V.int .i64 s.cns[k].born, V.int .i64 s.cns[k].gone, V.int .i64 s.cns[k].sent, V.int .i64 s.cns[k].read]]))) := hx2.upd_own hb71 _
     have hb77 : upd bx2 b7 (some (Box.row 77 7 [V.agg [V.int .i64 s.cns[k].num, V.int .i64 s.cns[k].bk, V.int .i64 s.cns[k].leases, V.int .i64 s.cns[k].born, V.int .i64 s.cns[k].gone, V.int .i64 s.cns[k].sent, V.int .i64 s.cns[k].read]])) b7 = (some (Box.row 77 7 [V.agg [V.int .i64 s.cns[k].num, V.int .i64 s.cns[k].bk, V.int .i64 s.cns[k].leases, V.int .i64 s.cns[k].born, V.int .i64 s.cns[k].gone, V.int .i64 s.cns[k].sent, V.int .i64 s.cns[k].read]])) := upd_eq _ _ _
     generalize upd bx2 b7 (some (Box.row 77 7 [V.agg [V.int .i64 s.cns[k].num, V.int .i64 s.cns[k].bk, V.int .i64 s.cns[k].leases, V.int .i64 s.cns[k].born, V.int .i64 s.cns[k].gone, V.int .i64 s.cns[k].sent, V.int .i64 s.cns[k].read]])) = bx3 at *
     refine own_app (.agg #[.int .i64 0, .int .i64 0, .int .i64 0, .int .i64 0, .int .i64 0, .int .i64 0, .int .i64 0]) ho7 hf7 (news := [lifeV s.cns[k]]) Tryz.knd36 Tryz.tsz77 (by simp [go_sem, srcEls, hb77, iI, lifeV]) Tryz.tzero77 (by simp [go_sem]) (by decide) (by simp [Tryz.tby77]; omega) (by simp; omega) (by simp [go_sem]) fun v' bx' ha hm _ => ?_
     obtain ⟨e1, e2⟩ := hm.base hx7 hnv
     have ha' : OwnV bx' 77 7 ((s.cns.take (k + 1)).map lifeV) v' := by
       rw [List.take_succ_eq_append_getElem hk, List.map_append]; exact ha
     simp [go_sem, hm.fin, ha.strip, ha.live, ha.cells, ha.okV, hw1]
     exact hN _ (v', bx') ⟨hm.fin, e1, ha', e2⟩ (cov_look (by simp [go_sem, iI]))
   · obtain ⟨v, bx2⟩ := q
     obtain ⟨hf2, hx2, ho, hnv⟩ := hJ
     dsimp only at hf2 hx2 ho hnv ⊢
     rw [List.take_of_length_le (Nat.le_refl _)] at ho
     have hge : ¬ (s.cns.length : Int) < s.ord.length := by omega
     simp [go_sem, Tryz.L18_0, hf2, ho.strip, ho.live, hge, hol]
     refine ret_frz 2 (by simp [go_sem, ho.strip, ho.live]) (hx1.trans hx2) ?_
     have e4 : frz bx2 bx 2 (resV Tryz.prog ⟨43, slk [(2, v), (3, .int .i64 0)], bx2⟩ [.tmp 2, .tmp 3]) = .tup [frz bx2 bx 1 v, .int .i64 0] := by simp [go_sem, frz, ho.strip]
     rw [e4, hKc]
     refine ⟨rfl, _, ?_, rfl⟩
     rcases ho with ⟨h0, rfl⟩ | ⟨b3, rfl, hb3⟩
     · exact .inr ⟨h0, rfl⟩
     · exact .inl (frz_own1 hb3 (hx1.none (hnv _ _ _ _ rfl)) (by decide) rfl)
end Go.Proofs

set_option linter.unusedSimpArgs false
set_option linter.unusedVariables false
set_option maxRecDepth 100000
namespace Go.Proofs
open Go Go.Pl
def cutV (L : List Lim) (most : Int) (z : List Ex × Int) : V := if z.2 = 0 then logV L most z.1 else .agg [.nils, iI 0, .nils]
theorem find_flt {L : List Lim} {most : Int} {l : List Ex} (h : (checkI L most l).2 = 0) : findI L most l = (fltI L most l, 0) := by
 unfold findI; rw [if_pos h]; rfl
set_option maxHeartbeats 2000000 in
theorem Tryz.Cut_i (L : List Lim) (most : Int) (l : List Ex) (hL : L.length ≤ 1000000) (hl : l.length ≤ 4000000000000000000) (hne : ∀ e, e ∈ l → NE e) (bx : Boxes) : PureCall Tryz.prog 21 [logV L most l] bx (.tup [cutV L most (cutI L most l), iI (cutI L most l).2]) := by
 obtain ⟨Kc, hKc⟩ : ∃ Kc : V → Boxes → Prop, Kc = fun r bx' => r = .tup [cutV L most (cutI L most l), iI (cutI L most l).2] ∧ bx' = bx := ⟨_, rfl⟩
 show AbsCall _ _ _ _ (fun r bx' => r = .tup [cutV L most (cutI L most l), iI (cutI L most l).2] ∧ bx' = bx)
 rw [← hKc]
 refine Tryz.ctr21 fun hf => ?_
 have hdone : ∀ z, cutI L most l = z → Kc (.tup [cutV L most z, iI z.2]) bx := fun z hz => by rw [hKc, hz]; exact ⟨rfl, rfl⟩
 have hF := Tryz.Find_p L most l hL hl hne
 have hE : ∀ (b : Nat) (x : Box), bx b = none → Ext bx (upd bx b (some x)) := fun b x hb => (Ext.refl bx).upd_own hb _
 simp [go_sem, Tryz.C21, hf, logV]
 intro b2 hb2
 by_cases hck : (checkI L most l).2 = 0
 rotate_left
 · have hz : cutI L most l = ([], (checkI L most l).2) := by unfold cutI; rw [if_pos hck]
   have hf0 : findI L most l = ([], (checkI L most l).2) := by unfold findI; rw [if_neg hck]
   rw [hf0] at hF
   refine callK_pure (hF _) ?_
   simp [go_sem, hf, iI, hck, upd_eq, finB_upd]
   refine ret_drop (by simp [go_sem, upd_eq]) (hE _ _ hb2) ?_
   have := hdone _ hz
   simpa [go_sem, upd_eq, cutV, hck, iI] using this
 rw [find_flt hck] at hF
 refine callK_pure (hF _) ?_
 cases hfl : fltI L most l with
 | nil =>
   have hz : cutI L most l = ([], 4) := by unfold cutI; rw [if_neg (by simpa using hck), hfl]
   simp [go_sem, hf, iI, upd_eq, finB_upd]
   refine ret_drop (by simp [go_sem, upd_eq]) (hE _ _ hb2) ?_
   have := hdone _ hz
   simpa [go_sem, upd_eq, cutV, iI] using this
 | cons f t =>
   by_cases h60 : 60 ≤ f.2
   · have hz : cutI L most l = ([], 3) := by unfold cutI; rw [if_neg (by simpa using hck), hfl]; dsimp only; rw [if_pos h60]
     have hg : ¬ ((t.length : Int) + 1 = 0) := by omega
     simp [go_sem, hf, iI, upd_eq, finB_upd, fltV, h60, hg]
     refine ret_drop (by simp [go_sem, upd_eq]) (hE _ _ hb2) ?_
     have := hdone _ hz
     simpa [go_sem, upd_eq, cutV, iI] using this
   have hz : cutI L most l = (cutR L most (l.take (f.2.toNat + 1)), 0) := by unfold cutI; rw [if_neg (by simpa using hck), hfl]; dsimp only; rw [if_neg h60]
   obtain ⟨q1, q2, q3, q4, q5, q6, q7⟩ := check_ok hck
   obtain ⟨m, hm, hml, -⟩ := first_group hfl
   rw [hm] at h60
   have hg : ¬ ((t.length : Int) + 1 = 0) := by omega
   rw [show f.2.toNat = m by omega] at hz
   have hw : IntKind.i64.wrap ((m : Int) + 1) = ((m + 1 : Nat) : Int) := wr_succ (by omega)
   have hN1 : (((m + 1 : Nat) : Int)).toNat = m + 1 := by omega
   simp [go_sem, hf, iI, upd_eq, finB_upd, fltV, hm, h60, hg]
   refine callK_pure (Tryz.CloneM_p (L.map limV) (by simp; omega) _) ?_
   simp [go_sem, hf, iI, upd_eq, finB_upd, fltV, hm, h60, hg, hw]
   rw [← List.map_take]
   obtain ⟨O, hO⟩ : ∃ O, l.take (m + 1) = O := ⟨_, rfl⟩
   rw [hO] at hz ⊢
   have hOl : O.length = m + 1 := by rw [← hO, List.length_take]; omega
   have hOm : ∀ e, e ∈ O → VE L.length e := fun e he => by
     rw [← hO] at he
     have := List.mem_of_mem_take he
     exact bad_ve (q7 e this) (hne e this)
   refine ⟨by omega, callK_pure (Tryz.CloneE_p (O.map exV) (by simp; omega) _) ?_⟩
   simp [go_sem, hf, iI, upd_eq, finB_upd]
   intro b6 hb6
   have n26 : b2 ≠ b6 := by rintro rfl; simp [upd_eq] at hb6
   have hb60 : bx b6 = none := by rwa [upd_ne _ _ (Ne.symm n26)] at hb6
   have hK : ∀ o : List Ex, (∀ e, e ∈ o → e ∈ O) → o.length ≤ O.length → ∀ bx', PureCall Tryz.prog 43 [.agg [.sl 4 (L.map limV), .int .i64 most, .sl 8 (o.map exV)]] bx' (.tup [.sl 1 ((kindsI L most o).1.map iI), .bool (kindsI L most o).2]) := fun o h1 h2 bx' => Tryz.kinds_p L most o (by omega) (by omega) (fun e he => hOm e (h1 e he)) bx'
   refine callK_pure (hK O (fun _ h => h) (Nat.le_refl _) _) ?_
   obtain ⟨want, hwant⟩ : ∃ want, (kindsI L most O).1 = want := ⟨_, rfl⟩
   have hzR : cutI L most l = (loopC (okK L most want) O.length O, 0) := by rw [hz]; unfold cutR wantC; rw [hwant]
   rw [hwant]
   obtain ⟨R, hR⟩ : ∃ R, loopC (okK L most want) O.length O = R := ⟨_, rfl⟩
   rw [hR] at hzR
   have hKR := hdone _ hzR
   clear hdone hF
   have hwl : want.length ≤ 100000 := by
     rw [← hwant]
     unfold kindsI kindsF
     have hg := (runI_good (beg_good L most O) O.length).flt
     split
     · simp
     · simp; omega
   simp [go_sem, hf, iI, upd_eq, finB_upd]
   refine pw_loop (ι := Nat × Nat × List Ex × Boxes) (fun i => (FinB i.2.2.2 ∧ Ext bx i.2.2.2 ∧ i.2.2.2 b2 = some (.row 25 3 [.agg [.nils, .int .i64 0, .nils]]) ∧ i.2.2.2 b6 = some (.row 25 3 [.agg [.sl 4 (L.map limV), .int .i64 most, .sl 8 (i.2.2.1.map exV)]])) ∧ ((∀ e, e ∈ i.2.2.1 → e ∈ O) ∧ i.2.2.1.length ≤ O.length ∧ 1 ≤ i.2.2.1.length) ∧ ((i.1 = i.2.2.1.length ∧ i.2.2.1 = R) ∨ (i.1 ≠ i.2.2.1.length ∧ i.2.2.1.length ≤ i.2.1 ∧ loopC (okK L most want) i.2.1 i.2.2.1 = R)))
     (fun i => ⟨92, slk [(2, .ptr b2 3 0 0), (6, .ptr b6 3 0 0), (7, .sl 1 (want.map iI)), (9, .int .i64 i.1)], i.2.2.2⟩) (fun i => if i.1 = i.2.2.1.length then 0 else i.2.1) (0, O.length, O, upd (upd bx b2 (some (.row 25 3 [.agg [.nils, .int .i64 0, .nils]]))) b6 (some (.row 25 3 [.agg [.sl 4 (L.map limV), .int .i64 most, .sl 8 (O.map exV)]]))) ⟨⟨(finB_upd _ _ _).2 ((finB_upd _ _ _).2 hf), (hE b2 _ hb2).upd_own hb60 _, by dsimp only; rw [upd_ne _ _ n26, upd_eq], upd_eq _ _ _⟩, ⟨fun _ h => h, Nat.le_refl _, by dsimp only; omega⟩, .inr ⟨by dsimp only; omega, Nat.le_refl _, hR⟩⟩ (cov_look (by simp [go_sem, iI])) ?_
   rintro ⟨bf, fu, out, bx1⟩ ⟨⟨hf1, hx1, hv2, hv6⟩, ⟨hom, hol, hop⟩, hor⟩
   dsimp only at hf1 hx1 hv2 hv6 hom hol hop hor ⊢
   rcases hor with ⟨rfl, rfl⟩ | ⟨hne1, hfu, hlo⟩
   · simp [go_sem, Tryz.L21_1, hf1, hv6, hv2]
     refine ret_drop (by simp [go_sem, upd_eq]) (hx1.upd_own hb2 _) ?_
     simpa [go_sem, upd_eq, cutV, iI, logV] using hKR
   · have hne2 : ¬ ((bf : Int) = (out.length : Int)) := by omega
     obtain ⟨N0, hN0⟩ : ∃ N0, out.length = N0 + 1 := ⟨out.length - 1, by omega⟩
     have hwr : IntKind.i64.wrap ((out.length : Int) - 2) = (N0 : Int) - 1 - ((0 : Nat) : Int) := by rw [wr64 (by omega)]; omega
     obtain ⟨P, hP⟩ : ∃ P, passC (okK L most want) N0 out = P := ⟨_, rfl⟩
     have hPl := passC_len (okK L most want) N0 out (by omega)
     rw [hP] at hPl
     have hPs : ∀ e, e ∈ P → e ∈ O := fun e he => hom e ((passC_sub (okK L most want) N0 out).subset (by rw [hP]; exact he))
     obtain ⟨fu', rfl⟩ : ∃ fu', fu = fu' + 1 := ⟨fu - 1, by omega⟩
     have hlo2 : if P.length = out.length then P = R else loopC (okK L most want) fu' P = R := by
       unfold loopC at hlo
       rw [show out.length - 1 = N0 by omega, hP] at hlo
       split
       · rename_i h; rw [if_pos h] at hlo; exact hlo
       · rename_i h; rw [if_neg h] at hlo; exact hlo
     simp [go_sem, Tryz.L21_1, hf1, hv6, hv2, hne2]
     rw [hwr]
     refine pw_for (ι := List Ex × Boxes) N0 (fun j q => (FinB q.2 ∧ Ext bx q.2 ∧ q.2 b2 = some (.row 25 3 [.agg [.nils, .int .i64 0, .nils]]) ∧ q.2 b6 = some (.row 25 3 [.agg [.sl 4 (L.map limV), .int .i64 most, .sl 8 (q.1.map exV)]])) ∧ (∀ e, e ∈ q.1 → e ∈ O) ∧ q.1.length ≤ O.length ∧ N0 - j < q.1.length ∧ passC (okK L most want) (N0 - j) q.1 = P)
       (fun j q => ⟨92, slk [(2, .ptr b2 3 0 0), (6, .ptr b6 3 0 0), (7, .sl 1 (want.map iI)), (9, .int .i64 out.length), (10, .int .i64 ((N0 : Int) - 1 - (j : Int)))], q.2⟩) (out, bx1) ⟨⟨hf1, hx1, hv2, hv6⟩, hom, hol, by dsimp only; omega, hP⟩ (cov_look (by simp [go_sem, iI])) (fun j q hj hJ N hN => ?_) (fun q hJ N => ?_)
     · obtain ⟨o, bx2⟩ := q
       obtain ⟨⟨hf2, hx2, hw2, hw6⟩, hoo, hoL, hoj, hpp⟩ := hJ
       dsimp only at hf2 hx2 hw2 hw6 hoo hoL hoj hpp ⊢
       obtain ⟨k, hk⟩ : ∃ k, N0 - j = k + 1 := ⟨N0 - j - 1, by omega⟩
       have e10 : (N0 : Int) - 1 - (j : Int) = (k : Int) := by omega
       have e11 : (N0 : Int) - 1 - ((j + 1 : Nat) : Int) = (k : Int) - 1 := by omega
       have hw1 : IntKind.i64.wrap ((k : Int) - 1) = (k : Int) - 1 := wr64 (by omega)
       have hw3 : IntKind.i64.wrap ((k : Int) + 1) = (k : Int) + 1 := wr64 (by omega)
       rw [e10]
       have hk0 : (0 : Int) ≤ (k : Int) := by omega
       simp [go_sem, Tryz.L21_0, hf2, hw6, hw2, hk0]
       intro b11 hb11
       have n6 : b6 ≠ b11 := by rintro rfl; rw [hw6] at hb11; cases hb11
       have n2 : b2 ≠ b11 := by rintro rfl; rw [hw2] at hb11; cases hb11
       have hb110 : bx b11 = none := hx2.none hb11
       have hf3 : FinB (upd bx2 b11 (some (Box.row 25 3 [V.agg [V.sl 4 (List.map limV L), V.int IntKind.i64 most, V.sl 8 (List.map exV o)]]))) := (finB_upd _ _ _).2 hf2
       have hx3 : Ext bx (upd bx2 b11 (some (Box.row 25 3 [V.agg [V.sl 4 (List.map limV L), V.int IntKind.i64 most, V.sl 8 (List.map exV o)]]))) := hx2.upd_own hb110 _
       have hv6 : upd bx2 b11 (some (Box.row 25 3 [V.agg [V.sl 4 (List.map limV L), V.int IntKind.i64 most, V.sl 8 (List.map exV o)]])) b6 = _ := (upd_ne _ _ n6).trans hw6
       have hv2 : upd bx2 b11 (some (Box.row 25 3 [V.agg [V.sl 4 (List.map limV L), V.int IntKind.i64 most, V.sl 8 (List.map exV o)]])) b2 = _ := (upd_ne _ _ n2).trans hw2
       have hv11 : upd bx2 b11 (some (Box.row 25 3 [V.agg [V.sl 4 (List.map limV L), V.int IntKind.i64 most, V.sl 8 (List.map exV o)]])) b11 = _ := upd_eq _ _ _
       generalize upd bx2 b11 (some (Box.row 25 3 [V.agg [V.sl 4 (List.map limV L), V.int IntKind.i64 most, V.sl 8 (List.map exV o)]])) = bx3 at *
       simp [go_sem, hv6, hf3]
       refine callK_abs (Tryz.CloneE_a (o.map exV) (by simp; omega) bx3) ?_
       intro v bx4 ha
       have hoe : o.map exV ≠ [] := by intro h0; rw [List.map_eq_nil_iff] at h0; rw [h0] at hoj; simp at hoj
       rcases ha.is with ⟨h0, _⟩ | ⟨c, hc0, rfl, hc4⟩
       · exact absurd h0 hoe
       have hx4 : Ext bx bx4 := hx3.trans ha.ext
       have k6 : bx4 b6 = _ := (ha.ext b6 (by rw [hv6]; simp)).trans hv6
       have k2 : bx4 b2 = _ := (ha.ext b2 (by rw [hv2]; simp)).trans hv2
       have k11 : bx4 b11 = _ := (ha.ext b11 (by rw [hv11]; simp)).trans hv11
       have hf4 := ha.fin
       have m6 : b6 ≠ c := by rintro rfl; rw [hv6] at hc0; cases hc0
       have m2 : b2 ≠ c := by rintro rfl; rw [hv2] at hc0; cases hc0
       have m11 : b11 ≠ c := by rintro rfl; rw [hv11] at hc0; cases hc0
       have hcb : bx c = none := hx3.none hc0
       clear ha
       simp [go_sem, hf4, hw3]
       have hd := Tryz.delf_Event (i := k) hc4 (by simp; omega)
       have ed : (o.map exV).take k ++ (o.map exV).drop (k + 1) = (dropAt o k).map exV := by unfold dropAt; rw [List.map_append, List.map_take, List.map_drop]
       rw [ed, List.length_map] at hd
       refine callK_abs hd ?_
       rintro r bx5 ⟨rfl, hbx5⟩
       have hf5 : FinB bx5 := by rw [hbx5]; exact (finB_upd _ _ _).2 hf4
       have hx5 : Ext bx bx5 := by rw [hbx5]; exact hx4.upd_own hcb _
       have j6 : bx5 b6 = bx4 b6 := by rw [hbx5, upd_ne _ _ m6]
       rw [k6] at j6
       have j2 : bx5 b2 = bx4 b2 := by rw [hbx5, upd_ne _ _ m2]
       rw [k2] at j2
       have j11 : bx5 b11 = bx4 b11 := by rw [hbx5, upd_ne _ _ m11]
       rw [k11] at j11
       clear hbx5 k6 k2 k11 hv6 hv2 hv11 hf3 hf4 hx3 hx4 hc4
       have n611 : b6 ≠ b11 := n6
       simp [go_sem, hf5, j11, upd_eq]
       have hDl := dropAt_len (l := o) (k := k) (by omega)
       have hDm : ∀ e, e ∈ dropAt o k → e ∈ O := fun e he => hoo e ((dropAt_sub o k).subset he)
       refine callK_pure (hK (dropAt o k) hDm (by omega) _) ?_
       have hpp2 : passC (okK L most want) k (tryC (okK L most want) o k) = P := by rw [hk] at hpp; exact hpp
       have hkj : N0 - (j + 1) = k := by omega
       cases hg2 : (kindsI L most (dropAt o k)).2
       · have ht : tryC (okK L most want) o k = o := by unfold tryC okK; rw [hg2]; rfl
         rw [ht] at hpp2
         simp [go_sem, hf5, j11, upd_eq, finB_upd]
         refine gK_off (.bool false) (by simp [go_sem]) ?_
         simp [go_sem, hf5, j11, upd_eq, finB_upd, hw1]
         have hlast := fun s => hN s (o, upd bx5 b11 (some (.row 25 3 [.agg [.sl 4 (L.map limV), .int .i64 most, .sl 8 ((dropAt o k).map exV)]]))) ⟨⟨(finB_upd _ _ _).2 hf5, hx5.upd_own hb110 _, by dsimp only; rw [upd_ne _ _ n2, j2], by dsimp only; rw [upd_ne _ _ n6, j6]⟩, hoo, hoL, by dsimp only; omega, by rw [hkj]; exact hpp2⟩
         dsimp only at hlast
         rw [e11] at hlast
         exact hlast _ (cov_look (by simp [go_sem, iI]))
       · have hkl : (kindsI L most (dropAt o k)).1.length ≤ 100000 := by
           unfold kindsI kindsF
           have hg := (runI_good (beg_good L most (dropAt o k)) (dropAt o k).length).flt
           split
           · simp
           · simp; omega
         simp [go_sem, hf5, j11, upd_eq, finB_upd]
         refine gK_pure (Tryz.Equal_i _ want (by omega) _) (by simp) (by simp [go_sem]) ?_
         by_cases hq : (kindsI L most (dropAt o k)).1 = want
         · have ht : tryC (okK L most want) o k = dropAt o k := by unfold tryC okK; rw [hg2, decide_eq_true hq]; rfl
           rw [ht] at hpp2
           simp [go_sem, hf5, j11, upd_eq, finB_upd, hq, upd_ne _ _ n6, j6, hw1]
           have hlast := fun s => hN s (dropAt o k, upd (upd bx5 b11 (some (.row 25 3 [.agg [.sl 4 (L.map limV), .int .i64 most, .sl 8 ((dropAt o k).map exV)]]))) b6 (some (.row 25 3 [.agg [.sl 4 (L.map limV), .int .i64 most, .sl 8 ((dropAt o k).map exV)]]))) ⟨⟨(finB_upd _ _ _).2 ((finB_upd _ _ _).2 hf5), (hx5.upd_own hb110 _).upd_own hb60 _, by dsimp only; rw [upd_ne _ _ n26, upd_ne _ _ n2, j2], upd_eq _ _ _⟩, hDm, by dsimp only; omega, by dsimp only; omega, by rw [hkj]; exact hpp2⟩
           dsimp only at hlast
           rw [e11] at hlast
           exact hlast _ (cov_look (by simp [go_sem, iI]))
         · have ht : tryC (okK L most want) o k = o := by unfold tryC okK; rw [hg2, decide_eq_false hq]; rfl
           rw [ht] at hpp2
           simp [go_sem, hf5, j11, upd_eq, finB_upd, hq, hw1]
           have hlast := fun s => hN s (o, upd bx5 b11 (some (.row 25 3 [.agg [.sl 4 (L.map limV), .int .i64 most, .sl 8 ((dropAt o k).map exV)]]))) ⟨⟨(finB_upd _ _ _).2 hf5, hx5.upd_own hb110 _, by dsimp only; rw [upd_ne _ _ n2, j2], by dsimp only; rw [upd_ne _ _ n6, j6]⟩, hoo, hoL, by dsimp only; omega, by rw [hkj]; exact hpp2⟩
           dsimp only at hlast
           rw [e11] at hlast
           exact hlast _ (cov_look (by simp [go_sem, iI]))
     · obtain ⟨o, bx2⟩ := q
       obtain ⟨⟨hf2, hx2, hw2, hw6⟩, hoo, hoL, hoj, hpp⟩ := hJ
       dsimp only at hf2 hx2 hw2 hw6 hoo hoL hoj hpp ⊢
       rw [Nat.sub_self] at hpp
       have hpp : o = P := hpp
       subst hpp
       have hge : ¬ ((N0 : Int) ≤ (N0 : Int) - 1) := by omega
       simp [go_sem, Tryz.L21_0, hf2, hge]
       have hol2 := hPl
       by_cases he : o.length = out.length
       · rw [if_pos he] at hlo2
         exact ⟨(out.length, fu', o, bx2), ⟨⟨hf2, hx2, hw2, hw6⟩, ⟨hPs, by dsimp only; omega, by dsimp only; omega⟩, .inl ⟨he.symm, hlo2⟩⟩, cov_look (by simp [go_sem, iI]), by dsimp only; rw [if_pos he.symm, if_neg hne1]; omega⟩
       · rw [if_neg he] at hlo2
         exact ⟨(out.length, fu', o, bx2), ⟨⟨hf2, hx2, hw2, hw6⟩, ⟨hPs, by dsimp only; omega, by dsimp only; omega⟩, .inr ⟨fun h => he h.symm, by dsimp only; omega, hlo2⟩⟩, cov_look (by simp [go_sem, iI]), by dsimp only; rw [if_neg (fun h => he h.symm), if_neg hne1]; omega⟩
end Go.Proofs

set_option linter.unusedSimpArgs false
set_option linter.unusedVariables false
set_option maxRecDepth 100000
namespace Go.Proofs
open Go Go.Pl
structure LF where
 c : Int
 b : Int
 l : Int
 o : Int
 g : Int
 s : Int
 r : Int
deriving DecidableEq
def lfV (c : LF) : V := .agg [iI c.c, iI c.b, iI c.l, iI c.o, iI c.g, iI c.s, iI c.r]
def lfOf (c : IC) : LF := ⟨c.num, c.bk, c.leases, c.born, c.gone, c.sent, c.read⟩
def livesF (L : List Lim) (most : Int) (l : List Ex) : List LF × Int := ((livesI L most l).1.map lfOf, (livesI L most l).2)
theorem Tryz.Lives_p (L : List Lim) (most : Int) (l : List Ex) (hL : L.length ≤ 1000000) (hl : l.length ≤ 4000000000000000000) (hne : ∀ e, e ∈ l → NE e) (bx : Boxes) : PureCall Tryz.prog 18 [logV L most l] bx (.tup [.sl 7 ((livesF L most l).1.map lfV), iI (livesF L most l).2]) := by
 refine PureCall.wk ((Tryz.Lives_i L most l hL hl hne bx).mono ?_)
 rintro r bx' ⟨rfl, v, hv, rfl⟩
 refine ⟨wk_tup2 ?_ (Wk.refl _), rfl⟩
 unfold livesF
 rw [List.map_map]
 exact hv.wk
def farI (L : List Lim) (l : List Ex) (n : Int) : Bool := decide ((20 : Int) < (L.length : Int)) || (decide (n < (l.length : Int)) && decide ((l.length : Int) ≤ 2000)) || decide ((2010 : Int) < (l.length : Int))
theorem Tryz.far_i (L : List Lim) (most : Int) (l : List Ex) (n : Int) (bx : Boxes) : PureCall Tryz.prog 11 [logV L most l, .int .i64 n] bx (.bool (farI L l n)) := by
 refine Tryz.ctr11 fun hf => ?_
 simp [go_sem, Tryz.C11, hf, logV, iI]
 refine ⟨fun h1 => ⟨h1, fun h2 => ⟨h1, h2⟩⟩, fun h1 h2 => ⟨h1, ?_⟩, ?_⟩
 · by_cases h3 : n < (l.length : Int)
   · exact .inr (h2 h3)
   · exact .inl (by omega)
 · exact ret_pure (by simp [go_sem]) ⟨by simp [go_sem, farI], rfl⟩
theorem Tryz.lives_i (a b : List LF) (ha : a.length ≤ 1000000) (bx : Boxes) : PureCall Tryz.prog 20 [.sl 7 (a.map lfV), .sl 7 (b.map lfV)] bx (.bool (decide (a = b))) := by
 refine Tryz.ctr20 fun hf => ?_
 by_cases he : a.length = b.length
 rotate_left
 · have he' : ¬ (a.length : Int) = b.length := by omega
   have hz : decide (a = b) = false := by simp; rintro rfl; exact he rfl
   simp [go_sem, Tryz.C20, hf, he', he]
   exact ret_pure (by simp [go_sem]) ⟨by simp [go_sem, hz], rfl⟩
 · have he' : (a.length : Int) = b.length := by omega
   simp [go_sem, Tryz.C20, hf, he', he]
   refine pw_find a.length (fun i => a.getD i ⟨0, 0, 0, 0, 0, 0, 0⟩ != b.getD i ⟨0, 0, 0, 0, 0, 0, 0⟩) (fun i => ⟨26, slk [(0, .sl 7 (a.map lfV)), (1, .sl 7 (b.map lfV)), (5, .int .i64 i)], bx⟩) (cov_look (by simp [go_sem])) (fun i hi hJ N hN => ?_) (fun hJ N => ?_)
   · have hib : i < b.length := by omega
     have hw := wr_succ (k := i) (by omega)
     have g1 : a.getD i ⟨0, 0, 0, 0, 0, 0, 0⟩ = a[i] := by simp [hi]
     have g2 : b.getD i ⟨0, 0, 0, 0, 0, 0, 0⟩ = b[i] := by simp [hib]
     rw [g1, g2] at hN
     by_cases e : a[i] = b[i]
     · simp [go_sem, Tryz.L20_0, hf, hi, hib, hw, iI, e, lfV]
       exact hN _ (by simp [e]) (cov_look (by simp [go_sem]))
     · have hz : decide (a = b) = false := by simp; rintro rfl; exact e rfl
       have e2 : ¬ (a[i].c = b[i].c ∧ a[i].b = b[i].b ∧ a[i].l = b[i].l ∧ a[i].o = b[i].o ∧ a[i].g = b[i].g ∧ a[i].s = b[i].s ∧ a[i].r = b[i].r) := by
         rintro ⟨h1, h2, h3, h4, h5, h6, h7⟩
         apply e
         cases ha : a[i]
         cases hb : b[i]
         rw [ha, hb] at h1 h2 h3 h4 h5 h6 h7
         simp_all
       simp [go_sem, Tryz.L20_0, hf, hi, hib, hw, iI, lfV]
       refine ⟨fun _ => ret_pure (by simp [go_sem]) ⟨by simp [go_sem, hz], rfl⟩, fun h1 h2 h3 h4 h5 h6 h7 => absurd ⟨h1, h2, h3, h4, h5, h6, h7⟩ e2⟩
   · have hz : a = b := by
       apply List.ext_getElem he
       intro i h1 h2
       have := hJ i h1
       simpa [h1, h2] using this
     simp [go_sem, Tryz.L20_0, hf]
     exact ret_pure (by simp [go_sem]) ⟨by simp [go_sem, hz], rfl⟩
theorem Tryz.Example_i (bx : Boxes) : PureCall Tryz.prog 31 [] bx (logV exL 1 exE) := by
 refine PureCall.wk ?_
 refine Tryz.ctr31 fun hf => ?_
 simp [go_sem, Tryz.C31, hf]
 intro b0 h0 b1 h1 b2 h2
 have n01 : b0 ≠ b1 := by rintro rfl; simp [upd_eq] at h1
 have n12 : b1 ≠ b2 := by rintro rfl; simp [upd_eq] at h2
 have n02 : b0 ≠ b2 := by rintro rfl; simp [upd_eq, upd_ne _ _ n01] at h2
 have h10 : bx b1 = none := by rwa [upd_ne _ _ n01.symm] at h1
 have h20 : bx b2 = none := by rwa [upd_ne _ _ n12.symm, upd_ne _ _ n02.symm] at h2
 simp [go_sem, upd_eq, upd_ne _ _ n01, upd_ne _ _ n02]
 refine ret_frz 3 (by simp [go_sem, upd_eq]) ((((((Ext.refl bx).upd_own h0 _).upd_own h10 _).upd_own h20 _).upd_own h0 _)) ?_
 refine ⟨?_, rfl⟩
 simp [go_sem, upd_eq, frz, upd_ne _ _ n01.symm, upd_ne _ _ n02.symm, upd_ne _ _ n12, h10, h20, logV, exL, exE, evB, limV, exV, evW, iI]
 exact Wk.refl _
theorem Tryz.Same_i (a b : List (Int × Int)) (ha : a.length ≤ 1000000) (bx : Boxes) : PureCall Tryz.prog 17 [.sl 2 (a.map fltV), .sl 2 (b.map fltV)] bx (.bool (decide (a = b))) := by
 refine Tryz.ctr17 fun hf => ?_
 by_cases he : a.length = b.length
 rotate_left
 · have he' : ¬ (a.length : Int) = b.length := by omega
   have hz : decide (a = b) = false := by simp; rintro rfl; exact he rfl
   simp [go_sem, Tryz.C17, hf, he', he]
   exact ret_pure (by simp [go_sem]) ⟨by simp [go_sem, hz], rfl⟩
 · have he' : (a.length : Int) = b.length := by omega
   simp [go_sem, Tryz.C17, hf, he', he]
   refine pw_find a.length (fun i => a.getD i (0, 0) != b.getD i (0, 0)) (fun i => ⟨26, slk [(0, .sl 2 (a.map fltV)), (1, .sl 2 (b.map fltV)), (5, .int .i64 i)], bx⟩) (cov_look (by simp [go_sem])) (fun i hi hJ N hN => ?_) (fun hJ N => ?_)
   · have hib : i < b.length := by omega
     have hw := wr_succ (k := i) (by omega)
     have g1 : a.getD i (0, 0) = a[i] := by simp [hi]
     have g2 : b.getD i (0, 0) = b[i] := by simp [hib]
     rw [g1, g2] at hN
     by_cases e : a[i] = b[i]
     · simp [go_sem, Tryz.L17_0, hf, hi, hib, hw, iI, e, fltV]
       exact hN _ (by simp [e]) (cov_look (by simp [go_sem]))
     · have hz : decide (a = b) = false := by simp; rintro rfl; exact e rfl
       have e2 : ¬ (a[i].1 = b[i].1 ∧ a[i].2 = b[i].2) := fun h => e (Prod.ext h.1 h.2)
       simp [go_sem, Tryz.L17_0, hf, hi, hib, hw, iI, fltV]
       refine ⟨fun _ => ret_pure (by simp [go_sem]) ⟨by simp [go_sem, hz], rfl⟩, fun h1 h2 => absurd ⟨h1, h2⟩ e2⟩
   · have hz : a = b := by
       apply List.ext_getElem he
       intro i h1 h2
       have := hJ i h1
       simpa [h1, h2] using this
     simp [go_sem, Tryz.L17_0, hf]
     exact ret_pure (by simp [go_sem]) ⟨by simp [go_sem, hz], rfl⟩
end Go.Proofs

set_option linter.unusedVariables false
set_option linter.unusedSimpArgs false
set_option maxRecDepth 100000
namespace Go.Proofs
open Go Go.Pl Go.RowKit Go.Shelf
def Tryz.layF_ren : Ren := { f := fun x => match x with | 157 => 49 | 229 => 93 | 199 => 94 | 261 => 135 | 311 => 163 | 312 => 164 | n => n, t := fun x => match x with | 9 => 9 | 31 => 123 | 3 => 3 | 5 => 5 | 4 => 4 | 119 => 166 | 0 => 0 | 40 => 168 | 152 => 210 | 21 => 21 | 154 => 212 | 51 => 213 | 141 => 215 | 196 => 246 | 193 => 243 | 198 => 248 | 49 => 64 | 194 => 244 | 201 => 251 | 226 => 272 | 46 => 236 | 227 => 273 | n => n, g := fun x => match x with | 0 => 0 | 6 => 1 | n => n }
theorem Tryz.layF : Lays.n157 Tryz.prog Tryz.layF_ren where
 mixed := by kernel_rfl
 f157 := Tryz.func49.trans (congrArg some (by kernel_rfl))
 f199 := Tryz.func94.trans (congrArg some (by kernel_rfl))
 f229 := Tryz.func93.trans (congrArg some (by kernel_rfl))
 f261 := Tryz.func135.trans (congrArg some (by kernel_rfl))
 f311 := Tryz.func163.trans (congrArg some (by kernel_rfl))
 f312 := Tryz.func164.trans (congrArg some (by kernel_rfl))
 t0 := Tryz.underlying0
 a0 := Tryz.isAgg0
 z0 := Tryz.sizeOf0
 v0 := Tryz.zeroValue0
 t3 := Tryz.underlying3
 a3 := Tryz.isAgg3
 z3 := Tryz.sizeOf3
 v3 := Tryz.zeroValue3
 t4 := Tryz.underlying4
 a4 := Tryz.isAgg4
 z4 := Tryz.sizeOf4
 v4 := Tryz.zeroValue4
 t5 := Tryz.underlying5
 a5 := Tryz.isAgg5
 z5 := Tryz.sizeOf5
 v5 := Tryz.zeroValue5
 t9 := Tryz.underlying9
 a9 := Tryz.isAgg9
 z9 := Tryz.sizeOf9
 v9 := Tryz.zeroValue9
 t21 := Tryz.underlying21
 a21 := Tryz.isAgg21
 z21 := Tryz.sizeOf21
 v21 := Tryz.zeroValue21
 t31 := Tryz.underlying123
 a31 := Tryz.isAgg123
 z31 := Tryz.sizeOf123
 v31 := Tryz.zeroValue123
 t40 := Tryz.underlying168
 a40 := Tryz.isAgg168
 z40 := Tryz.sizeOf168
 v40 := Tryz.zeroValue168
 t46 := Tryz.underlying236
 a46 := Tryz.isAgg236
 z46 := Tryz.sizeOf236
 v46 := Tryz.zeroValue236
 t49 := Tryz.underlying64
 a49 := Tryz.isAgg64
 z49 := Tryz.sizeOf64
 v49 := Tryz.zeroValue64
 t51 := Tryz.underlying213
 a51 := Tryz.isAgg213
 z51 := Tryz.sizeOf213
 v51 := Tryz.zeroValue213
 t119 := Tryz.underlying166
 a119 := Tryz.isAgg166
 z119 := Tryz.sizeOf166
 t141 := Tryz.underlying215
 a141 := Tryz.isAgg215
 z141 := Tryz.sizeOf215
 v141 := Tryz.zeroValue215
 t152 := Tryz.underlying210
 a152 := Tryz.isAgg210
 z152 := Tryz.sizeOf210
 v152 := Tryz.zeroValue210
 t154 := Tryz.underlying212
 a154 := Tryz.isAgg212
 z154 := Tryz.sizeOf212
 v154 := Tryz.zeroValue212
 t193 := Tryz.underlying243
 a193 := Tryz.isAgg243
 z193 := Tryz.sizeOf243
 v193 := Tryz.zeroValue243
 t194 := Tryz.underlying244
 a194 := Tryz.isAgg244
 z194 := Tryz.sizeOf244
 v194 := Tryz.zeroValue244
 t196 := Tryz.underlying246
 a196 := Tryz.isAgg246
 z196 := Tryz.sizeOf246
 v196 := Tryz.zeroValue246
 t198 := Tryz.underlying248
 a198 := Tryz.isAgg248
 z198 := Tryz.sizeOf248
 v198 := Tryz.zeroValue248
 t201 := Tryz.underlying251
 a201 := Tryz.isAgg251
 z201 := Tryz.sizeOf251
 v201 := Tryz.zeroValue251
 t226 := Tryz.underlying272
 a226 := Tryz.isAgg272
 z226 := Tryz.sizeOf272
 v226 := Tryz.zeroValue272
 t227 := Tryz.underlying273
 a227 := Tryz.isAgg273
 z227 := Tryz.sizeOf273
 v227 := Tryz.zeroValue273
 g0 := by kernel_rfl
 g6 := by kernel_rfl
def Tryz.layFI_ren : Ren := { f := fun x => match x with | 173 => 96 | 246 => 137 | 283 => 165 | 284 => 166 | 285 => 167 | 286 => 168 | 129 => 180 | 317 => 182 | 318 => 183 | 319 => 184 | 320 => 185 | 337 => 191 | 338 => 192 | n => n, t := fun x => match x with | 2 => 2 | 3 => 3 | 9 => 9 | 4 => 4 | 171 => 254 | 0 => 0 | 53 => 255 | 37 => 120 | 5 => 5 | 173 => 258 | 212 => 275 | 51 => 213 | 20 => 20 | 213 => 276 | 46 => 236 | 232 => 287 | 233 => 288 | n => n, g := fun x => match x with | 17 => 2 | 18 => 3 | 19 => 4 | n => n }
theorem Tryz.layFI : LaysM.n173 Tryz.prog Tryz.layFI_ren where
 mixed := by kernel_rfl
 f129 := Tryz.func180.trans (congrArg some (by kernel_rfl))
 f173 := Tryz.func96.trans (congrArg some (by kernel_rfl))
 f246 := Tryz.func137.trans (congrArg some (by kernel_rfl))
 f283 := Tryz.func165.trans (congrArg some (by kernel_rfl))
 f284 := Tryz.func166.trans (congrArg some (by kernel_rfl))
 f285 := Tryz.func167.trans (congrArg some (by kernel_rfl))
 f286 := Tryz.func168.trans (congrArg some (by kernel_rfl))
 f317 := Tryz.func182.trans (congrArg some (by kernel_rfl))
 f318 := Tryz.func183.trans (congrArg some (by kernel_rfl))
 f319 := Tryz.func184.trans (congrArg some (by kernel_rfl))
 f320 := Tryz.func185.trans (congrArg some (by kernel_rfl))
 f337 := Tryz.func191.trans (congrArg some (by kernel_rfl))
 f338 := Tryz.func192.trans (congrArg some (by kernel_rfl))
 t0 := Tryz.underlying0
 a0 := Tryz.isAgg0
 z0 := Tryz.sizeOf0
 v0 := Tryz.zeroValue0
 t2 := Tryz.underlying2
 a2 := Tryz.isAgg2
 z2 := Tryz.sizeOf2
 v2 := Tryz.zeroValue2
 t3 := Tryz.underlying3
 a3 := Tryz.isAgg3
 z3 := Tryz.sizeOf3
 v3 := Tryz.zeroValue3
 t4 := Tryz.underlying4
 a4 := Tryz.isAgg4
 z4 := Tryz.sizeOf4
 v4 := Tryz.zeroValue4
 t5 := Tryz.underlying5
 a5 := Tryz.isAgg5
 z5 := Tryz.sizeOf5
 v5 := Tryz.zeroValue5
 t9 := Tryz.underlying9
 a9 := Tryz.isAgg9
 z9 := Tryz.sizeOf9
 v9 := Tryz.zeroValue9
 t20 := Tryz.underlying20
 a20 := Tryz.isAgg20
 z20 := Tryz.sizeOf20
 v20 := Tryz.zeroValue20
 t37 := Tryz.underlying120
 a37 := Tryz.isAgg120
 z37 := Tryz.sizeOf120
 v37 := Tryz.zeroValue120
 t46 := Tryz.underlying236
 a46 := Tryz.isAgg236
 z46 := Tryz.sizeOf236
 v46 := Tryz.zeroValue236
 t51 := Tryz.underlying213
 a51 := Tryz.isAgg213
 z51 := Tryz.sizeOf213
 v51 := Tryz.zeroValue213
 t53 := Tryz.underlying255
 a53 := Tryz.isAgg255
 z53 := Tryz.sizeOf255
 v53 := Tryz.zeroValue255
 t171 := Tryz.underlying254
 a171 := Tryz.isAgg254
 z171 := Tryz.sizeOf254
 v171 := Tryz.zeroValue254
 t173 := Tryz.underlying258
 a173 := Tryz.isAgg258
 z173 := Tryz.sizeOf258
 v173 := Tryz.zeroValue258
 t212 := Tryz.underlying275
 a212 := Tryz.isAgg275
 z212 := Tryz.sizeOf275
 v212 := Tryz.zeroValue275
 t213 := Tryz.underlying276
 a213 := Tryz.isAgg276
 z213 := Tryz.sizeOf276
 t232 := Tryz.underlying287
 a232 := Tryz.isAgg287
 z232 := Tryz.sizeOf287
 v232 := Tryz.zeroValue287
 t233 := Tryz.underlying288
 a233 := Tryz.isAgg288
 z233 := Tryz.sizeOf288
 v233 := Tryz.zeroValue288
 g17 := by kernel_rfl
 g18 := by kernel_rfl
 g19 := by kernel_rfl
 i0 := by kernel_rfl
 i2 := by kernel_rfl
 i3 := by kernel_rfl
 i4 := by kernel_rfl
 i5 := by kernel_rfl
 i9 := by kernel_rfl
 i20 := by kernel_rfl
 i37 := by kernel_rfl
 i46 := by kernel_rfl
 i51 := by kernel_rfl
 i53 := by kernel_rfl
 i171 := by kernel_rfl
 i173 := by kernel_rfl
 i212 := by kernel_rfl
 i232 := by kernel_rfl
 i233 := by kernel_rfl
 m17 := by kernel_rfl
 m18 := by kernel_rfl
 m19 := by kernel_rfl
theorem lies_one {P : Program} {e : TypeId} {c : Nat} (hd : 0 < P.depth) (hs : P.cellsOf e ≠ 0) (hc : 1 ≤ c) : liesAt P P.depth e c 0 e 1 = true := by
 obtain ⟨d, hd⟩ : ∃ d, P.depth = d + 1 := ⟨P.depth - 1, by omega⟩
 have h1 : sameLayout P P.depth e e = true := by rw [hd]; simp [sameLayout]
 have h2 : rowAt P (fun t => sameLayout P P.depth t e) P.depth e c 0 1 = true := by
   rw [hd] at h1 ⊢
   unfold rowAt
   rw [if_neg hs]
   simp [h1, hc]
 rw [hd] at h2 ⊢
 unfold liesAt
 rw [hd]
 rw [h2]
 rfl
theorem Tryz.szB : (Tryz.prog.info? 122).map (·.size) = some 2 := by kernel_rfl
theorem Tryz.cellsB : Tryz.prog.cellsOf 122 = 2 := by kernel_rfl
theorem Tryz.depth0 : 0 < Tryz.prog.depth := by
 have h : decide (0 < Tryz.prog.depth) = true := by kernel_rfl
 exact of_decide_eq_true h
theorem Tryz.copy_used (b : Nat) (w : World) (h0 : w.cell? ⟨b, 0, none⟩ = some (.pointer (some ⟨b, 0, none⟩))) :
   Calls Tryz.prog 95 #[.pointer (some ⟨b, 0, none⟩)] w fun e w' => e = .returned (.tuple #[]) ∧ w' = w := by
 obtain ⟨j, hj, hjs⟩ := Option.map_eq_some_iff.1 Tryz.szB
 go_enter Tryz.func95, Tryz.ntmps95
 go_wp2
 rw [Lib.run_neq_ptr_same w _ (show Tryz.prog.underlying 119 = some (.pointer 122) by kernel_rfl) hj]
 go_wp2
 go_end0
 exact ⟨rfl, rfl⟩
theorem Tryz.copy_fresh (b n : Nat) (w : World) (h0 : w.cell? ⟨b, 0, none⟩ = some (.pointer none)) (hsh : w.shape? b = some (122, n)) (hn : 2 ≤ n) (hfz : w.frozen? ⟨b, 0, none⟩ = false) :
   Calls Tryz.prog 95 #[.pointer (some ⟨b, 0, none⟩)] w fun e w' => e = .returned (.tuple #[]) ∧ w' = w.setCell ⟨b, 0, none⟩ (.pointer (some ⟨b, 0, none⟩)) := by
 obtain ⟨j, hj, hjs⟩ := Option.map_eq_some_iff.1 Tryz.szB
 have hlies : liesAt Tryz.prog Tryz.prog.depth 122 (n / Tryz.prog.cellsOf 122) 0 122 1 = true := lies_one Tryz.depth0 (by rw [Tryz.cellsB]; decide) (by rw [Tryz.cellsB]; exact (Nat.le_div_iff_mul_le (by decide)).2 (by omega))
 go_enter Tryz.func95, Tryz.ntmps95
 go_wp2
 rw [Lib.run_to_unsafe w ⟨b, 0, none⟩ (t := 122) (by kernel_rfl) (by kernel_rfl) hj (by rw [hjs]; decide) hsh (show 0 < n by omega)]
 simp only [Result.andThen]
 rw [Oper.upon_value]
 go_wp2
 rw [run_callFunc_extern Tryz.func136 (by kernel_rfl) (by kernel_rfl) (by kernel_rfl) (e := Extern.AbiNoEscape.same) (by kernel_rfl)]
 rw [Lib.run_noEscape]
 simp only [Result.andThen]
 rw [Oper.upon_value]
 go_wp2
 rw [Lib.run_from_unsafe w ⟨b, 0, none⟩ (u := 122) (by kernel_rfl) (by kernel_rfl) hj hsh hlies]
 simp only [Result.andThen]
 rw [Oper.upon_value]
 go_wp2
 go_end0
 exact ⟨rfl, rfl⟩
theorem setCell_row {w : World} {k : Nat} {cur : Array Value} {ty : TypeId} {fr : Nat × Nat} (h : w.heap[k]? = some (.cells cur ty fr)) (i : Nat) (v : Value) : w.setCell ⟨k, i, none⟩ v = w.setRow k (cur.setIfInBounds i v) := by
 unfold World.setCell World.setRow
 refine congrArg (fun h => ({ w with heap := h } : World)) ?_
 apply Array.ext_getElem?
 intro j
 rw [Array.getElem?_modify, Array.getElem?_modify]
 by_cases e : k = j
 · subst e
   simp [h]
 · simp [e]
def bldV (T : TypeId) (a v : V) : Box := .row T 2 [.agg [a, v]]
theorem Tryz.copy_p {bx : Boxes} {b : Nat} {a v : V} (hb : bx b = some (bldV 122 a v)) (ha : a = .nilp ∨ a = .ptr b 2 0 0) :
   AbsCall Tryz.prog 95 [.ptr b 2 0 0] bx fun r bx' => r = .tup [] ∧ bx' = upd bx b (some (bldV 122 (.ptr b 2 0 0) v)) := by
 unfold bldV at hb ⊢
 refine ⟨enters_of Tryz.func95 (by kernel_rfl) rfl, fun β M w vs hok hgl hvs hrep => ?_⟩
 have h0 := hrep 0 _ rfl
 have hv1 : vs = #[vs.getD 0 undef] := by
   apply Array.ext
   · simpa using hvs
   · intro j g1 g2
     simp at hvs g2
     subst g2
     simp [g1]
 generalize vs.getD 0 undef = u at h0 hv1
 subst hv1
 cases h0 with
 | ptr _ _ _ _ k hβ =>
   rcases hok.live b _ hb with ⟨h1, h2⟩ | ⟨k', h1, hlt, hM, cur, fr, hcur, hfr, hcl, hrow⟩
   · simp [Box.empty] at h2
   · rw [hβ] at h1
     injection h1 with h1
     injection h1 with h1
     subst h1
     obtain ⟨_, hr⟩ := hrow 0 _ rfl
     obtain ⟨o0, r0⟩ := hr 0 a rfl
     obtain ⟨o1, r1⟩ := hr 1 v rfl
     simp only [Nat.zero_mul, Nat.zero_add] at o0 r0 o1 r1
     have hc2 : 2 ≤ cur.size := by simpa using hcl
     have hcell : w.cell? ⟨k, 0, none⟩ = some (cur.getD 0 undef) := by
       simp [World.cell?, hcur, show 0 < cur.size by omega]
     have hfz : w.frozen? ⟨k, 0, none⟩ = false := frozen_fr hcur hfr (by omega)
     rcases ha with rfl | rfl
     · have e0 : cur.getD 0 undef = .pointer none := by
         generalize cur.getD 0 undef = c at r0
         cases r0; rfl
       rw [e0] at hcell
       refine (Tryz.copy_fresh k cur.size w hcell (shape_of hcur) hc2 hfz).mono ?_
       rintro e w' ⟨rfl, rfl⟩
       rw [setCell_row hcur]
       obtain ⟨g1, g2⟩ := write_box hok hb hβ hcur hfr (cur.setIfInBounds 0 (.pointer (some ⟨k, 0, none⟩))) (by simp) [.agg [.ptr b 2 0 0, v]] rfl (by simpa using hc2) (by
         intro i e hi
         rcases i with _ | i
         · simp at hi
           subst hi
           refine ⟨rfl, fun j c hj => ?_⟩
           rcases j with _ | _ | j
           · simp [V.cells] at hj
             subst hj
             simp only [Nat.zero_mul, Nat.zero_add]
             have : (cur.setIfInBounds 0 (.pointer (some ⟨k, 0, none⟩))).getD 0 undef = .pointer (some ⟨k, 0, none⟩) := by simp [show 0 < cur.size by omega]
             rw [this]
             exact ⟨rfl, by simpa using Rep.ptr b 2 0 0 k hβ⟩
           · simp [V.cells] at hj
             subst hj
             simp only [Nat.zero_mul, Nat.zero_add]
             have : (cur.setIfInBounds 0 (.pointer (some ⟨k, 0, none⟩))).getD 1 undef = cur.getD 1 undef := by
               simp [Array.getD_eq_getD_getElem?]
             rw [this]
             exact ⟨o1, r1⟩
           · simp [V.cells] at hj
         · simp at hi)
       exact ⟨_, _, _, β, rfl, ⟨rfl, rfl⟩, g1, g2, .tup [] #[] rfl (fun i c h => by simp at h)⟩
     · have e0 : cur.getD 0 undef = .pointer (some ⟨k, 0, none⟩) := by
         generalize cur.getD 0 undef = c at r0
         cases r0 with
         | ptr _ _ _ _ k2 hβ2 =>
           rw [hβ] at hβ2
           injection hβ2 with hβ2
           injection hβ2 with hβ2
           subst hβ2
           rfl
       rw [e0] at hcell
       refine (Tryz.copy_used k w hcell).mono ?_
       rintro e w' ⟨rfl, rfl⟩
       have hs : upd bx b (some (.row 122 2 [.agg [.ptr b 2 0 0, v]])) = bx := by
         funext c
         by_cases e : c = b
         · subst e; rw [upd_eq, hb]
         · rw [upd_ne _ _ e]
       rw [hs]
       exact ⟨_, _, _, β, rfl, ⟨rfl, rfl⟩, hok, Tr.refl _ _ _, .tup [] #[] rfl (fun i c h => by simp at h)⟩
structure Bld (bx0 bx : Boxes) (b : Nat) (l : List UInt8) : Prop where
 ex : ∃ a v, (a = .nilp ∨ a = .ptr b 2 0 0) ∧ bx b = some (bldV 122 a v) ∧ ((v = .nils ∧ l = []) ∨ ∃ bb, v = .own bb 1 0 l.length ∧ bb ≠ b ∧ bx0 bb = none ∧ bx bb = some (.row 5 1 (l.map byteV)))
 nb : bx0 b = none
 ext : Ext bx0 bx
 fin : FinB bx
theorem Bld.start {bx : Boxes} {b : Nat} (hb : bx b = none) (hf : FinB bx) : Bld bx (upd bx b (some (.row 122 2 [.agg [.nilp, .nils]]))) b [] :=
 ⟨⟨.nilp, .nils, .inl rfl, upd_eq _ _ _, .inl ⟨rfl, rfl⟩⟩, hb, (Ext.refl _).new hb _, (finB_upd _ _ _).2 hf⟩
theorem Bld.next {bx0 bx : Boxes} {b : Nat} {l : List UInt8} (h : Bld bx0 bx b l) {bx1 : Boxes} {b' : Nat} {l' : List UInt8} {n : Nat} (hn : n = l'.length) (hne : b' ≠ b) (h0 : bx0 b' = none) (hb : bx1 b = some (.row 122 2 [.agg [.ptr b 2 0 0, .own b' 1 0 n]])) (hb' : bx1 b' = some (.row 5 1 (l'.map byteV))) (he : Ext bx0 bx1) (hf : FinB bx1) : Bld bx0 bx1 b l' := by
 subst hn
 exact ⟨⟨_, _, .inr rfl, hb, .inr ⟨b', rfl, hne, h0, hb'⟩⟩, h.nb, he, hf⟩
theorem Tryz.WriteString_p {bx0 bx : Boxes} {b : Nat} {l : List UInt8} (h : Bld bx0 bx b l) (s : List UInt8) (hs : l.length + s.length ≤ 100000000) :
   AbsCall Tryz.prog 50 [.ptr b 2 0 0, .str s] bx fun r bx' => r = .tup [.int .i64 s.length, .nili] ∧ Bld bx0 bx' b (l ++ s) := by
 refine Tryz.ctr50 fun hf => ?_
 obtain ⟨a, v, ha, hb, hv⟩ := h.ex
 simp [go_sem, Tryz.C50, hf]
 refine callK_abs (Tryz.copy_p hb ha) ?_
 rintro r bx1 ⟨rfl, rfl⟩
 unfold bldV
 rcases hv with ⟨rfl, rfl⟩ | ⟨bb, rfl, hne, hbb0, hbb⟩
 · simp [go_sem, upd_eq, finB_upd, hf, appendA, srcEls, Tryz.knd120, Tryz.tsz5, Tryz.tzero5, Tryz.tby5, Tryz.knd9]
   refine ⟨by omega, by omega, fun b' hb' => ?_⟩
   have hne : b' ≠ b := fun e => by subst e; rw [upd_eq] at hb'; cases hb'
   have hb2 : bx b' = none := by rw [upd_ne _ _ hne] at hb'; exact hb'
   have h0 := h.ext.none hb2
   simp [go_sem, upd_eq, upd_ne, Ne.symm hne, hne, finB_upd, hf]
   refine ret_pure (by simp [go_sem]) ⟨by simp [go_sem], h.next (b' := b') (l' := s) rfl hne h0 (by simp [go_sem, upd_eq]) (by simp [go_sem, upd_ne _ _ hne, upd_eq]) (fun c hc => ?_) (by simp [finB_upd, hf])⟩
   have c1 : c ≠ b := fun e => hc (by rw [e]; exact h.nb)
   have c2 : c ≠ b' := fun e => hc (by rw [e]; exact h0)
   simp only [upd_ne _ _ c1, upd_ne _ _ c2]
   exact h.ext c hc
 · simp [go_sem, upd_eq, finB_upd, hf, upd_ne, hne, Ne.symm hne, hbb, appendA, srcEls, Tryz.knd120, Tryz.tsz5, Tryz.tzero5, Tryz.tby5, Tryz.knd9]
   refine ⟨by omega, by omega, fun b' hb' => ?_⟩
   have hne' : b' ≠ b := fun e => by subst e; rw [upd_ne _ _ (Ne.symm hne), upd_eq] at hb'; cases hb'
   have h0 : bx0 b' = none := by
     by_cases e : b' = bb
     · rw [e]; exact hbb0
     · rw [upd_ne _ _ e, upd_ne _ _ hne'] at hb'
       exact h.ext.none hb'
   have htk : (l.map byteV).take l.length = l.map byteV := by rw [List.take_of_length_le (by simp)]
   rw [htk, ← List.map_append]
   simp [go_sem, upd_eq, upd_ne, Ne.symm hne', hne', hne, Ne.symm hne, finB_upd, hf]
   refine ret_pure (by simp [go_sem]) ⟨by simp [go_sem], h.next (b' := b') (l' := l ++ s) (n := l.length + s.length) (by simp) hne' h0 (by simp [go_sem, upd_eq]) (by simp [go_sem, upd_ne _ _ hne', upd_eq]) (fun c hc => ?_) (by simp [finB_upd, hf])⟩
   have c1 : c ≠ b := fun e => hc (by rw [e]; exact h.nb)
   have c2 : c ≠ b' := fun e => hc (by rw [e]; exact h0)
   have c3 : c ≠ bb := fun e => hc (by rw [e]; exact hbb0)
   simp only [upd_ne _ _ c1, upd_ne _ _ c2, upd_ne _ _ c3]
   exact h.ext c hc
set_option maxHeartbeats 4000000 in
theorem Tryz.str_w (k g cap : Nat) (cur : Array Value) {fr : Nat × Nat} (l : List UInt8) (h0 : l ≠ []) (w : World) (hbk : w.cell? ⟨k, 1, none⟩ = some (.slice (some ⟨g, 0, none⟩) l.length cap)) (hg : w.heap[g]? = some (.cells cur 5 fr)) (hcur : ∀ (j : Nat) (x : UInt8), l[j]? = some x → cur[j]? = some (.int .u8 x.toNat)) (hle : l.length ≤ cap) (hmax : cap ≤ maxLen) :
   Calls Tryz.prog 52 #[.pointer (some ⟨k, 0, none⟩)] w fun e w' => e = .returned (.string ⟨l.toArray⟩) ∧ w' = w.drew.freeze ⟨g, 0, none⟩ l.length := by
 have mixed : Tryz.prog.follows .mixedOrders = true := by kernel_rfl
 have hl0 : l.length ≠ 0 := by simpa using h0
 have c1 : w.drew.cell? ⟨k, 1, none⟩ = some (.slice (some ⟨g, 0, none⟩) l.length cap) := hbk
 have hSD : (Builtin.unsafeSliceData_ #[120] 170 #[.slice (some ⟨g, 0, none⟩) l.length cap]).run Tryz.prog w.drew = .ok (.pointer (some ⟨g, 0, none⟩)) w.drew :=
   Lib.run_unsafeSliceData_row _ _ _ _ _ _ (by omega)
 have hUS : (Builtin.unsafeString_ #[170, 3] 9 #[.pointer (some ⟨g, 0, none⟩), .int .i64 l.length]).run Tryz.prog w.drew = .ok (.string ⟨l.toArray⟩) (w.drew.freeze ⟨g, 0, none⟩ l.length) := by
   refine Lib.run_unsafeString_row w.drew 170 3 9 5 (by kernel_rfl) (by kernel_rfl) g cur.size (by have hg' : w.drew.heap[g]? = some (.cells cur 5 fr) := hg; simp [World.shape?, hg']) l h0 ?_ (by unfold maxLen at hmax; omega) ?_
   · rcases hx : l.length with _ | n
     · omega
     · have hn : n < l.length := by omega
       have := hcur n _ (List.getElem?_eq_getElem hn)
       have := (Array.getElem?_eq_some_iff.1 this).1
       omega
   · intro j x hx
     have h2 := hcur j x hx
     have e : (⟨g, 0, none⟩ : Addr).add j = ⟨g, j, none⟩ := by unfold Addr.add; by_cases h : j = 0 <;> simp [h]
     rw [e]
     show w.cell? ⟨g, j, none⟩ = _
     simp [World.cell?, hg, h2]
 go_enter Tryz.func52, Tryz.ntmps52
 go_wp2
 go_region_o
 all_goals (go_wp2; go_ret; exact ⟨rfl, rfl⟩)
theorem box_frz {β : Beta} {M : Off} {w : World} {bx : Boxes} (h : WOk β M bx w) {b k : Nat} {ty : TypeId} {sz : Nat} {es : List V} (hb : bx b = some (.row ty sz es)) (hβ : β b = some (some k)) {cur : Array Value} {fr0 : Nat × Nat} (hcur : w.heap[k]? = some (.cells cur ty fr0)) (m : Nat) :
   WOk β M (upd bx b none) (w.freeze ⟨k, 0, none⟩ m) ∧ Tr β bx w β (upd bx b none) (w.freeze ⟨k, 0, none⟩ m) := by
 obtain ⟨fr, hkk, hko, hsz⟩ : ∃ fr, (w.freeze ⟨k, 0, none⟩ m).heap[k]? = some (.cells cur ty fr) ∧ (∀ q, q ≠ k → (w.freeze ⟨k, 0, none⟩ m).heap[q]? = w.heap[q]?) ∧ (w.freeze ⟨k, 0, none⟩ m).heap.size = w.heap.size := by
   unfold World.freeze
   split
   · exact ⟨_, hcur, fun _ _ => rfl, rfl⟩
   · obtain ⟨lo, hi⟩ := fr0
     refine ⟨_, by simp only [Array.getElem?_modify, if_pos, hcur, Option.map_some]; rfl, fun q hq => ?_, by simp⟩
     · simp only [Array.getElem?_modify]
       rw [if_neg (Ne.symm hq)]
 have hos : (w.freeze ⟨k, 0, none⟩ m).os = w.os ∧ (w.freeze ⟨k, 0, none⟩ m).tape = w.tape ∧ (w.freeze ⟨k, 0, none⟩ m).output = w.output ∧ (w.freeze ⟨k, 0, none⟩ m).drawn = w.drawn := by
   unfold World.freeze; split <;> exact ⟨rfl, rfl, rfl, rfl⟩
 generalize w.freeze ⟨k, 0, none⟩ m = w' at *
 have hlive := h.live b _ hb
 obtain ⟨hlt, hM⟩ : k < w.heap.size ∧ M k = none := by
   rcases hlive with ⟨h1, _⟩ | ⟨k', h1, h2, h3, _⟩
   · rw [hβ] at h1; cases h1
   · rw [hβ] at h1; injection h1 with h1; injection h1 with h1; subst h1; exact ⟨h2, h3⟩
 have hdom : ∀ b', upd bx b none b' ≠ none → bx b' ≠ none ∧ b' ≠ b := by
   intro b' hb'
   by_cases e : b' = b
   · subst e; simp [upd_eq] at hb'
   · rw [upd_ne _ _ e] at hb'; exact ⟨hb', e⟩
 have hs : ∀ q x, w.shape? q = some x → w'.shape? q = some x := by
   intro q x hx
   by_cases e : q = k
   · subst e; rw [shape_of hkk, ← shape_of hcur]; exact hx
   · rw [shape_heap (hko q e)]; exact hx
 have ht : Tr β bx w β (upd bx b none) w' :=
   ⟨hos.1, hos.2.1, hos.2.2.1, fun _ => by rw [hos.2.2.2]; exact Nat.le_refl _, fun hm => Mk.of_upd hm (fun _ h => by cases h), by omega, fun q h1 h2 => hko q (by rintro rfl; exact h2 b (by rw [hb]; simp) hβ), hs, fun _ _ h => h, fun b' q h1 h2 => .inl ⟨b', (hdom b' h1).1, h2⟩⟩
 refine ⟨⟨h.fin, fun q y hq => (hko q (by rintro rfl; rw [hM] at hq; cases hq)).trans (h.mlt q y hq), fun b' box' hb' => ?_, fun b1 b2 q h1 h2 h3 h4 => h.inj b1 b2 q (hdom _ h1).1 (hdom _ h2).1 h3 h4⟩, ht⟩
 have hne := (hdom b' (by rw [hb']; simp)).2
 rw [upd_ne _ _ hne] at hb'
 rcases h.live b' box' hb' with h1 | ⟨k', h1, h2, h3, h4⟩
 · exact .inl h1
 · have e : k' ≠ k := by rintro rfl; exact hne (h.inj b' b k' (by rw [hb']; simp) (by rw [hb]; simp) h1 hβ)
   exact .inr ⟨k', h1, by omega, h3, boxAt_mono h4 (hko k' e) (fun _ _ h => h) (fun _ hk => ht.fz hk) ht.shape⟩
theorem Tryz.String_p {bx0 bx : Boxes} {b : Nat} {l : List UInt8} (h : Bld bx0 bx b l) (h0 : l ≠ []) :
   AbsCall Tryz.prog 52 [.ptr b 2 0 0] bx fun r bx' => r = .str l ∧ Ext bx0 bx' ∧ FinB bx' := by
 obtain ⟨a, v, ha, hb, hv⟩ := h.ex
 unfold bldV at hb
 rcases hv with ⟨_, e⟩ | ⟨bb, rfl, hne, hbb0, hbb⟩
 · exact absurd e h0
 refine ⟨enters_of Tryz.func52 (by kernel_rfl) rfl, fun β M w vs hok hgl hvs hrep => ?_⟩
 have r0 := hrep 0 _ rfl
 have hv1 : vs = #[vs.getD 0 undef] := by
   apply Array.ext
   · simpa using hvs
   · intro j g1 g2
     simp at hvs g2
     subst g2
     simp [g1]
 generalize vs.getD 0 undef = u at r0 hv1
 subst hv1
 cases r0 with
 | ptr _ _ _ _ k hβ =>
   rcases hok.live b _ hb with ⟨h1, h2⟩ | ⟨k', h1, hlt, hM, cur, fr, hcur, hfr, hcl, hrow⟩
   · simp [Box.empty] at h2
   rw [hβ] at h1
   injection h1 with h1
   injection h1 with h1
   subst h1
   obtain ⟨_, hr⟩ := hrow 0 _ rfl
   obtain ⟨o1, r1⟩ := hr 1 _ rfl
   simp only [Nat.zero_mul, Nat.zero_add] at o1 r1
   have hc2 : 2 ≤ cur.size := by simpa using hcl
   have hcell : w.cell? ⟨k, 1, none⟩ = some (cur.getD 1 undef) := by
     simp [World.cell?, hcur, show 1 < cur.size by omega]
   generalize cur.getD 1 undef = c1 at r1 hcell
   rcases hok.live bb _ hbb with ⟨_, g2⟩ | ⟨g, g1, glt, gM, gcur, gfr, ghcur, ghfr, gcl, grow⟩
   · simp [Box.empty] at g2; exact absurd g2 h0
   have hpos : l.length ≠ 0 := by simpa using h0
   generalize hn : l.length = n at r1
   cases r1 with
   | own0 _ _ hβ2 => omega
   | own _ _ _ _ g2 cap m ty hβ2 hs hm hnc hmax =>
     rw [g1] at hβ2
     injection hβ2 with hβ2
     injection hβ2 with hβ2
     subst hβ2
     subst hn
     have hcells : ∀ (j : Nat) (x : UInt8), l[j]? = some x → gcur[j]? = some (.int .u8 x.toNat) := by
       intro j x hx
       obtain ⟨_, hrj⟩ := grow j (byteV x) (by simp [hx])
       obtain ⟨_, h3⟩ := hrj 0 _ rfl
       simp only [Nat.mul_one, Nat.add_zero] at h3
       have h4 := h3.int_inv
       have hj : j < gcur.size := by
         have := (List.getElem?_eq_some_iff.1 hx).1
         simp at gcl
         omega
       rw [Array.getD_eq_getD_getElem?, Array.getElem?_eq_getElem hj] at h4
       rw [Array.getElem?_eq_getElem hj]
       exact congrArg some h4
     refine (Tryz.str_w k g cap gcur l h0 w (by simpa using hcell) ghcur hcells hnc (by simpa using hmax)).mono ?_
     rintro e w' ⟨rfl, rfl⟩
     obtain ⟨g3, g4⟩ := box_frz hok.drew hbb g1 (show w.drew.heap[g]? = _ from ghcur) l.length
     refine ⟨_, _, _, β, rfl, ⟨rfl, fun c hc => ?_, (finB_upd _ _ _).2 h.fin⟩, g3, (Tr.drew hok).trans g4, rep_str _⟩
     rw [upd_ne _ _ (fun e => hc (by rw [e]; exact hbb0))]
     exact h.ext c hc
set_option maxHeartbeats 4000000 in
theorem Tryz.str_n (k : Nat) (w : World) (hbk : w.cell? ⟨k, 1, none⟩ = some (.slice none 0 0)) :
   Calls Tryz.prog 52 #[.pointer (some ⟨k, 0, none⟩)] w fun e w' => e = .returned (.string .empty) ∧ w' = w.drew := by
 have mixed : Tryz.prog.follows .mixedOrders = true := by kernel_rfl
 have c1 : w.drew.cell? ⟨k, 1, none⟩ = some (.slice none 0 0) := hbk
 have hSD : (Builtin.unsafeSliceData_ #[120] 170 #[.slice none 0 0]).run Tryz.prog w.drew = .ok (.pointer none) w.drew := Lib.run_unsafeSliceData_nil _ _ _ _ _
 have hUS : (Builtin.unsafeString_ #[170, 3] 9 #[.pointer none, .int .i64 0]).run Tryz.prog w.drew = .ok (.string .empty) w.drew := Lib.run_unsafeString_none _ _ _ _ _
 go_enter Tryz.func52, Tryz.ntmps52
 go_wp2
 go_region_o
 all_goals (go_wp2; go_ret; exact ⟨rfl, rfl⟩)
theorem Tryz.String_0 {bx : Boxes} {b : Nat} {a : V} (hb : bx b = some (.row 122 2 [.agg [a, .nils]])) :
   AbsCall Tryz.prog 52 [.ptr b 2 0 0] bx fun r bx' => r = .str [] ∧ bx' = bx := by
 refine ⟨enters_of Tryz.func52 (by kernel_rfl) rfl, fun β M w vs hok hgl hvs hrep => ?_⟩
 have r0 := hrep 0 _ rfl
 have hv1 : vs = #[vs.getD 0 undef] := by
   apply Array.ext
   · simpa using hvs
   · intro j g1 g2
     simp at hvs g2
     subst g2
     simp [g1]
 generalize vs.getD 0 undef = u at r0 hv1
 subst hv1
 cases r0 with
 | ptr _ _ _ _ k hβ =>
   rcases hok.live b _ hb with ⟨h1, h2⟩ | ⟨k', h1, hlt, hM, cur, fr, hcur, hfr, hcl, hrow⟩
   · simp [Box.empty] at h2
   rw [hβ] at h1
   injection h1 with h1
   injection h1 with h1
   subst h1
   obtain ⟨_, hr⟩ := hrow 0 _ rfl
   obtain ⟨o1, r1⟩ := hr 1 _ rfl
   simp only [Nat.zero_mul, Nat.zero_add] at o1 r1
   have hc2 : 2 ≤ cur.size := by simpa using hcl
   have hcell : w.cell? ⟨k, 1, none⟩ = some (cur.getD 1 undef) := by
     simp [World.cell?, hcur, show 1 < cur.size by omega]
   generalize cur.getD 1 undef = c1 at r1 hcell
   cases r1
   refine (Tryz.str_n k w (by simpa using hcell)).mono ?_
   rintro e w' ⟨rfl, rfl⟩
   exact ⟨_, _, _, β, rfl, ⟨rfl, rfl⟩, hok.drew, Tr.drew hok, rep_str []⟩
theorem tab_of {P : Program} {β : Beta} {w : World} {F : Nat → Prop} (h : GlOk P β w F) {g : Nat} {name : String} {k : IntKind} {zs : List Int} (hg : P.globalNamed name = some g) (hv : glV P g = .ep (.agg (zs.map (.int k))) 0) : Lib.TabIs P w name k zs := by
 obtain ⟨h1, h2⟩ := h g
 obtain ⟨b, _, tyg, hsg⟩ := h2 _ hv
 rw [hv] at h1
 simp only [List.length_map] at hsg
 generalize hp : Value.pointer (some ⟨g, 0, none⟩) = p at h1
 cases h1 with
 | ep e o a u hc hr =>
     injection hp with hp
     injection hp with hp
     have ha : a = ⟨g, 0, none⟩ := by
       rw [hp]
       unfold Addr.add
       obtain ⟨ab, ao, av⟩ := a
       cases av <;> simp
     subst ha
     simp only [V.cells] at hc hr
     unfold World.shape? at hsg
     unfold Lib.TabIs World.var?
     rw [hg]
     simp only [Option.bind_some]
     cases hh : w.heap[g]? with
     | none => rw [hh] at hsg; cases hsg
     | some o =>
       rw [hh] at hsg
       cases o with
       | cells cur ty' fr =>
         simp only [Option.some.injEq, Prod.mk.injEq] at hsg ⊢
         obtain ⟨_, hsz⟩ := hsg
         apply Array.ext
         · simp [hsz]
         · intro j h1 h2
           have hj : j < zs.length := by omega
           have hcj : (zs.map (V.int k))[j]? = some (.int k zs[j]) := by simp [hj]
           obtain ⟨a', ha', _, hcell, _⟩ := hc j _ hcj
           injection ha' with ha'
           subst ha'
           have hrj := (hr j _ hcj).int_inv
           rw [hrj] at hcell
           have hcur : cur[j]? = some (.int k zs[j]) := by
             have e : (⟨g, 0, none⟩ : Addr).add j = ⟨g, j, none⟩ := by unfold Addr.add; by_cases h : j = 0 <;> simp [h]
             rw [e] at hcell
             simp only [World.cell?, hh] at hcell
             simpa using hcell
           have : cur[j] = .int k zs[j] := by
             rw [Array.getElem?_eq_getElem h1] at hcur
             exact Option.some.inj hcur
           rw [this]
           simp
       | _ => simp at hsg
theorem Tryz.FormatInt_p (n : Int) (h0 : -9223372036854775808 ≤ n) (h1 : n ≤ 9223372036854775807) (bx : Boxes) : PureCall Tryz.prog 96 [.int .i64 n, .int .i64 10] bx (.str (Lib.itoa n)) := by
 refine ⟨enters_of Tryz.func96 (by kernel_rfl) rfl, fun β M w vs hok hgl hvs hrep => ?_⟩
 have e0 : vs.getD 0 undef = .int .i64 n := (hrep 0 _ rfl).int_inv
 have e1 : vs.getD 1 undef = .int .i64 10 := (hrep 1 _ rfl).int_inv
 have hv : vs = #[.int .i64 n, .int .i64 10] := by
   apply Array.ext
   · simpa using hvs
   · intro j g1 g2
     simp at hvs
     have : j = 0 ∨ j = 1 := by omega
     rcases this with rfl | rfl
     · rw [← e0]; simp [g1]
     · rw [← e1]; simp [g1]
 subst hv
 refine (Go.Proofs.Any.strconv_FormatInt_10 Tryz.layFI n h0 h1 w (tab_of hgl (g := 2) (by kernel_rfl) (by kernel_rfl))).mono ?_
 rintro e w' ⟨rfl, k, os, rfl⟩
 have hk : ∀ q, q < w.heap.size → (Go.Sort.grow (w.drewN k) os).heap[q]? = w.heap[q]? := fun q hq => by
   show (w.heap ++ os)[q]? = _
   rw [Array.getElem?_append_left hq]
 have hsz : w.heap.size ≤ (Go.Sort.grow (w.drewN k) os).heap.size := by
   show w.heap.size ≤ (w.heap ++ os).size
   simp
 exact ⟨_, _, bx, β, rfl, ⟨rfl, rfl⟩, hok.grown hsz hok.fin (fun _ _ h => h) hk, Tr.grown hok rfl rfl rfl (Nat.le_add_right w.drawn k) hsz (fun _ _ h => h) hk, rep_str _⟩
theorem Tryz.Digits_p (n : Int) (h0 : -9223372036854775808 ≤ n) (h1 : n ≤ 9223372036854775807) (bx : Boxes) : PureCall Tryz.prog 51 [.int .i64 n] bx (.str (Lib.itoa n)) := by
 refine Tryz.ctr51 fun hf => ?_
 simp [go_sem, Tryz.C51, hf]
 refine callK_pure (Tryz.FormatInt_p n h0 h1 bx) ?_
 simp [go_sem, hf]
 exact ret_pure (by simp [go_sem]) ⟨by simp [go_sem], rfl⟩
end Go.Proofs

set_option linter.unusedVariables false
set_option linter.unusedSimpArgs false
set_option maxRecDepth 100000
namespace Go.Pl
open Go
theorem AbsCall.frz2 {P : Program} {f : FuncId} {args : List V} {bx : Boxes} {Kc K2 : V → Boxes → Prop} (h : AbsCall P f args bx Kc) (hs : ∀ r bx', Kc r bx' → ∃ bx2 d, SubBx bx' bx2 ∧ K2 (Go.Pl.frz bx' bx2 d r) bx2) : AbsCall P f args bx K2 := by
 refine ⟨h.1, fun β M w vs h1 h2 h3 h4 => (h.2 β M w vs h1 h2 h3 h4).mono ?_⟩
 rintro e w' ⟨v, r, bx', β', rfl, hk, hok, ht, hrep⟩
 obtain ⟨bx2, d, hs2, hk2⟩ := hs r bx' hk
 exact ⟨v, _, bx2, β', rfl, hk2, hok.sub hs2, ht.trans hs2.tr, frz_rep hok hs2 d _ _ hrep⟩
end Go.Pl
namespace Go.Proofs
open Go Go.Pl Go.RowKit Go.Shelf
theorem Tryz.glSp : glV Tryz.prog 0 = .ep (.agg (Lib.asciiSpaceTab.map (.int .u8))) 0 := by kernel_rfl
theorem Tryz.gnSp : Tryz.prog.globalNamed "strings.asciiSpace" = some 0 := by kernel_rfl
theorem Tryz.hi9 : (Tryz.prog.info? 9).map (fun i => (i.zero, i.size, i.bytes)) = some (some (.string ByteArray.empty), 1, 16) := by kernel_rfl
set_option maxHeartbeats 2000000 in
theorem Tryz.Fields_m (s : List UInt8) (hs : s.length < 4294967281) (hascii : ∀ b, b ∈ s → b.toNat < 128) (bx : Boxes) : AbsCall Tryz.prog 49 [.str s] bx fun r bx' => ∃ b, bx b = none ∧ r = .own b 1 0 (Lib.fields s).length ∧ bx' = upd bx b (some (.row 9 1 ((Lib.fields s).map .str))) := by
 refine ⟨enters_of Tryz.func49 (by kernel_rfl) rfl, fun β M w vs hok hgl hvs hrep => ?_⟩
 have h0 := hrep 0 _ rfl
 have hv1 : vs = #[vs.getD 0 undef] := by
   apply Array.ext
   · simpa using hvs
   · intro j g1 g2
     simp at hvs g2
     subst g2
     simp [g1]
 generalize vs.getD 0 undef = u at h0 hv1
 subst hv1
 obtain ⟨x, rfl, hx⟩ := h0.str_inv
 have hxl : x.size = s.length := by rw [← hx]; rfl
 refine (Any.strings_Fields Tryz.layF Tryz.hi9 Tryz.gnSp x w (by omega) (fun j b hb => hascii b (by rw [← hx]; exact List.mem_of_getElem? hb)) (tab_of hgl Tryz.gnSp Tryz.glSp)).mono ?_
 rintro e w' ⟨rfl, rfl⟩
 rw [hx]
 obtain ⟨b', hb1, hb2⟩ := hok.fresh
 obtain ⟨cur, hcur⟩ : ∃ cur, (((Lib.fields s).map fun l => Value.string ⟨l.toArray⟩).toArray) = cur := ⟨_, rfl⟩
 have hlen : cur.size = (Lib.fields s).length := by rw [← hcur]; simp
 have hfl : (Lib.fields s).length ≤ s.length := by
   have h1 := Lib.fields_length s
   have h2 : ∀ (l : List UInt8) (w : Bool), Lib.cntF w l ≤ l.length := by
     intro l
     induction l with
     | nil => intro w; simp [Lib.cntF]
     | cons a l ih =>
       intro w
       rw [Lib.cntF_step]
       have := ih (Lib.isSp a)
       simp only [List.length_cons]
       split <;> omega
   rw [h1]; exact h2 s true
 have hgd : ∀ (i : Nat) (f : List UInt8), (Lib.fields s)[i]? = some f → cur.getD (i * 1 + 0) undef = Value.string ⟨f.toArray⟩ := fun i f hf => by
   rw [Array.getD_eq_getD_getElem?, ← hcur]
   simp [hf]
 rw [show (Go.Shelf.Ren.t Tryz.layF_ren 9) = 9 from rfl, hcur]
 clear hcur
 obtain ⟨L, hL⟩ : ∃ L, Lib.fields s = L := ⟨_, rfl⟩
 rw [hL] at hlen hfl hgd ⊢
 obtain ⟨h5, h6⟩ := alloc_box hok hb1 hb2 cur 9 1 (L.map .str) (.inl (by decide)) (by rw [hlen]; simp) (fun i e he => by
   rw [List.getElem?_map, Option.map_eq_some_iff] at he
   obtain ⟨f, hf, rfl⟩ := he
   refine ⟨rfl, fun j c hj => ?_⟩
   rcases j with _ | j
   · simp only [V.cells, List.getElem?_cons_zero, Option.some.injEq] at hj
     subst hj
     rw [hgd i f hf]
     exact ⟨rfl, rep_str f⟩
   · simp [V.cells] at hj)
 have hsh : (w.alloc (.cells cur 9)).shape? w.heap.size = some (9, L.length) := by
   have hh : (w.alloc (.cells cur 9)).heap[w.heap.size]? = some (.cells cur 9 (0, 0)) := by
     show (w.heap.push _)[w.heap.size]? = _
     exact Array.getElem?_push_size
   rw [shape_of hh, hlen]
 refine ⟨_, _, _, _, rfl, ⟨b', hb2, rfl, rfl⟩, h5, h6, ?_⟩
 exact Rep.own b' 1 0 L.length w.heap.size L.length L.length 9 (upd_eq _ _ _) hsh (by omega) (Nat.le_refl _) (by unfold maxLen; omega)
theorem Tryz.Fields_p (s : List UInt8) (hs : s.length < 4294967281) (hascii : ∀ b, b ∈ s → b.toNat < 128) (bx : Boxes) : PureCall Tryz.prog 49 [.str s] bx (.sl 1 ((Lib.fields s).map .str)) := by
 refine (Tryz.Fields_m s hs hascii bx).frz2 ?_
 rintro r bx' ⟨b', hb', rfl, rfl⟩
 refine ⟨bx, 1, (((Ext.refl bx).upd_own hb' _).sub), ?_, rfl⟩
 exact frz_own1 (upd_eq _ _ _) hb' (by decide) (by simp)
def namesB : List UInt8 := List.append [116, 119, 105, 99, 101, 32, 109, 97, 110, 121, 32, 113, 117, 101, 117, 101, 32, 99, 108, 111, 115, 101, 100, 32, 111, 108, 100, 32, 102, 111, 114, 101, 105, 103, 110, 32, 100, 111, 119] [110, 32, 112, 114, 111, 98, 101, 32, 111, 118, 101, 114, 116, 97, 107, 101, 32, 114, 101, 112, 101, 97, 116, 32, 108, 101, 102, 116, 32, 98, 97, 99, 107, 32, 115, 116, 114, 97, 121]
def namesL : List (List UInt8) := [[116, 119, 105, 99, 101], [109, 97, 110, 121], [113, 117, 101, 117, 101], [99, 108, 111, 115, 101, 100], [111, 108, 100], [102, 111, 114, 101, 105, 103, 110], [100, 111, 119, 110], [112, 114, 111, 98, 101], [111, 118, 101, 114, 116, 97, 107, 101], [114, 101, 112, 101, 97, 116], [108, 101, 102, 116], [98, 97, 99, 107], [115, 116, 114, 97, 121]]
theorem names_fields : Lib.fields namesB = namesL := by decide
def lineP (f : Int × Int) : List UInt8 := Lib.itoa f.2 ++ 32 :: (namesL.getD (f.1 - 1).toNat [] ++ [10])
def printI (l : List (Int × Int)) : List UInt8 × Int := if l.any (fun f => decide (f.1 < 1) || decide (13 < f.1)) then ([], 2) else (l.flatMap lineP, 0)
def inR (f : Int × Int) : Prop := (-9223372036854775808 ≤ f.1 ∧ f.1 ≤ 9223372036854775807) ∧ -9223372036854775808 ≤ f.2 ∧ f.2 ≤ 9223372036854775807
theorem upd_noneX {bx : Boxes} {b : Nat} (hb : bx b = none) : upd bx b none = bx := by
 funext c
 by_cases e : c = b
 · rw [e, upd_eq, hb]
 · rw [upd_ne _ _ e]
theorem namesL_len (n : Nat) : (namesL.getD n []).length ≤ 9 := by
 rcases Nat.lt_or_ge n 13 with h | h
 · have : ∀ m : Fin 13, (namesL.getD m.val []).length ≤ 9 := by decide
   exact this ⟨n, h⟩
 · rw [List.getD_eq_getElem?_getD, List.getElem?_eq_none (by simpa [namesL] using h)]; simp
theorem lineP_len (f : Int × Int) (h : inR f) : (lineP f).length ≤ 40 := by
 unfold lineP
 have h1 := Lib.itoa_length_le f.2 h.2.1 h.2.2
 have h2 := namesL_len (f.1 - 1).toNat
 simp only [List.length_append, List.length_cons, List.length_nil]
 omega
theorem lines_len (l : List (Int × Int)) (h : ∀ f, f ∈ l → inR f) : (l.flatMap lineP).length ≤ 40 * l.length := by
 induction l with
 | nil => simp
 | cons f l ih =>
   have h1 := lineP_len f (h f (by simp))
   have h2 := ih fun g hg => h g (by simp [hg])
   rw [List.flatMap_cons, List.length_append, List.length_cons]
   omega
set_option maxHeartbeats 2000000 in
theorem Tryz.Print_i (l : List (Int × Int)) (hl : l.length ≤ 1000) (hr : ∀ f, f ∈ l → inR f) (bx : Boxes) : PureCall Tryz.prog 24 [.sl 2 (l.map fltV)] bx (.tup [.str (printI l).1, iI (printI l).2]) := by
 obtain ⟨Kc, hKc⟩ : ∃ Kc : V → Boxes → Prop, Kc = fun r bx' => r = .tup [.str (printI l).1, iI (printI l).2] ∧ bx' = bx := ⟨_, rfl⟩
 show AbsCall _ _ _ _ (fun r bx' => r = .tup [.str (printI l).1, iI (printI l).2] ∧ bx' = bx)
 rw [← hKc]
 refine Tryz.ctr24 fun hf => ?_
 have cF := fun bx' => Tryz.Fields_p namesB (by decide) (by decide) bx'
 rw [names_fields] at cF
 simp [go_sem, Tryz.C24, hf]
 intro b hb
 refine callK_pure (cF _) ?_
 have hB := Bld.start hb hf
 have hsb : upd bx b (some (Box.row 122 2 [V.agg [V.nilp, V.nils]])) b = some (Box.row 122 2 [V.agg [V.nilp, V.nils]]) := upd_eq _ _ _
 generalize upd bx b (some (Box.row 122 2 [V.agg [V.nilp, V.nils]])) = bx1 at *
 obtain ⟨NL, hNL⟩ : ∃ NL, namesL = NL := ⟨_, rfl⟩
 have hNl : NL.length = 13 := by rw [← hNL]; rfl
 rw [hNL]
 simp [go_sem, hB.fin]
 refine pw_for (ι := Boxes) l.length (fun k bx2 => Bld bx bx2 b ((l.take k).flatMap lineP) ∧ (k = 0 → bx2 = bx1) ∧ ∀ j (hj : j < l.length), j < k → ¬ (l[j].1 < 1 ∨ 13 < l[j].1)) (fun k bx2 => ⟨40, slk [(4, .ptr b 2 0 0), (5, .sl 1 (NL.map .str)), (9, .sl 2 (l.map fltV)), (10, .int .i64 l.length), (11, .int .i64 k)], bx2⟩) bx1 ⟨hB, fun _ => rfl, fun j hj h => absurd h (Nat.not_lt_zero _)⟩ (cov_look (by simp [go_sem])) (fun k bx2 hk hJ N hN => ?_) (fun bx2 hJ N => ?_)
 · obtain ⟨hB2, _, hall⟩ := hJ
   have hw := wr_succ (k := k) (by omega)
   have hf2 := hB2.fin
   have hin := hr l[k] (List.getElem_mem hk)
   have hlt := lines_len (l.take k) fun f hf => hr f (List.mem_of_mem_take hf)
   rw [List.length_take] at hlt
   simp [go_sem, Tryz.L24_0, hk, hf2, fltV, iI, hNl]
   intro b7 hb7
   rw [upd_noneX hb7]
   refine ⟨fun h1 => ?_, fun h1 h2 => ?_⟩
   · have hz : printI l = ([], 2) := by
       unfold printI
       rw [if_pos (List.any_eq_true.2 ⟨l[k], List.getElem_mem hk, by simpa using h1⟩)]
     refine ret_drop (by simp [go_sem]) hB2.ext ?_
     rw [hKc, hz]
     exact ⟨by simp [go_sem, iI], rfl⟩
   · refine callK_pure (Tryz.Digits_p l[k].2 hin.2.1 hin.2.2 _) ?_
     obtain ⟨m, hm, hm13⟩ : ∃ m : Nat, l[k].1 = (m : Int) + 1 ∧ m < 13 := ⟨(l[k].1 - 1).toNat, by omega, by omega⟩
     have hw1 : IntKind.i64.wrap (l[k].1 - 1) = (m : Int) := by rw [wr64 (by omega)]; omega
     have hg : NL[m]? = some (NL.getD m []) := by rw [List.getD_eq_getElem?_getD, List.getElem?_eq_getElem (by omega)]; rfl
     have hi1 := Lib.itoa_length_le l[k].2 hin.2.1 hin.2.2
     have hi2 : (NL[m]'(by omega)).length ≤ 9 := by
       have := namesL_len m
       rw [hNL, List.getD_eq_getElem?_getD, List.getElem?_eq_getElem (by omega)] at this
       exact this
     have hline : lineP l[k] = Lib.itoa l[k].2 ++ 32 :: (NL[m]'(by omega) ++ [10]) := by
       unfold lineP
       rw [hNL, show (l[k].1 - 1).toNat = m by omega, List.getD_eq_getElem?_getD, List.getElem?_eq_getElem (show m < NL.length by omega)]
       rfl
     have hwr := Tryz.WriteString_p hB2 (lineP l[k]) (by have := lineP_len l[k] hin; omega)
     rw [hline] at hwr
     simp [go_sem, hf2, hw1, hm13, hNl, hg]
     refine ⟨by omega, by omega, by omega, by omega, callK_abs hwr ?_⟩
     rintro r bx3 ⟨rfl, hB3⟩
     rw [← hline] at hB3
     simp [go_sem, hB3.fin, hw]
     refine hN _ bx3 ⟨?_, fun h => by omega, fun j hj hjk => ?_⟩ (cov_look (by simp [go_sem]))
     · rw [List.take_succ_eq_append_getElem hk, List.flatMap_append]
       simpa using hB3
     · rcases Nat.lt_or_ge j k with h | h
       · exact hall j hj h
       · have : j = k := by omega
         subst this
         omega
 · obtain ⟨hB2, h0, hall⟩ := hJ
   have hf2 := hB2.fin
   rw [List.take_of_length_le (Nat.le_refl _)] at hB2
   have hz : printI l = (l.flatMap lineP, 0) := by
     unfold printI
     rw [if_neg]
     intro h
     obtain ⟨f, hf1, hf2⟩ := List.any_eq_true.1 h
     obtain ⟨j, hj, rfl⟩ := List.getElem_of_mem hf1
     exact hall j hj hj (by simpa using hf2)
   simp [go_sem, Tryz.L24_0, hf2]
   by_cases hl0 : l.length = 0
   · have hl1 : l = [] := List.length_eq_zero_iff.1 hl0
     rw [h0 hl0] at hB2 ⊢
     refine callK_abs (Tryz.String_0 hsb) ?_
     rintro r bx' ⟨rfl, rfl⟩
     simp [go_sem, hB2.fin]
     refine ret_drop (by simp [go_sem]) hB2.ext ?_
     rw [hKc, hz, hl1]
     exact ⟨by simp [go_sem, iI], rfl⟩
   · have hne : l.flatMap lineP ≠ [] := by
       cases l with
       | nil => simp at hl0
       | cons f l => rw [List.flatMap_cons]; unfold lineP; simp
     refine callK_abs (Tryz.String_p hB2 hne) ?_
     rintro r bx' ⟨rfl, he, hf'⟩
     simp [go_sem, hf']
     refine ret_drop (by simp [go_sem]) he ?_
     rw [hKc, hz]
     exact ⟨by simp [go_sem, iI], rfl⟩
end Go.Proofs

set_option linter.unusedVariables false
set_option linter.unusedSimpArgs false
set_option maxRecDepth 100000
namespace Go.Proofs
open Go Go.Pl
theorem Tryz.And_o (L : List Lim) (most : Int) (l m : List Ex) (hl : l.length + m.length ≤ 100000) {bx : Boxes} {bm : Nat} (hbm : bx bm = some (.row 69 8 (m.map exV))) {n : Nat} (hn : n = m.length) : PureCall Tryz.prog 32 [logV L most l, .own bm 8 0 n] bx (logV L most (l ++ m)) := by
 subst hn
 refine PureCall.wk ?_
 refine Tryz.ctr32 fun hf => ?_
 simp [go_sem, Tryz.C32, hf, logV]
 intro b0 h0 b1 h1 b2 h2
 have n01 : b0 ≠ b1 := by rintro rfl; simp [upd_eq] at h1
 have n12 : b1 ≠ b2 := by rintro rfl; simp [upd_eq] at h2
 have n02 : b0 ≠ b2 := by rintro rfl; simp [upd_eq, upd_ne _ _ n01] at h2
 have h10 : bx b1 = none := by rwa [upd_ne _ _ n01.symm] at h1
 have h20 : bx b2 = none := by rwa [upd_ne _ _ n12.symm, upd_ne _ _ n02.symm] at h2
 simp [go_sem, upd_eq, upd_ne _ _ n01, upd_ne _ _ n02]
 obtain ⟨bx3, hbx3⟩ : ∃ bx3, upd (upd (upd bx b0 (some (Box.row 25 3 [V.agg [V.sl 4 (L.map limV), iI most, V.sl 8 (l.map exV)]]))) b1 (some (Box.row 25 3 [V.agg [V.nils, V.int .i64 0, V.nils]]))) b2 (some (Box.row 69 8 [])) = bx3 := ⟨_, rfl⟩
 have ho : OwnV bx3 69 8 [] (.own b2 8 0 0) := .inr ⟨b2, rfl, by rw [← hbx3, upd_eq]⟩
 have hn : NewV bx (.own b2 8 0 0) := fun b sz o m e => by injection e with e; rw [← e]; exact h20
 have hf3 : FinB bx3 := by rw [← hbx3]; exact (finB_upd _ _ _).2 ((finB_upd _ _ _).2 ((finB_upd _ _ _).2 hf))
 have hx3 : Ext bx bx3 := by rw [← hbx3]; exact (((Ext.refl bx).upd_own h0 _).upd_own h10 _).upd_own h20 _
 have r0 : bx3 b0 = some (Box.row 25 3 [V.agg [V.sl 4 (L.map limV), iI most, V.sl 8 (l.map exV)]]) := by rw [← hbx3, upd_ne _ _ n02, upd_ne _ _ n01, upd_eq]
 have r1 : bx3 b1 = some (Box.row 25 3 [V.agg [V.nils, V.int .i64 0, V.nils]]) := by rw [← hbx3, upd_ne _ _ n12, upd_eq]
 rw [hbx3]
 clear hbx3 h1 h2
 refine own_app (.agg #[.int .i64 0, .int .i64 0, .int .i64 0, .int .i64 0, .int .i64 0, .int .i64 0, .int .i64 0, .bool false]) ho hf3 (news := l.map exV) Tryz.knd23 Tryz.tsz69 (by simp [srcEls]) Tryz.tzero69 (by simp [go_sem]) (by decide) (by simp [Tryz.tby69]; omega) (by simp; omega) (by simp [go_sem]) fun v4 bx4 ha4 hm4 _ => ?_
 obtain ⟨x4, n4⟩ := hm4.base hx3 hn
 have s0 := (hm4.other (by rw [r0]; simp) (fun sz o m e => by injection e with e; exact n02 e.symm)).trans r0
 have s1 := (hm4.other (by rw [r1]; simp) (fun sz o m e => by injection e with e; exact n12 e.symm)).trans r1
 have hf4 := hm4.fin
 clear ho hn hm4 r0 r1 hf3 hx3
 rw [List.nil_append] at ha4
 simp [go_sem, hf4, ha4.strip, ha4.live, ha4.cells, ha4.okV]
 have sm := (x4 bm (by rw [hbm]; simp)).trans hbm
 have nv0 := ha4.ne s0 (by decide)
 have nv1 := ha4.ne s1 (by decide)
 refine own_app (.agg #[.int .i64 0, .int .i64 0, .int .i64 0, .int .i64 0, .int .i64 0, .int .i64 0, .int .i64 0, .bool false]) ha4 hf4 (news := m.map exV) Tryz.knd23 Tryz.tsz69 (by simp [srcEls, sm]; rw [List.take_of_length_le (by simp)]) Tryz.tzero69 (by simp [go_sem]) (by decide) (by simp [Tryz.tby69]; omega) (by simp; omega) (by simp [go_sem]) fun v5 bx5 ha5 hm5 _ => ?_
 obtain ⟨x5, n5⟩ := hm5.base x4 n4
 have u0 := (hm5.other (by rw [s0]; simp) nv0).trans s0
 have u1 := (hm5.other (by rw [s1]; simp) nv1).trans s1
 have hf5 := hm5.fin
 simp [go_sem, hf5, ha5.strip, ha5.live, ha5.cells, ha5.okV, u0, u1, upd_eq, upd_ne _ _ n01.symm, finB_upd]
 have ha6 := (ha5.put u0 (by decide) (some (Box.row 25 3 [V.agg [V.sl 4 (L.map limV), iI most, v5]])))
 have ha7 := (ha6.put (p := b1) (by rw [upd_ne _ _ n01.symm]; exact u1) (by decide) (some (Box.row 25 3 [V.agg [V.sl 4 (L.map limV), iI most, v5]])))
 refine ret_frz 2 (by simp [go_sem, upd_eq, ha5.live, ha5.okV]) ((x5.upd_own h0 _).upd_own h10 _) ?_
 refine ⟨?_, rfl⟩
 have e5 : ∀ bb : Boxes, OwnV bb 69 8 (l.map exV ++ m.map exV) v5 → Wk (frz bb bx 1 v5) (.sl 8 (l.map exV ++ m.map exV)) := fun bb hb => by
   rcases hb with ⟨h0, rfl⟩ | ⟨b3, rfl, hb3⟩
   · rw [h0]; exact wk_nils 8
   · rw [frz_own1 hb3 (n5 _ _ _ _ rfl) (by decide) rfl]; exact Wk.refl _
 have e6 := e5 _ ha7
 simp [go_sem, upd_eq, frz, ha5.strip]
 refine wk_aggL rfl fun i c d hc hd => ?_
 rcases i with _ | _ | _ | i
 · injection hc with hc; injection hd with hd; rw [← hc, ← hd]; exact Wk.refl _
 · injection hc with hc; injection hd with hd; rw [← hc, ← hd]; exact Wk.refl _
 · injection hc with hc; injection hd with hd; rw [← hc, ← hd]; exact e6
 · cases hc
instance (e : Ex) : Decidable (NE e) := inferInstanceAs (Decidable (_ = _))
theorem ex_ne : ∀ e, e ∈ exE → NE e := by decide
theorem late_ne : ∀ e, e ∈ exLate → NE e := by decide
theorem over_ne : ∀ e, e ∈ exOver → NE e := by decide
theorem ex_find : findI exL 1 exE = ([], 0) := by decide
theorem ex_lives : livesF exL 1 exE = ([⟨7, 0, 1, 2, -1, 20, 30⟩], 0) := by decide
theorem late_find : findI exL 1 exLate = ([(5, 10)], 0) := by decide
theorem ex_print : printI [(11, 2)] = ([50, 32, 108, 101, 102, 116, 10], 0) := by
 have h : Lib.itoa 2 = [50] := by unfold Lib.itoa; rw [if_neg (by omega), Lib.decDigits_one (by omega)]; rfl
 unfold printI
 simp [lineP, h, namesL]
set_option maxHeartbeats 4000000 in
theorem Tryz.awake_i (bx : Boxes) : PureCall Tryz.prog 12 [] bx (.bool true) := by
 have cE := fun bx' => Tryz.Example_i bx'
 have cF := fun bx' => Tryz.Find_p exL 1 exE (by decide) (by decide) ex_ne bx'
 rw [ex_find] at cF
 have cL := fun bx' => Tryz.Lives_p exL 1 exE (by decide) (by decide) ex_ne bx'
 rw [ex_lives] at cL
 have cG := fun bx' => Tryz.Find_p exL 1 exLate (by decide) (by decide) late_ne bx'
 rw [late_find] at cG
 have cC := fun bx' => Tryz.Cut_i exL 1 exOver (by decide) (by decide) over_ne bx'
 rw [ex5] at cC
 have cP := fun bx' => Tryz.Print_i [(11, 2)] (by decide) (by intro f hf; simp at hf; subst hf; exact ⟨by decide, by decide⟩) bx'
 rw [ex_print] at cP
 have cV := fun bx' => Tryz.lives_i [⟨7, 0, 1, 2, -1, 20, 30⟩] [⟨7, 0, 1, 2, -1, 20, 30⟩] (by decide) bx'
 have cS := fun bx' => Tryz.Same_i [(5, 10)] [(5, 10)] (by decide) bx'
 refine Tryz.ctr12 fun hf => ?_
 simp [go_sem, Tryz.C12, hf]
 refine callK_pure (cE _) ?_
 have ev : ∀ L m l, ∃ lv, logV L m l = lv ∧ lv.strip = lv ∧ lv.liveB = true ∧ okV lv = true ∧ lv.cells.length = 3 ∧ V.agg (List.take 3 lv.cells) = lv ∧ setC (V.agg [.nils, .int .i64 0, .nils]) 0 lv.cells = lv := fun L m l => ⟨_, rfl, rfl, rfl, rfl, rfl, rfl, rfl⟩
 obtain ⟨vE, hE, e1, e2, e3, e4, e5, e6⟩ := ev exL 1 exE
 rw [hE] at cF cL ⊢
 simp [go_sem, e1, e2, e3, e4, e5]
 refine callK_pure (cF _) ?_
 simp [go_sem, hf, iI]
 refine callK_pure (cE _) ?_
 rw [hE]
 simp [go_sem, e1, e2, e3, e4, e5]
 refine callK_pure (cL _) ?_
 simp [go_sem, hf, iI]
 refine callK_pure (cE _) ?_
 rw [hE]
 simp [go_sem, hf, iI, e1, e2, e3, e4, e5]
 intro b3 hb3
 have hx3 : Ext bx (upd bx b3 (some (Box.row 69 8 [V.agg [V.int .i64 1, V.int .i64 0, V.int .i64 15, V.int .i64 2, V.int .i64 0, V.int .i64 0, V.int .i64 0, V.bool false], V.agg [V.int .i64 2, V.int .i64 0, V.int .i64 15, V.int .i64 2, V.int .i64 0, V.int .i64 0, V.int .i64 0, V.bool false], V.agg [V.int .i64 8, V.int .i64 0, V.int .i64 15, V.int .i64 2, V.int .i64 7, V.int .i64 0, V.int .i64 0, V.bool false]]))) := (Ext.refl bx).upd_own hb3 _
 have hf3 : FinB (upd bx b3 (some (Box.row 69 8 [V.agg [V.int .i64 1, V.int .i64 0, V.int .i64 15, V.int .i64 2, V.int .i64 0, V.int .i64 0, V.int .i64 0, V.bool false], V.agg [V.int .i64 2, V.int .i64 0, V.int .i64 15, V.int .i64 2, V.int .i64 0, V.int .i64 0, V.int .i64 0, V.bool false], V.agg [V.int .i64 8, V.int .i64 0, V.int .i64 15, V.int .i64 2, V.int .i64 7, V.int .i64 0, V.int .i64 0, V.bool false]]))) := (finB_upd _ _ _).2 hf
 have hr3 : upd bx b3 (some (Box.row 69 8 [V.agg [V.int .i64 1, V.int .i64 0, V.int .i64 15, V.int .i64 2, V.int .i64 0, V.int .i64 0, V.int .i64 0, V.bool false], V.agg [V.int .i64 2, V.int .i64 0, V.int .i64 15, V.int .i64 2, V.int .i64 0, V.int .i64 0, V.int .i64 0, V.bool false], V.agg [V.int .i64 8, V.int .i64 0, V.int .i64 15, V.int .i64 2, V.int .i64 7, V.int .i64 0, V.int .i64 0, V.bool false]])) b3 = some (.row 69 8 ([evB 1 2 0 15 0 0 false, evB 2 2 0 15 0 0 false, evB 8 2 7 15 0 0 false].map exV)) := upd_eq _ _ _
 generalize upd bx b3 _ = bx3 at *
 have cA := Tryz.And_o exL 1 exE [evB 1 2 0 15 0 0 false, evB 2 2 0 15 0 0 false, evB 8 2 7 15 0 0 false] (by decide) hr3 (n := 3) rfl
 rw [hE, show exE ++ [evB 1 2 0 15 0 0 false, evB 2 2 0 15 0 0 false, evB 8 2 7 15 0 0 false] = exLate from rfl] at cA
 refine callK_pure cA ?_
 obtain ⟨vG, hG, g1, g2, g3, g4, g5, g6⟩ := ev exL 1 exLate
 rw [hG] at cG ⊢
 simp [go_sem, hf3, iI, g1, g2, g3, g4, g5, g6]
 intro b5 hb5
 rw [upd_noneX hb5]
 refine callK_pure (cG _) ?_
 simp [go_sem, hf3, iI]
 refine callK_pure (cE _) ?_
 rw [hE]
 simp [go_sem, hf3, iI, e1, e2, e3, e4, e5]
 intro b4 hb4
 have hx4 : Ext bx (upd bx3 b4 (some (Box.row 69 8 [V.agg [V.int .i64 18, V.int .i64 0, V.int .i64 6, V.int .i64 0, V.int .i64 0, V.int .i64 0, V.int .i64 0, V.bool false], V.agg [V.int .i64 19, V.int .i64 0, V.int .i64 6, V.int .i64 0, V.int .i64 0, V.int .i64 0, V.int .i64 0, V.bool false]]))) := hx3.upd_own (hx3.none hb4) _
 have hf4 : FinB (upd bx3 b4 (some (Box.row 69 8 [V.agg [V.int .i64 18, V.int .i64 0, V.int .i64 6, V.int .i64 0, V.int .i64 0, V.int .i64 0, V.int .i64 0, V.bool false], V.agg [V.int .i64 19, V.int .i64 0, V.int .i64 6, V.int .i64 0, V.int .i64 0, V.int .i64 0, V.int .i64 0, V.bool false]]))) := (finB_upd _ _ _).2 hf3
 have hr4 : upd bx3 b4 (some (Box.row 69 8 [V.agg [V.int .i64 18, V.int .i64 0, V.int .i64 6, V.int .i64 0, V.int .i64 0, V.int .i64 0, V.int .i64 0, V.bool false], V.agg [V.int .i64 19, V.int .i64 0, V.int .i64 6, V.int .i64 0, V.int .i64 0, V.int .i64 0, V.int .i64 0, V.bool false]])) b4 = some (.row 69 8 ([evB 18 0 0 6 0 0 false, evB 19 0 0 6 0 0 false].map exV)) := upd_eq _ _ _
 generalize upd bx3 b4 _ = bx4 at *
 have cB := Tryz.And_o exL 1 exE [evB 18 0 0 6 0 0 false, evB 19 0 0 6 0 0 false] (by decide) hr4 (n := 2) rfl
 rw [hE, show exE ++ [evB 18 0 0 6 0 0 false, evB 19 0 0 6 0 0 false] = exOver from rfl] at cB
 refine callK_pure cB ?_
 obtain ⟨vO, hO, o1, o2, o3, o4, o5, o6⟩ := ev exL 1 exOver
 rw [hO] at cC ⊢
 simp [go_sem, hf4, iI, o1, o2, o3, o4, o5, o6]
 intro b8 hb8
 rw [upd_noneX hb8]
 refine callK_pure (cC _) ?_
 have hcv : cutV exL 1 ([evB 1 1 0 0 0 0 true, evB 18 0 0 6 0 0 false, evB 19 0 0 6 0 0 false], 0) = .agg [.sl 4 (exL.map limV), .int .i64 1, .sl 8 ([evB 1 1 0 0 0 0 true, evB 18 0 0 6 0 0 false, evB 19 0 0 6 0 0 false].map exV)] := rfl
 rw [hcv]
 simp [go_sem, hf4, iI]
 intro b9 hb9
 rw [upd_noneX hb9]
 intro b10 hb10
 have hx5 : Ext bx (upd bx4 b10 (some (Box.row 66 2 [V.agg [V.int .i64 11, V.int .i64 2]]))) := hx4.upd_own (hx4.none hb10) _
 have hf5 : FinB (upd bx4 b10 (some (Box.row 66 2 [V.agg [V.int .i64 11, V.int .i64 2]]))) := (finB_upd _ _ _).2 hf4
 have hr5 : upd bx4 b10 (some (Box.row 66 2 [V.agg [V.int .i64 11, V.int .i64 2]])) b10 = some (Box.row 66 2 [V.agg [V.int .i64 11, V.int .i64 2]]) := upd_eq _ _ _
 generalize upd bx4 b10 _ = bx5 at *
 have cP2 := PureCall.frame (bx := bx5) (args := [.own b10 2 0 1]) 1 (cP _) (by simp [frz, hr5, fltV, iI]) rfl
 refine callK_pure cP2 ?_
 simp [go_sem, hf5, iI]
 intro b11 hb11
 have hx6 : Ext bx (upd bx5 b11 (some (Box.row 77 7 [V.agg [V.int .i64 7, V.int .i64 0, V.int .i64 1, V.int .i64 2, V.int .i64 (-1), V.int .i64 20, V.int .i64 30]]))) := hx5.upd_own (hx5.none hb11) _
 have hf6 : FinB (upd bx5 b11 (some (Box.row 77 7 [V.agg [V.int .i64 7, V.int .i64 0, V.int .i64 1, V.int .i64 2, V.int .i64 (-1), V.int .i64 20, V.int .i64 30]]))) := (finB_upd _ _ _).2 hf5
 have hr6 : upd bx5 b11 (some (Box.row 77 7 [V.agg [V.int .i64 7, V.int .i64 0, V.int .i64 1, V.int .i64 2, V.int .i64 (-1), V.int .i64 20, V.int .i64 30]])) b11 = some (Box.row 77 7 [V.agg [V.int .i64 7, V.int .i64 0, V.int .i64 1, V.int .i64 2, V.int .i64 (-1), V.int .i64 20, V.int .i64 30]]) := upd_eq _ _ _
 generalize upd bx5 b11 _ = bx6 at *
 have cV2 := PureCall.frame (bx := bx6) (args := [.sl 7 [lfV ⟨7, 0, 1, 2, -1, 20, 30⟩], .own b11 7 0 1]) 1 (cV _) (by simp [frz, hr6, lfV, iI]) rfl
 refine gK_pure cV2 (by simp) (by simp [go_sem]) ?_
 simp [go_sem, hf6, iI]
 intro b12 hb12
 have hx7 : Ext bx (upd bx6 b12 (some (Box.row 66 2 [V.agg [V.int .i64 5, V.int .i64 10]]))) := hx6.upd_own (hx6.none hb12) _
 have hf7 : FinB (upd bx6 b12 (some (Box.row 66 2 [V.agg [V.int .i64 5, V.int .i64 10]]))) := (finB_upd _ _ _).2 hf6
 have hr7 : upd bx6 b12 (some (Box.row 66 2 [V.agg [V.int .i64 5, V.int .i64 10]])) b12 = some (Box.row 66 2 [V.agg [V.int .i64 5, V.int .i64 10]]) := upd_eq _ _ _
 generalize upd bx6 b12 _ = bx7 at *
 have cS2 := PureCall.frame (bx := bx7) (args := [.sl 2 [fltV (5, 10)], .own b12 2 0 1]) 1 (cS _) (by simp [frz, hr7, fltV, iI]) rfl
 refine gK_pure cS2 (by simp) (by simp [go_sem]) ?_
 simp [go_sem, hf7, iI]
 refine ⟨by decide, gK_pure (cE _) (by simp) (by simp [go_sem]) ?_⟩
 simp [go_sem, hf7, logV, exE, exL, evB, exV, evW, iI]
 refine ret_drop (by simp [go_sem]) hx7 ⟨by simp [go_sem], rfl⟩
end Go.Proofs
