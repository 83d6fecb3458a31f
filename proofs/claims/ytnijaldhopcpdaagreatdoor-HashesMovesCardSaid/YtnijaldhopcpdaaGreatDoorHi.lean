/- Texts of the proof, put together: Ru, Rv, Rw. -/
import Derived.Test.YtnijaldhopcpdaaGreatDoorHh

/- Contracts: Moved. -/
set_option linter.unusedSimpArgs false
set_option linter.unusedVariables false
set_option maxRecDepth 100000
namespace Go.Proofs
open Go Go.Pl Go.Hs

theorem check_pts {r : Rg} (h : check r = 0) : r.pts.length ≤ 32000 ∧ r.pts.Pairwise fun a b => a.h ≤ b.h := by
  have hpe := (check0 h).2
  have := ring_le r.names r.wts r.nodes
  unfold ring at this
  rw [if_pos (check0 h).1] at this
  rw [hpe]
  exact ⟨this, srt_h⟩
theorem moved_off {a b : Rg} {keys : List Bs} (h : movedE a b keys ≠ 0) : moved a b keys = ([], movedE a b keys) := by unfold moved; rw [if_pos h]
theorem movedL_succ (a b : Rg) (keys : List Bs) (k : Nat) : movedL a b keys (k + 1) = if movedAt a b (keys.getD k []) = true then movedL a b keys k ++ [k] else movedL a b keys k := by
  unfold movedL
  rw [List.range_succ, List.filter_append]
  cases h : movedAt a b (keys.getD k [])
  · rw [List.filter_cons_of_neg (by rw [h]; decide)]; simp
  · rw [List.filter_cons_of_pos (p := fun i => movedAt a b (keys.getD i [])) (a := k) h]; simp
theorem movedL_len (a b : Rg) (keys : List Bs) (k : Nat) : (movedL a b keys k).length ≤ k := by
  unfold movedL
  refine Nat.le_trans (List.length_filter_le _ _) ?_
  simp
theorem longK_any (keys : List Bs) : ∀ s, s ∈ keys → keys.any (fun k => decide (200 < k.length)) = false → s.length ≤ 200 := fun s hs h => by
  rw [List.any_eq_false] at h
  have := h s hs
  simpa using this
theorem Tryz.Moved_c (a b : Rg) (keys : List Bs) (bx : Boxes) (hm : Mk bx) (a1 : a.wts.length ≤ 9223372036854775807) (a2 : a.names.length ≤ 9223372036854775807) (b1 : b.wts.length ≤ 9223372036854775807) (b2 : b.names.length ≤ 9223372036854775807) (hkl : keys.length ≤ 9223372036854775807) :
    PureCall Tryz.prog 17 [rgV a, rgV b, strsV keys] bx (.tup [natsV (moved a b keys).1, .int .i64 (moved a b keys).2]) := by
  refine PureCall.wk (Tryz.ctr17 fun hb => ?_)
  have ca := Tryz.check_c a bx hm a1 a2
  have cb := Tryz.check_c b bx hm b1 b2
  have ra := fun h => Tryz.ask_c a keys bx hm a1 a2 h
  have rb := fun h => Tryz.ask_c b keys bx hm b1 b2 h
  have hE : movedE a b keys = if check a ≠ 0 then check a else if check b ≠ 0 then check b else if 1000 < keys.length then 3 else if askE a keys ≠ 0 then askE a keys else askE b keys := by
    unfold movedE askE
    by_cases h1 : check a ≠ 0
    · rw [if_pos h1, if_pos h1]
    rw [if_neg h1, if_neg h1]
    by_cases h2 : check b ≠ 0
    · rw [if_pos h2, if_pos h2]
    rw [if_neg h2, if_neg h2, if_neg h1, if_neg h2]
    by_cases h3 : 1000 < keys.length
    · rw [if_pos h3, if_pos h3]
    rw [if_neg h3, if_neg h3]
    by_cases h4 : keys.any (fun k => decide (200 < k.length)) = true
    · simp [h4]
    · simp only [h4]
      by_cases h5 : a.pts.length = 0 <;> by_cases h6 : b.pts.length = 0 <;> simp [h5, h6]
  have hoff : ∀ e, movedE a b keys = e → e ≠ 0 → ∀ x, (⟨83, slk [(6, .nils), (7, .int .i64 e)], bx⟩ : St) = x → Ret Tryz.prog [Go.ResultVar.tmp 6, Go.ResultVar.tmp 7] (fun r' bx' => Wk r' (.tup [natsV (moved a b keys).1, .int .i64 (moved a b keys).2]) ∧ bx' = bx) x := by
    rintro e rfl h0 x rfl
    rw [moved_off h0]
    refine ret_wk0 (by simp [go_sem]) ?_
    simp [go_sem, natsV]
    exact wk_tup2 (wk_nils _) (Wk.refl _)
  generalize hMM : moved a b keys = MM at *
  unfold strsV
  simp only [rgV] at ca cb ra rb ⊢
  simp only [strsV, intsV, ptsV] at ca cb ra rb ⊢
  simp [go_sem, Tryz.C17, hb]
  have hkv : ∀ x y : Int, (fun k : Nat => if k = 0 then decide (x ≠ 0) else decide (y ≠ 0)) 0 = decide (x ≠ 0) := fun x y => rfl
  refine pw_find 2 (fun k => if k = 0 then decide (check a ≠ 0) else decide (check b ≠ 0)) (fun k => ⟨83, slk [(2, .sl 1 (keys.map .str)), (3, .ep (.agg [.sl 1 (a.names.map .str), .sl 1 (a.wts.map (.int .i64)), .int .i64 a.nodes, .sl 2 (a.pts.map ptV)]) 0), (4, .ep (.agg [.sl 1 (b.names.map .str), .sl 1 (b.wts.map (.int .i64)), .int .i64 b.nodes, .sl 2 (b.pts.map ptV)]) 0), (20, .sl 4 [(.agg [.sl 1 (a.names.map .str), .sl 1 (a.wts.map (.int .i64)), .int .i64 a.nodes, .sl 2 (a.pts.map ptV)]), (.agg [.sl 1 (b.names.map .str), .sl 1 (b.wts.map (.int .i64)), .int .i64 b.nodes, .sl 2 (b.pts.map ptV)])]), (21, .int .i64 2), (22, .int .i64 k)], bx⟩) (cov_look (by simp [go_sem])) ?_ ?_
  · intro k hk hpre N hN
    have hw := wr_succ (k := k) (by omega)
    rcases (by omega : k = 0 ∨ k = 1) with rfl | rfl
    · simp [go_sem, Tryz.L17_0, hb]
      intro b9 hb9
      simp [go_sem, upd_self hb9]
      refine callK_pure ca ?_
      simp [go_sem]
      refine ⟨fun h => ?_, fun h => ?_⟩
      · exact hoff (check a) (by rw [hE, if_pos h]) h _ rfl
      · exact hN _ (by simp [h]) (cov_look (by simp [go_sem, wr64]))
    · have h0 := hpre 0 (by omega)
      simp at h0
      simp [go_sem, Tryz.L17_0, hb]
      intro b9 hb9
      simp [go_sem, upd_self hb9]
      refine callK_pure cb ?_
      simp [go_sem]
      refine ⟨fun h => ?_, fun h => ?_⟩
      · exact hoff (check b) (by rw [hE, if_neg (by simpa using h0), if_pos h]) h _ rfl
      · exact hN _ (by simp [h]) (cov_look (by simp [go_sem, wr64]))
  intro hpre N
  have ha0 := hpre 0 (by omega)
  have hb0 := hpre 1 (by omega)
  simp at ha0 hb0
  have hE' : movedE a b keys = if 1000 < keys.length then 3 else if askE a keys ≠ 0 then askE a keys else askE b keys := by rw [hE, if_neg (by simpa using ha0), if_neg (by simpa using hb0)]
  obtain ⟨pa1, pa2⟩ := check_pts ha0
  obtain ⟨pb1, pb2⟩ := check_pts hb0
  simp [go_sem, Tryz.L17_0, hb]
  refine ⟨fun hk => ?_, fun hk => ?_⟩
  · exact hoff 3 (by rw [hE', if_pos (by omega)]) (by decide) _ rfl
  refine pw_find 2 (fun k => if k = 0 then decide (askE a keys ≠ 0) else decide (askE b keys ≠ 0)) (fun k => ⟨83, slk [(2, .sl 1 (keys.map .str)), (3, .ep (.agg [.sl 1 (a.names.map .str), .sl 1 (a.wts.map (.int .i64)), .int .i64 a.nodes, .sl 2 (a.pts.map ptV)]) 0), (4, .ep (.agg [.sl 1 (b.names.map .str), .sl 1 (b.wts.map (.int .i64)), .int .i64 b.nodes, .sl 2 (b.pts.map ptV)]) 0), (37, .sl 4 [(.agg [.sl 1 (a.names.map .str), .sl 1 (a.wts.map (.int .i64)), .int .i64 a.nodes, .sl 2 (a.pts.map ptV)]), (.agg [.sl 1 (b.names.map .str), .sl 1 (b.wts.map (.int .i64)), .int .i64 b.nodes, .sl 2 (b.pts.map ptV)])]), (38, .int .i64 2), (39, .int .i64 k)], bx⟩) (cov_look (by simp [go_sem])) ?_ ?_
  · intro k hk2 hpre2 N2 hN2
    have hw := wr_succ (k := k) (by omega)
    rcases (by omega : k = 0 ∨ k = 1) with rfl | rfl
    · simp [go_sem, Tryz.L17_1, hb]
      intro b9 hb9
      simp [go_sem, upd_self hb9]
      refine callK_pure (ra (by omega)) ?_
      simp [go_sem]
      refine ⟨fun h => ?_, fun h => ?_⟩
      · exact hoff (askE a keys) (by rw [hE', if_neg (by omega), if_pos h]) h _ rfl
      · exact hN2 _ (by simp [h]) (cov_look (by simp [go_sem, wr64]))
    · have h0 := hpre2 0 (by omega)
      simp at h0
      simp [go_sem, Tryz.L17_1, hb]
      intro b9 hb9
      simp [go_sem, upd_self hb9]
      refine callK_pure (rb (by omega)) ?_
      simp [go_sem]
      refine ⟨fun h => ?_, fun h => ?_⟩
      · exact hoff (askE b keys) (by rw [hE', if_neg (by omega), if_neg (by simpa using h0)]) h _ rfl
      · exact hN2 _ (by simp [h]) (cov_look (by simp [go_sem, wr64]))
  intro hpre2 N2
  have ha3 := hpre2 0 (by omega)
  have hb3 := hpre2 1 (by omega)
  simp at ha3 hb3
  have hM0 : movedE a b keys = 0 := by rw [hE', if_neg (by omega), if_neg (by simpa using ha3)]; exact hb3
  have hMv : MM = (movedL a b keys keys.length, 0) := by rw [← hMM]; unfold moved; rw [if_neg (by simpa using hM0)]
  have hany : keys.any (fun k => decide (200 < k.length)) = false := by
    unfold askE at ha3
    rw [if_neg (by simpa using ha0)] at ha3
    cases h : keys.any (fun k => decide (200 < k.length))
    · rfl
    · rw [h, if_pos rfl] at ha3; cases ha3
  have hpa : 0 < a.pts.length := by
    unfold askE at ha3
    rw [if_neg (by simpa using ha0), hany, if_neg (by decide)] at ha3
    by_cases h : a.pts.length = 0
    · rw [if_pos h] at ha3; cases ha3
    · omega
  have hpb : 0 < b.pts.length := by
    unfold askE at hb3
    rw [if_neg (by simpa using hb0), hany, if_neg (by decide)] at hb3
    by_cases h : b.pts.length = 0
    · rw [if_pos h] at hb3; cases hb3
    · omega
  simp [go_sem, Tryz.L17_1, hb]
  refine pw_for (ι := V × Boxes) keys.length (fun k p => Pl.Acc bx 3 1 ((movedL a b keys k).map fun (n : Nat) => .int .i64 (n : Int)) p.1 p.2)
    (fun k p => ⟨83, slk [(3, .ep (.agg [.sl 1 (a.names.map .str), .sl 1 (a.wts.map (.int .i64)), .int .i64 a.nodes, .sl 2 (a.pts.map ptV)]) 0), (4, .ep (.agg [.sl 1 (b.names.map .str), .sl 1 (b.wts.map (.int .i64)), .int .i64 b.nodes, .sl 2 (b.pts.map ptV)]) 0), (14, p.1), (50, .sl 1 (keys.map .str)), (51, .int .i64 keys.length), (52, .int .i64 k)], p.2⟩) (.nils, bx) (by simp [movedL]; exact acc_nil hb _ _) (cov_look (by simp [go_sem])) ?_ ?_
  · rintro k ⟨v, bx1⟩ hk3 hacc N3 hN3
    dsimp only at hacc ⊢
    have hw := wr_succ (k := k) (by omega)
    have hs := movedL_succ a b keys k
    have hlu := movedL_len a b keys k
    have hkk : keys.getD k [] = keys[k] := by simp [hk3]
    rw [hkk] at hs
    have hk200 := longK_any keys keys[k] (List.getElem_mem hk3) hany
    have c1 : PureCall Tryz.prog 34 [.sl 1 (keys[k].map byteV)] bx1 (.int .u32 (sum32 keys[k])) := Tryz.sum32_c keys[k] bx1 (by omega)
    have fa := Tryz.find_c a (sum32 keys[k]) bx1 (by omega) pa2
    have fb := Tryz.find_c b (sum32 keys[k]) bx1 (by omega) pb2
    have la := first_lt (sum32 keys[k]) hpa
    have lb := first_lt (sum32 keys[k]) hpb
    unfold movedAt backAt at hs
    generalize movedL a b keys (k + 1) = U1 at *
    generalize movedL a b keys k = U at *
    generalize first a (sum32 keys[k]) = ia at *
    generalize first b (sum32 keys[k]) = ib at *
    have e1 : (a.pts.getD ia ⟨0, 0⟩) = a.pts[ia] := by simp [la]
    have e2 : (b.pts.getD ib ⟨0, 0⟩) = b.pts[ib] := by simp [lb]
    rw [e1, e2] at hs
    simp only [rgV, strsV, intsV, ptsV] at fa fb
    simp [go_sem, Tryz.L17_2, hk3, (by omega : keys[k].length ≤ 9223372036854775807), hacc.fin]
    refine callK_pure c1 ?_
    simp [go_sem]
    refine callK_pure fa ?_
    simp [go_sem, la, ptV]
    refine callK_pure fb ?_
    simp [go_sem, lb, ptV, hacc.cells]
    refine ⟨fun hne => ⟨hacc.fin, ?_⟩, fun heq => ?_⟩
    · rw [if_pos (by simpa using hne)] at hs
      refine Tryz.appI (es := U.map fun (n : Nat) => .int .i64 (n : Int)) (news := [.int .i64 k]) hacc (Ext.refl _) hacc.fin (by simp [go_sem, srcEls]) (by simp; omega) (by omega) ?_
      intro v' bx3 ha3
      simp [go_sem, ha3.cells]
      exact hN3 _ (v', bx3) (by dsimp only; rw [hs]; simpa using ha3) (cov_look (by simp [go_sem, hw, ptV]))
    · rw [if_neg (by simpa using heq)] at hs
      exact hN3 _ (v, bx1) (by dsimp only; rw [hs]; exact hacc) (cov_look (by simp [go_sem, hw, ptV]))
  · rintro ⟨v, bx1⟩ hacc N3
    dsimp only at hacc ⊢
    simp [go_sem, Tryz.L17_2, hacc.cells, hacc.fin]
    rw [hMv]
    refine ret_frz 2 (by simp [go_sem]) hacc.ext ⟨?_, rfl⟩
    simp [go_sem, natsV]
    exact wk_tup2 (acc_frz hacc (by decide)) (Wk.refl _)
end Go.Proofs

/- Contracts: the document's Moved and Shares; HashesMoves. -/
set_option linter.unusedSimpArgs false
set_option linter.unusedVariables false
set_option maxRecDepth 100000
namespace Go.Proofs
open Go Go.Pl Go.Hs

def longS (s : Bs) : Bool := decide (200 < s.length)
theorem Tryz.rMoved_c (a b : Rg) (keys : List Bs) (bx : Boxes) (hna : ∀ s, s ∈ a.names → s.length ≤ 1000000) (hnb : ∀ s, s ∈ b.names → s.length ≤ 1000000) (hkl : keys.length ≤ 9223372036854775806) :
    PureCall Tryz.prog 18 [rgV a, rgV b, strsV keys] bx (.tup [natsV (moved a b keys).1, .int .i64 (moved a b keys).2]) := by
  refine PureCall.wk (Tryz.ctr18 fun hb => ?_)
  have ca := Tryz.rcheck_c a bx hna
  have cb := Tryz.rcheck_c b bx hnb
  have hoff : ∀ e, movedE a b keys = e → e ≠ 0 → ∀ x, (⟨93, slk [(6, .nils), (7, .int .i64 e)], bx⟩ : St) = x → Ret Tryz.prog [Go.ResultVar.tmp 6, Go.ResultVar.tmp 7] (fun r' bx' => Wk r' (.tup [natsV (moved a b keys).1, .int .i64 (moved a b keys).2]) ∧ bx' = bx) x := by
    rintro e rfl h0 x rfl
    rw [moved_off h0]
    refine ret_wk0 (by simp [go_sem]) ?_
    simp [go_sem, natsV]
    exact wk_tup2 (wk_nils _) (Wk.refl _)
  have hmv : movedE a b keys = 0 → moved a b keys = (movedL a b keys keys.length, 0) := fun h => by unfold moved; rw [if_neg (by simpa using h)]
  generalize hMM : moved a b keys = MM at *
  by_cases h1 : check a ≠ 0
  · have hE : movedE a b keys = check a := by unfold movedE; rw [if_pos h1]
    simp only [rgV, strsV, intsV, ptsV] at ca cb ⊢
    simp [go_sem, Tryz.C18, hb]
    refine callK_pure ca ?_
    simp [go_sem, h1, hb]
    refine pw_upto 0 (fun k => ⟨93, slk [(2, .sl 1 (keys.map .str)), (3, .ep (.agg [.sl 1 (a.names.map .str), .sl 1 (a.wts.map (.int .i64)), .int .i64 a.nodes, .sl 2 (a.pts.map ptV)]) 0), (4, .ep (.agg [.sl 1 (b.names.map .str), .sl 1 (b.wts.map (.int .i64)), .int .i64 b.nodes, .sl 2 (b.pts.map ptV)]) 0), (8, .int .i64 (check a)), (9, .int .i64 0)], bx⟩) (cov_look (by simp [go_sem])) (fun k hk => absurd hk (by omega)) fun N => ?_
    simp [go_sem, Tryz.L18_0, h1, hb]
    exact hoff _ hE h1 _ rfl
  have h1 : check a = 0 := Decidable.not_not.1 h1
  by_cases h2 : check b ≠ 0
  · have hE : movedE a b keys = check b := by unfold movedE; rw [if_neg (by simpa using h1), if_pos h2]
    simp only [rgV, strsV, intsV, ptsV] at ca cb ⊢
    simp [go_sem, Tryz.C18, hb]
    refine callK_pure ca ?_
    simp [go_sem, h1, hb]
    refine callK_pure cb ?_
    simp [go_sem, h2, hb]
    refine pw_upto 0 (fun k => ⟨93, slk [(2, .sl 1 (keys.map .str)), (3, .ep (.agg [.sl 1 (a.names.map .str), .sl 1 (a.wts.map (.int .i64)), .int .i64 a.nodes, .sl 2 (a.pts.map ptV)]) 0), (4, .ep (.agg [.sl 1 (b.names.map .str), .sl 1 (b.wts.map (.int .i64)), .int .i64 b.nodes, .sl 2 (b.pts.map ptV)]) 0), (8, .int .i64 (check b)), (9, .int .i64 0)], bx⟩) (cov_look (by simp [go_sem])) (fun k hk => absurd hk (by omega)) fun N => ?_
    simp [go_sem, Tryz.L18_0, h2, hb]
    exact hoff _ hE h2 _ rfl
  have h2 : check b = 0 := Decidable.not_not.1 h2
  by_cases h3 : 1000 < keys.length
  · have hE : movedE a b keys = 3 := by unfold movedE; rw [if_neg (by simpa using h1), if_neg (by simpa using h2), if_pos h3]
    have h3i : (1000 : Int) < keys.length := by omega
    simp only [rgV, strsV, intsV, ptsV] at ca cb ⊢
    simp [go_sem, Tryz.C18, hb]
    refine callK_pure ca ?_
    simp [go_sem, h1, hb]
    refine callK_pure cb ?_
    simp [go_sem, h2, hb, h3i]
    refine pw_upto 0 (fun k => ⟨93, slk [(2, .sl 1 (keys.map .str)), (3, .ep (.agg [.sl 1 (a.names.map .str), .sl 1 (a.wts.map (.int .i64)), .int .i64 a.nodes, .sl 2 (a.pts.map ptV)]) 0), (4, .ep (.agg [.sl 1 (b.names.map .str), .sl 1 (b.wts.map (.int .i64)), .int .i64 b.nodes, .sl 2 (b.pts.map ptV)]) 0), (8, .int .i64 3), (9, .int .i64 0)], bx⟩) (cov_look (by simp [go_sem])) (fun k hk => absurd hk (by omega)) fun N => ?_
    simp [go_sem, Tryz.L18_0, hb]
    exact hoff _ hE (by decide) _ rfl
  have h3i : ¬ (1000 : Int) < keys.length := by omega
  obtain ⟨pa1, pa2⟩ := check_pts h1
  obtain ⟨pb1, pb2⟩ := check_pts h2
  simp only [rgV, strsV, intsV, ptsV] at ca cb ⊢
  simp [go_sem, Tryz.C18, hb]
  refine callK_pure ca ?_
  simp [go_sem, h1, hb]
  refine callK_pure cb ?_
  simp [go_sem, h2, hb, h3i]
  refine pw_loop (ι := Nat × Int) (fun p => p.1 ≤ keys.length ∧ (p.2 = 0 ∧ (∀ j, j < p.1 → hitAt longS keys j = false) ∨ p.2 = 3 ∧ keys.any longS = true))
    (fun p => ⟨93, slk [(2, .sl 1 (keys.map .str)), (3, .ep (.agg [.sl 1 (a.names.map .str), .sl 1 (a.wts.map (.int .i64)), .int .i64 a.nodes, .sl 2 (a.pts.map ptV)]) 0), (4, .ep (.agg [.sl 1 (b.names.map .str), .sl 1 (b.wts.map (.int .i64)), .int .i64 b.nodes, .sl 2 (b.pts.map ptV)]) 0), (8, .int .i64 p.2), (9, .int .i64 p.1)], bx⟩) (fun p => keys.length - p.1) (0, 0) ⟨by simp, .inl ⟨rfl, fun j h => by dsimp only at h; omega⟩⟩ (cov_look (by simp [go_sem])) ?_
  rintro ⟨k, e⟩ ⟨hk, he⟩
  dsimp only at hk he ⊢
  by_cases hgo : k < keys.length ∧ e = 0
  · obtain ⟨hlt, rfl⟩ := hgo
    have hw := wr_succ (k := k) (by omega)
    have he' : ∀ j, j < k → hitAt longS keys j = false := by
      rcases he with ⟨_, h⟩ | ⟨h, _⟩
      · exact h
      · cases h
    simp [go_sem, Tryz.L18_0, hlt, hb]
    refine ⟨fun h => ?_, fun h => ?_⟩
    · have hx : keys.any longS = true := List.any_eq_true.2 ⟨keys[k], List.getElem_mem hlt, by unfold longS; exact decide_eq_true (by omega)⟩
      refine ⟨(k + 1, 3), ⟨by dsimp only; omega, .inr ⟨rfl, List.any_eq_true.1 hx⟩⟩, cov_look (by simp [go_sem, hw]), by dsimp only; omega⟩
    · refine ⟨(k + 1, 0), ⟨by dsimp only; omega, .inl ⟨rfl, fun j hj => ?_⟩⟩, cov_look (by simp [go_sem, hw]), by dsimp only; omega⟩
      dsimp only at hj
      rcases Nat.lt_or_ge j k with h5 | h5
      · exact he' j h5
      · obtain rfl : j = k := by omega
        rw [hitAt_at hlt]; simp [longS]; omega
  have hany : e = if keys.any longS = true then 3 else 0 := by
    rcases he with ⟨rfl, h⟩ | ⟨rfl, h⟩
    · have hkl : k = keys.length := by
        rcases Nat.lt_or_ge k keys.length with h5 | h5
        · exact absurd ⟨h5, rfl⟩ hgo
        · omega
      have : keys.any longS = false := by
        rw [List.any_eq_false]
        intro x hx
        obtain ⟨j, hj, rfl⟩ := List.getElem_of_mem hx
        have := h j (by omega)
        rw [hitAt_at hj] at this
        simp [this]
      rw [this]; rfl
    · rw [if_pos h]
  simp [go_sem, Tryz.L18_0, hb, hgo]
  intro _
  have hmE : movedE a b keys = if keys.any longS = true then 3 else if a.pts.length = 0 ∨ b.pts.length = 0 then 4 else 0 := by
    unfold movedE; rw [if_neg (by simpa using h1), if_neg (by simpa using h2), if_neg h3]; rfl
  refine ⟨fun h => ⟨h, fun h' => ⟨h, h'⟩⟩, fun h0 hp => ?_, fun h0 => ⟨fun hne => ?_, fun h00 => ?_⟩⟩
  · have hf : ¬ keys.any longS = true := fun h => by rw [if_pos h] at hany; omega
    refine hoff 4 ?_ (by decide) _ rfl
    rw [hmE, if_neg hf, if_pos]
    rcases hp with h | h <;> simp [h]
  · have hf : keys.any longS = true := by
      rcases Bool.eq_false_or_eq_true (keys.any longS) with h | h
      · exact h
      · rw [h] at hany; exact absurd hany hne
    rw [if_pos hf] at hany
    subst hany
    exact hoff 3 (by rw [hmE, if_pos hf]) (by decide) _ rfl
  obtain ⟨q1, q2⟩ := h0 h00
  have hpa : 0 < a.pts.length := List.length_pos_iff.2 q1
  have hpb : 0 < b.pts.length := List.length_pos_iff.2 q2
  have hf : keys.any longS = false := by
    rcases Bool.eq_false_or_eq_true (keys.any longS) with h | h
    · rw [if_pos h] at hany; omega
    · exact h
  have hMv : MM = (movedL a b keys keys.length, 0) := hmv (by rw [hmE, if_neg (by simp [hf]), if_neg (by omega)])
  refine pw_for (ι := V × Boxes) keys.length (fun k p => Pl.Acc bx 3 1 ((movedL a b keys k).map fun (n : Nat) => .int .i64 (n : Int)) p.1 p.2)
    (fun k p => ⟨93, slk [(2, .sl 1 (keys.map .str)), (3, .ep (.agg [.sl 1 (a.names.map .str), .sl 1 (a.wts.map (.int .i64)), .int .i64 a.nodes, .sl 2 (a.pts.map ptV)]) 0), (4, .ep (.agg [.sl 1 (b.names.map .str), .sl 1 (b.wts.map (.int .i64)), .int .i64 b.nodes, .sl 2 (b.pts.map ptV)]) 0), (10, p.1), (11, .int .i64 k)], p.2⟩) (.nils, bx) (by simp [movedL]; exact acc_nil hb _ _) (cov_look (by simp [go_sem])) ?_ ?_
  · rintro k ⟨v, bx1⟩ hk3 hacc N3 hN3
    dsimp only at hacc ⊢
    have hw := wr_succ (k := k) (by omega)
    have hs := movedL_succ a b keys k
    have hlu := movedL_len a b keys k
    have hkk : keys.getD k [] = keys[k] := by simp [hk3]
    rw [hkk] at hs
    have hk200 := longK_any keys keys[k] (List.getElem_mem hk3) hf
    have c1 : PureCall Tryz.prog 47 [.sl 1 (keys[k].map byteV)] bx1 (.int .u32 (sum32 keys[k])) := Tryz.rsum32_c keys[k] bx1 (by omega)
    have fa := Tryz.first_ref_c a (sum32 keys[k]) bx1 (by omega)
    have fb := Tryz.first_ref_c b (sum32 keys[k]) bx1 (by omega)
    have la := first_lt (sum32 keys[k]) hpa
    have lb := first_lt (sum32 keys[k]) hpb
    unfold movedAt backAt at hs
    generalize movedL a b keys (k + 1) = U1 at *
    generalize movedL a b keys k = U at *
    generalize first a (sum32 keys[k]) = ia at *
    generalize first b (sum32 keys[k]) = ib at *
    have e1 : (a.pts.getD ia ⟨0, 0⟩) = a.pts[ia] := by simp [la]
    have e2 : (b.pts.getD ib ⟨0, 0⟩) = b.pts[ib] := by simp [lb]
    rw [e1, e2] at hs
    simp only [rgV, strsV, intsV, ptsV] at fa fb
    simp [go_sem, Tryz.L18_1, hk3, (by omega : keys[k].length ≤ 9223372036854775807), hacc.fin]
    refine callK_pure c1 ?_
    simp [go_sem]
    refine callK_pure fa ?_
    simp [go_sem, la, ptV]
    refine callK_pure fb ?_
    simp [go_sem, lb, ptV, hacc.cells]
    refine ⟨fun hne => ⟨hacc.fin, ?_⟩, fun heq => ?_⟩
    · rw [if_pos (by simpa using hne)] at hs
      refine Tryz.appI (es := U.map fun (n : Nat) => .int .i64 (n : Int)) (news := [.int .i64 k]) hacc (Ext.refl _) hacc.fin (by simp [go_sem, srcEls]) (by simp; omega) (by omega) ?_
      intro v' bx3 ha3
      simp [go_sem, ha3.cells]
      exact hN3 _ (v', bx3) (by dsimp only; rw [hs]; simpa using ha3) (cov_look (by simp [go_sem, hw, ptV]))
    · rw [if_neg (by simpa using heq)] at hs
      exact hN3 _ (v, bx1) (by dsimp only; rw [hs]; exact hacc) (cov_look (by simp [go_sem, hw, ptV]))
  · rintro ⟨v, bx1⟩ hacc N3
    dsimp only at hacc ⊢
    simp [go_sem, Tryz.L18_1, hacc.cells, hacc.fin]
    rw [hMv]
    refine ret_frz 2 (by simp [go_sem]) hacc.ext ⟨?_, rfl⟩
    simp [go_sem, natsV]
    exact wk_tup2 (acc_frz hacc (by decide)) (Wk.refl _)
theorem wr64_3 (x h nx : Int) : IntKind.u64.wrap (IntKind.u64.wrap (IntKind.u64.wrap (x + h) + 1) - nx) = IntKind.u64.wrap (x + (h + 1 - nx)) := by
  simp [IntKind.wrap, IntKind.bits, IntKind.signed]; omega
theorem wr64_2 (x h nx : Int) : IntKind.u64.wrap (IntKind.u64.wrap (x + h) - nx) = IntKind.u64.wrap (x + (h - nx)) := by
  simp [IntKind.wrap, IntKind.bits, IntKind.signed]; omega
theorem Tryz.rshares_c (r : Rg) (bx : Boxes) (hnl : ∀ s, s ∈ r.names → s.length ≤ 1000000) :
    PureCall Tryz.prog 20 [rgV r] bx (.tup [u64sV (shares r).1, .int .i64 (shares r).2]) := by
  refine PureCall.wk (Tryz.ctr20 fun hb => ?_)
  have c0 := Tryz.asked_c r [] bx hnl
  by_cases he : asked r [] ≠ 0
  · have hf : shares r = ([], asked r []) := by unfold shares; rw [if_pos he]
    rw [hf]
    simp only [rgV, strsV, intsV, ptsV, u64sV] at c0 ⊢
    simp [go_sem, Tryz.C20, hb]
    refine callK_pure c0 ?_
    simp [go_sem, he]
    refine ret_wk0 (by simp [go_sem]) ?_
    simp [go_sem]
    exact wk_tup2 (wk_nils _) (Wk.refl _)
  have he : asked r [] = 0 := Decidable.not_not.1 he
  obtain ⟨hch, _, hpl, hpm, hso⟩ := asked0 he
  obtain ⟨g1, g2, g3, g4, g5, g6, g7, g8, g9⟩ := wrong0 (check0 hch).1
  have hf : shares r = (addAt (sh r r.pts.length).1 (backAt r 0) (4294967296 - (sh r r.pts.length).2), 0) := by
    unfold shares sh; rw [if_neg (by simpa using he)]; simp
  rw [hf]
  simp only [rgV, strsV, intsV, ptsV] at c0 ⊢
  simp [go_sem, Tryz.C20, hb]
  refine callK_pure c0 ?_
  simp [go_sem, he, hb]
  simp [go_sem, makK, hb]
  refine ⟨by omega, by omega, fun b5 hb5 => ?_⟩
  have hsh0 : List.replicate r.names.length (V.int IntKind.u64 0) = (sh r 0).1.map (.int .u64) := by simp [sh]
  rw [hsh0]
  refine pw_upto r.pts.length (fun k => ⟨79, slk [(1, .ep (.agg [.sl 1 (r.names.map .str), .sl 1 (r.wts.map (.int .i64)), .int .i64 r.nodes, .sl 2 (r.pts.map ptV)]) 0), (5, .own b5 1 0 r.names.length), (6, .int .u64 (sh r k).2), (7, .int .i64 k)], upd bx b5 (some (.row 42 1 ((sh r k).1.map (.int .u64))))⟩) (cov_look (by simp [go_sem, sh])) ?_ ?_
  · intro k hk N hN
    have hw := wr_succ (k := k) (by omega)
    obtain ⟨p0, p1, p2, p3⟩ := pts_ok hch (List.getElem_mem hk)
    obtain ⟨q0, q1⟩ := sh_rng hch k
    have hsl := sh_len r k
    have hsuc := sh_succ hk
    generalize sh r (k + 1) = S' at *
    generalize sh r k = S at *
    obtain ⟨L, nx⟩ := S
    simp only at q0 q1 hsl
    generalize hp : r.pts[k] = p at *
    have hg : r.pts[k]? = some p := by rw [List.getElem?_eq_getElem hk, hp]
    obtain ⟨ph, pb⟩ := p
    simp only at p0 p1 p2 p3
    obtain ⟨bn, rfl⟩ : ∃ bn : Nat, pb = bn := ⟨pb.toNat, by omega⟩
    have hbn : bn < L.length := by omega
    have hbn2 : bn < r.names.length := by omega
    have w1 : IntKind.u64.wrap ph = ph := wru64 (by omega)
    have w2 : IntKind.u64.wrap (ph + 1) = ph + 1 := wru64 (by omega)
    simp [go_sem, Tryz.L20_0, hk, hb, hp, ptV, w1, w2]
    refine ⟨fun hlt => ?_, fun hge => ?_⟩
    · have hS : S' = (addAt L bn (ph + 1 - nx), ph + 1) := by rw [hsuc]; unfold shareStep; rw [if_pos hlt]
      have hset : (L.map (V.int .u64)).set bn (V.int .u64 (IntKind.u64.wrap (L[bn] + (ph + 1 - nx)))) = S'.1.map (V.int .u64) := by
        rw [hS]; simp [addAt, hbn, List.map_set]
      have w3 := wr64_3 L[bn] ph nx
      simp [go_sem, hbn, w3, w2, hb, hbn2, -List.map_set]
      rw [hset]
      refine hN _ ?_
      refine cov_look ?_
      rw [hS]
      simp [go_sem, hw, ptV]
    · have hS : S' = (L, nx) := by rw [hsuc]; unfold shareStep; rw [if_neg (by simp only; omega)]
      rw [hS] at hN
      exact hN _ (cov_look (by simp [go_sem, hw, ptV]))
  · intro N
    have hsl := sh_len r r.pts.length
    obtain ⟨q0, q1⟩ := sh_rng hch r.pts.length
    generalize sh r r.pts.length = S at *
    obtain ⟨L, nx⟩ := S
    simp only at q0 q1 hsl
    obtain ⟨p0, p1, p2, p3⟩ := pts_ok hch (List.getElem_mem hpl)
    have hba : backAt r 0 = r.pts[0].b := by simp [backAt, hpl]
    rw [hba]
    generalize hp : r.pts[0] = p at *
    have hg : r.pts[0]? = some p := by rw [List.getElem?_eq_getElem hpl, hp]
    obtain ⟨ph, pb⟩ := p
    simp only at p0 p1 p2 p3
    obtain ⟨bn, rfl⟩ : ∃ bn : Nat, pb = bn := ⟨pb.toNat, by omega⟩
    have hbn : bn < L.length := by omega
    have hbn2 : bn < r.names.length := by omega
    have w3 := wr64_2 L[bn] 4294967296 nx
    have hset : (L.map (V.int .u64)).set bn (V.int .u64 (IntKind.u64.wrap (L[bn] + (4294967296 - nx)))) = (addAt L bn (4294967296 - nx)).map (V.int .u64) := by
      simp [addAt, hbn, List.map_set]
    have hal : (addAt L bn (4294967296 - nx)).length = r.names.length := by simp [addAt, hsl]
    simp [go_sem, Tryz.L20_0, hb, hpl, hp, hg, ptV, hbn, hbn2, w3, -List.map_set]
    rw [hset]
    generalize addAt L bn (4294967296 - nx) = R at *
    refine ret_frz 2 (bx := bx) (by simp [go_sem]) (((Ext.refl _).new hb5 _)) ⟨?_, rfl⟩
    have hfr : frz (upd bx b5 (some (Box.row 42 1 (R.map (V.int .u64))))) bx 1 (.own b5 1 0 r.names.length) = .sl 1 (R.map (V.int .u64)) := frz_own1 (upd_eq _ _ _) hb5 (by decide) (by simp [hal])
    simp [go_sem, frz] at hfr ⊢
    simp [hb5, hal] at hfr ⊢
    rw [List.take_of_length_le (by simp [hal])]
    exact Wk.refl _
end Go.Proofs

/- Contracts: HashesMoves. -/
set_option linter.unusedSimpArgs false
set_option linter.unusedVariables false
set_option maxRecDepth 100000
namespace Go.Proofs
open Go Go.Pl Go.Hs

theorem moved_len (a b : Rg) (keys : List Bs) : (moved a b keys).1.length ≤ keys.length := by
  unfold moved
  split
  · simp
  · exact movedL_len a b keys _
theorem shares_len (r : Rg) : (shares r).1.length ≤ 16 := by
  by_cases he : asked r [] = 0
  · obtain ⟨hch, _⟩ := asked0 he
    obtain ⟨_, h, _⟩ := wrong0 (check0 hch).1
    have hf : shares r = (addAt (sh r r.pts.length).1 (backAt r 0) (4294967296 - (sh r r.pts.length).2), 0) := by
      unfold shares sh; rw [if_neg (by simpa using he)]; simp
    rw [hf]
    have := sh_len r r.pts.length
    simp [addAt, this]; exact h
  · unfold shares; rw [if_pos he]; simp
theorem Tryz.hashesMoves_c (r s : Rg) (keys : List Bs) (bx : Boxes) (hm : Mk bx) (hr1 : r.wts.length ≤ 9223372036854775807) (hr2 : r.names.length ≤ 9223372036854775807) (hs1 : s.wts.length ≤ 9223372036854775807) (hs2 : s.names.length ≤ 9223372036854775807) :
    PureCall Tryz.prog 4 [rgV r, rgV s, strsV keys] bx (.bool true) := by
  refine Tryz.ctr4 fun hb => ?_
  have d1 := Tryz.far_c r bx hr1 hr2
  have d3 := Tryz.far_c s bx hs1 hs2
  have d2 := Tryz.awake_c bx hm
  cases hf : farB r
  · cases hf2 : farB s
    · rw [hf] at d1
      rw [hf2] at d3
      obtain ⟨f1, f2, f3, f4⟩ := far_not hf
      obtain ⟨k1, k2, k3, k4⟩ := far_not hf2
      have hnr : ∀ x, x ∈ r.names → x.length ≤ 1000000 := fun x hx => by have := f4 x hx; omega
      have hns : ∀ x, x ∈ s.names → x.length ≤ 1000000 := fun x hx => by have := k4 x hx; omega
      have c1 := fun h => Tryz.Moved_c r s keys bx hm hr1 hr2 hs1 hs2 h
      have c2 := fun h => Tryz.rMoved_c r s keys bx hnr hns h
      have c3 := Tryz.shares_c r bx hm hr1 hr2
      have c4 := Tryz.rshares_c r bx hnr
      have c5 := fun h => Tryz.ints_c ((moved r s keys).1.map fun (n : Nat) => (n : Int)) bx h
      have hml := moved_len r s keys
      have hsl := shares_len r
      generalize moved r s keys = M at *
      generalize shares r = S at *
      simp only [rgV, strsV, intsV, ptsV, natsV, u64sV, List.map_map] at c1 c2 c3 c4 c5 d1 d3 ⊢
      simp [go_sem, Tryz.C4, hb]
      refine callK_pure d1 ?_
      simp [go_sem, hb]
      refine gK_pure d3 (by simp) (by simp [go_sem]) ?_
      simp [go_sem, hb]
      refine ⟨fun h => by by_cases h6 : (60 : Int) < keys.length <;> omega, fun h => ?_, fun ha hb' => ?_⟩
      · refine callK_pure d2 ?_
        simp [go_sem, hb]
        refine ret_pure ?_ ?_ <;> simp [go_sem]
      have hk10 : keys.length ≤ 1010 := by omega
      refine pw_for (ι := Int) keys.length (fun k n => 0 ≤ n ∧ n ≤ 301 * k)
        (fun k n => ⟨126, slk [(2, .sl 1 (keys.map .str)), (3, .ep (.agg [.sl 1 (r.names.map .str), .sl 1 (r.wts.map (.int .i64)), .int .i64 r.nodes, .sl 2 (r.pts.map ptV)]) 0), (4, .ep (.agg [.sl 1 (s.names.map .str), .sl 1 (s.wts.map (.int .i64)), .int .i64 s.nodes, .sl 2 (s.pts.map ptV)]) 0), (7, .int .i64 n), (8, .int .i64 k)], bx⟩) 0 (by simp) (cov_look (by simp [go_sem])) ?_ ?_
      · rintro k n hk ⟨n0, n1⟩ N hN
        have hw := wr_succ (k := k) (by omega)
        obtain ⟨m, hm1, hm2, hm3⟩ : ∃ m : Int, (if (301 : Int) < keys[k].length then (301 : Int) else (keys[k].length : Int)) = m ∧ 0 ≤ m ∧ m ≤ 301 := ⟨_, rfl, by split <;> omega, by split <;> omega⟩
        have w1 : IntKind.i64.wrap (n + m) = n + m := wr64 (by omega)
        simp [go_sem, Tryz.L4_0, hk, hb, hm1, w1]
        refine ⟨fun _ => ?_, fun _ _ => ?_⟩
        · refine callK_pure d2 ?_
          simp [go_sem, hb]
          refine ret_pure ?_ ?_ <;> simp [go_sem]
        · exact hN _ (n + m) (by push_cast; omega) (cov_look (by simp [go_sem, hw]))
      · rintro n ⟨n0, n1⟩ N
        simp [go_sem, Tryz.L4_0, hb]
        refine callK_pure (c1 (by omega)) ?_
        simp [go_sem, hb]
        refine callK_pure (c2 (by omega)) ?_
        simp [go_sem, hb]
        refine callK_pure c3 ?_
        simp [go_sem, hb]
        refine callK_pure c4 ?_
        simp [go_sem, hb]
        have c5' := c5 (by simp; omega)
        have e5 : List.map (V.int IntKind.i64 ∘ fun (n : Nat) => (n : Int)) M.fst = List.map (fun (n : Nat) => V.int .i64 (n : Int)) M.fst := rfl
        rw [e5] at c5'
        refine callK_pure c5' ?_
        simp [go_sem, hb]
        refine pw_upto S.1.length (fun k => ⟨126, slk [(13, .sl 1 (S.1.map (.int .u64))), (15, .sl 1 (S.1.map (.int .u64))), (17, .int .i64 k)], bx⟩) (cov_look (by simp [go_sem])) ?_ ?_
        · intro k hk N2 hN2
          have hw := wr_succ (k := k) (by omega)
          simp [go_sem, Tryz.L4_1, hk, hb]
          exact hN2 _ (cov_look (by simp [go_sem, hw]))
        · intro N2
          simp [go_sem, Tryz.L4_1, hb]
          refine callK_pure d2 ?_
          simp [go_sem, hb]
          refine ret_pure ?_ ?_ <;> simp [go_sem]
    · rw [hf] at d1
      rw [hf2] at d3
      simp only [rgV, strsV, intsV, ptsV] at d1 d3 ⊢
      simp [go_sem, Tryz.C4, hb]
      refine callK_pure d1 ?_
      simp [go_sem, hb]
      refine gK_pure d3 (by simp) (by simp [go_sem]) ?_
      simp [go_sem, hb]
      refine callK_pure d2 ?_
      simp [go_sem, hb]
      refine ret_pure ?_ ?_ <;> simp [go_sem]
  · rw [hf] at d1
    simp only [rgV, strsV, intsV, ptsV] at d1 ⊢
    simp [go_sem, Tryz.C4, hb]
    refine callK_pure d1 ?_
    simp [go_sem, hb]
    refine gK_off (.bool false) (by simp [go_sem]) ?_
    simp [go_sem, hb]
    refine callK_pure d2 ?_
    simp [go_sem, hb]
    refine ret_pure ?_ ?_ <;> simp [go_sem]
end Go.Proofs
