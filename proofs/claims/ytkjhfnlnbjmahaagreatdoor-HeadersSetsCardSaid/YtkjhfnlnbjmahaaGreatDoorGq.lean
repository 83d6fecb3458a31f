/- Texts of the proof, put together: JA, JB, JC, FT, JD, FU, JE, FV, JF. -/
import Derived.Test.YtkjhfnlnbjmahaaGreatDoorGk
import Derived.Test.YtkjhfnlnbjmahaaGreatDoorGp
import Derived.Test.YtkjhfnlnbjmahaaGreatDoorGe
import Derived.Test.YtkjhfnlnbjmahaaGreatDoorGo

set_option linter.unusedSimpArgs false
set_option linter.unusedVariables false
set_option maxRecDepth 100000
namespace Go.Proofs
open Go Go.Pl Go.RowKit
theorem acc_some {bx : Boxes} (hf : FinB bx) (e sz : Nat) (es : List V) : ∃ r bx', Pl.Acc bx e sz es r bx' := by
 obtain ⟨b, hb⟩ := fin_fresh hf
 exact ⟨_, _, acc_new hb hf e sz es es.length rfl⟩
theorem Tryz.without1_c (x : Fd) (hx : x.1.length ≤ 100000) (s : List UInt8) (bx : Boxes) : PureCall Tryz.prog 109 [fdV x, .ep (.str s) 0] bx (.bool (decide (Lib.toLowerA x.1 = s))) := by
 refine Tryz.ctr109 fun hf => ?_
 simp [go_sem, Tryz.C109, hf, fdV]
 refine callK_pure (Tryz.Fold_p bx x.1 hx) ?_
 simp [go_sem]
 exact ret_pure (by simp [go_sem]) ⟨by simp [go_sem], rfl⟩
def witL (l : List Fd) (nm : List UInt8) (k : Nat) : List Fd := l.take k ++ (l.drop k).filter fun x => !decide (Lib.toLowerA x.1 = Lib.toLowerA nm)
set_option maxHeartbeats 1000000 in
theorem Tryz.without_a (l : List Fd) (hl : Small l) (hll : l.length ≤ 100000) (nm : List UInt8) (hn : nm.length ≤ 100000) (k : Nat) (hk : k ≤ l.length) (bx : Boxes) : AbsCall Tryz.prog 75 [.sl 2 (l.map fdV), .str nm, .int .i64 k] bx fun r bx' => Acc bx 38 2 ((witL l nm k).map fdV) r bx' := by
 refine Tryz.ctry75 fun hf => ?_
 simp [go_sem, Tryz.Cy75, hf]
 intro b4 hb4
 refine callK_pure (Tryz.Fold_p _ nm hn) ?_
 simp [go_sem]
 refine Tryz.pwry75_2 ?_
 have e1 : (l.map fdV).take k = (l.take k).map fdV := List.map_take.symm
 have e2 : ((l.map fdV).take l.length).drop k = (l.drop k).map fdV := by rw [List.take_of_length_le (by simp)]; exact List.map_drop.symm
 simp [go_sem, Tryz.Ry75_2, upd_none hb4, hk]
 rw [e1]
 refine callKx_abs (Tryz.clone_a (l.take k) bx (by simp; omega)) (acc_some hf _ _ _) ?_
 intro v1 bx1 hA
 simp [go_sem, hA.fin, hA.cells, hA.strip, hA.live, hk]
 rw [e2]
 refine callKx_abs (Tryz.clone_a (l.drop k) bx1 (by simp; omega)) (acc_some hA.fin _ _ _) ?_
 intro v2 bx2 hB
 simp [go_sem, hB.fin, hB.cells, hB.strip, hB.live, hA.cells, hA.strip, hA.live]
 have cD := (Tryz.DeleteFunc_a (fun x => decide (Lib.toLowerA x.1 = Lib.toLowerA nm)) 109 [.ep (.str (Lib.toLowerA nm)) 0] (l.drop k) (by simp; omega) (bx0 := bx1) hB (fun x hx bx' he => Tryz.without1_c x (hl x (List.mem_of_mem_drop hx)).1 _ _))
 have hM : ((l.drop k).filter fun x => !decide (Lib.toLowerA x.1 = Lib.toLowerA nm)).length ≤ l.length := Nat.le_trans (List.length_filter_le _ _) (by simp)
 unfold witL
 generalize ((l.drop k).filter fun x => !decide (Lib.toLowerA x.1 = Lib.toLowerA nm)) = M at *
 refine callKx_abs cD ?_ ?_
 · obtain ⟨r, bx', h⟩ := acc_some hA.fin 38 2 (M.map fdV)
   refine ⟨r, bx', h.ext, h.fin, acc_frzB h (by decide), h.cells, h.live, h.strip, h.okV, ?_⟩
   rcases h.is with ⟨h1, h2⟩ | ⟨b, h1, h2, h3⟩
   · exact .inl ⟨h2, by simpa using h1⟩
   · exact .inr ⟨b, _, h1, by simpa using h2, h3, List.take_of_length_le (by simp)⟩
 rintro r bx3 ⟨g1, g2, g3, g4, g5, g6, g7, g8⟩
 simp [go_sem, g2, g4, g5, g6, g7, hA.cells, hA.strip, hA.live]
 refine Tryz.appH (es := (l.take k).map fdV) (news := M.map fdV) hA g1 g2 ?_ (by simp; omega) (by decide) ?_
 · rcases g8 with ⟨rfl, rfl⟩ | ⟨b, row, h1, rfl, h3, h4⟩
   · rfl
   · have hl := congrArg List.length h4
     simp at hl
     simp [srcEls, h3, h4]
     omega
 · intro v' bx4 ha'
   simp [go_sem, ha'.cells, ha'.strip, ha'.live]
   refine ret_pure (by simp [go_sem]) ?_
   simpa [go_sem] using ha'
def delF (l : List Fd) (nm : List UInt8) : List Fd × Int := if askE l nm = 0 then (witL l nm 0, 0) else ([], askE l nm)
theorem Tryz.Del_c {bx : Boxes} (hm : Mk bx) (l : List Fd) (hl : Small l) (nm : List UInt8) (hn : nm.length ≤ 100000) : PureCall Tryz.prog 34 [.sl 2 (l.map fdV), .str nm] bx (resL (delF l nm)) := by
 refine PureCall.wk (Tryz.ctr34 fun hf => ?_)
 simp [go_sem, Tryz.C34, hf]
 refine callK_pure (Tryz.ask_c hm l hl nm hn) ?_
 by_cases h : askE l nm = 0
 · have hll := askE_len h
   simp [go_sem, h]
   refine callK_abs (Tryz.without_a l hl (by omega) nm hn 0 (by omega) bx) ?_
   intro v bx1 hA
   simp [go_sem, hA.cells, hA.strip, hA.live]
   refine ret_frz 2 (by simp [go_sem]) hA.ext ⟨?_, rfl⟩
   simp [go_sem, resL, delF, h, hA.cells]
   exact wk_tup2 (acc_frzB hA (by decide)) (Wk.refl _)
 · simp [go_sem, h]
   refine ret_wk0 (by simp [go_sem]) ?_
   simp [go_sem, resL, delF, h]
   exact wk_tup2 (wk_nils 2) (Wk.refl _)
def checkedF (l : List Fd) : List Fd × Int := if chkL l = 0 then (l, 0) else ([], chkL l)
theorem Tryz.checked_c {bx : Boxes} (hm : Mk bx) (l : List Fd) (hl : Small l) : PureCall Tryz.prog 76 [.sl 2 (l.map fdV)] bx (resL (checkedF l)) := by
 refine PureCall.wk (Tryz.ctr76 fun hf => ?_)
 simp [go_sem, Tryz.C76, hf]
 refine callK_pure (Tryz.Check_c hm l hl) ?_
 by_cases h : chkL l = 0
 · simp [go_sem, h]
   refine ret_wk0 (by simp [go_sem]) ?_
   simp [go_sem, resL, checkedF, h]
   exact Wk.refl _
 · simp [go_sem, h]
   refine ret_wk0 (by simp [go_sem]) ?_
   simp [go_sem, resL, checkedF, h]
   exact wk_tup2 (wk_nils 2) (Wk.refl _)
def addF (l : List Fd) (x : Fd) : List Fd × Int := if chkL l = 0 then checkedF (l ++ [x]) else ([], chkL l)
theorem small_app {l : List Fd} {x : Fd} (h : Small l) (hx : Small [x]) : Small (l ++ [x]) := fun f hf => by
 rcases List.mem_append.1 hf with hf | hf
 · exact h f hf
 · exact hx f hf
set_option maxHeartbeats 1000000 in
theorem Tryz.Add_c {bx : Boxes} (hm : Mk bx) (l : List Fd) (hl : Small l) (x : Fd) (hx : Small [x]) : PureCall Tryz.prog 37 [.sl 2 (l.map fdV), fdV x] bx (resL (addF l x)) := by
 refine PureCall.wk (Tryz.ctry37 fun hf => ?_)
 simp [go_sem, Tryz.Cy37, hf, fdV]
 refine callK_pure (Tryz.Check_c hm l hl) ?_
 by_cases h : chkL l = 0
 · have hll := chkL_len h
   simp [go_sem, h]
   refine ⟨by simp [fzAt, clAt, fzb, callQ], ?_⟩
   refine callKx_abs (Tryz.clone_a l bx (by omega)) (acc_some hf _ _ _) ?_
   intro v1 bx1 hA
   simp [go_sem, hA.fin, hA.cells, hA.strip, hA.live]
   refine Tryz.appH (es := l.map fdV) (news := [fdV x]) hA (Ext.refl _) hA.fin (by simp [srcEls, fdV]) (by simp; omega) (by decide) ?_
   intro v2 bx2 hB
   simp [go_sem, hB.fin, hB.cells, hB.strip, hB.live]
   have e1 : l.map fdV ++ [fdV x] = (l ++ [x]).map fdV := by simp
   rw [e1] at hB
   refine callKx_abs (AbsCall.acc1 hB (by decide) (Tryz.checked_c hm (l ++ [x]) (small_app hl hx))) ⟨_, _, rfl, rfl⟩ ?_
   rintro r bx3 ⟨rfl, rfl⟩
   simp [go_sem, resL]
   refine ret_wk0 (by simp [go_sem]) ?_
   simp [go_sem, resL, addF, h]
   exact Wk.refl _
 · simp [go_sem, h]
   refine ret_wk0 (by simp [go_sem]) ?_
   simp [go_sem, resL, addF, h]
   exact wk_tup2 (wk_nils 2) (Wk.refl _)
end Go.Proofs

set_option linter.unusedSimpArgs false
set_option linter.unusedVariables false
set_option maxRecDepth 100000
namespace Go.Proofs
open Go Go.Pl Go.RowKit
def fstN (l : List Fd) (nm : List UInt8) : Option Nat := l.findIdx? fun f => isN f nm
theorem fst_at {l : List Fd} {nm : List UInt8} {k : Nat} (hk : k < l.length) (h : isN l[k] nm = true) (h2 : ∀ j (hj : j < l.length), j < k → isN l[j] nm = false) : fstN l nm = some k := by
 unfold fstN
 rw [List.findIdx?_eq_some_iff_getElem]
 exact ⟨hk, h, fun j hj => by simpa using h2 j (by omega) hj⟩
theorem fst_no {l : List Fd} {nm : List UInt8} (h2 : ∀ j (hj : j < l.length), isN l[j] nm = false) : fstN l nm = none := by
 unfold fstN
 rw [List.findIdx?_eq_none_iff]
 intro x hx
 obtain ⟨j, hj, rfl⟩ := List.mem_iff_getElem.1 hx
 exact h2 j hj
def setF (l : List Fd) (x : Fd) : List Fd × Int := if chkL l = 0 then match fstN l x.1 with
   | some i => checkedF ((witL l x.1 (i + 1)).set i x)
   | none => checkedF (l ++ [x])
 else ([], chkL l)
theorem wit_len (l : List Fd) (nm : List UInt8) (k : Nat) : (witL l nm k).length ≤ l.length := by
 unfold witL
 have := List.length_filter_le (fun x : Fd => !decide (Lib.toLowerA x.1 = Lib.toLowerA nm)) (l.drop k)
 simp at this ⊢
 omega
theorem wit_gt {l : List Fd} {nm : List UInt8} {k : Nat} (hk : k < l.length) : k < (witL l nm (k + 1)).length := by
 unfold witL
 simp
 omega
theorem small_wit {l : List Fd} (hl : Small l) (x : Fd) (hx : Small [x]) (k i : Nat) : Small ((witL l x.1 k).set i x) := fun f hf => by
 rcases List.mem_or_eq_of_mem_set hf with hf | rfl
 · unfold witL at hf
   rcases List.mem_append.1 hf with hf | hf
   · exact hl f (List.mem_of_mem_take hf)
   · exact hl f (List.mem_of_mem_drop ((List.mem_filter.1 hf).1))
 · exact hx f (by simp)
set_option maxHeartbeats 1000000 in
theorem Tryz.Set_c {bx : Boxes} (hm : Mk bx) (l : List Fd) (hl : Small l) (x : Fd) (hx : Small [x]) : PureCall Tryz.prog 33 [.sl 2 (l.map fdV), fdV x] bx (resL (setF l x)) := by
 obtain ⟨hx1, hx2⟩ := hx x (by simp)
 refine PureCall.wk (Tryz.ctry33 fun hf => ?_)
 simp [go_sem, Tryz.Cy33, hf, fdV]
 intro b4 hb4 b5 hb5
 obtain ⟨n54, hb5'⟩ := new_ne hb5
 have hmB : Mk (upd (upd bx b4 (some (.row 22 1 [.nils]))) b5 (some (.row 26 1 [.int .i64 0]))) := by
   obtain ⟨b, ty, hb⟩ := hm
   exact ⟨b, ty, by rw [(((Ext.refl bx).new hb4 _).new hb5 _) b (by rw [hb]; simp)]; exact hb⟩
 have hfB : FinB (upd (upd bx b4 (some (.row 22 1 [.nils]))) b5 (some (.row 26 1 [.int .i64 0]))) := by simp [finB_upd, hf]
 have hxB : Ext bx (upd (upd bx b4 (some (.row 22 1 [.nils]))) b5 (some (.row 26 1 [.int .i64 0]))) := ((Ext.refl _).new hb4 _).new hb5 _
 have h4 : (upd (upd bx b4 (some (.row 22 1 [.nils]))) b5 (some (.row 26 1 [.int .i64 0]))) b4 = some (.row 22 1 [.nils]) := by rw [upd_ne _ _ n54.symm, upd_eq]
 have h5 : (upd (upd bx b4 (some (.row 22 1 [.nils]))) b5 (some (.row 26 1 [.int .i64 0]))) b5 = some (.row 26 1 [.int .i64 0]) := upd_eq _ _ _
 generalize (upd (upd bx b4 (some (.row 22 1 [.nils]))) b5 (some (.row 26 1 [.int .i64 0]))) = bxB at *
 refine callK_pure (Tryz.Check_c hmB l hl) ?_
 by_cases h : chkL l = 0
 · have hll := chkL_len h
   simp [go_sem, h]
   refine callK_pure (Tryz.named_c l x.1 hx1 _) ?_
   simp [go_sem]
   refine pw_iterS (by kernel_rfl) (Tryz.named_it l hl (by omega) (Lib.toLowerA x.1) bxB) (fun k bx' => bx' = bxB ∧ ∀ j (hj : j < l.length), j < k → isN l[j] x.1 = false) (by simp [go_sem]) ⟨rfl, fun j hj h0 => absurd h0 (by omega)⟩ ?_ ?_ (by simp) (by rfl) (by rfl) ?_ ?_
   · rintro k _ ⟨rfl, _⟩; exact hfB
   · intro k args hk ha
     unfold namX at ha
     split at ha
     · injection ha with ha
       subst ha; rfl
     · cases ha
   · rintro k bxC hkk ⟨hbe, hJ⟩
     obtain rfl : bxB = bxC := hbe.symm
     have hg : l.getD k ([], []) = l[k] := by simp [hkk]
     unfold namX
     rw [hg]
     by_cases hI : Lib.toLowerA l[k].1 = Lib.toLowerA x.1
     · have hI2 : isN l[k] x.1 = true := by simp [isN, hI]
       have hfst := fst_at hkk hI2 hJ
       refine ⟨fun hx => (by rw [if_pos hI] at hx; cases hx), fun args hx' K k1 k2 => ?_⟩
       rw [if_pos hI] at hx'
       injection hx' with hx'
       subst hx'
       have hw := wr_succ (k := k) (by omega)
       simp [go_sem, Tryz.Ly33_0a, setPs, upd_look]
       simp [go_sem, Tryz.Ly33_0b, hfB, hw]
       refine callK_abs (Tryz.without_a l hl (by omega) x.1 hx1 (k + 1) (by omega) _) ?_
       intro v bx1 hA
       have hgt := wit_gt (nm := x.1) hkk
       have hle := wit_len l x.1 (k + 1)
       have hsm := small_wit hl x hx (k + 1) k
       obtain ⟨b, hb0, rfl, hb1⟩ := hA.row (by intro e; have := congrArg List.length e; simp at this; rw [this] at hgt; simp at hgt)
       generalize hW : witL l x.1 (k + 1) = W at *
       have hsc : setC (fdV W[k]) 0 [V.str x.1, V.str x.2] = fdV x := by simp [fdV, setC]
       have hset : (W.map fdV).set k (fdV x) = (W.set k x).map fdV := List.map_set.symm
       simp [go_sem, hA.fin, hb1, hgt, hsc, -List.map_set]
       refine ⟨by simp [fdV, V.cells], ?_⟩
       rw [hset]
       have hS : Acc bxB 38 2 ((W.set k x).map fdV) (.own b 2 0 W.length) (upd bx1 b (some (.row 38 2 ((W.set k x).map fdV)))) :=
         ⟨hA.ext.upd_own hb0 _, by simp [finB_upd, hA.fin], .inr ⟨b, hb0, by simp, upd_eq _ _ _⟩⟩
       refine callK_abs (AbsCall.acc1 hS (by decide) (Tryz.checked_c hmB (W.set k x) hsm)) ?_
       rintro r bx3 ⟨rfl, rfl⟩
       simp [go_sem, resL, h4, h5, n54, n54.symm, upd_ne, upd_eq]
       refine k2 _ _ (.inl rfl) ?_
       simp [go_sem]
       refine ret_frz 2 (by simp [go_sem, h4, h5, n54, n54.symm, upd_ne, upd_eq]) ((hxB.upd_own hb4 _).upd_own hb5' _) ⟨?_, rfl⟩
       simp [go_sem, h4, h5, n54, n54.symm, upd_ne, upd_eq, resL, setF, h, hfst, hW]
       exact Wk.refl _
     · have hI2 : isN l[k] x.1 = false := by simp [isN, hI]
       refine ⟨fun _ => ⟨rfl, fun j hj h0 => ?_⟩, fun args hx => (by rw [if_neg hI] at hx; cases hx)⟩
       by_cases hjk : j = k
       · subst hjk; exact hI2
       · exact hJ j hj (by omega)
   · rintro bxC ⟨hbe, hJ⟩
     obtain rfl : bxB = bxC := hbe.symm
     have hfst := fst_no (fun j hj => hJ j hj hj)
     simp [go_sem]
     refine ⟨by simp [fzAt, clAt, fzb, callQ], ?_⟩
     refine callKx_abs (Tryz.clone_a l bxB (by omega)) (acc_some hfB _ _ _) ?_
     intro v1 bx1 hA
     simp [go_sem, hA.fin, hA.cells, hA.strip, hA.live]
     refine Tryz.appH (es := l.map fdV) (news := [fdV x]) hA (Ext.refl _) hA.fin (by simp [srcEls, fdV]) (by simp; omega) (by decide) ?_
     intro v2 bx2 hB
     simp [go_sem, hB.fin, hB.cells, hB.strip, hB.live]
     have e1 : l.map fdV ++ [fdV x] = (l ++ [x]).map fdV := by simp
     rw [e1] at hB
     refine callKx_abs (AbsCall.acc1 hB (by decide) (Tryz.checked_c hmB (l ++ [x]) (small_app hl hx))) ⟨_, _, rfl, rfl⟩ ?_
     rintro r bx3 ⟨rfl, rfl⟩
     simp [go_sem, resL, h4, h5, n54, n54.symm, upd_ne, upd_eq]
     refine ret_frz 2 (by simp [go_sem, h4, h5, n54, n54.symm, upd_ne, upd_eq]) ((hxB.upd_own hb4 _).upd_own hb5' _) ⟨?_, rfl⟩
     simp [go_sem, h4, h5, n54, n54.symm, upd_ne, upd_eq, resL, setF, h, hfst]
     exact Wk.refl _
 · simp [go_sem, h, h4, h5, n54, n54.symm, upd_ne, upd_eq]
   refine ret_frz 2 (by simp [go_sem, h4, h5, n54, n54.symm, upd_ne, upd_eq]) ((hxB.upd_own hb4 _).upd_own hb5' _) ⟨?_, rfl⟩
   simp [go_sem, h4, h5, n54, n54.symm, upd_ne, upd_eq, resL, setF, h]
   exact wk_tup2 (wk_nils 2) (Wk.refl _)
end Go.Proofs

set_option linter.unusedSimpArgs false
set_option linter.unusedVariables false
set_option maxRecDepth 100000
namespace Go.Proofs
open Go Go.Pl Go.RowKit
theorem Tryz.rchecked_c (l : List Fd) (hl : Small l) (bx : Boxes) : PureCall Tryz.prog 78 [.sl 2 (l.map fdV)] bx (resL (checkedF l)) := by
 refine PureCall.wk (Tryz.ctr78 fun hf => ?_)
 simp [go_sem, Tryz.C78, hf]
 refine callK_pure (Tryz.rCheck_c l hl bx) ?_
 by_cases h : chkL l = 0
 · simp [go_sem, h]
   refine ret_wk0 (by simp [go_sem]) ?_
   simp [go_sem, resL, checkedF, h]
   exact Wk.refl _
 · simp [go_sem, h]
   refine ret_wk0 (by simp [go_sem]) ?_
   simp [go_sem, resL, checkedF, h]
   exact wk_tup2 (wk_nils 2) (Wk.refl _)
set_option maxHeartbeats 1000000 in
theorem Tryz.rAdd_c (l : List Fd) (hl : Small l) (x : Fd) (hx : Small [x]) (bx : Boxes) : PureCall Tryz.prog 38 [.sl 2 (l.map fdV), fdV x] bx (resL (addF l x)) := by
 refine PureCall.wk (Tryz.ctry38 fun hf => ?_)
 simp [go_sem, Tryz.Cy38, hf, fdV]
 refine callK_pure (Tryz.rCheck_c l hl bx) ?_
 by_cases h : chkL l = 0
 · have hll := chkL_len h
   simp [go_sem, h, hf]
   intro b hb
   refine Tryz.appH (bx := bx) (es := []) (news := l.map fdV) (acc_new hb hf 38 2 [] 0 rfl) (Ext.refl _) (by simp [finB_upd, hf]) (by simp [go_sem, srcEls]) (by simp; omega) (by decide) ?_
   intro v1 bx1 hA
   simp [go_sem, hA.fin, hA.cells, hA.strip, hA.live]
   refine Tryz.appH (es := l.map fdV) (news := [fdV x]) hA (Ext.refl _) hA.fin (by simp [srcEls, fdV]) (by simp; omega) (by decide) ?_
   intro v2 bx2 hB
   simp [go_sem, hB.fin, hB.cells, hB.strip, hB.live]
   have e1 : l.map fdV ++ [fdV x] = (l ++ [x]).map fdV := by simp
   rw [e1] at hB
   refine callKx_abs (AbsCall.acc1 hB (by decide) (Tryz.rchecked_c (l ++ [x]) (small_app hl hx) bx)) ⟨_, _, rfl, rfl⟩ ?_
   rintro r bx3 ⟨rfl, rfl⟩
   simp [go_sem, resL]
   refine ret_wk0 (by simp [go_sem]) ?_
   simp [go_sem, resL, addF, h]
   exact Wk.refl _
 · simp [go_sem, h]
   refine ret_wk0 (by simp [go_sem]) ?_
   simp [go_sem, resL, addF, h]
   exact wk_tup2 (wk_nils 2) (Wk.refl _)
set_option maxHeartbeats 1000000 in
theorem Tryz.rDel_c (l : List Fd) (hl : Small l) (nm : List UInt8) (hn : nm.length ≤ 100000) (bx : Boxes) : PureCall Tryz.prog 36 [.sl 2 (l.map fdV), .str nm] bx (resL (delF l nm)) := by
 refine PureCall.wk (Tryz.ctry36 fun hf => ?_)
 simp [go_sem, Tryz.Cy36, hf]
 refine callK_pure (Tryz.asked_c l hl nm bx) ?_
 by_cases h : askE l nm = 0
 · have hll := askE_len h
   simp [go_sem, h, hf]
   refine pw_for (ι := Boxes × V) l.length (fun k i => Acc bx 38 2 (((l.take k).filter fun f => !isN f nm).map fdV) i.2 i.1) (fun k i => ⟨36, slk [(0, .sl 2 (l.map fdV)), (1, .str nm), (7, i.2), (8, .int .i64 k)], i.1⟩) (bx, .nils) (acc_nil hf _ _) (cov_look (by simp [go_sem])) (fun k i hk hJ N hN => ?_) (fun i hJ N => ?_)
   · obtain ⟨bx1, v⟩ := i
     dsimp only at hJ ⊢
     have hw := wr_succ (k := k) (by omega)
     have hsn := filt_snoc (fun f => !isN f nm) l hk
     have hle : ((l.take k).filter fun f => !isN f nm).length ≤ k := Nat.le_trans (List.length_filter_le _ _) (by simp; omega)
     obtain ⟨hs1, hs2⟩ := hl l[k] (List.getElem_mem hk)
     have cI := Tryz.is_c bx1 l[k] nm hs1 hn
     unfold fdV at cI
     simp [go_sem, Tryz.Ly36_0, hk, hJ.fin, fdV]
     refine callK_pure cI ?_
     generalize hM : (l.take k).filter (fun f => !isN f nm) = M at *
     cases hI : isN l[k] nm
     · simp [go_sem, hJ.fin, hw, hk, fdV]
       rw [if_pos (by simp [hI])] at hsn
       refine Tryz.appH (es := M.map fdV) (news := [fdV l[k]]) hJ (Ext.refl _) hJ.fin (by simp [go_sem, srcEls, fdV]) (by simp; omega) (by omega) ?_
       intro v' bx3 ha'
       simp [go_sem, ha'.fin, ha'.cells, hw]
       exact hN _ (bx3, v') (by rw [hsn, List.map_append]; exact ha') (cov_look (by simp [go_sem, fdV]))
     · simp [go_sem, hJ.fin, hw]
       rw [if_neg (by simp [hI])] at hsn
       exact hN _ (bx1, v) (by rw [hsn]; exact hJ) (cov_look (by simp [go_sem, fdV]))
   · obtain ⟨bx1, v⟩ := i
     dsimp only at hJ ⊢
     rw [List.take_length] at hJ
     simp [go_sem, Tryz.Ly36_0, hJ.fin]
     refine ret_frz 2 (by simp [go_sem, hJ.okV]) hJ.ext ⟨?_, rfl⟩
     simp [go_sem, resL, delF, h, witL]
     exact wk_tup2 (acc_frzB hJ (by decide)) (Wk.refl _)
 · simp [go_sem, h]
   refine ret_wk0 (by simp [go_sem]) ?_
   simp [go_sem, resL, delF, h]
   exact wk_tup2 (wk_nils 2) (Wk.refl _)
def rsO (l : List Fd) (x : Fd) (k i : Nat) : List Fd := l.take i ++ x :: ((l.take k).drop (i + 1)).filter fun f => !isN f x.1
theorem rsO_snoc {l : List Fd} (x : Fd) {k i : Nat} (hk : k < l.length) (hi : i < k) : rsO l x (k + 1) i = if isN l[k] x.1 = true then rsO l x k i else rsO l x k i ++ [l[k]] := by
 unfold rsO
 rw [List.take_succ_eq_append_getElem hk, List.drop_append_of_le_length (by simp; omega), List.filter_append]
 cases h : isN l[k] x.1 <;> simp [h]
theorem rsO_new {l : List Fd} (x : Fd) {k : Nat} : rsO l x (k + 1) k = l.take k ++ [x] := by
 unfold rsO
 rw [List.drop_eq_nil_of_le (by simp; omega)]
 rfl
theorem rsO_end {l : List Fd} (x : Fd) {i : Nat} (hi : i < l.length) : rsO l x l.length i = (witL l x.1 (i + 1)).set i x := by
 unfold rsO witL
 rw [List.take_length, List.take_succ_eq_append_getElem hi, List.append_assoc, List.set_append_right _ _ (by simp; omega)]
 have : i - (l.take i).length = 0 := by simp; omega
 rw [this]
 rfl
theorem rsO_len (l : List Fd) (x : Fd) (k i : Nat) : (rsO l x k i).length ≤ 2 * l.length + 1 := by
 unfold rsO
 have := List.length_filter_le (fun f : Fd => !isN f x.1) ((l.take k).drop (i + 1))
 simp at this ⊢
 omega
theorem small_rsO {l : List Fd} (hl : Small l) (x : Fd) (hx : Small [x]) (k i : Nat) : Small (rsO l x k i) := fun f hf => by
 unfold rsO at hf
 rcases List.mem_append.1 hf with hf | hf
 · exact hl f (List.mem_of_mem_take hf)
 · rcases List.mem_cons.1 hf with rfl | hf
   · exact hx f (by simp)
   · exact hl f (List.mem_of_mem_take (List.mem_of_mem_drop (List.mem_filter.1 hf).1))
def RsI (bx : Boxes) (e : TypeId) (l : List Fd) (x : Fd) (k : Nat) (p : Boxes × V × Bool) : Prop :=
 (p.2.2 = false ∧ Acc bx e 2 ((l.take k).map fdV) p.2.1 p.1 ∧ ∀ j (hj : j < l.length), j < k → isN l[j] x.1 = false) ∨
 (p.2.2 = true ∧ ∃ i, i < k ∧ fstN l x.1 = some i ∧ Acc bx e 2 ((rsO l x k i).map fdV) p.2.1 p.1)
set_option maxHeartbeats 2000000 in
theorem Tryz.rSet_c (l : List Fd) (hl : Small l) (x : Fd) (hx : Small [x]) (bx : Boxes) : PureCall Tryz.prog 39 [.sl 2 (l.map fdV), fdV x] bx (resL (setF l x)) := by
 obtain ⟨hx1, hx2⟩ := hx x (by simp)
 refine PureCall.wk (Tryz.ctry39 fun hf => ?_)
 simp [go_sem, Tryz.Cy39, hf, fdV]
 refine callK_pure (Tryz.rCheck_c l hl bx) ?_
 by_cases h : chkL l = 0
 · have hll := chkL_len h
   simp [go_sem, h, hf]
   refine pw_for (ι := Boxes × V × Bool) l.length (fun k i => RsI bx 38 l x k i) (fun k i => ⟨52, slk [(0, .sl 2 (l.map fdV)), (3, .ep (fdV x) 0), (7, i.2.1), (8, .bool i.2.2), (9, .int .i64 k)], i.1⟩) (bx, .nils, false) (.inl ⟨rfl, acc_nil hf _ _, fun j hj h0 => absurd h0 (by omega)⟩) (cov_look (by simp [go_sem, fdV])) (fun k i hk hJ N hN => ?_) (fun i hJ N => ?_)
   · obtain ⟨bx1, v, d⟩ := i
     have hw := wr_succ (k := k) (by omega)
     obtain ⟨hs1, hs2⟩ := hl l[k] (List.getElem_mem hk)
     have cI := Tryz.is_c bx1 l[k] x.1 hs1 hx1
     unfold fdV at cI
     dsimp only
     rcases hJ with ⟨hd, hA, hno⟩ | ⟨hd, i, hik, hfi, hA⟩
     · dsimp only at hd hA
       subst hd
       simp [go_sem, Tryz.Ly39_0, hk, hA.fin, fdV]
       refine callK_pure cI ?_
       cases hI : isN l[k] x.1
       · simp [go_sem, hA.fin, hw, hk, fdV]
         refine Tryz.appH (es := (l.take k).map fdV) (news := [fdV l[k]]) hA (Ext.refl _) hA.fin (by simp [go_sem, srcEls, fdV]) (by simp; omega) (by omega) ?_
         intro v' bx3 ha'
         simp [go_sem, ha'.fin, ha'.cells, hw]
         refine hN _ (bx3, v', false) (.inl ⟨rfl, ?_, fun j hj h0 => ?_⟩) (cov_look (by simp [go_sem, fdV]))
         · rw [List.take_succ_eq_append_getElem hk, List.map_append]; exact ha'
         · by_cases hjk : j = k
           · subst hjk; exact hI
           · exact hno j hj (by omega)
       · simp [go_sem, hA.fin, hw, hk, fdV]
         refine Tryz.appH (es := (l.take k).map fdV) (news := [fdV x]) hA (Ext.refl _) hA.fin (by simp [go_sem, srcEls, fdV]) (by simp; omega) (by omega) ?_
         intro v' bx3 ha'
         simp [go_sem, ha'.fin, ha'.cells, hw]
         refine hN _ (bx3, v', true) (.inr ⟨rfl, k, by omega, fst_at hk hI hno, ?_⟩) (cov_look (by simp [go_sem, fdV]))
         rw [rsO_new, List.map_append]; exact ha'
     · dsimp only at hd hA
       subst hd
       have hsn := rsO_snoc x hk hik
       have hle := rsO_len l x k i
       simp [go_sem, Tryz.Ly39_0, hk, hA.fin, fdV]
       refine callK_pure cI ?_
       cases hI : isN l[k] x.1
       · simp [go_sem, hA.fin, hw, hk, fdV]
         rw [hI, if_neg (by simp)] at hsn
         refine Tryz.appH (es := (rsO l x k i).map fdV) (news := [fdV l[k]]) hA (Ext.refl _) hA.fin (by simp [go_sem, srcEls, fdV]) (by simp; omega) (by omega) ?_
         intro v' bx3 ha'
         simp [go_sem, ha'.fin, ha'.cells, hw]
         refine hN _ (bx3, v', true) (.inr ⟨rfl, i, by omega, hfi, ?_⟩) (cov_look (by simp [go_sem, fdV]))
         rw [hsn, List.map_append]; exact ha'
       · simp [go_sem, hA.fin, hw, hk, fdV]
         rw [hI, if_pos rfl] at hsn
         exact hN _ (bx1, v, true) (.inr ⟨rfl, i, by omega, hfi, by rw [hsn]; exact hA⟩) (cov_look (by simp [go_sem, fdV]))
   · obtain ⟨bx1, v, d⟩ := i
     dsimp only
     rcases hJ with ⟨hd, hA, hno⟩ | ⟨hd, i, hik, hfi, hA⟩
     · dsimp only at hd hA
       subst hd
       rw [List.take_length] at hA
       have hfst := fst_no (fun j hj => hno j hj hj)
       simp [go_sem, Tryz.Ly39_0, hA.fin, fdV]
       refine Tryz.appH (es := l.map fdV) (news := [fdV x]) hA (Ext.refl _) hA.fin (by simp [srcEls, fdV]) (by simp; omega) (by decide) ?_
       intro v2 bx2 hB
       simp [go_sem, hB.fin, hB.cells, hB.strip, hB.live]
       have e1 : l.map fdV ++ [fdV x] = (l ++ [x]).map fdV := by simp
       rw [e1] at hB
       refine callK_abs (AbsCall.acc1 hB (by decide) (Tryz.rchecked_c (l ++ [x]) (small_app hl hx) bx)) ?_
       rintro r bx3 ⟨rfl, rfl⟩
       simp [go_sem, resL]
       refine ret_wk0 (by simp [go_sem]) ?_
       simp [go_sem, resL, setF, h, hfst]
       exact Wk.refl _
     · dsimp only at hd hA
       subst hd
       have hsm := small_rsO hl x hx l.length i
       rw [rsO_end x hik] at hA hsm
       simp [go_sem, Tryz.Ly39_0, hA.fin, fdV, hA.cells, hA.strip, hA.live, -List.map_set]
       refine callK_abs (AbsCall.acc1 hA (by decide) (Tryz.rchecked_c _ hsm bx)) ?_
       rintro r bx3 ⟨rfl, rfl⟩
       simp [go_sem, resL]
       refine ret_wk0 (by simp [go_sem]) ?_
       simp [go_sem, resL, setF, h, hfi]
       exact Wk.refl _
 · simp [go_sem, h]
   refine ret_wk0 (by simp [go_sem]) ?_
   simp [go_sem, resL, setF, h]
   exact wk_tup2 (wk_nils 2) (Wk.refl _)
end Go.Proofs

set_option linter.unusedSimpArgs false
set_option linter.unusedVariables false
set_option maxRecDepth 100000
namespace Go.Proofs
open Go Go.Pl Go.RowKit
end Go.Proofs

set_option linter.unusedSimpArgs false
set_option linter.unusedVariables false
set_option maxRecDepth 100000
namespace Go.Proofs
open Go Go.Pl Go.RowKit
def getF (l : List Fd) (nm : List UInt8) : List (List UInt8) × Int := if askE l nm = 0 then (getL l nm, 0) else ([], askE l nm)
theorem getF_wk (l : List Fd) (nm : List UInt8) : Wk (getR l nm) (resS (getF l nm)) := by
 unfold getR getF resS
 by_cases h : askE l nm = 0
 · rw [if_pos h, if_pos h]; exact Wk.refl _
 · rw [if_neg h, if_neg h]; exact wk_tup2 (wk_nils 1) (Wk.refl _)
theorem Tryz.Get_s {bx : Boxes} (hm : Mk bx) (l : List Fd) (hl : Small l) (nm : List UInt8) (hn : nm.length ≤ 100000) : PureCall Tryz.prog 23 [.sl 2 (l.map fdV), .str nm] bx (resS (getF l nm)) :=
 PureCall.wk (AbsCall.mono (Tryz.Get_c hm l hl nm hn) fun r bx' h => ⟨by rw [h.1]; exact getF_wk l nm, h.2⟩)
theorem Tryz.rGet_s (l : List Fd) (hl : Small l) (nm : List UInt8) (hn : nm.length ≤ 100000) (bx : Boxes) : PureCall Tryz.prog 35 [.sl 2 (l.map fdV), .str nm] bx (resS (getF l nm)) :=
 PureCall.wk (AbsCall.mono (Tryz.rGet_c l hl nm hn bx) fun r bx' h => ⟨by rw [h.1]; exact getF_wk l nm, h.2⟩)
theorem getF_len (l : List Fd) (hl : l.length ≤ 1000) (nm : List UInt8) : (getF l nm).1.length ≤ 1000 := by
 unfold getF
 split
 · exact Nat.le_trans (getL_len l nm) hl
 · simp
theorem delF_len (l : List Fd) (hl : l.length ≤ 1000) (nm : List UInt8) : (delF l nm).1.length ≤ 1000 := by
 unfold delF
 split
 · exact Nat.le_trans (wit_len l nm 0) hl
 · simp
theorem checkedF_len (l : List Fd) (n : Nat) (hl : l.length ≤ n) : (checkedF l).1.length ≤ n := by
 unfold checkedF
 split
 · exact hl
 · simp
theorem addF_len (l : List Fd) (x : Fd) (hl : l.length ≤ 1000) : (addF l x).1.length ≤ 1001 := by
 unfold addF
 split
 · exact checkedF_len _ _ (by simp; omega)
 · simp
theorem setF_len (l : List Fd) (x : Fd) (hl : l.length ≤ 1000) : (setF l x).1.length ≤ 1001 := by
 unfold setF
 split
 · split
   · have := wit_len l x.1
     refine checkedF_len _ _ ?_
     rw [List.length_set]
     exact Nat.le_trans (wit_len _ _ _) (by omega)
   · exact checkedF_len _ _ (by simp; omega)
 · simp
set_option maxHeartbeats 4000000 in
theorem Tryz.headersChanges_c {bx : Boxes} (hm : Mk bx) (l : List Fd) (x : Fd) : PureCall Tryz.prog 10 [.sl 2 (l.map fdV), fdV x] bx (.bool true) := by
 refine Tryz.ctrx10 fun hf => ?_
 simp [go_sem, Tryz.Cx10, hf, fdV]
 refine callK_pure (Tryz.far_c l bx) ?_
 have cA := Tryz.awake_c hm
 cases hfar : farB l
 · obtain ⟨h1, h2, h3, h4⟩ := far_small hfar
   by_cases ha : 200 < x.1.length
   · have ha' : (200 : Int) < x.1.length := by omega
     simp [go_sem, ha']
     refine callK_pure cA ?_
     simp [go_sem]
     exact ret_pure (by simp [go_sem]) ⟨by simp [go_sem], rfl⟩
   have ha' : ¬ (200 : Int) < x.1.length := by omega
   by_cases hb : 2100 < x.2.length
   · have hb' : (2100 : Int) < x.2.length := by omega
     simp [go_sem, ha', hb']
     refine callK_pure cA ?_
     simp [go_sem]
     exact ret_pure (by simp [go_sem]) ⟨by simp [go_sem], rfl⟩
   have hb' : ¬ (2100 : Int) < x.2.length := by omega
   have hx : Small [x] := fun f hf => by simp at hf; subst hf; omega
   have cG := Tryz.Get_s hm l h2 x.1 (by omega)
   have cH := Tryz.rGet_s l h2 x.1 (by omega) bx
   have cD := Tryz.Del_c hm l h2 x.1 (by omega)
   have cE := Tryz.rDel_c l h2 x.1 (by omega) bx
   have cI := Tryz.Add_c hm l h2 x hx
   have cJ := Tryz.rAdd_c l h2 x hx bx
   have cS := Tryz.Set_c hm l h2 x hx
   have cT := Tryz.rSet_c l h2 x hx bx
   have l1 := getF_len l (by omega) x.1
   have l2 := delF_len l (by omega) x.1
   have l3 := addF_len l x (by omega)
   have l4 := setF_len l x (by omega)
   generalize getF l x.1 = G at *
   generalize delF l x.1 = D at *
   generalize addF l x = I at *
   generalize setF l x = S at *
   obtain ⟨G1, G2⟩ := G
   obtain ⟨D1, D2⟩ := D
   obtain ⟨I1, I2⟩ := I
   obtain ⟨S1, S2⟩ := S
   dsimp only at l1 l2 l3 l4
   unfold resS at cG cH
   unfold resL at cD cE cI cJ cS cT
   unfold fdV at cI cJ cS cT
   dsimp only at cG cH cD cE cI cJ cS cT
   have q1 := Tryz.Strings_c G1 G1 (by omega) bx
   have q2 := Tryz.Equal_c D1 D1 (by omega) bx
   have q3 := Tryz.Equal_c I1 I1 (by omega) bx
   have q4 := Tryz.Equal_c S1 S1 (by omega) bx
   simp [go_sem, ha', hb']
   refine callK_pure cG ?_
   simp [go_sem]
   refine callK_pure cH ?_
   simp [go_sem]
   refine callK_pure cD ?_
   simp [go_sem]
   refine callK_pure cE ?_
   simp [go_sem]
   refine callK_pure q1 ?_
   simp [go_sem]
   refine gK_pure q2 (by simp) (by simp [go_sem]) ?_
   simp [go_sem]
   refine callK_pure cI ?_
   simp [go_sem]
   refine callK_pure cJ ?_
   simp [go_sem]
   refine callK_pure q3 ?_
   simp [go_sem]
   refine callK_pure cS ?_
   simp [go_sem]
   refine callK_pure cT ?_
   simp [go_sem]
   refine callK_pure q4 ?_
   simp [go_sem]
   refine gK_pure cA (by simp) (by simp [go_sem]) ?_
   simp [go_sem]
   exact ret_pure (by simp [go_sem]) ⟨by simp [go_sem], rfl⟩
 · simp [go_sem]
   refine callK_pure cA ?_
   simp [go_sem]
   exact ret_pure (by simp [go_sem]) ⟨by simp [go_sem], rfl⟩
end Go.Proofs

set_option linter.unusedVariables false
set_option linter.unusedSimpArgs false
set_option maxRecDepth 100000
namespace Go.Proofs
open Go Go.Pl
structure OkF (f : Fd) : Prop where
 tok : tokB f.1 = true
 pl : plainB f.2 = true
 tr : trimB f.2 = f.2
 len : f.2.length ≤ 2000
theorem chkF_ok {f : Fd} (h : chkF f = 0) : OkF f := by
 unfold chkF at h
 split at h
 · rename_i h1
   split at h
   · cases h
   · rename_i h2
     simp at h1
     exact ⟨h1.1.1, h1.1.2, h1.2, by omega⟩
 · cases h
theorem OkF.chk {f : Fd} (h : OkF f) : chkF f = 0 := by
 unfold chkF
 rw [if_pos (by simp [h.tok, h.pl, h.tr]), if_neg (by have := h.len; omega)]
theorem chkL_of {l : List Fd} (h1 : l.length ≤ 100) (h2 : ∀ f, f ∈ l → OkF f) : chkL l = if 8192 < sumF l then 3 else 0 := by
 unfold chkL
 rw [if_neg (by omega), List.find?_eq_none.2 fun f hf => by simp [(h2 f hf).chk]]
theorem chkL_ok {l : List Fd} (h : chkL l = 0) : l.length ≤ 100 ∧ (∀ f, f ∈ l → OkF f) ∧ sumF l ≤ 8192 := by
 refine ⟨?_, fun f hf => ?_, chkL_sum h⟩
 · unfold chkL at h
   by_cases h1 : 100 < l.length
   · rw [if_pos h1] at h; cases h
   · omega
 · refine chkF_ok ?_
   unfold chkL at h
   split at h
   · cases h
   · split at h
     · rename_i g hg
       have := List.find?_some hg
       simp at this
       exact absurd h this
     · rename_i hn
       have := List.find?_eq_none.1 hn f hf
       simpa using this
theorem sumF_cons (f : Fd) (l : List Fd) : sumF (f :: l) = sizF f + sumF l := by simp [sumF]; omega
end Go.Proofs

set_option linter.unusedSimpArgs false
set_option linter.unusedVariables false
set_option maxRecDepth 100000
namespace Go.Proofs
open Go Go.Pl Go.RowKit
theorem checkedF_ok {m a : List Fd} (h : checkedF m = (a, 0)) : chkL m = 0 ∧ a = m := by
 unfold checkedF at h
 by_cases h1 : chkL m = 0
 · rw [if_pos h1] at h
   injection h with h2 _
   exact ⟨h1, h2.symm⟩
 · rw [if_neg h1] at h
   injection h with _ h2
   exact absurd h2 h1
theorem getL_app (a b : List Fd) (o : List UInt8) : getL (a ++ b) o = getL a o ++ getL b o := by unfold getL; rw [List.filter_append, List.map_append]
theorem getL_no {a : List Fd} {o : List UInt8} (h : ∀ f, f ∈ a → isN f o = false) : getL a o = [] := by
 unfold getL
 rw [List.filter_eq_nil_iff.2 fun f hf => by simp [h f hf]]
 rfl
theorem getL_cons_no {f : Fd} {a : List Fd} {o : List UInt8} (h : isN f o = false) : getL (f :: a) o = getL a o := by unfold getL; simp [h]
theorem isN_self (x : Fd) : isN x x.1 = true := by simp [isN]
structure SetOk (l : List Fd) (x : Fd) (a : List Fd) : Prop where
 cl : chkL l = 0
 ca : chkL a = 0
 form : ∃ A B, a = A ++ x :: B ∧ (∀ f, f ∈ A → isN f x.1 = false) ∧ (∀ f, f ∈ B → isN f x.1 = false)
 oth : ∀ o, Lib.toLowerA o ≠ Lib.toLowerA x.1 → getL a o = getL l o
theorem set_form {l : List Fd} {x : Fd} {a : List Fd} (h : setF l x = (a, 0)) : SetOk l x a := by
 unfold setF at h
 by_cases h1 : chkL l = 0
 · rw [if_pos h1] at h
   have hx : ∀ o, Lib.toLowerA o ≠ Lib.toLowerA x.1 → isN x o = false := fun o ho => by simp [isN]; exact fun e => ho e.symm
   cases hfi : fstN l x.1 with
   | none =>
     rw [hfi] at h
     obtain ⟨h2, rfl⟩ := checkedF_ok h
     unfold fstN at hfi
     rw [List.findIdx?_eq_none_iff] at hfi
     refine ⟨h1, h2, ⟨l, [], rfl, hfi, fun f hf => by cases hf⟩, fun o ho => ?_⟩
     rw [getL_app, getL_cons_no (hx o ho)]
     simp [getL]
   | some i =>
     rw [hfi] at h
     obtain ⟨h2, h3⟩ := checkedF_ok h
     unfold fstN at hfi
     rw [List.findIdx?_eq_some_iff_getElem] at hfi
     obtain ⟨hi, hI, hno⟩ := hfi
     rw [← rsO_end x hi] at h3
     unfold rsO at h3
     rw [List.take_length] at h3
     subst h3
     rw [← rsO_end x hi] at h2
     unfold rsO at h2
     rw [List.take_length] at h2
     refine ⟨h1, h2, ⟨_, _, rfl, fun f hf => ?_, fun f hf => ?_⟩, fun o ho => ?_⟩
     · obtain ⟨j, hj, rfl⟩ := List.mem_iff_getElem.1 hf
       simp at hj
       rw [List.getElem_take]
       simpa using hno j (by omega)
     · have := (List.mem_filter.1 hf).2
       simpa using this
     · have e : getL l o = getL (l.take i) o ++ getL (l[i] :: l.drop (i + 1)) o := by
         rw [← getL_app, ← List.drop_eq_getElem_cons hi, List.take_append_drop]
       have hli : isN l[i] o = false := by
         simp [isN] at hI ⊢
         rw [hI]
         exact fun e => ho e.symm
       rw [e, getL_app, getL_cons_no (hx o ho), getL_cons_no hli]
       congr 1
       unfold getL
       rw [List.filter_filter]
       congr 1
       refine List.filter_congr fun f hf => ?_
       cases hb : isN f o
       · rfl
       · have : isN f x.1 = false := by
           simp [isN] at hb ⊢
           rw [hb]
           exact ho
         simp [this]
 · rw [if_neg h1] at h
   injection h with _ h2
   exact absurd h2 h1
theorem SetOk.tok {l a : List Fd} {x : Fd} (h : SetOk l x a) : tokB x.1 = true := by
 obtain ⟨A, B, rfl, _⟩ := h.form
 exact ((chkL_ok h.ca).2.1 x (by simp)).tok
theorem SetOk.get {l a : List Fd} {x : Fd} (h : SetOk l x a) : getF a x.1 = ([x.2], 0) := by
 have ha : askE a x.1 = 0 := by unfold askE; rw [if_neg (by simp [h.ca]), if_pos h.tok]
 unfold getF
 rw [if_pos ha]
 obtain ⟨A, B, rfl, h1, h2⟩ := h.form
 have : getL (x :: B) x.1 = [x.2] := by
   have := getL_no h2
   unfold getL at this ⊢
   simp [isN_self] at this ⊢
   exact this
 rw [getL_app, getL_no h1, this]
 rfl
theorem SetOk.getE {l a : List Fd} {x : Fd} (h : SetOk l x a) (o : List UInt8) : (getF a o).2 = (getF l o).2 := by
 have e : askE a o = askE l o := by unfold askE; simp [h.ca, h.cl]
 unfold getF
 rw [e]
 split <;> rfl
theorem SetOk.getO {l a : List Fd} {x : Fd} (h : SetOk l x a) {o : List UInt8} (ho : Lib.toLowerA o ≠ Lib.toLowerA x.1) : getF a o = getF l o := by
 have e : askE a o = askE l o := by unfold askE; simp [h.ca, h.cl]
 unfold getF
 rw [e, h.oth o ho]
theorem SetOk.del {l a : List Fd} {x : Fd} (h : SetOk l x a) : ∃ d, delF a x.1 = (d, 0) ∧ d.length + 1 = a.length := by
 have ha : askE a x.1 = 0 := by unfold askE; rw [if_neg (by simp [h.ca]), if_pos h.tok]
 unfold delF
 rw [if_pos ha]
 refine ⟨_, rfl, ?_⟩
 obtain ⟨A, B, rfl, h1, h2⟩ := h.form
 have e1 : A.filter (fun f => !decide (Lib.toLowerA f.1 = Lib.toLowerA x.1)) = A := List.filter_eq_self.2 fun f hf => by have := h1 f hf; simp [isN] at this; simp [this]
 have e2 : B.filter (fun f => !decide (Lib.toLowerA f.1 = Lib.toLowerA x.1)) = B := List.filter_eq_self.2 fun f hf => by have := h2 f hf; simp [isN] at this; simp [this]
 unfold witL
 rw [List.take_zero, List.drop_zero, List.nil_append, List.filter_append, e1, List.filter_cons_of_neg (by simp), e2]
 simp
 omega
theorem namesG_sub : ∀ (vs a b : List (List UInt8)), namesG vs a = some b → ∀ n, n ∈ a → n ∈ b
 | [], a, b, h, n, hn => by simp [namesG] at h; subst h; exact hn
 | v :: vs, a, b, h, n, hn => by
   rw [namesG] at h
   split at h
   · exact namesG_sub vs _ b h n (by simp [hn])
   · cases h
theorem sumF_filter (p : Fd → Bool) : ∀ l : List Fd, sumF (l.filter p) ≤ sumF l
 | [] => Nat.le_refl _
 | f :: l => by
   have ih := sumF_filter p l
   rw [sumF_cons, List.filter_cons]
   split
   · rw [sumF_cons]; omega
   · omega
theorem chk_filter {l : List Fd} (h : chkL l = 0) (p : Fd → Bool) : chkL (l.filter p) = 0 := by
 obtain ⟨h1, h2, h3⟩ := chkL_ok h
 have h4 := List.length_filter_le p l
 have h5 := sumF_filter p l
 rw [chkL_of (by omega) (fun f hf => h2 f (List.mem_filter.1 hf).1), if_neg (by omega)]
theorem strip_bad {l : List Fd} (h : (stripF l).2 ≠ 0) : (stripF l).1 = [] := by
 unfold stripF at h ⊢
 split
 · rename_i h1
   rw [if_pos h1] at h
   cases hn : namesF l with
   | none => rfl
   | some acc => rw [hn] at h; exact absurd rfl h
 · rfl
theorem strip_ok {l s : List Fd} (h : stripF l = (s, 0)) : stripF s = (s, 0) ∧ hopF s = ([], 0) := by
 unfold stripF at h
 by_cases h1 : chkL l = 0
 · rw [if_pos h1] at h
   cases hn : namesF l with
   | none => rw [hn] at h; cases h
   | some acc =>
     rw [hn] at h
     injection h with h _
     have hsub : ∀ n, n ∈ fixedL → n ∈ acc := namesG_sub _ _ _ hn
     have hck := chk_filter h1 (fun f => !decide (Lib.toLowerA f.1 ∈ acc))
     rw [h] at hck
     have hno : ∀ f, f ∈ s → Lib.toLowerA f.1 ∉ fixedL := fun f hf hm => by
       rw [← h] at hf
       have := (List.mem_filter.1 hf).2
       simp at this
       exact this (hsub _ hm)
     have hg : getL s connB = [] := getL_no fun f hf => by
       have := hno f hf
       simp [isN]
       intro e
       rw [e] at this
       exact this (by decide +kernel)
     have hnm : namesF s = some fixedL := by unfold namesF; rw [hg]; rfl
     constructor
     · unfold stripF
       rw [if_pos hck, hnm]
       dsimp only
       rw [List.filter_eq_self.2 fun f hf => by simp [hno f hf]]
     · unfold hopF
       rw [if_pos hck, hnm]
       dsimp only
       have : metL s fixedL = [] := by
         unfold metL
         rw [List.filter_eq_nil_iff.2 fun n hn => by
           obtain ⟨f, hf, rfl⟩ := List.mem_map.1 hn
           simp [hno f hf]]
         rfl
       rw [this]
       have : sortB [] = [] := by simp [sortB]
       rw [this]
 · rw [if_neg h1] at h
   injection h with _ h2
   exact absurd h2 h1
end Go.Proofs

set_option linter.unusedSimpArgs false
set_option linter.unusedVariables false
set_option maxRecDepth 100000
namespace Go.Proofs
open Go Go.Pl Go.RowKit
theorem okL_small {l : List Fd} (h : ∀ f, f ∈ l → OkF f) : Small l := fun f hf => by
 have h1 := (h f hf).len
 have h2 := (h f hf).tok
 unfold tokB at h2
 simp at h2
 omega
end Go.Proofs

set_option linter.unusedSimpArgs false
set_option linter.unusedVariables false
set_option maxRecDepth 100000
namespace Go.Proofs
open Go Go.Pl Go.RowKit
theorem strip_chk {s t : List Fd} (h : stripF s = (t, 0)) : chkL s = 0 := by
 unfold stripF at h
 by_cases h1 : chkL s = 0
 · exact h1
 · rw [if_neg h1] at h
   injection h with _ h2
theorem chk_small {s : List Fd} (h : chkL s = 0) : Small s := okL_small (chkL_ok h).2.1
set_option maxHeartbeats 8000000 in
theorem Tryz.headersSets_c {bx : Boxes} (hm : Mk bx) (l : List Fd) (x : Fd) (o : List UInt8) : PureCall Tryz.prog 9 [.sl 2 (l.map fdV), fdV x, .str o] bx (.bool true) := by
 refine Tryz.ctrx9 fun hf => ?_
 simp [go_sem, Tryz.Cx9, hf, fdV]
 refine callK_pure (Tryz.far_c l bx) ?_
 have cA := Tryz.awake_c hm
 cases hfar : farB l
 · obtain ⟨h1, h2, h3, h4⟩ := far_small hfar
   by_cases ha : 200 < x.1.length
   · have ha' : (200 : Int) < x.1.length := by omega
     simp [go_sem, ha']
     refine callK_pure cA ?_
     simp [go_sem]
     exact ret_pure (by simp [go_sem]) ⟨by simp [go_sem], rfl⟩
   have ha' : ¬ (200 : Int) < x.1.length := by omega
   by_cases hb : 2100 < x.2.length
   · have hb' : (2100 : Int) < x.2.length := by omega
     simp [go_sem, ha', hb']
     refine callK_pure cA ?_
     simp [go_sem]
     exact ret_pure (by simp [go_sem]) ⟨by simp [go_sem], rfl⟩
   have hb' : ¬ (2100 : Int) < x.2.length := by omega
   by_cases hc : 200 < o.length
   · have hc' : (200 : Int) < o.length := by omega
     simp [go_sem, ha', hb', hc']
     refine callK_pure cA ?_
     simp [go_sem]
     exact ret_pure (by simp [go_sem]) ⟨by simp [go_sem], rfl⟩
   have hc' : ¬ (200 : Int) < o.length := by omega
   have hx : Small [x] := fun f hf => by simp at hf; subst hf; omega
   have cS := Tryz.Set_c hm l h2 x hx
   have cT := Tryz.Strip_c hm l h2
   have slen := setF_len l x (by omega)
   have hform := @set_form l x
   have hso := @strip_ok l
   have hsb := @strip_bad l
   unfold resL at cS cT
   unfold fdV at cS
   have hstl : (stripF l).1.length ≤ 110 := by
     unfold stripF
     split
     · split
       · exact Nat.le_trans (List.length_filter_le _ _) h1
       · simp
     · simp
   generalize hS : setF l x = S at *
   generalize hT : stripF l = T at *
   obtain ⟨a, e⟩ := S
   obtain ⟨s, e2⟩ := T
   dsimp only at cS cT hsb slen hstl
   simp [go_sem, ha', hb', hc']
   refine callK_pure cS ?_
   by_cases he : e = 0
   · subst he
     have ok := hform rfl
     have hsa := chk_small ok.ca
     have cG := Tryz.Get_s hm a hsa x.1 (by omega)
     have cW := Tryz.Get_s hm a hsa o (by omega)
     have cU := Tryz.Get_s hm l h2 o (by omega)
     have cD := Tryz.Del_c hm a hsa x.1 (by omega)
     obtain ⟨d, hd, hdl⟩ := ok.del
     have hwu := ok.getE o
     have hwu2 := fun h => ok.getO (o := o) h
     have hWl := getF_len a (by have := chkL_len ok.ca; omega) o
     rw [ok.get] at cG
     rw [hd] at cD
     generalize getF a o = W at *
     generalize getF l o = U at *
     obtain ⟨W1, W2⟩ := W
     obtain ⟨U1, U2⟩ := U
     dsimp only at hwu
     subst hwu
     unfold resS at cG cW cU
     unfold resL at cD
     dsimp only at cG cW cU cD hWl
     have hsub : IntKind.i64.wrap ((a.length : Int) - 1) = (d.length : Int) := by rw [wr64 (by omega)]; omega
     simp [go_sem]
     refine callK_pure cG ?_
     simp [go_sem]
     refine callK_pure cW ?_
     simp [go_sem]
     refine callK_pure cU ?_
     simp [go_sem]
     refine callK_pure cD ?_
     simp [go_sem, hsub]
     refine callK_pure (Tryz.rFold_p bx o (by omega)) ?_
     simp [go_sem]
     refine callK_pure (Tryz.rFold_p bx x.1 (by omega)) ?_
     by_cases hfo : Lib.toLowerA o = Lib.toLowerA x.1
     · simp [go_sem, hfo]
       refine gK_off (.bool false) (by simp [go_sem]) ?_
       simp [go_sem]
       refine callK_pure cT ?_
       by_cases he2 : e2 = 0
       · subst he2
         obtain ⟨ht, hh⟩ := hso rfl
         have hss := chk_small (strip_chk ht)
         have cT2 := Tryz.Strip_c hm s hss
         have cH := Tryz.Hop_c hm s hss
         rw [ht] at cT2
         rw [hh] at cH
         unfold resL at cT2
         unfold resS at cH
         dsimp only at cT2 cH
         have cE := Tryz.Equal_c s s (by omega) bx
         simp [go_sem]
         refine callK_pure cT2 ?_
         simp [go_sem]
         refine callK_pure cH ?_
         simp [go_sem]
         refine gK_pure cE (by simp) (by simp [go_sem]) ?_
         simp [go_sem]
         refine gK_pure cA (by simp) (by simp [go_sem]) ?_
         simp [go_sem]
         exact ret_pure (by simp [go_sem]) ⟨by simp [go_sem], rfl⟩
       · obtain rfl := hsb he2
         simp [go_sem, he2]
         refine gK_pure cA (by simp) (by simp [go_sem]) ?_
         simp [go_sem]
         exact ret_pure (by simp [go_sem]) ⟨by simp [go_sem], rfl⟩
     · have hWU := hwu2 hfo
       injection hWU with hWU _
       subst hWU
       have q1 := Tryz.Strings_c W1 W1 (by omega) bx
       simp [go_sem, hfo]
       refine gK_pure q1 (by simp) (by simp [go_sem]) ?_
       simp [go_sem]
       refine callK_pure cT ?_
       by_cases he2 : e2 = 0
       · subst he2
         obtain ⟨ht, hh⟩ := hso rfl
         have hss := chk_small (strip_chk ht)
         have cT2 := Tryz.Strip_c hm s hss
         have cH := Tryz.Hop_c hm s hss
         rw [ht] at cT2
         rw [hh] at cH
         unfold resL at cT2
         unfold resS at cH
         dsimp only at cT2 cH
         have cE := Tryz.Equal_c s s (by omega) bx
         simp [go_sem]
         refine callK_pure cT2 ?_
         simp [go_sem]
         refine callK_pure cH ?_
         simp [go_sem]
         refine gK_pure cE (by simp) (by simp [go_sem]) ?_
         simp [go_sem]
         refine gK_pure cA (by simp) (by simp [go_sem]) ?_
         simp [go_sem]
         exact ret_pure (by simp [go_sem]) ⟨by simp [go_sem], rfl⟩
       · obtain rfl := hsb he2
         simp [go_sem, he2]
         refine gK_pure cA (by simp) (by simp [go_sem]) ?_
         simp [go_sem]
         exact ret_pure (by simp [go_sem]) ⟨by simp [go_sem], rfl⟩
   · simp [go_sem, he]
     refine callK_pure cT ?_
     by_cases he2 : e2 = 0
     · subst he2
       obtain ⟨ht, hh⟩ := hso rfl
       have hss := chk_small (strip_chk ht)
       have cT2 := Tryz.Strip_c hm s hss
       have cH := Tryz.Hop_c hm s hss
       rw [ht] at cT2
       rw [hh] at cH
       unfold resL at cT2
       unfold resS at cH
       dsimp only at cT2 cH
       have cE := Tryz.Equal_c s s (by omega) bx
       simp [go_sem]
       refine callK_pure cT2 ?_
       simp [go_sem]
       refine callK_pure cH ?_
       simp [go_sem]
       refine gK_pure cE (by simp) (by simp [go_sem]) ?_
       simp [go_sem]
       refine gK_pure cA (by simp) (by simp [go_sem]) ?_
       simp [go_sem]
       exact ret_pure (by simp [go_sem]) ⟨by simp [go_sem], rfl⟩
     · obtain rfl := hsb he2
       simp [go_sem, he2]
       refine gK_pure cA (by simp) (by simp [go_sem]) ?_
       simp [go_sem]
       exact ret_pure (by simp [go_sem]) ⟨by simp [go_sem], rfl⟩
 · simp [go_sem]
   refine callK_pure cA ?_
   simp [go_sem]
   exact ret_pure (by simp [go_sem]) ⟨by simp [go_sem], rfl⟩
end Go.Proofs
