/- Texts of the proof, put together: FW. -/
import Derived.Test.YtkjhfnlnbjmahaaGreatDoorGo
import Derived.Test.YtkjhfnlnbjmahaaGreatDoorGp
import Derived.Test.YtkjhfnlnbjmahaaGreatDoorGe

set_option linter.unusedSimpArgs false
set_option linter.unusedVariables false
set_option maxRecDepth 100000
namespace Go.Proofs
open Go Go.Pl Go.RowKit
theorem cvt_own {P : Program} {s t e : TypeId} {q : List UInt8} {dst : Option Tmp} {K : St → Prop} {st : St} (h1 : knd P s = .str) (h2 : knd P t = .slice e) (h3 : knd P e = .int .u8) (hl : q.length ≤ 9223372036854775807) (hd : dstOk st dst) (hf : FinB st.bx)
   (hk : ∀ b, st.bx b = none → K ((st.box b (some (.row e 1 (q.map byteV)))).put dst (.own b 1 0 q.length))) : cvtP P s t (.str q) dst K st := by
 unfold cvtP
 rw [h1, h2]
 exact ⟨⟨h3, hl⟩, hd, hf, hk⟩
set_option maxHeartbeats 4000000 in
theorem Tryz.headersStreams_c {bx : Boxes} (hm : Mk bx) (l : List Fd) (more : List UInt8) (n : Int) (hn0 : 0 ≤ n) (hn : n ≤ 65535) : PureCall Tryz.prog 6 [.sl 2 (l.map fdV), .sl 1 (more.map byteV), .int .u16 n] bx (.bool true) := by
 refine Tryz.ctry6 fun hf => ?_
 simp [go_sem, Tryz.Cy6, hf]
 refine callK_pure (Tryz.far_c l bx) ?_
 have cA := Tryz.awake_c hm
 cases hfar : farB l
 · obtain ⟨h1, h2, h3, h4⟩ := far_small hfar
   by_cases hb : 200 < more.length
   · have hb' : (200 : Int) < more.length := by omega
     simp [go_sem, hb']
     refine callK_pure cA ?_
     simp [go_sem]
     exact ret_pure (by simp [go_sem]) ⟨by simp [go_sem], rfl⟩
   · have hb' : ¬ (200 : Int) < more.length := by omega
     have cP := Tryz.Print_c hm l h2
     have cC := Tryz.Check_c hm l h2
     by_cases hc : chkL l = 0
     · obtain ⟨g1, g2, g3⟩ := chkL_ok hc
       have hp : prtR l = .tup [.str (prtB l), .int .i64 0] := by unfold prtR; rw [if_pos hc]
       have hlen := prt_len l
       have h2l : 2 ≤ sumF l := by unfold sumF; omega
       generalize hS : prtB l = S at *
       rw [hp] at cP
       have hlen2 : (S.length : Int) = sumF l := by omega
       have i1 : ¬ (S.length : Int) < 2 := by omega
       have i2 : ¬ (8192 : Int) < S.length := by omega
       simp [go_sem, hb']
       refine callK_pure cP ?_
       simp [go_sem, i1, i2, hf]
       refine cvt_own Tryz.knd9 Tryz.knd43 Tryz.knd5 (by omega) (by simp [go_sem]) hf ?_
       intro b hb1
       simp [go_sem, hf]
       refine acc_append (es := S.map byteV) (news := more.map byteV) (e := 5) (sz := 1) (.int .u8 0) (acc_new hb1 hf 5 1 (S.map byteV) S.length (by simp)) (Ext.refl _) (by simp [finB_upd, hf]) Tryz.knd43 Tryz.tsz5 (by simp [go_sem, srcEls]) Tryz.tzero5 (by simp [go_sem]) (by decide) (by simp [Tryz.tby5] <;> omega) (by simp <;> omega) (by simp [go_sem]) ?_
       intro v bx3 ha
       have e1 : S.map byteV ++ more.map byteV = (S ++ more).map byteV := by simp
       rw [e1] at ha
       have cR := Tryz.Parse_c hm (S ++ more) (by simp; omega)
       have hpe : parseF (S ++ more) = (l, sumF l, 0) := by
         have := prs_print (len := (S ++ more).length) more l [] 0 g2 (by simp; omega) (by omega)
         rw [hS] at this
         unfold parseF
         rw [this]
         simp
       rw [hpe] at cR
       unfold prsV at cR
       simp [go_sem, ha.cells, ha.strip, ha.live]
       refine callK_abs (AbsCall.acc1 ha (by decide) cR) ?_
       rintro r bx4 ⟨rfl, rfl⟩
       obtain ⟨m, rfl⟩ : ∃ m : Nat, n = m := ⟨n.toNat, by omega⟩
       have hw : (IntKind.i64.wrap (m : Int)).tmod (S.length : Int) = ((m % S.length : Nat) : Int) := by
         rw [wr64 (by omega)]
         exact (Int.ofNat_tmod m S.length).symm
       have hml : m % S.length < S.length := Nat.mod_lt _ (by omega)
       generalize m % S.length = q at *
       have cR2 := Tryz.Parse_c hm (S.take q) (by simp; omega)
       have hpe2 : parseF (S.take q) = ([], 0, 10) := by
         have := prs_part (len := (S.take q).length) (by simp; omega) l [] 0 q g2 (by simp; omega) (by omega) (by omega)
         rw [hS] at this
         exact this
       rw [hpe2] at cR2
       unfold prsV at cR2
       dsimp only at cR2
       have hS0 : ¬ S = [] := by rintro rfl; simp at hlen; omega
       have cE := fun bb => Tryz.Equal_c l l (by omega) bb
       have et : List.take q (S.map byteV) = (S.take q).map byteV := List.map_take.symm
       simp [go_sem, hw]
       refine ⟨by omega, hS0, by omega, ?_⟩
       rw [et]
       refine callK_pure cR2 ?_
       simp [go_sem, hlen2]
       refine gK_pure (cE _) (by simp) (by simp [go_sem]) ?_
       simp [go_sem, hlen2]
       refine gK_pure cA (by simp) (by simp [go_sem, hlen2]) ?_
       simp [go_sem, hlen2]
       exact ret_pure (by simp [go_sem]) ⟨by simp [go_sem], rfl⟩
     · have hp : prtR l = .tup [.str [], .int .i64 (chkL l)] := by unfold prtR; rw [if_neg hc]
       rw [hp] at cP
       simp [go_sem, hb']
       refine callK_pure cP ?_
       simp [go_sem, hc]
       refine gK_pure cC (by simp) (by simp [go_sem]) ?_
       simp [go_sem]
       refine gK_pure cA (by simp) (by simp [go_sem]) ?_
       simp [go_sem]
       exact ret_pure (by simp [go_sem]) ⟨by simp [go_sem], rfl⟩
 · simp [go_sem]
   refine callK_pure cA ?_
   simp [go_sem]
   exact ret_pure (by simp [go_sem]) ⟨by simp [go_sem], rfl⟩
end Go.Proofs
