/- Texts of the proof, put together: PlY, PlZ. -/
import Derived.Test.YtbonmihbgcofpaaGb

/- Code is sound; functions; rounds. -/
set_option linter.unusedSimpArgs false
set_option linter.unusedVariables false
namespace Go.Pl
open Go

theorem slk_keep (sl : Nat → V) (t : Nat) : ∀ (ks : List Nat), slk (ks.map fun k => (k, sl k)) t = .unk ∨ slk (ks.map fun k => (k, sl k)) t = sl t
  | [] => .inl rfl
  | k :: ks => by
    simp only [List.map, slk]
    by_cases h : t = k
    · subst h; simp
    · rw [if_neg h]; exact slk_keep sl t ks

theorem keep_cov (st : St) (ks : List Nat) : Cov st (st.keep ks) := by
  refine ⟨Nat.le_refl _, fun t => ?_, SubBx.refl _⟩
  rcases slk_keep st.sl t ks with h | h
  · exact .inl h
  · exact .inr (.inl h)

theorem compile_reg {c : Code} {d : Bool} {l : List POp} (h : compile c = .reg d l []) : ∃ id ops, c = .region id ops d ∧ (d = true → lexC ops = true) ∧ l = ops.toList.map (compileOp ops) := by
  cases c with
  | region id ops draw =>
    unfold compile at h
    split at h
    · split at h <;> cases h
    · rename_i hd
      split at h
      · cases h
      · injection h with h1 h2
        subst h1 h2
        refine ⟨id, ops, rfl, ?_, rfl⟩
        intro hdr
        subst hdr
        simpa using hd
  | _ => simp [compile] at h

theorem compile_regF {c : Code} {un : List (Nat × Nat)} {l : List POp} (h : compile c = .regF un l []) : ∃ id ops, c = .region id ops true ∧ lexD ops = true ∧ un = lexU ops ∧ l = ops.toList.map (compileOp ops) := by
  cases c with
  | region id ops draw =>
    unfold compile at h
    split at h
    · rename_i hd
      simp only [Bool.and_eq_true] at hd
      obtain ⟨rfl, _⟩ := hd
      split at h
      · rename_i hD
        injection h with h1 h2
        exact ⟨id, ops, rfl, hD, h1.symm, h2.symm⟩
      · cases h
    · split at h
      · cases h
      · cases h
  | _ => simp [compile] at h
theorem compile_regB {c : Code} {l : List POp} (h : compile c = .regB l []) : ∃ id ops, c = .region id ops true ∧ lexC ops = true ∧ lastB ops = true ∧ l = ops.toList.map (compileOp ops) := by
  cases c with
  | region id ops draw =>
    unfold compile at h
    split at h
    · split at h <;> cases h
    · rename_i hd
      split at h
      · rename_i hb
        simp only [Bool.and_eq_true] at hb
        obtain ⟨rfl, hb⟩ := hb
        injection h with h1
        exact ⟨id, ops, rfl, by simpa using hd, hb, h1.symm⟩
      · cases h
  | _ => simp [compile] at h

section
variable {P : Program}

theorem Says.mono {M : Off} {ro : Option Nat} {c : Code} {Q Q' : Exit → St → Prop} {st : St} (h : Says P M ro c Q st) (hq : ∀ e s, Q e s → Q' e s) : Says P M ro c Q' st := by
  intro n β a w hr
  refine wpIn_mono (h n β a w hr) ?_
  rintro e a' w' ⟨M', st', β', h1, h2⟩
  exact ⟨M', st', β', hq _ _ h1, h2⟩

theorem absOps_mono {d : Bool} {ops : Array Oper} {K K' : St → Prop} (hm : ∀ s, K s → K' s) : ∀ (l : List Oper) (st : St), absOps P d ops K l st → absOps P d ops K' l st
  | [], st, h => hm st h
  | o :: l, st, h => absG_mono (fun s hs => absOps_mono hm l s hs) h

theorem absOpsB_mono {ops : Array Oper} {K K' : St → Prop} (hm : ∀ s, K s → K' s) : ∀ (l : List Oper) (st : St), absOpsB P ops K l st → absOpsB P ops K' l st
  | [], st, h => hm st h
  | [o], st, h => absG_mono hm h
  | o :: o2 :: l, st, h => absG_mono (fun s hs => absOpsB_mono hm (o2 :: l) s hs) h
theorem says_regB (hm : P.follows .mixedOrders = true) {M : Off} {ro : Option Nat} {id : Nat} {ops : Array Oper} {Q : Exit → St → Prop} {st : St} (hl : lexC ops = true) (hb : lastB ops = true) {l : List POp} (hl2 : l.map POp.clr = ops.toList.map (compileOp ops)) (h : opsB P (Q .normal) l st) : Says P M ro (.region id ops true) (fun e s => e = .normal ∧ Q .normal s) st := by
  intro n β a w hr
  refine wpIn_region_any hm ?_
  have h := absOpsB_mono (P := P) (ops := ops) (K' := fun s => Exit.normal = .normal ∧ Q .normal s) (fun s hs => ⟨rfl, hs⟩) _ _ (opsB_absOps _ _ _ hl2 (lastB_op hb) h)
  have hr' : Rs P β M st a w.drew := ⟨hr.ok.drew, fun t => (Tr.drew hr.ok).rep (hr.sl t), hr.sz, hr.df, hr.bs, hr.gl.imp fun _ _ hh => (Tr.drew hr.ok).rep hh⟩
  have h1 := absAnyB_lex (P := P) hl (lastB_waits hb) ops.toList 0 (Array.replicate ops.size false) st (fun j => by simp) (by simp) (by simp) (fun j hj => by simp [hj]) h
  have h2 := absAnyB_sound (ro := ro) (n := n) (M := M) (Q := fun e a' w' => ∃ M' st' β', (e = .normal ∧ Q .normal st') ∧ MExt M M' w ∧ Rs P β' M' st' a' w' ∧ Tr β st.bx w β' st'.bx w') _ _ st a w.drew β h1 hr' (fun st' β' a' w' hk hr2 ht => ⟨M, st', β', hk, MExt.refl _ _, hr2, (Tr.drew hr.ok).trans ht⟩)
  simpa using h2

theorem says_reg (hm : P.follows .mixedOrders = true) {M : Off} {ro : Option Nat} {id : Nat} {ops : Array Oper} {d : Bool} {Q : Exit → St → Prop} {st : St} (hl : d = true → lexC ops = true) {l : List POp} (hl2 : l.map POp.clr = ops.toList.map (compileOp ops)) (h : opsP P d (Q .normal) l st) : Says P M ro (.region id ops d) (fun e s => e = .normal ∧ Q .normal s) st := by
  cases d with
  | true => exact says_region hm hl (absOps_mono (fun s hs => ⟨rfl, hs⟩) _ _ (opsP_absOps rfl _ _ _ hl2 h))
  | false =>
    intro n β a w hr
    refine wpIn_region ?_
    have h1 := opsP_in (P := P) (ro := ro) (n := n) (M := M) (Q := fun e a' w' => ∃ M' st' β', (e = .normal ∧ Q .normal st') ∧ MExt M M' w ∧ Rs P β' M' st' a' w' ∧ Tr β st.bx w β' st'.bx w') ops.toList l 0 st a w β hl2 (fun j => by simp) h hr (fun st' β' a' w' hk hr' ht => ⟨M, st', β', ⟨rfl, hk⟩, MExt.refl _ _, hr', ht⟩)
    simpa [List.range_eq_range'] using h1

theorem opF_absX {ops : Array Oper} {fl : Nat → Bool} {i : Nat} {o : Oper} {q : POp} (hq : q.clr = compileOp ops o) (ho : ops[i]? = some o) (hf : fl i = q.fz) {K : St → Prop} {st : St} (h : opF P q K st) : absX P ops fl i K st := by
  rw [absX_at ho, hf]
  obtain ⟨qd, qop, qg, qf⟩ := q
  obtain ⟨odst, oop, otype, opos, oafter, oguard⟩ := o
  unfold opF at h
  simp only [POp.clr] at hq h ⊢
  cases oguard with
  | none =>
    simp only [compileOp, POp.mk.injEq] at hq
    obtain ⟨rfl, rfl, rfl, _⟩ := hq
    by_cases hb : (qf && fzb qop) = true
    · rw [if_pos hb] at h ⊢
      exact ⟨_, ⟨h.1, rfl⟩, h.2.1, h.2.2⟩
    · rw [if_neg hb] at h ⊢
      exact opP0_absG rfl (by simpa [compileOp] using h)
  | some gw =>
    obtain ⟨gg, w⟩ := gw
    cases hd : (ops[gg]?).bind (·.dst) with
    | none =>
      simp only [compileOp, hd, POp.mk.injEq] at hq
      obtain ⟨rfl, rfl, rfl, _⟩ := hq
      have hb : ¬ (qf && fzb (Op.ready 0)) = true := by simp [fzb]
      rw [if_neg hb] at h
      unfold opP0 at h
      simp only [yieldOf] at h
      unfold absOp at h
      simp [isEv, POp.oper] at h
    | some d =>
      simp only [compileOp, hd, POp.mk.injEq] at hq
      obtain ⟨rfl, rfl, rfl, _⟩ := hq
      by_cases hb : (qf && fzb qop) = true
      · rw [if_pos hb] at h ⊢
        simp only at h
        split at h
        · rename_i c hc
          refine ⟨_, ?_, h.2.1, h.2.2⟩
          unfold YF
          simp only
          exact ⟨_, by simp only [wantedV, hd, hc], h.1, rfl⟩
        · exact h.elim
      · rw [if_neg hb] at h ⊢
        exact opP0_absG (ops := ops) rfl (by simpa [compileOp, hd] using h)

theorem opsF_chain {ops : Array Oper} {fl : Nat → Bool} {K : St → Prop} : ∀ (l : List Oper) (ql : List POp) (k : Nat) (st : St), ql.map POp.clr = l.map (compileOp ops) → (∀ j, l[j]? = ops[k + j]?) → (∀ j q, ql[j]? = some q → fl (k + j) = q.fz) → opsF P K ql st → chainT (absX P ops fl) K k l.length st
  | [], [], k, st, _, _, _, h => h
  | o :: l, q :: ql, k, st, hq, hl, hf, h => by
    simp only [List.map_cons, List.cons.injEq] at hq
    have h0 : ops[k]? = some o := by simpa using (hl 0).symm
    exact absX_ok.mono _ _ _ _ (fun s hs => opsF_chain l ql (k + 1) s hq.2 (fun j => by have := hl (j + 1); simpa [Nat.add_assoc, Nat.add_comm 1 j] using this) (fun j q' hj => by have := hf (j + 1) q' (by simpa using hj); simpa [Nat.add_assoc, Nat.add_comm 1 j] using this) hs) (opF_absX hq.1 h0 (by simpa using hf 0 q rfl) h)
  | [], q :: ql, k, st, hq, _, _, h => by simp at hq
  | o :: l, [], k, st, hq, _, _, h => by simp at hq

theorem fillV_fillL (st : St) : ∀ (ps : List (Nat × Operand)) (es : List V), fillV st es ps = fillL es (ps.map fun p => (p.1, st.get p.2))
  | [], es => rfl
  | (i, x) :: ps, es => by simp only [fillV, List.map_cons, fillL]; exact fillV_fillL st ps _

theorem finB_ok {β : Beta} {M : Off} {bx : Boxes} {w : World} (h : WOk β M bx w) : FinB bx := by
  obtain ⟨n, hn⟩ := h.fin
  refine ⟨n, fun b hb => ?_⟩
  cases hx : bx b with
  | none => rfl
  | some box =>
    rcases h.live b box hx with ⟨h1, _⟩ | ⟨k, h1, _⟩ <;> (rw [hn b hb] at h1; cases h1)

theorem bldE_FP {t : TypeId} {len : Nat} {parts : List (Nat × Operand)} {d : Option Tmp} {K : St → Prop} {st : St} (h1 : (bldE P t len (parts.map fun p => (p.1, st.get p.2))).1) (h2 : dstOk st d) (h3 : FinB st.bx) (h4 : K (st.put d (bldE P t len (parts.map fun p => (p.1, st.get p.2))).2)) : bldFP P t len parts d K st := by
  unfold bldE at h1 h4
  unfold bldFP
  split at h1
  · rename_i e hk
    simp only [hk] at h4 ⊢
    split at h1
    · rename_i z hz
      simp only [hz] at h4 ⊢
      obtain ⟨g1, g2, g3, g4⟩ := h1
      refine ⟨⟨g1, g2, g3, fun p hp => g4 (p.1, st.get p.2) (List.mem_map.2 ⟨p, hp, rfl⟩)⟩, h2, h3, ?_⟩
      rw [fillV_fillL]
      exact h4
    · exact h1.elim
  · exact h1.elim

theorem load_none {bx : Boxes} {t : TypeId} {a : V} (h : (loadV P (fun _ => none) t a).1) : loadV P bx t a = loadV P (fun _ => none) t a := by
  unfold loadV at h ⊢
  split at h
  · rename_i e o he; simp only [he]
  · exact h.elim
  · exact h.elim

theorem rs_dead {β : Beta} {M : Off} {st : St} {d : Option Tmp} {x : V} (y : V) {a : Act} {w : World} (h : Rs P β M (st.put d (.dead x)) a w) : Rs P β M (st.put d (.dead y)) a w := by
  cases d with
  | none => exact h
  | some d =>
    refine ⟨h.ok, fun t => ?_, h.sz, h.df, h.bs, h.gl⟩
    have := h.sl t
    simp only [St.put, upd] at this ⊢
    by_cases e : t = d
    · rw [if_pos e] at this ⊢
      generalize a.tmps.getD t undef = u at this ⊢
      cases this
      exact .dead _
    · rw [if_neg e] at this ⊢
      exact this

theorem absX_in {ro : Option Nat} {n : Nat} {β : Beta} {M : Off} {w : World} {ops : Array Oper} {fl : Nat → Bool} {o : Oper} {i : Nat} {st : St} {a : Act} {K : St → Prop} {K' : Act → World → Prop} {Q : Exit → Act → World → Prop} (hi : ops[i]? = some o) (h : absX P ops fl i K st) (hr : Rs P β M st a w) (hK : Kont P β M st w K K') :
    wpOpIn (rf ro) n P ops Q i K' a w := by
  rw [absX_at hi] at h
  by_cases hf : (fl i && fzb o.op) = true
  · rw [if_pos hf] at h
    obtain ⟨v, hy, hd, hk⟩ := h
    have hfz : fzb o.op = true := by simp only [Bool.and_eq_true] at hf; exact hf.2
    obtain ⟨odst, oop, otype, opos, oafter, oguard⟩ := o
    simp only at hfz hd hk
    unfold YF at hy
    -- what is done where it is carried out, what is forgotten where it is not
    cases oguard with
    | none =>
      obtain ⟨h1, rfl⟩ := hy
      cases oop <;> simp only [fzb, Bool.false_eq_true] at hfz
      case load t x =>
        refine absG_sound (d := true) hi ?_ hr hK
        unfold absG absOp
        simp only [isEv, if_true, ev]
        simp only [evF] at h1 hk
        rw [load_none h1]
        exact ⟨h1, hd, hk⟩
      case buildSlice t len parts =>
        refine bldF_in (qd := odst) (qg := none) (by rfl) hi ?_ hr hK
        exact bldE_FP h1 hd (finB_ok hr.ok) hk
    | some gw =>
      obtain ⟨g, want⟩ := gw
      obtain ⟨wb, hwb, h1, rfl⟩ := hy
      have hK2 : ∀ x, Kont P β M st w (fun s => (wb = true ∧ K s) ∨ (wb = false ∧ s = st.put odst (.dead x))) K' := by
        rintro x st' β' a' w' (⟨rfl, hks⟩ | ⟨rfl, rfl⟩) hr' ht'
        · exact hK _ _ _ _ hks hr' ht'
        · exact hK _ _ _ _ hk (rs_dead _ hr') (by cases odst <;> exact ht')
      cases oop <;> simp only [fzb, Bool.false_eq_true] at hfz
      case load t x =>
        refine absG_sound (d := true) (K := fun s => (wb = true ∧ K s) ∨ (wb = false ∧ s = st.put odst (.dead (loadV P st.bx t (gv P st x)).2.strip))) hi ?_ hr (hK2 _)
        unfold absG
        simp only [hwb, isEv, if_true, ev]
        simp only [evF] at h1 hk
        refine ⟨fun hw => by rw [load_none (h1 hw)]; exact h1 hw, hd, ?_⟩
        cases wb
        · exact .inr ⟨rfl, rfl⟩
        · refine .inl ⟨rfl, ?_⟩
          rw [load_none (h1 rfl)]
          exact hk
      case buildSlice t len parts =>
        unfold wantedV at hwb
        cases hdd : (ops[g]?).bind (·.dst) with
        | none => simp [hdd] at hwb
        | some s =>
          simp only [hdd] at hwb
          split at hwb
          · rename_i c hc
            injection hwb with hwb
            refine bldF_in (t := t) (len := len) (parts := parts) (qd := odst) (qg := some (s, want)) (K := fun s => (wb = true ∧ K s) ∨ (wb = false ∧ s = st.put odst (.dead .unk))) (by simp [compileOp, hdd]) hi ?_ hr (hK2 _)
            simp only [bldGP, hc]
            rw [hwb]
            refine ⟨fun hw => bldE_FP (h1 hw) hd (finB_ok hr.ok) (.inl ⟨hw, ?_⟩), fun hw => ⟨hd, .inr ⟨hw, trivial⟩⟩⟩
            subst hw
            exact hk
          · cases hwb
  · rw [if_neg hf] at h
    exact absG_sound hi h hr hK

theorem lexD_at {ops : Array Oper} (h : lexD ops = true) {k : Nat} {ok : Oper} (hk : ops[k]? = some ok) :
    (∀ e ∈ ok.after, Region.binds .any e = true → e.on < k) ∧ ∀ j oj, ops[j]? = some oj → k < j → ¬ Waits (masks ops) j k → ok.apart ops oj = true := by
  have hlt := (Array.getElem?_eq_some_iff.1 hk).1
  simp only [lexD, List.all_eq_true, List.mem_range] at h
  have h1 := h k hlt
  simp only [hk, Bool.and_eq_true] at h1
  obtain ⟨h2, h3⟩ := h1
  refine ⟨fun e he hb => ?_, fun j oj hj hkj hw => ?_⟩
  · have := Array.all_eq_true_iff_forall_mem.1 h2 e he
    simpa [hb] using this
  · have hjlt := (Array.getElem?_eq_some_iff.1 hj).1
    have h4 := List.all_eq_true.1 h3 j (List.mem_range.2 hjlt)
    simp only [hj, Bool.or_eq_true, decide_eq_true_eq] at h4
    rcases h4 with h4 | h4 | h4
    · omega
    · exact absurd h4 hw
    · exact h4

theorem lexU_mem {ops : Array Oper} {k j : Nat} {ok oj : Oper} (hk : ops[k]? = some ok) (hj : ops[j]? = some oj) (hkj : k < j) (hw : ¬ Waits (masks ops) j k) (ha : ¬ apartC ops ok oj = true) : (k, j) ∈ lexU ops := by
  have h1 := (Array.getElem?_eq_some_iff.1 hk).1
  have h2 := (Array.getElem?_eq_some_iff.1 hj).1
  have ha' : apartC ops ok oj = false := by simpa using ha
  have hw' : ((masks ops).getD j 0).testBit k = false := by unfold Waits at hw; simpa using hw
  unfold lexU
  simp only [List.mem_flatMap, List.mem_range, List.mem_map, List.mem_filter]
  exact ⟨k, h1, j, ⟨h2, by simp only [hk, hj, ha', hkj, hw', decide_true, Bool.not_false, Bool.and_self]⟩, rfl⟩

theorem says_regF (hm : P.follows .mixedOrders = true) {M : Off} {ro : Option Nat} {id : Nat} {ops : Array Oper} {Q : Exit → St → Prop} {st : St} (hD : lexD ops = true) {l : List POp} (hl2 : l.map POp.clr = ops.toList.map (compileOp ops))
    (hU : ((lexU ops).all fun p => fzAt l p.1 || fzAt l p.2) = true) (h : opsF P (Q .normal) l st) : Says P M ro (.region id ops true) (fun e s => e = .normal ∧ Q .normal s) st := by
  intro n β a w hr
  refine wpIn_region_any hm ?_
  have hr' : Rs P β M st a w.drew := ⟨hr.ok.drew, fun t => (Tr.drew hr.ok).rep (hr.sl t), hr.sz, hr.df, hr.bs, hr.gl.imp fun _ _ hh => (Tr.drew hr.ok).rep hh⟩
  let fl : Nat → Bool := fun i => match l[i]? with | some q => q.fz | none => false
  -- a flag at an operation whose compact form has the same operation
  have hfz : ∀ k ok, ops[k]? = some ok → fzAt l k = true → clX fl k ok = true := by
    intro k ok hk hz
    unfold fzAt at hz
    cases hq : l[k]? with
    | none => simp [hq] at hz
    | some q =>
      simp only [hq, Bool.and_eq_true] at hz
      have e1 : (l.map POp.clr)[k]? = some q.clr := by simp [hq]
      rw [hl2] at e1
      have e2 : (ops.toList.map (compileOp ops))[k]? = some (compileOp ops ok) := by simp [hk]
      rw [e2] at e1
      injection e1 with e1
      have e3 : q.op = ok.op := by
        have h5 : (compileOp ops ok).op = q.op := by rw [e1]; rfl
        unfold compileOp at h5
        split at h5
        · exact h5.symm
        · split at h5
          · exact h5.symm
          · rw [← h5] at hz; simp [fzb] at hz
      simp only [clX, Bool.or_eq_true, Bool.and_eq_true]
      refine .inl ⟨?_, by rw [← e3]; exact hz.2⟩
      show (match l[k]? with | some q => q.fz | none => false) = true
      simp only [hq]
      exact hz.1
  have hLex : LexT ops (absX P ops fl) := by
    refine ⟨fun k ok hk => (lexD_at hD hk).1, fun k ok hk j oj hj hkj hw K st hh => comm_X hk hj ?_ hh⟩
    by_cases ha : apartC ops ok oj = true
    · exact .inl ha
    · refine .inr ⟨(lexD_at hD hk).2 j oj hj hkj hw, ?_⟩
      have := List.all_eq_true.1 hU _ (lexU_mem hk hj hkj hw ha)
      simp only [Bool.or_eq_true] at this
      exact this.imp (hfz k ok hk) (hfz j oj hj)
  have hch := opsF_chain (fl := fl) ops.toList l 0 st hl2 (fun j => by simp) (fun j q hj => by
    show (match l[0 + j]? with | some q => q.fz | none => false) = q.fz
    simp [hj]) h
  have h1 := anyT_lex (K := Q .normal) absX_ok hLex ops.toList.length 0 (Array.replicate ops.size false) st (by simp) (by simp) (fun j hj => by simp [hj]) hch
  have h2 := anyT_sound (P := P) (ro := ro) (n := n) (M := M) (ops := ops) (Q := fun e a' w' => ∃ M' st' β', (e = .normal ∧ Q .normal st') ∧ MExt M M' w ∧ Rs P β' M' st' a' w' ∧ Tr β st.bx w β' st'.bx w') (fun i o K st a w β K' hi h hr hK => absX_in hi h hr hK) _ _ st a w.drew β h1 hr' (fun st' β' a' w' hk hr2 ht => ⟨M, st', β', ⟨rfl, hk⟩, MExt.refl _ _, hr2, (Tr.drew hr.ok).trans ht⟩)
  simpa using h2

theorem says_range {M : Off} {g : Operand} {ps : Array Tmp} {x y : PC} {ca cb : Code} {Q : Exit → St → Prop} {st : St} (hc : goodC x y ca cb) (h : pw P (.rangeFunc g ps x y) Q st) : Says P M none (.rangeFunc g ps ca cb) Q st := by
  intro n β a w hr
  unfold pw at h
  split at h
  rotate_left
  · exact h.elim
  rename_i gf caps hs
  obtain ⟨hlive, hcall⟩ := h
  obtain ⟨b, hβ, hb⟩ := hr.ok.fresh
  specialize hcall b hb
  refine wpIn_rangeFunc ?_
  intro fn hfn
  have rg := hr.get g
  rw [live_of hlive hs] at rg
  generalize hgu : a.eval g = u at rg
  cases rg with
  | fn _ _ us hlen hreps =>
  obtain ⟨rec, hrec⟩ : ∃ rec : Loop, rec = { state := .ready, pending := none, fn, tmps := a.tmps, params := ps, assign := ca, body := cb, defers := w.heap.size } := ⟨_, rfl⟩
  obtain ⟨hw1, ht1, hx1⟩ := alloc_off hr.ok (.deferred (some []))
  obtain ⟨M1, hM1⟩ : ∃ M1, M.set w.heap.size (some (.deferred (some []))) = M1 := ⟨_, rfl⟩
  obtain ⟨w1, hw1e⟩ : ∃ w1, w.alloc (.deferred (some [])) = w1 := ⟨_, rfl⟩
  rw [hM1] at hw1 hx1
  rw [hw1e] at hw1 ht1
  have hsz1 : w1.heap.size = w.heap.size + 1 := by rw [← hw1e]; simp
  have hslots1 : ∀ t, Rep β w1 (Fz β M1 st.bx w1) (st.sl t) (a.tmps.getD t undef) := fun t => ht1.repx hx1 (hr.sl t)
  have htm : rec.tmps = a.tmps := by rw [hrec]
  have hext2 : ∀ q x, β q = some x → upd β b (some (some w1.heap.size)) q = some x := by
    intro q x hx
    rw [upd_ne _ _ (by rintro rfl; rw [hβ] at hx; cases hx)]; exact hx
  have hshape2 : ∀ k x, w1.shape? k = some x → (w1.alloc (.loop rec)).shape? k = some x := fun k x hx => by
    have : k < w1.heap.size := by
      rcases Nat.lt_or_ge k w1.heap.size with h1 | h1
      · exact h1
      · simp [World.shape?, Array.getElem?_eq_none h1] at hx
    rw [shape_heap (Go.RowKit.Below.heap_alloc w1 _ k this)]; exact hx
  obtain ⟨hw2, ht2⟩ := alloc_any hw1 hβ hb (.loop rec) (.loop none ps (goodC x y) st.n st.sl) (fun _ h => by cases h) (fun F' hF' =>
    ⟨rec, World.alloc_heap_new w1 _, by rw [hrec]; rfl, by rw [hrec], by rw [hrec], by rw [hrec]; exact hc, by rw [hrec]; exact hr.sz, fun t => by rw [htm]; exact (hslots1 t).mono hext2 hF' hshape2⟩)
  obtain ⟨w2, hw2e⟩ : ∃ w2, w1.alloc (.loop rec) = w2 := ⟨_, rfl⟩
  rw [hw2e] at hw2 ht2
  rw [hsz1] at hw2 ht2
  have henter : (Instr.enterLoop fn a.tmps ps ca cb (rf none).round).run P w = .ok (w.heap.size + 1, [{ target := .collected w.heap.size, args := #[] }]) w2 := by
    rw [← hw2e, ← hw1e, hrec]; exact run_enterLoop_outer _ _ _ _ _
  refine ⟨w.heap.size + 1, [{ target := .collected w.heap.size, args := #[] }], w2, { target := .fn (.func gf) us, args := #[.func (.yield (w.heap.size + 1)) #[] #[]] }, w2, gf, #[.func (.yield (w.heap.size + 1)) #[] #[]] ++ us, w2, henter, ?_, fun _ _ => trivial, ?_, fun hd => by simp [rf, Fence.wide] at hd, ?_⟩
  · simp only [resolve, hgu]
    simp [go_sem]
  · simp [invoke, go_sem, hcall.1]
  · have hb2 : upd β b (some (some (w.heap.size + 1))) b = some (some (w.heap.size + 1)) := upd_eq _ _ _
    have hcc := hcall.2 (upd β b (some (some (w.heap.size + 1)))) M1 w2 (#[.func (.yield (w.heap.size + 1)) #[] #[]] ++ us) hw2 (hr.gl.imp fun _ _ hh => ht2.rep (M := M1) (ht1.repx hx1 hh)) (by simp [hlen]; omega) (fun i c hci => by
      match i, hci with
      | 0, hci =>
        simp at hci; subst hci
        have e0 : (#[Value.func (.yield (w.heap.size + 1)) #[] #[]] ++ us).getD 0 undef = Value.func (.yield (w.heap.size + 1)) #[] #[] := by
          simp [Array.getElem?_append]
        rw [e0]
        exact Rep.yl b (w.heap.size + 1) hb2
      | i + 1, hci =>
        simp only [List.getElem?_cons_succ] at hci
        have h3 := ht2.rep (M := M1) (ht1.repx hx1 (hreps i c hci))
        have e : (#[Value.func (.yield (w.heap.size + 1)) #[] #[]] ++ us).getD (i + 1) undef = us.getD i undef := by
          simp [Array.getElem?_append]
        rw [e]
        exact h3)
    refine CallsIn.mono (show CallsIn (rf none) (n - 1) P gf _ w2 _ from callsIn_wide.2 hcc) ?_
    rintro e w3 ⟨v, r, bx', β', rfl, hdone, hok3, ht3, _⟩
    have hb3 : β' b = some (some (w.heap.size + 1)) := ht3.ext _ _ hb2
    have htot : Tr β st.bx w β' bx' w3 := ht1.trans (ht2.trans ht3)
    have hsl3 : ∀ t, Rep β' w3 (Fz β' M1 bx' w3) (st.sl t) (a.tmps.getD t undef) := fun t => ht3.rep (ht2.rep (hslots1 t))
    have hMD : M1 w.heap.size = some (.deferred (some [])) := by rw [← hM1]; exact Off.set_eq _ _ _
    -- the end, whatever is pending
    have fin : ∀ pend : Option Code, bx' b = some (.loop pend ps (goodC x y) st.n st.sl) → ∃ w4, (Instr.endLoop (w.heap.size + 1)).run P w3 = .ok pend w4 ∧
        Rs P β' M1 ⟨st.n, st.sl, upd bx' b none⟩ { tmps := a.tmps, defers := { target := .collected w.heap.size, args := #[] } :: a.defers } w4 ∧ Tr β st.bx w β' (upd bx' b none) w4 := by
      intro pend hbox
      obtain ⟨hlt, hM, rec', hrec', hstate, hpend, hps, hgood, hsz', _⟩ := live_block hok3 hbox hb3
      have hend := run_endLoop (P := P) hrec' (by rw [hstate]; split <;> simp)
      rw [hpend] at hend
      have hs3 : w3.shape? (w.heap.size + 1) = none := by simp [World.shape?, hrec']
      obtain ⟨hok4, ht4⟩ := box_put hok3 hbox hb3 hs3 (.loop { rec' with state := .exhausted })
      rw [hpend] at hok4 ht4
      refine ⟨_, hend, ⟨hok4, fun t => ht4.rep (hsl3 t), hr.sz, ⟨w.heap.size, rfl, ?_, hMD, ?_⟩, ?_, hr.gl.imp fun _ _ hh => ht4.rep (ht3.rep (ht2.rep (M := M1) (ht1.repx hx1 hh)))⟩, htot.trans ht4⟩
      · rw [hx1.base]; exact hr.bs
      · rw [hx1.base]
        refine hr.df.mono (fun k o hk => ?_)
        have e : k ≠ w.heap.size := by have := hr.ok.mlt' hk; omega
        rw [upd_ne _ _ e]
        exact hx1.le k o hk
      · rw [hx1.base]
        exact Nat.le_trans hr.bs (htot.trans ht4).size
    rcases hdone with ⟨hbox, hq⟩ | ⟨hbox, hq⟩ | ⟨id, hbox, hq⟩
    · obtain ⟨w4, h1, h2, h3⟩ := fin none hbox
      exact ⟨none, w4, h1, M1, _, β', hq, hx1, h2, h3⟩
    · obtain ⟨w4, h1, h2, h3⟩ := fin (some .ret) hbox
      exact ⟨some .ret, w4, h1, wpIn_ret ⟨M1, _, β', hq, hx1, h2, h3⟩⟩
    · obtain ⟨w4, h1, h2, h3⟩ := fin (some (.exit id)) hbox
      exact ⟨some (.exit id), w4, h1, wpIn_exit ⟨M1, _, β', hq, hx1, h2, h3⟩⟩

end
end Go.Pl

/- All code; rounds; functions. -/
set_option linter.unusedSimpArgs false
set_option linter.unusedVariables false
namespace Go.Pl
open Go
section
variable {P : Program}

theorem pw_sound (hm : P.follows .mixedOrders = true) {ro : Option Nat} : ∀ (pc : PC) (c : Code) (M : Off) (Q : Exit → St → Prop) (st : St), (ro = none ∨ noRange pc = true) → compile c = erase pc → pw P pc Q st → Says P M ro c Q st
  | .skip, c, M, Q, st, hn, hc, h => by
    cases c <;> simp only [compile, erase, reduceCtorEq] at hc
    · exact fun n β a w hr => wpIn_skip ⟨M, st, β, h, MExt.refl _ _, hr, Tr.refl _ _ _⟩
    · split at hc <;> first | (cases hc; done) | (split at hc <;> cases hc)
    · exact fun n β a w hr => wpIn_label ⟨M, st, β, h, MExt.refl _ _, hr, Tr.refl _ _ _⟩
  | .reg d l ks, c, M, Q, st, hn, hc, h => by
    obtain ⟨id, ops, rfl, hl, hl2⟩ := compile_reg hc
    intro n β a w hr
    refine wpIn_mono (says_reg (M := M) (ro := ro) (Q := fun e s => e = .normal → Q .normal (s.keep ks)) (id := id) hm hl hl2 (by
      unfold pw at h
      have e : (fun s : St => Q .normal (s.keep ks)) = (fun s : St => Exit.normal = Exit.normal → Q .normal (s.keep ks)) := by
        funext s; exact propext ⟨fun h _ => h, fun h => h rfl⟩
      rw [e] at h
      exact h) n β a w hr) ?_
    rintro e a' w' ⟨M', st', β', ⟨rfl, hq⟩, hx, hr', ht⟩
    exact ⟨M', _, β', hq rfl, hx, (keep_cov st' ks).rs hr', ht⟩
  | .regB l ks, c, M, Q, st, hn, hc, h => by
    obtain ⟨id, ops, rfl, hl, hb, hl2⟩ := compile_regB hc
    intro n β a w hr
    refine wpIn_mono (says_regB (M := M) (ro := ro) (Q := fun e s => e = .normal → Q .normal (s.keep ks)) (id := id) hm hl hb hl2 (by
      unfold pw at h
      have e : (fun s : St => Q .normal (s.keep ks)) = (fun s : St => Exit.normal = Exit.normal → Q .normal (s.keep ks)) := by
        funext s; exact propext ⟨fun h _ => h, fun h => h rfl⟩
      rw [e] at h
      exact h) n β a w hr) ?_
    rintro e a' w' ⟨M', st', β', ⟨rfl, hq⟩, hx, hr', ht⟩
    exact ⟨M', _, β', hq rfl, hx, (keep_cov st' ks).rs hr', ht⟩
  | .regF un l ks, c, M, Q, st, hn, hc, h => by
    obtain ⟨id, ops, rfl, hD, rfl, hl2⟩ := compile_regF hc
    unfold pw at h
    intro n β a w hr
    refine wpIn_mono (says_regF (M := M) (ro := ro) (Q := fun e s => e = .normal → Q .normal (s.keep ks)) (id := id) hm hD hl2 h.1 (by
      have e : (fun s : St => Q .normal (s.keep ks)) = (fun s : St => Exit.normal = Exit.normal → Q .normal (s.keep ks)) := by
        funext s; exact propext ⟨fun h _ => h, fun h => h rfl⟩
      rw [e] at h
      exact h.2) n β a w hr) ?_
    rintro e a' w' ⟨M', st', β', ⟨rfl, hq⟩, hx, hr', ht⟩
    exact ⟨M', _, β', hq rfl, hx, (keep_cov st' ks).rs hr', ht⟩
  | .seq x y, c, M, Q, st, hn, hc, h => by
    cases c <;> simp only [compile, erase, reduceCtorEq] at hc
    · split at hc <;> first | (cases hc; done) | (split at hc <;> cases hc)
    rename_i a b
    injection hc with h1 h2
    have hn1 : ro = none ∨ noRange x = true := by rcases hn with hn | hn <;> simp_all [noRange]
    have hn2 : ro = none ∨ noRange y = true := by rcases hn with hn | hn <;> simp_all [noRange]
    intro n β ac w hr
    refine wpIn_seq (wpIn_mono (pw_sound hm x a M _ st hn1 h1 h n β ac w hr) ?_)
    rintro e a' w' ⟨M', st', β', hq, hx, hr', ht⟩
    cases e with
    | normal =>
      refine wpIn_mono (pw_sound hm y b M' Q st' hn2 h2 hq n β' a' w' hr') ?_
      rintro e2 a2 w2 ⟨M2, st2, β2, hq2, hx2, hr2, ht2⟩
      exact ⟨M2, st2, β2, hq2, hx.trans hx2 ht.size, hr2, ht.trans ht2⟩
    | _ => exact ⟨M', st', β', hq, hx, hr', ht⟩
  | .cond o x y, c, M, Q, st, hn, hc, h => by
    cases c <;> simp only [compile, erase, reduceCtorEq] at hc
    · split at hc <;> first | (cases hc; done) | (split at hc <;> cases hc)
    rename_i c' a b
    injection hc with h0 h1 h2
    subst h0
    have hn1 : ro = none ∨ noRange x = true := by rcases hn with hn | hn <;> simp_all [noRange]
    have hn2 : ro = none ∨ noRange y = true := by rcases hn with hn | hn <;> simp_all [noRange]
    intro n β ac w hr
    unfold pw at h
    split at h
    · rename_i t ht
      obtain ⟨hl, h3, h4⟩ := h
      have hrep := hr.get c'
      rw [live_of hl ht] at hrep
      refine wpIn_cond_split (t := t) hrep.bool_inv (fun ht => ?_) (fun ht => ?_)
      · exact pw_sound hm x a M Q st hn1 h1 (h3 ht) n β ac w hr
      · exact pw_sound hm y b M Q st hn2 h2 (h4 ht) n β ac w hr
    · exact h.elim
  | .block id x, c, M, Q, st, hn, hc, h => by
    cases c <;> simp only [compile, erase, reduceCtorEq] at hc
    · split at hc <;> first | (cases hc; done) | (split at hc <;> cases hc)
    rename_i id' c
    injection hc with h0 h1
    subst h0
    intro n β a w hr
    refine wpIn_block (wpIn_mono (pw_sound hm x c M _ st hn h1 h n β a w hr) ?_)
    rintro e a' w' ⟨M', st', β', hq, hx, hr', ht⟩
    cases e with
    | exit id' =>
      simp only [blockQ] at hq
      simp only [Exit.inBlock]
      split at hq
      · rename_i he; rw [if_pos he]; exact ⟨M', st', β', hq, hx, hr', ht⟩
      · rename_i he; rw [if_neg he]; exact ⟨M', st', β', hq, hx, hr', ht⟩
    | _ => exact ⟨M', st', β', hq, hx, hr', ht⟩
  | .loop x, c, M, Q, st, hn, hc, h => by
    cases c <;> simp only [compile, erase, reduceCtorEq] at hc
    · split at hc <;> first | (cases hc; done) | (split at hc <;> cases hc)
    rename_i c
    injection hc with h1
    intro n β a w hr
    obtain ⟨ι, C, μ, i0, hcv, hround⟩ := h
    refine wpIn_loop_ghost (fun n a' w' => ∃ i M' β', μ i = n ∧ MExt M M' w ∧ Rs P β' M' (C i) a' w' ∧ Tr β st.bx w β' (C i).bx w') (μ i0) ⟨i0, M, β, rfl, MExt.refl _ _, hcv.rs hr, hcv.bx.tr⟩ ?_
    rintro m a' w' ⟨i, M', β', rfl, hx, hr', ht⟩
    refine wpIn_mono (pw_sound hm x c M' _ (C i) hn h1 (hround i) n β' a' w' hr') ?_
    rintro e a2 w2 ⟨M2, st2, β2, hq, hx2, hr2, ht2⟩
    cases e with
    | normal =>
      obtain ⟨i', hcov, hlt⟩ := hq
      exact ⟨μ i', hlt, i', M2, β2, rfl, hx.trans hx2 ht.size, hcov.rs hr2, ht.trans (ht2.trans hcov.bx.tr)⟩
    | _ => exact ⟨M2, st2, β2, hq, hx.trans hx2 ht.size, hr2, ht.trans ht2⟩
  | .wk x, c, M, Q, st, hn, hc, h => by
    obtain ⟨st', hcv, h⟩ := h
    intro n β a w hr
    refine wpIn_mono (pw_sound hm x c M Q st' hn hc h n β a w (hcv.rs hr)) ?_
    rintro e a' w' ⟨M', st2, β', hq, hx, hr', ht⟩
    exact ⟨M', st2, β', hq, hx, hr', hcv.bx.tr.trans ht⟩
  | .fz t x, c, M, Q, st, hn, hc, h => by
    unfold pw at h
    split at h
    · rename_i b sz i o hsl
      split at h
      · rename_i ty sz' es hbx
        obtain ⟨rfl, hi, h⟩ := h
        have hcv : Cov st ⟨st.n, upd st.sl t (.ep (es.getD i .unk) o), upd st.bx b none⟩ := by
          refine ⟨Nat.le_refl _, fun s => ?_, fun b' => ?_⟩
          · by_cases e : s = t
            · subst e
              refine .inr (.inr ⟨1, ?_⟩)
              simp only [upd_eq, hsl, frz, hbx]
              rw [if_pos ⟨trivial, hi⟩]
            · exact .inr (.inl (upd_ne _ _ e))
          · by_cases e : b' = b
            · subst e; exact .inl (upd_eq _ _ _)
            · exact .inr (upd_ne _ _ e)
        intro n β a w hr
        refine wpIn_mono (pw_sound hm x c M Q _ hn hc h n β a w (hcv.rs hr)) ?_
        rintro e a' w' ⟨M', st2, β', hq, hx, hr', ht⟩
        exact ⟨M', st2, β', hq, hx, hr', hcv.bx.tr.trans ht⟩
      · exact h.elim
    · exact h.elim
  | .exit id, c, M, Q, st, hn, hc, h => by
    cases c <;> simp only [compile, erase, reduceCtorEq] at hc
    · split at hc <;> first | (cases hc; done) | (split at hc <;> cases hc)
    injection hc with h0
    subst h0
    exact fun n β a w hr => wpIn_exit ⟨M, st, β, h, MExt.refl _ _, hr, Tr.refl _ _ _⟩
  | .ret, c, M, Q, st, hn, hc, h => by
    cases c <;> simp only [compile, erase, reduceCtorEq] at hc
    · split at hc <;> first | (cases hc; done) | (split at hc <;> cases hc)
    exact fun n β a w hr => wpIn_ret ⟨M, st, β, h, MExt.refl _ _, hr, Tr.refl _ _ _⟩
  | .rangeFunc g ps x y, c, M, Q, st, hn, hc, h => by
    cases c <;> simp only [compile, erase, reduceCtorEq] at hc
    · split at hc <;> first | (cases hc; done) | (split at hc <;> cases hc)
    rename_i g' ps' a b
    injection hc with h0 h1 h2 h3
    subst h0 h1
    rcases hn with rfl | hn
    · exact says_range ⟨h2, h3⟩ h
    · simp [noRange] at hn
  | .bad, c, M, Q, st, hn, hc, h => h.elim

/-! ### Functions -/
theorem WOk.finB {β : Beta} {M : Off} {bx : Boxes} {w : World} (h : WOk β M bx w) : FinB bx := by
  obtain ⟨n, hn⟩ := h.fin
  refine ⟨n, fun b hb => ?_⟩
  cases hx : bx b with
  | none => rfl
  | some box =>
    rcases h.live b box hx with ⟨h1, _⟩ | ⟨k, h1, _⟩ <;> (rw [hn b hb] at h1; cases h1)

/-- A function's contract, from its compact form. -/
theorem abs_of (hm : P.follows .mixedOrders = true) {f : FuncId} {fn : Func} {pc : PC} {n : Nat} {rs : List ResultVar} (hf : P.funcs[f]? = some fn) (hb : ∃ c, fn.body = some c ∧ compile c = erase pc) (hent : ∀ vs w, (callFunc f vs).run P w = .ok (.enter f vs) w) (hn : fn.ntmps = n) (hrs : fn.results.toList = rs)
    {args : List V} {bx : Boxes} {Kc : V → Boxes → Prop} (h : FinB bx → pw P pc (fun e st => (e = .normal ∨ e = .ret) ∧ Ret P rs Kc st) (initSt n args bx)) : AbsCall P f args bx Kc := by
  obtain ⟨c, h1, h2⟩ := hb
  subst hn hrs
  exact absCall_of_says hf h1 hent fun M n β a w hr => pw_sound hm pc c M _ _ (.inl rfl) h2 (h hr.ok.finB) n β a w hr

/-! ### A round -/
def setPs : List Tmp → List V → (Nat → V) → (Nat → V)
  | p :: ps, v :: vs, sl => setPs ps vs (upd sl p v)
  | _, _, sl => sl

/-- What is asked of a round's end. -/
def roundQ (b : Nat) (ps : Array Tmp) (x y : PC) (n : Nat) (sl : Nat → V) (Kc : V → Boxes → Prop) : Exit → St → Prop
  | .normal, s => s.bx b = none → Kc (.bool true) (upd s.bx b (some (.loop none ps (goodC x y) n sl)))
  | .ret, s => s.bx b = none → Kc (.bool false) (upd s.bx b (some (.loop (some .ret) ps (goodC x y) n sl)))
  | .exit id, s => s.bx b = none → Kc (.bool false) (upd s.bx b (some (.loop (some (.exit id)) ps (goodC x y) n sl)))
  | _, _ => False

theorem setPs_rep {β : Beta} {w : World} {F : Nat → Prop} {n : Nat} : ∀ (ps : List Tmp) (args : List V) (vs : List Value) (sl : Nat → V) (tmps : Array Value), args.length = ps.length → vs.length = ps.length → (∀ p, p ∈ ps → p < n) → n ≤ tmps.size →
    (∀ (i : Nat) (c : V), args[i]? = some c → Rep β w F c (vs.getD i undef)) → (∀ t, Rep β w F (sl t) (tmps.getD t undef)) →
    n ≤ ((ps.zip vs).foldl (fun (t : Array Value) (x : Tmp × Value) => t.setIfInBounds x.1 x.2) tmps).size ∧ ∀ t, Rep β w F (setPs ps args sl t) (((ps.zip vs).foldl (fun (t : Array Value) (x : Tmp × Value) => t.setIfInBounds x.1 x.2) tmps).getD t undef)
  | [], [], [], sl, tmps, _, _, _, hn, _, hs => ⟨hn, hs⟩
  | p :: ps, c :: args, u :: vs, sl, tmps, h1, h2, hp, hn, ha, hs => by
    simp only [List.zip_cons_cons, List.foldl_cons, setPs]
    refine setPs_rep ps args vs _ _ (by simpa using h1) (by simpa using h2) (fun q hq => hp q (by simp [hq])) (by simpa using hn) (fun i c' hc => by simpa using ha (i + 1) c' (by simpa using hc)) (fun t => ?_)
    have hpn := hp p (by simp)
    simp only [upd]
    by_cases e : t = p
    · subst e
      rw [if_pos rfl]
      have := ha 0 c rfl
      have hlt : t < tmps.size := Nat.lt_of_lt_of_le hpn hn
      simpa [hlt] using this
    · rw [if_neg e]
      have := hs t
      simpa [Array.getElem?_setIfInBounds_ne (Ne.symm e)] using this

theorem abs_yield (hm : P.follows .mixedOrders = true) {b : Nat} {ps : Array Tmp} {x y : PC} {n : Nat} {sl : Nat → V} {bx : Boxes} {args : List V} {Kc : V → Boxes → Prop} (hbx : bx b = some (.loop none ps (goodC x y) n sl)) (hps : args.length = ps.toList.length) (hpn : ∀ p, p ∈ ps.toList → p < n)
    (hnx : noRange x = true) (hny : noRange y = true) (h : pw P x (thenQ (pw P y (roundQ b ps x y n sl Kc)) fun _ _ => False) ⟨n, setPs ps.toList args sl, upd bx b none⟩) : AbsYield P b args bx Kc := by
  intro m β M w vs k hβ hok hgl hvs hreps
  obtain ⟨hlt, hMk, rec, hrec, hstate, hpend, hpar, ⟨hcx, hcy⟩, hsz, hsl⟩ := live_block hok hbx hβ
  simp only [Option.isNone_none, if_true] at hstate
  have hy := run_yield (P := P) (args := vs) hrec (by rw [hpar]; simpa using hvs.trans hps)
  refine ⟨rec.fn, _, rec.assign, rec.body, hy, ?_⟩
  have hzip : ((rec.params.zip vs).foldl (fun tmps (t, a) => tmps.setIfInBounds t a) rec.tmps) = ((ps.toList.zip vs.toList).foldl (fun (t : Array Value) (x : Tmp × Value) => t.setIfInBounds x.1 x.2) rec.tmps) := by
    rw [hpar, ← Array.foldl_toList, Array.toList_zip]
  rw [hzip]
  obtain ⟨h1, h2⟩ := setPs_rep (β := β) (w := w) (F := Fz β M bx w) ps.toList args vs.toList sl rec.tmps hps (by simpa using hvs.trans hps) hpn hsz (fun i c hc => by simpa using hreps i c hc) hsl
  obtain ⟨tmps, htm⟩ : ∃ tmps, ((ps.toList.zip vs.toList).foldl (fun (t : Array Value) (x : Tmp × Value) => t.setIfInBounds x.1 x.2) rec.tmps) = tmps := ⟨_, rfl⟩
  rw [htm] at h1 h2 ⊢
  obtain ⟨hok1, htr1, hrep1⟩ := box_off hok hbx hβ hrec
  have hs0 : w.shape? k = none := by simp [World.shape?, hrec]
  -- the assignment
  have hr1 : Rs P β ⟨(M.set k (some (.loop rec))).obj, 0⟩ ⟨n, setPs ps.toList args sl, upd bx b none⟩ { tmps := tmps, defers := [] } w :=
    ⟨⟨hok1.fin, hok1.mlt, hok1.live, hok1.inj⟩, fun t => hrep1 (h2 t), h1, trivial, Nat.zero_le _, hgl.imp fun _ _ hh => hrep1 hh⟩
  refine roundIn_of_wpIn (F := Fence.wide) trivial (wpIn_mono (pw_sound hm (ro := some k) x rec.assign _ _ _ (.inr hnx) hcx h m β _ w hr1) ?_)
  rintro e a1 w1 ⟨M1, st1, β1, hq1, hx1, hrs1, ht1⟩
  cases e with
  | normal =>
    have hl1 : M1 k = some (.loop rec) := hx1.le k _ (Off.set_eq M k _)
    have hh1 := hrs1.ok.mlt k _ hl1
    have hs1 : w1.shape? k = none := by simp [World.shape?, hh1]
    refine ⟨_, run_beginRound hh1 hstate, ?_⟩
    obtain ⟨hok2, hrep2⟩ := hrs1.ok.putOff (x := some (.loop { rec with state := .busy })) (o' := .loop { rec with state := .busy }) hl1 (fun y hy => by injection hy with hy; exact hy.symm) hs1
    have hr2 : Rs P β1 (M1.set k (some (.loop { rec with state := .busy }))) st1 a1 (w1.putObj k (.loop { rec with state := .busy })) := by
      refine ⟨hok2, fun t => hrep2 (hrs1.sl t), hrs1.sz, ?_, by rw [World.putObj_size]; exact hrs1.bs, hrs1.gl.imp fun _ _ hh => hrep2 hh⟩
      have hd := hrs1.df
      -- no mark is block k: that one holds a record
      have : ∀ (ds : List Deferred) (X : Nat → Option Obj), X k = some (.loop rec) → Marks M1.base X ds → Marks M1.base (upd X k (some (.loop { rec with state := .busy }))) ds := by
        intro ds
        induction ds with
        | nil => exact fun _ _ h => h
        | cons d ds ih =>
          rintro X hX ⟨D, hd1, hd2, hd3, hd4⟩
          have e : D ≠ k := by rintro rfl; rw [hX] at hd3; cases hd3
          refine ⟨D, hd1, hd2, by rw [upd_ne _ _ e]; exact hd3, ?_⟩
          have := ih (upd X D none) (by rw [upd_ne _ _ (Ne.symm e)]; exact hX) hd4
          have e2 : upd (upd X D none) k (some (Obj.loop { rec with state := .busy })) = upd (upd X k (some (Obj.loop { rec with state := .busy }))) D none := by
            funext q
            simp only [upd]
            by_cases e3 : q = k <;> by_cases e4 : q = D <;> simp_all
          rw [e2] at this
          exact this
      exact this _ _ hl1 hd
    refine wpIn_mono (pw_sound hm (ro := some k) y rec.body _ _ _ (.inr hny) hcy hq1 m β1 a1 _ hr2) ?_
    rintro e2 a2 w2 ⟨M2, st2, β2, hq2, hx2, hrs2, ht2⟩
    have hl2 : M2 k = some (.loop { rec with state := .busy }) := hx2.le k _ (Off.set_eq M1 k _)
    have hh2 := hrs2.ok.mlt k _ hl2
    have hs2 : w2.shape? k = none := by simp [World.shape?, hh2]
    have hβ2 : β2 b = some (some k) := ht2.ext _ _ (ht1.ext _ _ hβ)
    have hb2 : st2.bx b = none := by
      cases hbb : st2.bx b with
      | none => rfl
      | some box => have := (live_block hrs2.ok hbb hβ2).2.1; rw [hl2] at this; cases this
    have hle2 : ∀ q o, M q = some o → q ≠ k ∧ M2 q = some o := by
      intro q o hq
      have e : q ≠ k := by rintro rfl; rw [hMk] at hq; cases hq
      refine ⟨e, hx2.le q o ?_⟩
      rw [Off.set_ne _ _ e]
      refine hx1.le q o ?_
      exact (Off.set_ne M _ e).trans hq
    have hslot2 : ∀ {v : V} {u : Value}, Rep β w (Fz β M bx w) v u → Rep β2 w2 (Fz β2 M2 st2.bx w2) v u := fun hr => ht2.repx hx2 (hrep2 (ht1.repx hx1 (hrep1 hr)))
    have fin : ∀ (jump : Option Code) (vb : Bool), vb = jump.isNone → (Kc (.bool vb) (upd st2.bx b (some (.loop jump ps (goodC x y) n sl)))) →
        ∃ v w', (Instr.endRound k jump).run P w2 = .ok v w' ∧ ∃ v_1 r bx' β', Ending.returned v = Ending.returned v_1 ∧ Kc r bx' ∧ WOk β' M bx' w' ∧ Tr β bx w β' bx' w' ∧ Rep β' w' (Fz β' M bx' w') r v_1 := by
      rintro jump vb rfl hk
      have hend := run_endRound (P := P) jump hh2
      refine ⟨_, _, hend, _, _, _, β2, rfl, hk, ?_, ?_, .bool _⟩
      · refine off_box hrs2.ok hl2 hβ2 hb2 hs2 hle2 hMk (fun F' hF' => ?_)
        refine ⟨_, World.putObj_heap_same (hrs2.ok.mlt' hl2), rfl, rfl, hpar, ⟨hcx, hcy⟩, hsz, fun t => ?_⟩
        exact (hslot2 (hsl t)).mono (fun _ _ h => h) hF' (fun _ _ h => shape_put hs2 h)
      · have hne1 : ∀ q, q < w.heap.size → (∀ b', bx b' ≠ none → β b' ≠ some (some q)) → q ≠ k := fun q _ hq e => hq b (by rw [hbx]; simp) (by rw [e]; exact hβ)
        have hnone : ∀ b', upd bx b none b' ≠ none → bx b' ≠ none := by
          intro b' hb'
          by_cases e : b' = b
          · subst e; simp [upd_eq] at hb'
          · rw [upd_ne _ _ e] at hb'; exact hb'
        refine ⟨ht2.os.trans ht1.os, ht2.tape.trans ht1.tape, ht2.output.trans ht1.output, fun hn => Nat.le_trans (ht1.drawn (fun hm => hn (Mk.of_upd hm (fun _ h => by cases h)))) (ht2.drawn (fun hm => hn (Mk.of_upd (ht1.nomk hm) (fun _ h => by cases h)))), fun hm => Mk.of_upd (ht1.nomk (ht2.nomk (Mk.of_upd hm (fun _ h => by cases h)))) (fun _ h => by cases h), ?_, fun q hq hbq => ?_, fun q z hz => shape_put hs2 (ht2.shape q z (shape_put hs1 (ht1.shape q z hz))), fun b' z hz => ht2.ext _ _ (ht1.ext _ _ hz), fun b' q hb' hq => ?_⟩
        · have e1 := ht1.size
          have e2 := ht2.size
          simp only [World.putObj_size] at e2 ⊢
          omega
        · have hqk := hne1 q hq hbq
          have e1 := ht1.keep q hq (fun b' hb' => hbq b' (hnone b' hb'))
          have e2 := ht2.keep q (by have := ht1.size; rw [World.putObj_size]; omega) (fun b' hb' he => by
            rcases ht1.news b' q hb' he with ⟨b2, h5, h6⟩ | h5
            · exact hbq b2 (hnone b2 h5) h6
            · omega)
          rw [World.putObj_heap_other hqk, e2, World.putObj_heap_other hqk, e1]
        · by_cases e : b' = b
          · subst e
            rw [hβ2] at hq; injection hq with hq; injection hq with hq; subst hq
            exact .inl ⟨b', by rw [hbx]; simp, hβ⟩
          · rw [upd_ne _ _ e] at hb'
            rcases ht2.news b' q hb' hq with ⟨b2, h5, h6⟩ | h5
            · rcases ht1.news b2 q h5 h6 with ⟨b3, h7, h8⟩ | h7
              · exact .inl ⟨b3, hnone b3 h7, h8⟩
              · exact .inr h7
            · have := ht1.size
              rw [World.putObj_size] at h5
              exact .inr (by omega)
    cases e2 with
    | normal => exact fin none true rfl (hq2 hb2)
    | ret => exact fin (some .ret) false rfl (hq2 hb2)
    | exit id => exact fin (some (.exit id)) false rfl (hq2 hb2)
    | goto l => exact hq2.elim
    | panic ch => exact hq2.elim
    | outgrown => exact hq2.elim
  | _ => exact hq1.elim

end
end Go.Pl
