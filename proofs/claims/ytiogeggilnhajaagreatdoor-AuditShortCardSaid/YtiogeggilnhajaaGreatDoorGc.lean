/- Texts of the proof, put together: PlFs, PlRb, PlRc, PlT, PlY, PlZ. -/
import Derived.Test.YtiogeggilnhajaaGreatDoorGb

set_option linter.unusedSimpArgs false
set_option linter.unusedVariables false
namespace Go.Pl
open Go
def newB (o : Oper) : Bool := match o.guard, o.op with
 | none, .alloc _ => true
 | none, .box _ _ => true
 | none, .buildSlice _ _ _ => true
 | none, .makeSlice _ _ _ => true
 | none, .makeMap _ none => true
 | _, _ => false
def oneB (o : Oper) : Bool := match o.guard, o.op with
 | none, .alloc _ => true
 | none, .box _ _ => true
 | _, _ => false
def appB (o : Oper) : Bool := match o.guard, o.op with
 | none, .call { callee := .builtin .append, .. } => true
 | _, _ => false
def rdB (o : Oper) : Bool := match o.guard, o.op with
 | none, .load _ _ => true
 | _, _ => false
def calB (o : Oper) : Bool := match o.guard, o.op with
 | none, .call { callee := .value _, .. } => true
 | _, _ => false
def plB (o : Oper) : Bool := match o.guard, o.op with
 | none, .build _ _ => true
 | _, _ => false
def swapC (ops : Array Oper) (i j : Oper) : Bool := i.apart ops j && (((newB i || appB i) && rdB j) || (rdB i && newB j) || (calB i && oneB j) || ((newB i || appB i || plB i) && newB j))
section
variable {P : Program} {ops : Array Oper} {o : Oper} {st : St}
theorem load_keep {bx bx' : Boxes} {t : TypeId} {a : V} (hb : ∀ b, bx b ≠ none → bx' b = bx b) (hc : (loadV P bx t a).1) : loadV P bx' t a = loadV P bx t a := by
 unfold loadV at hc ⊢
 split
 · rfl
 · rename_i b sz i o ha
   simp only [ha] at hc
   cases hx : bx b with
   | none => simp only [hx] at hc; exact hc.elim
   | some x => rw [hb b (by rw [hx]; simp), hx]
 · rfl
theorem load_back {bx bxo : Boxes} {x : Option Box} {t : TypeId} {a : V} (hf : FinB bxo) (hs : ∀ b, bxo b ≠ none → bx b = bxo b) (hc : ∀ b, bxo b = none → (loadV P (upd bxo b x) t a).1) :
   (loadV P bx t a).1 ∧ ∀ b, bxo b = none → loadV P (upd bxo b x) t a = loadV P bx t a := by
 obtain ⟨n, hn⟩ := hf
 have key : ∀ b0 : Nat, ∃ b, bxo b = none ∧ b ≠ b0 := fun b0 => ⟨max n (b0 + 1), hn _ (Nat.le_max_left _ _), by have := Nat.le_max_right n (b0 + 1); omega⟩
 unfold loadV at hc ⊢
 split
 · rename_i e o ha
   obtain ⟨b, h1, _⟩ := key 0
   have := hc b h1
   simp only [ha] at this
   exact ⟨this, fun _ _ => rfl⟩
 · rename_i b0 sz i o ha
   obtain ⟨b, h1, h2⟩ := key b0
   have h3 := hc b h1
   simp only [ha] at h3
   rw [upd_ne _ _ (Ne.symm h2)] at h3
   have h4 : bxo b0 ≠ none := fun e => by rw [e] at h3; exact h3.elim
   rw [hs b0 h4]
   refine ⟨h3, fun b' hb' => ?_⟩
   have : b0 ≠ b' := fun e => h4 (by rw [e]; exact hb')
   simp only [upd_ne _ _ this]
 · rename_i h1 h2
   obtain ⟨b, h3, _⟩ := key 0
   have := hc b h3
   split at this
   · rename_i e o ha; exact absurd ha (h1 e o)
   · rename_i b0 sz i o ha; exact absurd ha (h2 b0 sz i o)
   · exact this.elim
theorem load_iff (h : rdB o = true) {K : St → Prop} : ∃ t a, o.op = .load t a ∧ ∀ st : St, absG P true ops o K st ↔ (loadV P st.bx t (gv P st a)).1 ∧ dstOk st o.dst ∧ K (st.put o.dst (loadV P st.bx t (gv P st a)).2) := by
 obtain ⟨dst, op, type, pos, after, guard⟩ := o
 unfold rdB at h
 split at h
 · rename_i t a hg hop
   dsimp only at hg hop
   subst hg hop
   refine ⟨t, a, rfl, fun st => ?_⟩
   show absOp P true _ K st ↔ _
   simp only [absOp, isEv, if_true, ev]
 · cases h
theorem new_shape (h : newB o = true) {K : St → Prop} (hh : absG P true ops o K st) : ∃ (xf : Box) (vf : Nat → V), FinB st.bx ∧ (oneB o = true → ¬ xf.empty) ∧ (∀ b, st.bx b = none → K (st.at (upd st.bx b (some xf)) o.dst (vf b))) ∧
   ∀ (st2 : St) (K2 : St → Prop), (∀ t, t ∈ o.looksAt ops → st2.sl t = st.sl t) → st2.n = st.n → FinB st2.bx → (∀ b, st2.bx b = none → K2 (st2.at (upd st2.bx b (some xf)) o.dst (vf b))) → absG P true ops o K2 st2 := by
 obtain ⟨dst, op, type, pos, after, guard⟩ := o
 have hag : ∀ st2 : St, (∀ t, t ∈ Oper.looksAt ops ⟨dst, op, type, pos, after, guard⟩ → st2.sl t = st.sl t) → st2.n = st.n → Agree ops ⟨dst, op, type, pos, after, guard⟩ st { st2 with bx := st.bx } := fun st2 h1 h2 => ⟨h1, rfl, h2⟩
 have hgg : ∀ (st2 : St) x, ({ st2 with bx := st.bx } : St).get x = st2.get x := fun st2 x => by cases x <;> rfl
 unfold newB at h
 split at h
 · rename_i e hg hop
   dsimp only at hg hop
   subst hg hop
   change absOp P true _ K st at hh
   simp only [absOp, isEv, Bool.false_eq_true, if_false] at hh
   cases hz : tzero P e with
   | none => rw [hz] at hh; exact hh.elim
   | some z =>
     rw [hz] at hh
     obtain ⟨h1, h2, h3, h4⟩ := hh
     refine ⟨.row e (tsz P e) [ofValue z], fun b => .ptr b (tsz P e) 0 0, h3, fun _ h => by simp [Box.empty] at h, h4, fun st2 K2 k1 k2 k3 k4 => ?_⟩
     show absOp P true _ K2 st2
     simp only [absOp, isEv, Bool.false_eq_true, if_false, hz]
     exact ⟨h1, ((hag st2 k1 k2).dst _).2 h2, k3, k4⟩
 · rename_i e x hg hop
   dsimp only at hg hop
   subst hg hop
   change absOp P true _ K st at hh
   simp only [absOp, isEv, Bool.false_eq_true, if_false] at hh
   obtain ⟨h1, h2, h3, h4⟩ := hh
   refine ⟨.row e (tsz P e) [st.get x], fun b => .ptr b (tsz P e) 0 0, h3, fun _ h => by simp [Box.empty] at h, h4, fun st2 K2 k1 k2 k3 k4 => ?_⟩
   show absOp P true _ K2 st2
   simp only [absOp, isEv, Bool.false_eq_true, if_false]
   have e1 : st2.get x = st.get x := by rw [← hgg st2]; exact (hag st2 k1 k2).get x (by simp [Op.operands])
   rw [e1]
   exact ⟨h1, ((hag st2 k1 k2).dst _).2 h2, k3, k4⟩
 · rename_i t len parts hg hop
   dsimp only at hg hop
   subst hg hop
   change absOp P true _ K st at hh
   simp only [absOp, isEv, Bool.false_eq_true, if_false] at hh
   split at hh
   · rename_i e hk
     cases hz : tzero P e with
     | none => rw [hz] at hh; exact hh.elim
     | some z =>
       rw [hz] at hh
       obtain ⟨h1, h2, h3, h4, h5, h6, h7⟩ := hh
       refine ⟨.row e (tsz P e) (fillV st (List.replicate len (ofValue z)) parts.toList), fun b => .own b (tsz P e) 0 len, h6, (fun h => (by cases h)), h7, fun st2 K2 k1 k2 k3 k4 => ?_⟩
       show absOp P true _ K2 st2
       simp only [absOp, isEv, Bool.false_eq_true, if_false, hk, hz]
       have e1 : ∀ p, p ∈ parts.toList → st2.get p.2 = st.get p.2 := fun p hp => by
         rw [← hgg st2]; exact (hag st2 k1 k2).get p.2 (by simp only [Op.operands]; simp; exact ⟨p.1, by simpa using hp⟩)
       have e2 : ∀ (l : List (Nat × Operand)) (es : List V), (∀ p, p ∈ l → st2.get p.2 = st.get p.2) → fillV st2 es l = fillV st es l := by
         intro l
         induction l with
         | nil => intro es _; rfl
         | cons p l ih =>
           intro es hp
           obtain ⟨i, x⟩ := p
           unfold fillV
           rw [hp (i, x) (by simp)]
           exact ih _ fun p hp' => hp p (by simp [hp'])
       rw [e2 _ _ e1]
       exact ⟨h1, h2, h3, fun p hp => by rw [e1 p hp]; exact h4 p hp, ((hag st2 k1 k2).dst _).2 h5, k3, k4⟩
   · exact hh.elim
 · rename_i t l c hg hop
   dsimp only at hg hop
   subst hg hop
   change absOp P true _ K st at hh
   simp only [absOp, isEv, Bool.false_eq_true, if_false] at hh
   split at hh
   · rename_i e kl l' kc c' hk hl' hc'
     cases hz : tzero P e with
     | none => rw [hz] at hh; exact hh.elim
     | some z =>
       rw [hz] at hh
       obtain ⟨h1, h2, h3, h4, h5, h6, h7, h8, h9, h10, h11⟩ := hh
       refine ⟨.row e (tsz P e) (List.replicate l'.toNat (ofValue z)), fun b => .own b (tsz P e) 0 l'.toNat, h10, (fun h => (by cases h)), h11, fun st2 K2 k1 k2 k3 k4 => ?_⟩
       show absOp P true _ K2 st2
       have e1 : st2.get l = st.get l := by rw [← hgg st2]; exact (hag st2 k1 k2).get l (by simp [Op.operands])
       have e2 : st2.get c = st.get c := by rw [← hgg st2]; exact (hag st2 k1 k2).get c (by simp [Op.operands])
       simp only [absOp, isEv, Bool.false_eq_true, if_false, e1, e2, hk, hl', hc', hz]
       exact ⟨h1, h2, h3, h4, h5, h6, h7, h8, ((hag st2 k1 k2).dst _).2 h9, k3, k4⟩
   · exact hh.elim
 · rename_i t hg hop
   dsimp only at hg hop
   subst hg hop
   change absOp P true _ K st at hh
   simp only [absOp, isEv, Bool.false_eq_true, if_false] at hh
   obtain ⟨h1, h2, h3⟩ := hh
   refine ⟨.map [], fun b => .mp b, h2, (fun h => (by cases h)), h3, fun st2 K2 k1 k2 k3 k4 => ?_⟩
   show absOp P true _ K2 st2
   simp only [absOp, isEv, Bool.false_eq_true, if_false]
   exact ⟨((hag st2 k1 k2).dst _).2 h1, k3, k4⟩
 · cases h
theorem grow_shape (h : (newB o || appB o) = true) {K : St → Prop} (hh : absG P true ops o K st) : ∃ (bxo : Boxes) (xf : Option Box) (vf : Nat → V), FinB bxo ∧ (∀ b, bxo b ≠ none → st.bx b = bxo b) ∧ (∀ b, bxo b = none → K (st.at (upd bxo b xf) o.dst (vf b))) ∧
   ∀ (st2 : St) (K2 : St → Prop), Agree ops o st st2 → (∀ b, bxo b = none → K2 (st2.at (upd bxo b xf) o.dst (vf b))) → absG P true ops o K2 st2 := by
 rcases Bool.or_eq_true_iff.1 h with h | h
 · obtain ⟨xf, vf, h1, _, h3, h4⟩ := new_shape h hh
   exact ⟨st.bx, some xf, vf, h1, fun _ _ => rfl, h3, fun st2 K2 ha k => h4 st2 K2 ha.sl ha.n (by rw [ha.bx]; exact h1) (by rw [ha.bx]; exact k)⟩
 · obtain ⟨dst, op, type, pos, after, guard⟩ := o
   unfold appB at h
   split at h
   · rename_i args tys hg hop
     dsimp only at hg hop
     subst hg hop
     change absOp P true _ K st at hh
     simp only [absOp, isEv, Bool.false_eq_true, if_false] at hh
     split at hh
     · rename_i s x t t' hcal ha ht
       obtain ⟨htt, hh⟩ := hh
       unfold appendA at hh
       split at hh
       · rename_i e hk
         split at hh
         · rename_i news z hsrc hz
           obtain ⟨h1, h2, h3, h4, h5⟩ := hh
           have hsx : ∀ st2 : St, Agree ops (⟨dst, .call { callee := .builtin .append, args := args, argTypes := tys }, type, pos, after, none⟩ : Oper) st st2 → st2.get s = st.get s ∧ srcEls st2 (tsz P e) (st2.get x) = srcEls st (tsz P e) (st.get x) := fun st2 hag => by
             have g1 : st2.get s = st.get s := hag.get s (by
               simp only [Op.operands, Call.operands]
               have : s ∈ args.toList := by rw [ha]; simp
               simpa using this)
             have g2 : st2.get x = st.get x := hag.get x (by
               simp only [Op.operands, Call.operands]
               have : x ∈ args.toList := by rw [ha]; simp
               simpa using this)
             refine ⟨g1, ?_⟩
             rw [g2]
             unfold srcEls
             rw [hag.bx]
           have build : ∀ (st2 : St) (K2 : St → Prop), Agree ops (⟨dst, .call { callee := .builtin .append, args := args, argTypes := tys }, type, pos, after, none⟩ : Oper) st st2 → appendA P st2 dst t (st2.get s) (st2.get x) K2 → absG P true ops (⟨dst, .call { callee := .builtin .append, args := args, argTypes := tys }, type, pos, after, none⟩ : Oper) K2 st2 := fun st2 K2 hag hap => by
             show absOp P true _ K2 st2
             simp only [absOp, isEv, Bool.false_eq_true, if_false, ha, ht]
             exact ⟨htt, hap⟩
           split at h5
           · rename_i hs
             obtain ⟨h6, h7, h8⟩ := h5
             refine ⟨st.bx, some (.row e (tsz P e) news), fun b => .own b (tsz P e) 0 news.length, h4, fun _ _ => rfl, h8, fun st2 K2 hag k => build st2 K2 hag ?_⟩
             obtain ⟨g1, g2⟩ := hsx st2 hag
             unfold appendA
             simp only [hk, g2, hsrc, hz, g1, hs]
             exact ⟨h1, h2, (hag.dst _).2 h3, by rw [hag.bx]; exact h4, h6, h7, fun b' hb' => by
               have := k b' (by rw [← hag.bx]; exact hb')
               simpa [St.at, St.box, hag.bx] using this⟩
           · rename_i b0 sz n hs
             split at h5
             · rename_i e' sz' es hb0
               obtain ⟨c1, c2, c3, c4, c5, c6, h8⟩ := h5
               refine ⟨upd st.bx b0 none, some (.row e (tsz P e) (es.take n ++ news)), fun b => .own b (tsz P e) 0 (n + news.length), (finB_upd _ _ _).2 h4, fun b hb => ?_, h8, fun st2 K2 hag k => build st2 K2 hag ?_⟩
               · have : b ≠ b0 := fun e => hb (by rw [e, upd_eq])
                 rw [upd_ne _ _ this]
               · obtain ⟨g1, g2⟩ := hsx st2 hag
                 unfold appendA
                 simp only [hk, g2, hsrc, hz, g1, hs, hag.bx, hb0]
                 refine ⟨h1, h2, (hag.dst _).2 h3, h4, c1, c2, c3, c4, c5, c6, fun b' hb' => ?_⟩
                 have := k b' hb'
                 simpa [St.at, St.box, hag.bx] using this
             · exact h5.elim
           · exact h5.elim
         · exact hh.elim
       · exact hh.elim
     all_goals first | exact hh.elim | (rename_i hno _ _; cases hno; done) | (rename_i hno; cases hno; done) | (exfalso; simp_all; done)
   · cases h
theorem gv_at {st : St} {bx : Boxes} {d : Option Tmp} {v : V} {x : Operand} (h : ∀ t, x = .tmp t → d ≠ some t) : gv P (st.at bx d v) x = gv P st x := by
 have hg : (st.at bx d v).get x = st.get x := by
   cases x with
   | tmp t => exact at_sl (h t rfl)
   | _ => rfl
 cases x <;> first | rfl | exact hg
theorem new_shape2 (h : newB o = true) {K : St → Prop} (hh : absG P true ops o K st) : ∃ (xf : Box) (vf : Nat → V), ∀ (st2 : St) (K2 : St → Prop), (∀ t, t ∈ o.looksAt ops → st2.sl t = st.sl t) → st2.n = st.n →
   (absG P true ops o K2 st2 ↔ FinB st2.bx ∧ ∀ b, st2.bx b = none → K2 (st2.at (upd st2.bx b (some xf)) o.dst (vf b))) := by
 obtain ⟨dst, op, type, pos, after, guard⟩ := o
 have hag : ∀ st2 : St, (∀ t, t ∈ Oper.looksAt ops ⟨dst, op, type, pos, after, guard⟩ → st2.sl t = st.sl t) → st2.n = st.n → Agree ops ⟨dst, op, type, pos, after, guard⟩ st { st2 with bx := st.bx } := fun st2 h1 h2 => ⟨h1, rfl, h2⟩
 have hgg : ∀ (st2 : St) x, ({ st2 with bx := st.bx } : St).get x = st2.get x := fun st2 x => by cases x <;> rfl
 unfold newB at h
 split at h
 · rename_i e hg hop
   dsimp only at hg hop
   subst hg hop
   change absOp P true _ K st at hh
   simp only [absOp, isEv, Bool.false_eq_true, if_false] at hh
   cases hz : tzero P e with
   | none => rw [hz] at hh; exact hh.elim
   | some z =>
     rw [hz] at hh
     obtain ⟨h1, h2, h3, h4⟩ := hh
     refine ⟨.row e (tsz P e) [ofValue z], fun b => .ptr b (tsz P e) 0 0, fun st2 K2 k1 k2 => ?_⟩
     show absOp P true _ K2 st2 ↔ _
     simp only [absOp, isEv, Bool.false_eq_true, if_false, hz]
     exact ⟨fun q => ⟨q.2.2.1, q.2.2.2⟩, fun q => ⟨h1, ((hag st2 k1 k2).dst _).2 h2, q.1, q.2⟩⟩
 · rename_i e x hg hop
   dsimp only at hg hop
   subst hg hop
   change absOp P true _ K st at hh
   simp only [absOp, isEv, Bool.false_eq_true, if_false] at hh
   obtain ⟨h1, h2, h3, h4⟩ := hh
   refine ⟨.row e (tsz P e) [st.get x], fun b => .ptr b (tsz P e) 0 0, fun st2 K2 k1 k2 => ?_⟩
   show absOp P true _ K2 st2 ↔ _
   simp only [absOp, isEv, Bool.false_eq_true, if_false]
   have e1 : st2.get x = st.get x := by rw [← hgg st2]; exact (hag st2 k1 k2).get x (by simp [Op.operands])
   rw [e1]
   exact ⟨fun q => ⟨q.2.2.1, q.2.2.2⟩, fun q => ⟨h1, ((hag st2 k1 k2).dst _).2 h2, q.1, q.2⟩⟩
 · rename_i t len parts hg hop
   dsimp only at hg hop
   subst hg hop
   change absOp P true _ K st at hh
   simp only [absOp, isEv, Bool.false_eq_true, if_false] at hh
   split at hh
   · rename_i e hk
     cases hz : tzero P e with
     | none => rw [hz] at hh; exact hh.elim
     | some z =>
       rw [hz] at hh
       obtain ⟨h1, h2, h3, h4, h5, h6, h7⟩ := hh
       refine ⟨.row e (tsz P e) (fillV st (List.replicate len (ofValue z)) parts.toList), fun b => .own b (tsz P e) 0 len, fun st2 K2 k1 k2 => ?_⟩
       show absOp P true _ K2 st2 ↔ _
       simp only [absOp, isEv, Bool.false_eq_true, if_false, hk, hz]
       have e1 : ∀ p, p ∈ parts.toList → st2.get p.2 = st.get p.2 := fun p hp => by
         rw [← hgg st2]; exact (hag st2 k1 k2).get p.2 (by simp only [Op.operands]; simp; exact ⟨p.1, by simpa using hp⟩)
       have e2 : ∀ (l : List (Nat × Operand)) (es : List V), (∀ p, p ∈ l → st2.get p.2 = st.get p.2) → fillV st2 es l = fillV st es l := by
         intro l
         induction l with
         | nil => intro es _; rfl
         | cons p l ih =>
           intro es hp
           obtain ⟨i, x⟩ := p
           unfold fillV
           rw [hp (i, x) (by simp)]
           exact ih _ fun p hp' => hp p (by simp [hp'])
       rw [e2 _ _ e1]
       exact ⟨fun q => ⟨q.2.2.2.2.2.1, q.2.2.2.2.2.2⟩, fun q => ⟨h1, h2, h3, fun p hp => by rw [e1 p hp]; exact h4 p hp, ((hag st2 k1 k2).dst _).2 h5, q.1, q.2⟩⟩
   · exact hh.elim
 · rename_i t l c hg hop
   dsimp only at hg hop
   subst hg hop
   change absOp P true _ K st at hh
   simp only [absOp, isEv, Bool.false_eq_true, if_false] at hh
   split at hh
   · rename_i e kl l' kc c' hk hl' hc'
     cases hz : tzero P e with
     | none => rw [hz] at hh; exact hh.elim
     | some z =>
       rw [hz] at hh
       obtain ⟨h1, h2, h3, h4, h5, h6, h7, h8, h9, h10, h11⟩ := hh
       refine ⟨.row e (tsz P e) (List.replicate l'.toNat (ofValue z)), fun b => .own b (tsz P e) 0 l'.toNat, fun st2 K2 k1 k2 => ?_⟩
       show absOp P true _ K2 st2 ↔ _
       have e1 : st2.get l = st.get l := by rw [← hgg st2]; exact (hag st2 k1 k2).get l (by simp [Op.operands])
       have e2 : st2.get c = st.get c := by rw [← hgg st2]; exact (hag st2 k1 k2).get c (by simp [Op.operands])
       simp only [absOp, isEv, Bool.false_eq_true, if_false, e1, e2, hk, hl', hc', hz]
       exact ⟨fun q => ⟨q.2.2.2.2.2.2.2.2.2.1, q.2.2.2.2.2.2.2.2.2.2⟩, fun q => ⟨h1, h2, h3, h4, h5, h6, h7, h8, ((hag st2 k1 k2).dst _).2 h9, q.1, q.2⟩⟩
   · exact hh.elim
 · rename_i t hg hop
   dsimp only at hg hop
   subst hg hop
   change absOp P true _ K st at hh
   simp only [absOp, isEv, Bool.false_eq_true, if_false] at hh
   obtain ⟨h1, h2, h3⟩ := hh
   refine ⟨.map [], fun b => .mp b, fun st2 K2 k1 k2 => ?_⟩
   show absOp P true _ K2 st2 ↔ _
   simp only [absOp, isEv, Bool.false_eq_true, if_false]
   exact ⟨fun q => ⟨q.2.1, q.2.2⟩, fun q => ⟨((hag st2 k1 k2).dst _).2 h1, q.1, q.2⟩⟩
 · cases h
def clrO (bx : Boxes) : Option Nat → Boxes
 | none => bx
 | some d => upd bx d none
theorem app_shape2 (h : appB o = true) {K : St → Prop} (hh : absG P true ops o K st) : ∃ (D : Option Nat) (xf : Box) (vf : Nat → V), (∀ d, D = some d → st.bx d ≠ none) ∧ FinB st.bx ∧ (∀ b, clrO st.bx D b = none → K (st.at (upd (clrO st.bx D) b (some xf)) o.dst (vf b))) ∧
   ∀ (st2 : St) (K2 : St → Prop), (∀ t, t ∈ o.looksAt ops → st2.sl t = st.sl t) → st2.n = st.n → FinB st2.bx → (∀ c, st.bx c ≠ none → st2.bx c = st.bx c) → (∀ b, clrO st2.bx D b = none → K2 (st2.at (upd (clrO st2.bx D) b (some xf)) o.dst (vf b))) → absG P true ops o K2 st2 := by
 obtain ⟨dst, op, type, pos, after, guard⟩ := o
 have hag : ∀ st2 : St, (∀ t, t ∈ Oper.looksAt ops ⟨dst, op, type, pos, after, guard⟩ → st2.sl t = st.sl t) → st2.n = st.n → Agree ops ⟨dst, op, type, pos, after, guard⟩ st { st2 with bx := st.bx } := fun st2 h1 h2 => ⟨h1, rfl, h2⟩
 have hgg : ∀ (st2 : St) x, ({ st2 with bx := st.bx } : St).get x = st2.get x := fun st2 x => by cases x <;> rfl
 unfold appB at h
 split at h
 · rename_i args tys hg hop
   dsimp only at hg hop
   subst hg hop
   change absOp P true _ K st at hh
   simp only [absOp, isEv, Bool.false_eq_true, if_false] at hh
   split at hh
   · rename_i s x t t' hcal ha ht
     obtain ⟨htt, hh⟩ := hh
     unfold appendA at hh
     split at hh
     · rename_i e hk
       split at hh
       · rename_i news z hsrc hz
         obtain ⟨h1, h2, h3, h4, h5⟩ := hh
         have hsx : ∀ st2 : St, (∀ t, t ∈ Oper.looksAt ops (⟨dst, .call { callee := .builtin .append, args := args, argTypes := tys }, type, pos, after, none⟩ : Oper) → st2.sl t = st.sl t) → st2.n = st.n → (∀ c, st.bx c ≠ none → st2.bx c = st.bx c) → st2.get s = st.get s ∧ srcEls st2 (tsz P e) (st2.get x) = some news := fun st2 k1 k2 k3 => by
           have g1 : st2.get s = st.get s := by
             rw [← hgg st2]
             exact (hag st2 k1 k2).get s (by
               simp only [Op.operands, Call.operands]
               have : s ∈ args.toList := by rw [ha]; simp
               simpa using this)
           have g2 : st2.get x = st.get x := by
             rw [← hgg st2]
             exact (hag st2 k1 k2).get x (by
               simp only [Op.operands, Call.operands]
               have : x ∈ args.toList := by rw [ha]; simp
               simpa using this)
           refine ⟨g1, ?_⟩
           rw [g2, ← hsrc]
           unfold srcEls at hsrc ⊢
           split
           · rfl
           · rfl
           · rename_i b sz' o' n hx
             rw [hx] at hsrc
             dsimp only at hsrc
             cases hb : st.bx b with
             | none => rw [hb] at hsrc; cases hsrc
             | some y => rw [k3 b (by rw [hb]; simp), hb]
           · rfl
           · rfl
         have build : ∀ (st2 : St) (K2 : St → Prop), appendA P st2 dst t (st2.get s) (st2.get x) K2 → absG P true ops (⟨dst, .call { callee := .builtin .append, args := args, argTypes := tys }, type, pos, after, none⟩ : Oper) K2 st2 := fun st2 K2 hap => by
           show absOp P true _ K2 st2
           simp only [absOp, isEv, Bool.false_eq_true, if_false, ha, ht]
           exact ⟨htt, hap⟩
         split at h5
         · rename_i hs
           obtain ⟨h6, h7, h8⟩ := h5
           refine ⟨none, .row e (tsz P e) news, fun b => .own b (tsz P e) 0 news.length, (fun d hd => by cases hd), h4, h8, fun st2 K2 k1 k2 k3 k4 k => build st2 K2 ?_⟩
           obtain ⟨g1, g2⟩ := hsx st2 k1 k2 k4
           unfold appendA
           simp only [hk, g2, hz, g1, hs]
           exact ⟨h1, h2, ((hag st2 k1 k2).dst _).2 h3, k3, h6, h7, k⟩
         · rename_i b0 sz n hs
           split at h5
           · rename_i e' sz' es hb0
             obtain ⟨c1, c2, c3, c4, c5, c6, h8⟩ := h5
             refine ⟨some b0, .row e (tsz P e) (es.take n ++ news), fun b => .own b (tsz P e) 0 (n + news.length), (fun d hd => by injection hd with hd; rw [← hd, hb0]; simp), h4, h8, fun st2 K2 k1 k2 k3 k4 k => build st2 K2 ?_⟩
             obtain ⟨g1, g2⟩ := hsx st2 k1 k2 k4
             have hb2 : st2.bx b0 = some (.row e' sz' es) := by rw [k4 b0 (by rw [hb0]; simp), hb0]
             unfold appendA
             simp only [hk, g2, hz, g1, hs, hb2]
             exact ⟨h1, h2, ((hag st2 k1 k2).dst _).2 h3, k3, c1, c2, c3, c4, c5, c6, k⟩
           · exact h5.elim
         · exact h5.elim
       · exact hh.elim
     · exact hh.elim
   all_goals first | exact hh.elim | (rename_i hno _ _; cases hno; done) | (rename_i hno; cases hno; done) | (exfalso; simp_all; done)
 · cases h
theorem pl_shape (h : plB o = true) : ∃ (c : St → Prop) (v : St → V), (∀ st st2 : St, (∀ t, t ∈ o.looksAt ops → st2.sl t = st.sl t) → st2.n = st.n → c st = c st2 ∧ v st = v st2) ∧ ∀ (st : St) (K : St → Prop), absG P true ops o K st ↔ c st ∧ dstOk st o.dst ∧ K (st.put o.dst (v st)) := by
 obtain ⟨dst, op, type, pos, after, guard⟩ := o
 unfold plB at h
 split at h
 · rename_i t parts hg hop
   dsimp only at hg hop
   subst hg hop
   refine ⟨fun st => (buildV P t (tzero P t) (parts.toList.map fun p => (p.1, st.get p.2))).1, fun st => (buildV P t (tzero P t) (parts.toList.map fun p => (p.1, st.get p.2))).2, fun st st2 k1 k2 => ?_, fun st K => ?_⟩
   · have hag : Agree ops (⟨dst, .build t parts, type, pos, after, none⟩ : Oper) st { st2 with bx := st.bx } := ⟨k1, rfl, k2⟩
     have hgg : ∀ x, ({ st2 with bx := st.bx } : St).get x = st2.get x := fun x => by cases x <;> rfl
     have e1 : (parts.toList.map fun p => (p.1, st2.get p.2)) = parts.toList.map fun p => (p.1, st.get p.2) := by
       apply List.map_congr_left
       intro p hp
       have : st2.get p.2 = st.get p.2 := by
         rw [← hgg]; exact hag.get p.2 (by simp only [Op.operands]; simp; exact ⟨p.1, by simpa using hp⟩)
       rw [this]
     dsimp only
     rw [e1]
     exact ⟨rfl, rfl⟩
   · show absOp P true _ K st ↔ _
     simp only [absOp, isEv, if_true, ev]
 · cases h
theorem at_at {bx1 bx2 bx3 : Boxes} {d1 d2 : Option Tmp} {v1 v2 : V} (h : ∀ d, d1 = some d → d2 ≠ some d) : (st.at bx1 d1 v1).at bx2 d2 v2 = (st.at bx3 d2 v2).at bx2 d1 v1 := by
 cases d1 with
 | none => cases d2 <;> rfl
 | some a =>
   cases d2 with
   | none => rfl
   | some b =>
     have hab : a ≠ b := fun e => h a rfl (by rw [e])
     have e : upd (upd st.sl a v1) b v2 = upd (upd st.sl b v2) a v1 := by
       funext z
       simp only [upd]
       by_cases q1 : z = b <;> by_cases q2 : z = a <;> simp_all
     show (⟨st.n, upd (upd st.sl a v1) b v2, bx2⟩ : St) = ⟨st.n, upd (upd st.sl b v2) a v1, bx2⟩
     rw [e]
theorem at_bx {bx : Boxes} {d : Option Tmp} {v : V} : (st.at bx d v).bx = bx := by cases d <;> rfl
theorem at_n2 {bx : Boxes} {d : Option Tmp} {v : V} : (st.at bx d v).n = st.n := by cases d <;> rfl
theorem at_sl2 {bx : Boxes} {d : Option Tmp} {v : V} {t : Nat} (h : d ≠ some t) : (st.at bx d v).sl t = st.sl t := by
 cases d with
 | none => rfl
 | some x => exact upd_ne _ _ (fun e => h (by rw [e]))
theorem comm_new {i j : Oper} (hap : i.apart ops j = true) (hi : (newB i || appB i || plB i) = true) (hj : newB j = true) {K : St → Prop} (hh : absG P true ops i (absG P true ops j K) st) : absG P true ops j (absG P true ops i K) st := by
 obtain ⟨h1, h2, h3⟩ := Oper.apart_spec hap
 have h2' : ∀ d, j.dst = some d → i.dst ≠ some d := fun d hd he => h2 d he hd
 have hij : ∀ {bx v t}, t ∈ j.looksAt ops → (st.at bx i.dst v).sl t = st.sl t := fun {bx v t} ht => at_sl2 fun e => h1 _ e ht
 have hji : ∀ {bx v t}, t ∈ i.looksAt ops → (st.at bx j.dst v).sl t = st.sl t := fun {bx v t} ht => at_sl2 fun e => h3 _ e ht
 simp only [Bool.or_eq_true] at hi
 rcases hi with (hi | hi) | hi
 · obtain ⟨xi, vi, ei⟩ := new_shape2 hi hh
   obtain ⟨f1, g1⟩ := (ei st _ (fun _ _ => rfl) rfl).1 hh
   obtain ⟨b0, hb0⟩ := fin_fresh f1
   obtain ⟨xj, vj, ej⟩ := new_shape2 hj (g1 b0 hb0)
   refine (ej st _ (fun t ht => (hij ht).symm) at_n2.symm).2 ⟨f1, fun b' hb' => (ei _ _ (fun t ht => hji ht) at_n2).2 ⟨by rw [at_bx]; exact (finB_upd _ _ _).2 f1, fun b hb => ?_⟩⟩
   rw [at_bx] at hb ⊢
   have hbb : b ≠ b' := fun e => by rw [e, upd_eq] at hb; cases hb
   rw [upd_ne _ _ hbb] at hb
   have q := ((ej (st.at (upd st.bx b (some xi)) i.dst (vi b)) _ (fun t ht => (hij ht).trans (hij ht).symm) (at_n2.trans at_n2.symm)).1 (g1 b hb)).2 b' (by rw [at_bx, upd_ne _ _ hbb.symm]; exact hb')
   rw [at_bx] at q
   rw [at_at (bx3 := upd st.bx b (some xi)) h2']
   have e : upd (upd st.bx b' (some xj)) b (some xi) = upd (upd st.bx b (some xi)) b' (some xj) := by
     funext z
     simp only [upd]
     by_cases q1 : z = b <;> by_cases q2 : z = b' <;> simp_all
   rw [e]
   exact q
 · obtain ⟨D, xi, vi, hD, f1, g1, bi⟩ := app_shape2 hi hh
   have fD : FinB (clrO st.bx D) := by
     cases D with
     | none => exact f1
     | some d => exact (finB_upd _ _ _).2 f1
   obtain ⟨b0, hb0⟩ := fin_fresh fD
   obtain ⟨xj, vj, ej⟩ := new_shape2 hj (g1 b0 hb0)
   refine (ej st _ (fun t ht => (hij ht).symm) at_n2.symm).2 ⟨f1, fun b' hb' => bi _ _ (fun t ht => hji ht) at_n2 (by rw [at_bx]; exact (finB_upd _ _ _).2 f1) (fun c hc => by rw [at_bx, upd_ne _ _ fun e => hc (by rw [e]; exact hb')]) fun b hb => ?_⟩
   rw [at_bx] at hb ⊢
   have hDb : ∀ d, D = some d → d ≠ b' := fun d hd e => hD d hd (by rw [e]; exact hb')
   have hc : ∀ z, clrO (upd st.bx b' (some xj)) D z = upd (clrO st.bx D) b' (some xj) z := fun z => by
     cases D with
     | none => rfl
     | some d =>
       have := hDb d rfl
       simp only [clrO, upd]
       by_cases q1 : z = d <;> by_cases q2 : z = b' <;> simp_all
   rw [hc] at hb
   have hbb : b ≠ b' := fun e => by rw [e, upd_eq] at hb; cases hb
   rw [upd_ne _ _ hbb] at hb
   have hfr : clrO st.bx D b' = none := by
     cases D with
     | none => exact hb'
     | some d =>
       show upd st.bx d none b' = none
       rw [upd_ne _ _ (hDb d rfl).symm]; exact hb'
   have q := ((ej (st.at (upd (clrO st.bx D) b (some xi)) i.dst (vi b)) _ (fun t ht => (hij ht).trans (hij ht).symm) (at_n2.trans at_n2.symm)).1 (g1 b hb)).2 b' (by rw [at_bx, upd_ne _ _ hbb.symm]; exact hfr)
   rw [at_bx] at q
   rw [at_at (bx3 := upd (clrO st.bx D) b (some xi)) h2']
   have e : upd (clrO (upd st.bx b' (some xj)) D) b (some xi) = upd (upd (clrO st.bx D) b (some xi)) b' (some xj) := by
     rw [show clrO (upd st.bx b' (some xj)) D = upd (clrO st.bx D) b' (some xj) from funext hc]
     funext z
     simp only [upd]
     by_cases q1 : z = b <;> by_cases q2 : z = b' <;> simp_all
   rw [e]
   exact q
 · obtain ⟨c, v, hc, he⟩ := pl_shape (P := P) (ops := ops) hi
   obtain ⟨q1, q2, q3⟩ := (he st _).1 hh
   obtain ⟨xj, vj, ej⟩ := new_shape2 hj q3
   have hput : ∀ {v t}, t ∈ j.looksAt ops → (st.put i.dst v).sl t = st.sl t := fun {v t} ht => at_sl2 (bx := st.bx) fun e => h1 _ e ht
   have hpb : ∀ {v}, (st.put i.dst v).bx = st.bx := by intro v; cases i.dst <;> rfl
   have hpn : ∀ {v}, (st.put i.dst v).n = st.n := by intro v; cases i.dst <;> rfl
   obtain ⟨f1, g1⟩ := (ej _ _ (fun _ _ => rfl) rfl).1 q3
   rw [hpb] at f1 g1
   refine (ej st _ (fun t ht => (hput ht).symm) hpn.symm).2 ⟨f1, fun b hb => (he _ _).2 ?_⟩
   obtain ⟨e1, e2⟩ := hc st (st.at (upd st.bx b (some xj)) j.dst (vj b)) (fun t ht => hji ht) at_n2
   rw [← e1, ← e2]
   refine ⟨q1, at_dst.2 q2, ?_⟩
   have := g1 b hb
   rw [put_put st _ _ _ h2] at this
   exact this
theorem comm_swap {i j : Oper} (h : swapC ops i j = true) {K : St → Prop} (hh : absG P true ops i (absG P true ops j K) st) : absG P true ops j (absG P true ops i K) st := by
 simp only [swapC, Bool.and_eq_true, Bool.or_eq_true] at h
 obtain ⟨hap, hcls⟩ := h
 obtain ⟨h1, h2, h3⟩ := Oper.apart_spec hap
 have h2' : ∀ d, j.dst = some d → i.dst ≠ some d := fun d hd he => h2 d he hd
 rcases hcls with ((⟨hg, hr⟩ | ⟨hr, hn⟩) | ⟨hc, hn⟩) | ⟨hg, hn⟩
 · obtain ⟨bxo, xf, vf, k1, k2, k3, k4⟩ := grow_shape (by simpa using hg) hh
   obtain ⟨t, a, hop, hl⟩ := load_iff (P := P) (ops := ops) (o := j) hr (K := K)
   obtain ⟨t2, a2, hop2, hl2⟩ := load_iff (P := P) (ops := ops) (o := j) hr (K := absG P true ops i K)
   rw [hop] at hop2
   injection hop2 with e1 e2
   subst e1 e2
   have ha : ∀ bx v, gv P (st.at bx i.dst v) a = gv P st a := fun bx v => gv_at fun x hx e => h1 x e (by
     subst hx
     simp [Oper.looksAt, hop, Op.operands])
   have hb := fun b hb => (hl _).1 (k3 b hb)
   have hbx3 : ∀ b, (st.at (upd bxo b xf) i.dst (vf b)).bx = upd bxo b xf := fun b => by cases i.dst <;> rfl
   simp only [ha, hbx3] at hb
   obtain ⟨q1, q2⟩ := load_back (P := P) (x := xf) (t := t) (a := gv P st a) k1 k2 (fun b hb' => (hb b hb').1)
   refine (hl2 st).2 ⟨q1, ?_, ?_⟩
   · obtain ⟨b, hb'⟩ := fin_fresh k1
     exact at_dst.1 (hb b hb').2.1
   · refine k4 _ _ (agree_put h3) fun b hb' => ?_
     have := (hb b hb').2.2
     rw [q2 b hb'] at this
     rw [put_put st _ _ _ h2']
     exact this
 · obtain ⟨t, a, hop, hl⟩ := load_iff (P := P) (ops := ops) (o := i) hr (K := K)
   obtain ⟨t2, a2, hop2, hl2⟩ := load_iff (P := P) (ops := ops) (o := i) hr (K := absG P true ops j K)
   rw [hop] at hop2
   injection hop2 with e1 e2
   subst e1 e2
   obtain ⟨q1, q2, q3⟩ := (hl2 st).1 hh
   obtain ⟨xf, vf, k1, _, k3, k4⟩ := new_shape hn q3
   have hbx : (st.put i.dst (loadV P st.bx t (gv P st a)).2).bx = st.bx := by cases i.dst <;> rfl
   rw [hbx] at k1 k3
   refine k4 st _ (fun x hx => (agree_put' (ops := ops) (o := j) (st := st) (d := i.dst) (v := (loadV P st.bx t (gv P st a)).2) (fun d hd => h1 d hd)).sl x hx) (by cases i.dst <;> rfl) k1 fun b hb => ?_
   have ha : gv P (st.at (upd st.bx b (some xf)) j.dst (vf b)) a = gv P st a := gv_at fun x hx e => h3 x e (by
     subst hx
     simp [Oper.looksAt, hop, Op.operands])
   have hk := load_keep (P := P) (bx' := upd st.bx b (some xf)) (t := t) (a := gv P st a) (fun c hc => upd_ne _ _ fun e => hc (by rw [e]; exact hb)) q1
   have hbx2 : (st.at (upd st.bx b (some xf)) j.dst (vf b)).bx = upd st.bx b (some xf) := by cases j.dst <;> rfl
   refine (hl _).2 ?_
   rw [ha, hbx2, hk]
   refine ⟨q1, at_dst.2 q2, ?_⟩
   have := k3 b hb
   rw [put_put st _ _ _ h2] at this
   exact this
 · obtain ⟨dst, op, type, pos, after, guard⟩ := i
   unfold calB at hc
   split at hc
   · rename_i f args tys hg hop
     dsimp only at hg hop
     subst hg hop
     have hci : ∀ (K : St → Prop) (s : St), absG P true ops (⟨dst, .call { callee := .value f, args := args, argTypes := tys }, type, pos, after, none⟩ : Oper) K s ↔ ∃ g vs, callee s f args.toList = some (g, vs) ∧ calleeLive s f args.toList ∧ dstOk s dst ∧ ∃ r, PureCall P g vs s.bx r ∧ K (s.put dst r) := fun K s => by
       show absOp P true _ K s ↔ _
       simp only [absOp, isEv, Bool.false_eq_true, if_false]
       constructor
       · intro hx
         cases hcal : callee s f args.toList with
         | none => rw [hcal] at hx; exact hx.elim
         | some gv =>
           obtain ⟨g, vs⟩ := gv
           rw [hcal] at hx
           obtain ⟨x1, x2, x3⟩ := hx
           exact ⟨g, vs, rfl, x1, x2, by simpa using x3⟩
       · rintro ⟨g, vs, hcal, x1, x2, x3⟩
         rw [hcal]
         exact ⟨x1, x2, by simpa using x3⟩
     obtain ⟨g, vs, hcal, c1, c2, r, c3, c4⟩ := (hci _ _).1 hh
     obtain ⟨xf, vf, k1, k0, k3, k4⟩ := new_shape (by
       unfold oneB at hn
       unfold newB
       split at hn <;> simp_all) c4
     have hbx : (st.put dst r).bx = st.bx := by cases dst <;> rfl
     rw [hbx] at k1 k3
     refine k4 st _ (fun x hx => (agree_put' (ops := ops) (o := j) (st := st) (d := dst) (v := r) (fun d hd => h1 d hd)).sl x hx) (by cases dst <;> rfl) k1 fun b hb => ?_
     have hget : ∀ x, x = f ∨ x ∈ args.toList → (st.at (upd st.bx b (some xf)) j.dst (vf b)).get x = st.get x := fun x hx => by
       cases x with
       | tmp t =>
         refine at_sl fun e => h3 t e ?_
         simp only [Oper.looksAt, Op.operands, Call.operands]
         rcases hx with hx | hx
         · subst hx; simp
         · simp only [List.mem_append, List.mem_filterMap]
           left
           exact ⟨.tmp t, by simpa using Or.inr hx, rfl⟩
       | _ => rfl
     have hcal2 : callee (st.at (upd st.bx b (some xf)) j.dst (vf b)) f args.toList = some (g, vs) := by
       rw [← hcal]
       unfold callee
       rw [hget f (.inl rfl)]
       have : (args.toList.map fun x => ((st.at (upd st.bx b (some xf)) j.dst (vf b)).get x).strip) = args.toList.map fun x => (st.get x).strip := List.map_congr_left fun x hx => by rw [hget x (.inr hx)]
       rw [this]
     have hbx2 : (st.at (upd st.bx b (some xf)) j.dst (vf b)).bx = upd st.bx b (some xf) := by cases j.dst <;> rfl
     have hov : ov st.bx (fun c => if c = b then some xf else none) = upd st.bx b (some xf) := by
       funext c
       unfold ov upd
       by_cases e : c = b <;> simp [e]
     have hd : Dj st.bx (fun c => if c = b then some xf else none) := ⟨fun c hc => by
       by_cases e : c = b
       · rw [e]; exact hb
       · simp [e] at hc, fun c box hc => by
       by_cases e : c = b
       · simp [e] at hc; rw [← hc]; exact k0 hn
       · simp [e] at hc⟩
     have hpure : PureCall P g vs (upd st.bx b (some xf)) r := by
       have := AbsCall.frame c3 hd
       rw [hov] at this
       refine ⟨this.1, fun β M w us a1 a2 a3 a4 => (this.2 β M w us a1 a2 a3 a4).mono ?_⟩
       rintro e w' ⟨v, r', bx', β', x1, ⟨bxc', ⟨x2, x3⟩, _, x4⟩, x5⟩
       rw [x3, hov] at x4
       exact ⟨v, r', bx', β', x1, ⟨x2, x4⟩, x5⟩
     refine (hci _ _).2 ⟨g, vs, hcal2, ⟨by rw [hget f (.inl rfl)]; exact c1.1, fun x hx => by rw [hget x (.inr hx)]; exact c1.2 x hx⟩, at_dst.2 c2, r, by rw [hbx2]; exact hpure, ?_⟩
     have := k3 b hb
     rw [put_put st _ _ _ h2] at this
     exact this
   · cases hc
 · exact comm_new hap (by simp only [Bool.or_eq_true]; exact hg) hn hh
end
end Go.Pl

set_option linter.unusedSimpArgs false
set_option linter.unusedVariables false
namespace Go.Pl
open Go
def lenOf (c : Call) : Option (Operand × TypeId) :=
 match c.callee, c.args.toList, c.argTypes.toList with
 | .builtin .len, [x], [t] => some (x, t)
 | _, _, _ => none
theorem lenOf_some {c : Call} {x : Operand} {t : TypeId} (h : lenOf c = some (x, t)) : c = { callee := .builtin .len, args := #[x], argTypes := #[t] } := by
 unfold lenOf at h
 split at h
 · rename_i x' t' h1 h2 h3
   injection h with h
   injection h with e1 e2
   subst e1 e2
   obtain ⟨callee, args, ts⟩ := c
   simp only at h1 h2 h3
   rw [h1, ← Array.toArray_toList (xs := args), h2, ← Array.toArray_toList (xs := ts), h3]
 · cases h
def fzb : Op → Bool
 | .load _ _ => true
 | .buildSlice _ _ _ => true
 | .call c => (lenOf c).isSome
 | _ => false
def fillL : List V → List (Nat × V) → List V
 | es, [] => es
 | es, (i, x) :: ps => fillL (es.set i x) ps
def bldE (P : Program) (t : TypeId) (len : Nat) (ps : List (Nat × V)) : Ev :=
 match knd P t with
 | .slice e => match tzero P e with
   | some z => (storable P e (ofValue z) ∧ 0 < tsz P e ∧ len * tsz P e ≤ 16777216 ∧ ∀ p, p ∈ ps → p.1 < len ∧ storable P e p.2, .sl (tsz P e) (fillL (List.replicate len (ofValue z)) ps))
   | none => evNo
 | _ => evNo
def evF (P : Program) (st : St) (op : Op) : Ev :=
 match op with
 | .load t a => loadV P (fun _ => none) t (gv P st a)
 | .buildSlice t len parts => bldE P t len (parts.toList.map fun p => (p.1, st.get p.2))
 | .call c => match lenOf c with
   | some (x, t) => lenV P (fun _ => none) t (st.get x)
   | none => evNo
 | _ => evNo
section
variable {P : Program} {ops : Array Oper} {st : St}
def YF (P : Program) (ops : Array Oper) (o : Oper) (st : St) (v : V) : Prop :=
 match o.guard with
 | none => (evF P st o.op).1 ∧ v = (evF P st o.op).2
 | some (g, want) => ∃ wb, wantedV ops st g want = some wb ∧ (wb = true → (evF P st o.op).1) ∧ v = mkOpt wb (evF P st o.op).2
theorem YF.fn {o : Oper} {v v' : V} (h : YF P ops o st v) (h' : YF P ops o st v') : v = v' := by
 unfold YF at h h'
 split at h
 · rename_i hg; simp only [hg] at h'; rw [h.2, h'.2]
 · rename_i hg
   simp only [hg] at h'
   obtain ⟨wb, h1, _, h2⟩ := h
   obtain ⟨wb', h3, _, h4⟩ := h'
   rw [h1] at h3
   injection h3 with h3
   subst h3
   rw [h2, h4]
theorem Agree.evF {o : Oper} {st st2 : St} (h : Agree ops o st st2) : Pl.evF P st2 o.op = Pl.evF P st o.op := by
 obtain ⟨dst, op, type, pos, after, guard⟩ := o
 cases op
 case load t a =>
   simp only [Pl.evF]
   rw [h.gv _ (by simp [Op.operands])]
 case buildSlice t len parts =>
   simp only [Pl.evF]
   have : (parts.toList.map fun p => (p.1, st2.get p.2)) = parts.toList.map fun p => (p.1, st.get p.2) := List.map_congr_left fun p hp => by
     rw [h.get p.2 (by simp only [Op.operands]; simp; exact ⟨p.1, by simpa using hp⟩)]
   rw [this]
 case call c =>
   simp only [Pl.evF]
   cases hl : lenOf c with
   | none => rfl
   | some p =>
     obtain ⟨x, t⟩ := p
     have := lenOf_some hl
     subst this
     simp only
     rw [h.get x (by simp [Op.operands, Call.operands])]
 all_goals rfl
theorem YF.agree {o : Oper} {st2 : St} (hs : ∀ t, t ∈ o.looksAt ops → st2.sl t = st.sl t) (hn : st2.n = st.n) {v : V} (h : YF P ops o st v) : YF P ops o st2 v := by
 have ha : Agree ops o st { st2 with bx := st.bx } := ⟨hs, rfl, hn⟩
 have h1 : evF P st2 o.op = evF P st o.op := by
   have e1 : evF P { st2 with bx := st.bx } o.op = evF P st2 o.op := by
     have hg : ∀ x, ({ st2 with bx := st.bx } : St).get x = st2.get x := fun x => by cases x <;> rfl
     have hv : ∀ x, gv P { st2 with bx := st.bx } x = gv P st2 x := fun x => by cases x <;> rfl
     obtain ⟨dst, op, type, pos, after, guard⟩ := o
     cases op <;> first | rfl | (simp only [evF, hv]) | (simp only [evF, hg])
   rw [← e1, ha.evF]
 unfold YF at h ⊢
 split
 · rename_i hg; simp only [hg] at h; rw [h1]; exact h
 · rename_i g want hg
   simp only [hg] at h
   obtain ⟨wb, h2, h3, h4⟩ := h
   refine ⟨wb, ?_, by rw [h1]; exact h3, by rw [h1]; exact h4⟩
   have := ha.wanted hg
   rw [← h2, ← this]
   rfl
def callN (o : Oper) : Bool :=
 match o.guard, o.op with
 | none, .call { callee := .value (.func _), .. } => true
 | _, _ => false
theorem callN_spec {o : Oper} (h : callN o = true) : o.guard = none ∧ ∃ f args ts, o.op = .call ⟨.value (.func f), args, ts⟩ := by
 unfold callN at h
 split at h
 · rename_i h1 h2
   exact ⟨h1, _, _, _, h2⟩
 · cases h
theorem cls0_callN {o : Oper} (h : cls0 o = true) : callN o = false := by
 cases hc : callN o with
 | false => rfl
 | true =>
   obtain ⟨_, f, args, ts, e⟩ := callN_spec hc
   simp [cls0, e] at h
theorem fzb_callN {o : Oper} (h : fzb o.op = true) : callN o = false := by
 cases hc : callN o with
 | false => rfl
 | true =>
   obtain ⟨_, f, args, ts, e⟩ := callN_spec hc
   simp [fzb, e, lenOf] at h
attribute [simp] lenOf
theorem fzb_len {c : Call} (h : fzb (.call c) = true) : ∃ x t, c = { callee := .builtin .len, args := #[x], argTypes := #[t] } := by
 simp only [fzb] at h
 cases hl : lenOf c with
 | none => rw [hl] at h; cases h
 | some p => exact ⟨p.1, p.2, lenOf_some hl⟩
theorem lenV_none {P : Program} {bx : Boxes} {t : TypeId} {x : V} (h : (lenV P (fun _ => none) t x).1) : lenV P bx t x = lenV P (fun _ => none) t x := by
 unfold lenV at h ⊢
 split <;> first | rfl | (simp_all [evNo])
theorem call_agree {o : Oper} (hc : callN o = true) {st st2 : St} (ha : Agree ops o st st2) {K K2 : St → Prop} (h : absG P false ops o K st) (hk : ∀ bx v, K (st.at bx o.dst v) → K2 (st2.at bx o.dst v)) : absG P false ops o K2 st2 := by
 obtain ⟨hg, f, args, ts, hop⟩ := callN_spec hc
 have hga : ∀ x, x ∈ args.toList → st2.get x = st.get x := fun x hx => ha.get x (by simp [hop, Op.operands, Call.operands]; right; simpa using hx)
 have hgf : st2.get (.func f) = st.get (.func f) := rfl
 have hcal2 : callee st2 (.func f) args.toList = callee st (.func f) args.toList := by
   unfold callee
   rw [hgf]
   have : (args.toList.map fun x => (st2.get x).strip) = args.toList.map fun x => (st.get x).strip := List.map_congr_left fun x hx => by rw [hga x hx]
   rw [this]
 unfold absG at h ⊢
 simp only [hg] at h ⊢
 unfold absOp at h ⊢
 have he : ¬ isEv o.op = true := by rw [hop]; simp [isEv]
 rw [if_neg he] at h ⊢
 simp only [hop] at h ⊢
 rw [hcal2]
 cases hcs : callee st (.func f) args.toList with
 | none => simp only [hcs] at h
 | some p =>
   obtain ⟨q, vs⟩ := p
   simp only [hcs] at h ⊢
   obtain ⟨h1, h2, h3⟩ := h
   simp only [Bool.false_eq_true, if_false] at h3 ⊢
   refine ⟨⟨by rw [hgf]; exact h1.1, fun x hx => by rw [hga x hx]; exact h1.2 x hx⟩, (ha.dst _).2 h2, ?_⟩
   rw [ha.bx]
   refine ⟨h3.1, fun β M w ws g1 g2 g3 g4 => (h3.2 β M w ws g1 g2 g3 g4).mono ?_⟩
   rintro e w' ⟨v, r, bx', β', g5, g6, g7⟩
   exact ⟨v, r, bx', β', g5, hk _ _ g6, g7⟩
def absX (P : Program) (ops : Array Oper) (fl : Nat → Bool) (i : Nat) (K : St → Prop) (st : St) : Prop :=
 match ops[i]? with
 | none => False
 | some o => if (fl i && fzb o.op) = true then ∃ v, YF P ops o st v ∧ dstOk st o.dst ∧ K (st.put o.dst v) else if (fl i && callN o) = true then (∃ bx v, K (st.at bx o.dst v)) ∧ absG P false ops o K st else absG P true ops o K st
variable {fl : Nat → Bool} {i : Nat} {o : Oper}
theorem absX_at (ho : ops[i]? = some o) {K : St → Prop} : absX P ops fl i K st = if (fl i && fzb o.op) = true then ∃ v, YF P ops o st v ∧ dstOk st o.dst ∧ K (st.put o.dst v) else if (fl i && callN o) = true then (∃ bx v, K (st.at bx o.dst v)) ∧ absG P false ops o K st else absG P true ops o K st := by
 unfold absX
 simp only [ho]
def SX (P : Program) (ops : Array Oper) (fl : Nat → Bool) (i : Nat) (o : Oper) (st : St) (v : V) : Prop := if (fl i && fzb o.op) = true then YF P ops o st v else Y0 P ops o st v
def clX (fl : Nat → Bool) (i : Nat) (o : Oper) : Bool := (fl i && fzb o.op) || cls0 o
theorem absX_iff (ho : ops[i]? = some o) (hc : clX fl i o = true) {K : St → Prop} : absX P ops fl i K st ↔ ∃ v, SX P ops fl i o st v ∧ dstOk st o.dst ∧ K (st.put o.dst v) := by
 rw [absX_at ho]
 unfold SX
 by_cases hf : (fl i && fzb o.op) = true
 · simp only [if_pos hf]
 · simp only [if_neg hf]
   have : cls0 o = true := by simpa [clX, hf] using hc
   rw [if_neg (by simp [cls0_callN this])]
   exact y0_iff this
theorem SX.fn {v v' : V} (h : SX P ops fl i o st v) (h' : SX P ops fl i o st v') : v = v' := by
 unfold SX at h h'
 split at h
 · rename_i hf; rw [if_pos hf] at h'; exact h.fn h'
 · rename_i hf; rw [if_neg hf] at h'; exact h.fn h'
theorem SX.agree (hc : clX fl i o = true) {st2 : St} (hs : ∀ t, t ∈ o.looksAt ops → st2.sl t = st.sl t) (hn : st2.n = st.n) {v : V} (h : SX P ops fl i o st v) : SX P ops fl i o st2 v := by
 unfold SX at h ⊢
 by_cases hf : (fl i && fzb o.op) = true
 · rw [if_pos hf] at h ⊢
   exact h.agree hs hn
 · rw [if_neg hf] at h ⊢
   exact h.agree (by simpa [clX, hf] using hc) hs hn
theorem absX_targets (ho : ops[i]? = some o) (hnc : (fl i && callN o) = false) {K : St → Prop} (h : absX P ops fl i K st) : Targets P true ops o st K (absX P ops fl i) := by
 rw [absX_at ho] at h
 by_cases hf : (fl i && fzb o.op) = true
 · rw [if_pos hf] at h
   obtain ⟨v, h1, h2, h3⟩ := h
   refine targets_one v h3 fun st2 K2 ha hk => ?_
   rw [absX_at ho, if_pos hf]
   exact ⟨v, h1.agree ha.sl ha.n, (ha.dst _).2 h2, hk⟩
 · rw [if_neg hf, if_neg (by simp [hnc])] at h
   obtain ⟨T, h1, h2, h3⟩ := absG_targets h
   refine ⟨T, h1, h2, fun st2 K2 ha hT => ?_⟩
   rw [absX_at ho, if_neg hf, if_neg (by simp [hnc])]
   exact h3 st2 K2 ha hT
theorem absX_ok : TOk (absX P ops fl) where
 mono i K K2 st hm h := by
   unfold absX at h ⊢
   split at h
   · exact h.elim
   · rename_i o ho
     split at h
     · rename_i hf
       obtain ⟨v, h1, h2, h3⟩ := h
       rw [if_pos hf]
       exact ⟨v, h1, h2, hm _ h3⟩
     · rename_i hf
       rw [if_neg hf]
       split at h
       · rename_i hf2
         rw [if_pos hf2]
         obtain ⟨⟨bx, v, h1⟩, h2⟩ := h
         exact ⟨⟨bx, v, hm _ h1⟩, absG_mono hm h2⟩
       · rename_i hf2
         rw [if_neg hf2]
         exact absG_mono hm h
 live i K st h := by
   cases ho : ops[i]? with
   | none => unfold absX at h; simp only [ho] at h
   | some o =>
     by_cases hnc : (fl i && callN o) = true
     · rw [absX_at ho] at h
       have hcb : callN o = true := by simp only [Bool.and_eq_true] at hnc; exact hnc.2
       have hz : ¬ (fl i && fzb o.op) = true := fun e => by
         simp only [Bool.and_eq_true] at e
         rw [fzb_callN e.2] at hcb; cases hcb
       rw [if_neg hz, if_pos hnc] at h
       obtain ⟨⟨bx, v, h1⟩, _⟩ := h
       exact ⟨_, h1⟩
     · obtain ⟨T, ⟨bx, v, h0⟩, hT, _⟩ := absX_targets ho (by simpa using hnc) h
       exact ⟨_, hT bx v h0⟩
theorem comm_X {j : Nat} {oi oj : Oper} (hoi : ops[i]? = some oi) (hoj : ops[j]? = some oj) (h : (apartC ops oi oj || swapC ops oi oj) = true ∨ (oi.apart ops oj = true ∧ (clX fl i oi = true ∨ clX fl j oj = true))) (hci' : (fl i && callN oi) = true → clX fl j oj = true) (hcj' : (fl j && callN oj) = true → clX fl i oi = true) {K : St → Prop} (hh : absX P ops fl i (absX P ops fl j K) st) :
   absX P ops fl j (absX P ops fl i K) st := by
 have hap : oi.apart ops oj = true := by
   rcases h with h | h
   · rcases Bool.or_eq_true_iff.1 h with h | h
     · simp only [apartC, Bool.and_eq_true] at h; exact h.1
     · simp only [swapC, Bool.and_eq_true] at h; exact h.1
   · exact h.1
 obtain ⟨h1, h2, h3⟩ := Oper.apart_spec hap
 have h2' : ∀ d, oj.dst = some d → oi.dst ≠ some d := fun d hd he => h2 d he hd
 have callZ : ∀ {i : Nat} {o : Oper}, (fl i && callN o) = true → callN o = true ∧ ¬ (fl i && fzb o.op) = true := fun {i o} hn => by
   have hcb : callN o = true := by simp only [Bool.and_eq_true] at hn; exact hn.2
   exact ⟨hcb, fun e => by
     simp only [Bool.and_eq_true] at e
     rw [fzb_callN e.2] at hcb; cases hcb⟩
 by_cases hci : clX fl i oi = true
 · obtain ⟨v, hy, hd, hk⟩ := (absX_iff hoi hci).1 hh
   by_cases hnj : (fl j && callN oj) = true
   · obtain ⟨hcb, hz⟩ := callZ hnj
     rw [absX_at hoj, if_neg hz, if_pos hnj] at hk
     rw [absX_at hoj, if_neg hz, if_pos hnj]
     have hstep : ∀ bx u, K ((st.put oi.dst v).at bx oj.dst u) → absX P ops fl i K (st.at bx oj.dst u) := fun bx u hu => (absX_iff hoi hci).2 ⟨v, hy.agree hci (fun t ht => at_sl (fun e => h3 t e ht)) at_n, at_dst.2 hd, by
       rwa [put_put st bx v u h2] at hu⟩
     obtain ⟨⟨bx, u, hu⟩, hk2⟩ := hk
     exact ⟨⟨bx, u, hstep bx u hu⟩, call_agree hcb (agree_put' h1) hk2 hstep⟩
   obtain ⟨T, _, hT, hT2⟩ := absX_targets hoj (by simpa using hnj) hk
   refine hT2 st _ (agree_put' h1) (fun bx u hu => (absX_iff hoi hci).2 ⟨v, hy.agree hci (fun t ht => at_sl (fun e => h3 t e ht)) at_n, at_dst.2 hd, ?_⟩)
   have := hT bx u hu
   rwa [put_put st bx v u h2] at this
 · by_cases hcj : clX fl j oj = true
   · by_cases hni : (fl i && callN oi) = true
     · obtain ⟨hcb, hz⟩ := callZ hni
       rw [absX_at hoi, if_neg hz, if_pos hni] at hh
       obtain ⟨⟨bx0, u0, h0⟩, hh2⟩ := hh
       obtain ⟨v, hy, hd, hk0⟩ := (absX_iff hoj hcj).1 h0
       have hy' : SX P ops fl j oj st v := hy.agree hcj (fun t ht => (at_sl (fun e => h1 t e ht)).symm) at_n.symm
       have hstep : ∀ bx u, absX P ops fl j K (st.at bx oi.dst u) → K ((st.put oj.dst v).at bx oi.dst u) := fun bx u hu => by
         obtain ⟨v', hy2, _, hk⟩ := (absX_iff hoj hcj).1 hu
         have : v' = v := (hy2.agree (st2 := st) hcj (fun t ht => (at_sl (fun e => h1 t e ht)).symm) at_n.symm).fn hy'
         subst this
         rw [put_put st bx v' u h2']
         exact hk
       refine (absX_iff hoj hcj).2 ⟨v, hy', at_dst.1 hd, ?_⟩
       rw [absX_at hoi, if_neg hz, if_pos hni]
       exact ⟨⟨bx0, u0, hstep _ _ h0⟩, call_agree hcb (agree_put h3) hh2 hstep⟩
     obtain ⟨T, ⟨bx0, u0, h0⟩, hT, hT2⟩ := absX_targets hoi (by simpa using hni) hh
     obtain ⟨v, hy, hd, _⟩ := (absX_iff hoj hcj).1 (hT bx0 u0 h0)
     have hy' : SX P ops fl j oj st v := hy.agree hcj (fun t ht => (at_sl (fun e => h1 t e ht)).symm) at_n.symm
     refine (absX_iff hoj hcj).2 ⟨v, hy', at_dst.1 hd, hT2 _ _ (agree_put h3) (fun bx u hu => ?_)⟩
     obtain ⟨v', hy2, _, hk⟩ := (absX_iff hoj hcj).1 (hT bx u hu)
     have : v' = v := (hy2.agree (st2 := st) hcj (fun t ht => (at_sl (fun e => h1 t e ht)).symm) at_n.symm).fn hy'
     subst this
     rw [put_put st bx v' u h2']
     exact hk
   · have hac : (apartC ops oi oj || swapC ops oi oj) = true := by
       rcases h with h | ⟨_, h | h⟩
       · exact h
       · exact absurd h hci
       · exact absurd h hcj
     have hfi : ¬ (fl i && fzb oi.op) = true := fun e => hci (by simp [clX, e])
     have hfj : ¬ (fl j && fzb oj.op) = true := fun e => hcj (by simp [clX, e])
     have ei : ∀ K st, absX P ops fl i K st = absG P true ops oi K st := fun K st => by rw [absX_at hoi, if_neg hfi, if_neg fun e => hcj (hci' e)]
     have ej : ∀ K st, absX P ops fl j K st = absG P true ops oj K st := fun K st => by rw [absX_at hoj, if_neg hfj, if_neg fun e => hci (hcj' e)]
     rw [ej]
     rw [ei] at hh
     have hh' : absG P true ops oi (absG P true ops oj K) st := absG_mono (fun s hs => by rw [← ej]; exact hs) hh
     rcases Bool.or_eq_true_iff.1 hac with hac | hac
     · exact absG_mono (fun s hs => by rw [ei]; exact hs) (comm_apart hac hh')
     · exact absG_mono (fun s hs => by rw [ei]; exact hs) (comm_swap hac hh')
end
end Go.Pl

set_option linter.unusedSimpArgs false
set_option linter.unusedVariables false
namespace Go.Pl
open Go
def soloC (o : Oper) : Bool :=
 match o.op, o.guard with
 | .call { callee := .value (.func _), .. }, none => true
 | .call { callee := .value (.tmp _), .. }, _ => true
 | _, _ => false
def soloB (ops : Array Oper) (i : Nat) : Bool :=
 match ops[i]? with
 | some o => soloC o && (List.range ops.size).all fun j => decide (j = i) || (if j < i then ((masks ops).getD i 0).testBit j else ((masks ops).getD j 0).testBit i)
 | none => false
def soloL (ops : Array Oper) : List Bool := (List.range ops.size).map (soloB ops)
section
variable {P : Program} {ops : Array Oper} {M : Off} {S : Nat → Oper → (St → Prop) → St → Prop}
theorem solo_waits {i : Nat} (h : soloB ops i = true) {j : Nat} (hj : j < ops.size) : (j < i → Waits (masks ops) i j) ∧ (i < j → Waits (masks ops) j i) := by
 unfold soloB at h
 split at h
 · simp only [Bool.and_eq_true] at h
   replace h := h.2
   simp only [List.all_eq_true, List.mem_range, Bool.or_eq_true, decide_eq_true_eq] at h
   rcases h j hj with e | e
   · exact ⟨fun h => by omega, fun h => by omega⟩
   · refine ⟨fun h => ?_, fun h => ?_⟩
     · rw [if_pos h] at e; exact e
     · rw [if_neg (by omega)] at e; exact e
 · cases h
def absS (P : Program) (ops : Array Oper) (S : Nat → Oper → (St → Prop) → St → Prop) (i : Nat) (o : Oper) (K : St → Prop) (st : St) : Prop := if soloB ops i = true then S i o K st else absG P true ops o K st
def SMono (S : Nat → Oper → (St → Prop) → St → Prop) : Prop := ∀ i o K K' st, (∀ s, K s → K' s) → S i o K st → S i o K' st
theorem absS_mono (hS : SMono S) {i : Nat} {o : Oper} {K K' : St → Prop} {st : St} (hm : ∀ s, K s → K' s) (h : absS P ops S i o K st) : absS P ops S i o K' st := by
 unfold absS at h ⊢
 split at h
 · rename_i hs; rw [if_pos hs]; exact hS _ _ _ _ _ hm h
 · rename_i hs; rw [if_neg hs]; exact absG_mono hm h
def absAnyB (P : Program) (ops : Array Oper) (S : Nat → Oper → (St → Prop) → St → Prop) (K : St → Prop) : Nat → Array Bool → St → Prop
 | 0, listed, st => Region.ready .any ops listed = [] ∧ K st
 | fuel + 1, listed, st => (Region.ready .any ops listed = [] → K st) ∧
     ∀ i ∈ Region.ready .any ops listed, ∃ o, ops[i]? = some o ∧ absS P ops S i o (absAnyB P ops S K fuel (listed.setIfInBounds i true)) st
def absOpsB (P : Program) (ops : Array Oper) (S : Nat → Oper → (St → Prop) → St → Prop) (K : St → Prop) : List Oper → Nat → St → Prop
 | [], _, st => K st
 | o :: l, k, st => absS P ops S k o (absOpsB P ops S K l (k + 1)) st
theorem absAnyB_sound {ro : Option Nat} {n : Nat} {K : St → Prop} {Q : Exit → Act → World → Prop} {M : Off}
   (hS : ∀ (i : Nat) (o : Oper) (K : St → Prop) (st : St) (a : Act) (w : World) (β : Beta) (K' : Act → World → Prop), ops[i]? = some o → S i o K st → Rs P β M st a w → Kont P β M st w K K' → wpOpIn (rf ro) n P ops Q i K' a w) :
   ∀ (fuel : Nat) (listed : Array Bool) (st : St) (a : Act) (w : World) (β : Beta), absAnyB P ops S K fuel listed st → Rs P β M st a w → Kont P β M st w K (Q .normal) →
   wpAnyIn (rf ro) n P .any ops Q fuel listed a w
 | 0, listed, st, a, w, β, h, hr, hK => ⟨h.1, hK st β a w h.2 hr (Tr.refl _ _ _)⟩
 | fuel + 1, listed, st, a, w, β, h, hr, hK => ⟨fun h0 => hK st β a w (h.1 h0) hr (Tr.refl _ _ _), fun i hi => by
     obtain ⟨o, ho, hg⟩ := h.2 i hi
     unfold absS at hg
     split at hg
     · exact hS i o _ st a w β _ ho hg hr (fun st' β' a' w' hk hr' ht => absAnyB_sound hS fuel _ st' a' w' β' hk hr' (hK.trans ht))
     · exact absG_sound ho hg hr (fun st' β' a' w' hk hr' ht => absAnyB_sound hS fuel _ st' a' w' β' hk hr' (hK.trans ht))⟩
theorem any_firstB {K : St → Prop} {i : Nat} {oi : Oper} (hi : ops[i]? = some oi) (hns : soloB ops i = false) : ∀ (fuel : Nat) (listed : Array Bool) (st : St), Closed ops listed →
     (∀ j oj, ops[j]? = some oj → j ≠ i → listed.getD j true = false → ¬ Waits (masks ops) j i → apartC ops oi oj = true) →
     i ∈ Region.ready .any ops listed → absG P true ops oi (absAnyB P ops S K fuel (listed.setIfInBounds i true)) st → absAnyB P ops S K (fuel + 1) listed st := by
 have hns' : ¬ soloB ops i = true := by rw [hns]; simp
 intro fuel
 induction fuel with
 | zero =>
   intro listed st _ _ hr H
   refine ⟨fun h => (by rw [h] at hr; cases hr), fun j hj => ?_⟩
   by_cases hji : j = i
   · subst hji; exact ⟨oi, hi, by unfold absS; rw [if_neg hns']; exact H⟩
   · obtain ⟨T, ⟨bx, v, h0⟩, hT, _⟩ := absG_targets H
     have := ready_mono hj hji
     rw [(hT bx v h0).1] at this
     cases this
 | succ fuel ih =>
   intro listed st hcl hfree hr H
   refine ⟨fun h => (by rw [h] at hr; cases hr), fun j hj => ?_⟩
   by_cases hji : j = i
   · subst hji; exact ⟨oi, hi, by unfold absS; rw [if_neg hns']; exact H⟩
   · obtain ⟨hjun, oj, hoj, hall⟩ := mem_ready.1 hj
     obtain ⟨hiun, oi', hoi', halli⟩ := mem_ready.1 hr
     have hno : ∀ {x : Nat}, listed.getD x true = false → ¬ listed.getD x false = true := fun {x} h1 h2 => by
       rcases Nat.lt_or_ge x listed.size with h' | h'
       · simp [h'] at h1 h2; rw [h1] at h2; cases h2
       · simp [Array.getElem?_eq_none h'] at h2
     have hnw : ¬ Waits (masks ops) j i := fun hw => hno hiun (waits_listed hcl j oj i hoj hall hw)
     have hnw2 : ¬ Waits (masks ops) i j := fun hw => hno hjun (waits_listed hcl i oi' j hoi' halli hw)
     have hilt := (Array.getElem?_eq_some_iff.1 hi).1
     have hdj : ¬ soloB ops j = true := by
       intro hs
       ·
         obtain ⟨w1, w2⟩ := solo_waits hs hilt
         rcases Nat.lt_or_ge i j with h' | h'
         · exact absurd (w1 h') hnw
         · exact absurd (w2 (by omega)) hnw2
     have hap := hfree j oj hoj hji hjun hnw
     have h1 : absG P true ops oi (absG P true ops oj (absAnyB P ops S K fuel ((listed.setIfInBounds i true).setIfInBounds j true))) st :=
       absG_mono (fun s hs => by
         obtain ⟨o', ho', hg⟩ := hs.2 j (ready_mono hj hji)
         rw [hoj] at ho'
         injection ho' with ho'
         subst ho'
         unfold absS at hg
         rw [if_neg hdj] at hg
         exact hg) H
     have h2 := comm_apart hap h1
     refine ⟨oj, hoj, ?_⟩
     unfold absS
     rw [if_neg hdj]
     refine absG_mono (fun s hs => ?_) h2
     refine ih (listed.setIfInBounds j true) s ?_ ?_ (ready_mono hr (Ne.symm hji)) ?_
     · intro k ok hk hkl e he hb
       by_cases hkj : k = j
       · subst hkj
         rw [hoj] at hk
         injection hk with hk
         subst hk
         exact getD_set_true (hall e he hb)
       · rw [getD_set_ne false (Ne.symm hkj)] at hkl
         exact getD_set_true (hcl k ok hk hkl e he hb)
     · intro k ok hk hki hun hnw'
       refine hfree k ok hk hki ?_ hnw'
       by_cases hjk : j = k
       · subst hjk; exact hjun
       · rw [getD_set_ne true hjk] at hun; exact hun
     · rw [Array.setIfInBounds_comm _ _ hji]
       exact hs
theorem absAnyB_lex (hS : SMono S) (hB : lexC ops = true) {K : St → Prop} : ∀ (l : List Oper) (k : Nat) (listed : Array Bool) (st : St), (∀ j, l[j]? = ops[k + j]?) → listed.size = ops.size → k + l.length = ops.size → (∀ j, j < ops.size → (listed.getD j false = decide (j < k)) ∧ (listed.getD j true = decide (j < k))) →
   absOpsB P ops S K l k st → absAnyB P ops S K l.length listed st
 | [], k, listed, st, hl, hsz, hk, hlist, h => by
   refine ⟨?_, h⟩
   apply List.eq_nil_iff_forall_not_mem.2
   intro j hj
   obtain ⟨h1, o, ho, _⟩ := mem_ready.1 hj
   have hlt := (Array.getElem?_eq_some_iff.1 ho).1
   rw [(hlist j hlt).2] at h1
   simp at h1 hk
   omega
 | o :: l, k, listed, st, hl, hsz, hk, hlist, h => by
   have h0 : ops[k]? = some o := by simpa using (hl 0).symm
   have hklt := (Array.getElem?_eq_some_iff.1 h0).1
   obtain ⟨hdep, hap⟩ := lexC_at hB h0
   simp only [List.length_cons] at hk ⊢
   have hcl : Closed ops listed := by
     intro j oj hj hjl e he hb
     have hjlt := (Array.getElem?_eq_some_iff.1 hj).1
     rw [(hlist j hjlt).1] at hjl
     have hjk : j < k := by simpa using hjl
     have := (lexC_at hB hj).1 e he hb
     rw [(hlist e.on (by omega)).1]
     simp; omega
   have hkr : k ∈ Region.ready .any ops listed := mem_ready.2 ⟨by rw [(hlist k hklt).2]; simp, o, h0, fun e he hb => by
     have := hdep e he hb
     rw [(hlist e.on (by omega)).1]
     simp; omega⟩
   have next : ∀ s, absOpsB P ops S K l (k + 1) s → absAnyB P ops S K l.length (listed.setIfInBounds k true) s := fun s hs => absAnyB_lex hS hB l (k + 1) _ s (fun j => by have := hl (j + 1); simpa [Nat.add_assoc, Nat.add_comm 1 j] using this) (by simpa using hsz) (by omega) (fun j hj => by
     by_cases e : k = j
     · subst e
       have : k < listed.size := by omega
       simp [this]
     · rw [getD_set_ne false e, getD_set_ne true e, (hlist j hj).1, (hlist j hj).2]
       have : (j < k) ↔ (j < k + 1) := by omega
       simp [this]) hs
   cases hs : soloB ops k with
   | false =>
     have h' : absS P ops S k o (absOpsB P ops S K l (k + 1)) st := h
     unfold absS at h'
     rw [if_neg (by rw [hs]; simp)] at h'
     refine any_firstB h0 hs l.length listed st hcl (fun j oj hj hne hun hw => ?_) hkr (absG_mono next h')
     have hjlt := (Array.getElem?_eq_some_iff.1 hj).1
     rw [(hlist j hjlt).2] at hun
     simp at hun
     exact hap j oj hj (by omega) hw
   | true =>
     refine ⟨fun hn => (by rw [hn] at hkr; cases hkr), fun j hj => ?_⟩
     obtain ⟨h1, oj, hoj, hall⟩ := mem_ready.1 hj
     have hjlt := (Array.getElem?_eq_some_iff.1 hoj).1
     rw [(hlist j hjlt).2] at h1
     have hjk : k ≤ j := by simp at h1; omega
     have hjk2 : j = k := by
       rcases Nat.lt_or_ge k j with h' | h'
       · have := waits_listed hcl j oj k hoj hall ((solo_waits hs hjlt).2 h')
         rw [(hlist k hklt).1] at this
         simp at this
       · omega
     subst hjk2
     exact ⟨o, h0, absS_mono hS next h⟩
end
end Go.Pl

set_option linter.unusedSimpArgs false
set_option linter.unusedVariables false
namespace Go.Pl
open Go
structure POp where
 d : Option Tmp
 op : Op
 g : Option (Tmp × Bool)
 fz : Bool
def POp.clr (o : POp) : POp := { o with fz := false }
inductive PC where
 | skip
 | reg (d : Bool) (ops : List POp) (ks : List Nat)
 | regF (un uv : List (Nat × Nat)) (ops : List POp) (ks : List Nat)
 | regB (so : List Bool) (ops : List POp) (ks : List Nat)
 | seq (a b : PC)
 | cond (c : Operand) (a b : PC)
 | block (id : Nat) (c : PC)
 | loop (c : PC)
 | wk (c : PC)
 | fz (t : Nat) (c : PC)
 | rangeFunc (g : Operand) (ps : Array Tmp) (a b : PC)
 | exit (id : Nat)
 | ret
 | raw (c : Code)
 | bad
def POp.oper (o : POp) : Oper := { dst := o.d, op := o.op, type := 0, pos := "", after := #[], guard := none }
def compileOp (ops : Array Oper) (o : Oper) : POp :=
 match o.guard with
 | none => ⟨o.dst, o.op, none, false⟩
 | some (g, w) => match (ops[g]?).bind (·.dst) with
   | some d => ⟨o.dst, o.op, some (d, w), false⟩
   | none => ⟨o.dst, .ready 0, none, false⟩
def lexU (ops : Array Oper) : List (Nat × Nat) :=
 let ms := masks ops
 (List.range ops.size).flatMap fun k => ((List.range ops.size).filter fun j => decide (k < j) && !(ms.getD j 0).testBit k && (match ops[k]?, ops[j]? with
   | some ok, some oj => !(apartC ops ok oj || swapC ops ok oj)
   | _, _ => false)).map fun j => (k, j)
def lexV (ops : Array Oper) : List (Nat × Nat) :=
 let ms := masks ops
 (List.range ops.size).flatMap fun k => ((List.range ops.size).filter fun j => decide (k < j) && !(ms.getD j 0).testBit k && (match ops[k]?, ops[j]? with
   | some ok, some oj => (callN ok || callN oj) && !cls0 ok && !cls0 oj
   | _, _ => false)).map fun j => (k, j)
def lexD (ops : Array Oper) : Bool :=
 let ms := masks ops
 (List.range ops.size).all fun k => match ops[k]? with
   | some ok => ok.after.all (fun e => !Region.binds .any e || decide (e.on < k)) &&
       (List.range ops.size).all fun j => decide (j ≤ k) || match ops[j]? with
         | some oj => (ms.getD j 0).testBit k || ok.apart ops oj
         | none => true
   | none => true
def compile : Code → PC
 | .skip => .skip
 | .label _ => .skip
 | .region _ ops draw => if draw && !lexC ops then (if lexD ops then .regF (lexU ops) (lexV ops) (ops.toList.map (compileOp ops)) [] else .bad) else if draw && (soloL ops).any id then .regB (soloL ops) (ops.toList.map (compileOp ops)) [] else .reg draw (ops.toList.map (compileOp ops)) []
 | .seq a b => .seq (compile a) (compile b)
 | .cond c a b => .cond c (compile a) (compile b)
 | .block id c => .block id (compile c)
 | .loop c => .loop (compile c)
 | .exit id => .exit id
 | .ret => .ret
 | .rangeFunc g ps a b => .rangeFunc g ps (compile a) (compile b)
 | _ => .bad
def noRange : PC → Bool
 | .seq a b => noRange a && noRange b
 | .cond _ a b => noRange a && noRange b
 | .block _ c => noRange c
 | .loop c => noRange c
 | .wk c => noRange c
 | .fz _ c => noRange c
 | .rangeFunc .. => false
 | _ => true
def erase : PC → PC
 | .reg d ops _ => .reg d (ops.map POp.clr) []
 | .regF un uv ops _ => .regF un uv (ops.map POp.clr) []
 | .regB so ops _ => .regB so (ops.map POp.clr) []
 | .seq a b => .seq (erase a) (erase b)
 | .cond c a b => .cond c (erase a) (erase b)
 | .block id c => .block id (erase c)
 | .loop c => .loop (erase c)
 | .wk c => erase c
 | .fz _ c => erase c
 | .rangeFunc g ps a b => .rangeFunc g ps (erase a) (erase b)
 | c => c
def slk : List (Nat × V) → Nat → V
 | [], _ => .unk
 | (k, v) :: l, t => if t = k then v else slk l t
def St.keep (st : St) (ks : List Nat) : St := { st with sl := slk (ks.map fun k => (k, st.sl k)) }
def guardedP (P : Program) (d : Bool) (o : POp) (wb : Bool) (K : St → Prop) (st : St) : Prop :=
 if isEv o.op = true then (wb = true → (ev P st o.oper).1) ∧ dstOk st o.d ∧ K (st.put o.d (mkOpt wb (ev P st o.oper).2)) else
 match o.op with
 | .call { callee := .value f, args := args, .. } => match callee st f args.toList with
   | some (q, vs) => dstOk st o.d ∧ ∃ r, (wb = true → calleeLive st f args.toList ∧ PureCall P q vs st.bx r) ∧ K (st.put o.d (mkOpt wb r))
   | none => False
 | _ => (wb = true → absOp P d o.oper K st) ∧ (wb = false → dstOk st o.d ∧ K (st.put o.d (.dead .unk)))
def AbsYield (P : Program) (b : Nat) (args : List V) (bx : Boxes) (Kc : V → Boxes → Prop) : Prop :=
 ∀ (n : Nat) (β : Beta) (M : Off) (w : World) (vs : Array Value) (k : Nat), β b = some (some k) → WOk β M bx w → GlOk P β w (Fz β M bx w) → vs.size = args.length →
   (∀ (i : Nat) (c : V), args[i]? = some c → Rep β w (Fz β M bx w) c (vs.getD i undef)) →
   YieldAt Fence.wide n P k vs w fun e w' => ∃ v r bx' β', e = .returned v ∧ Kc r bx' ∧ WOk β' M bx' w' ∧ Tr β bx w β' bx' w' ∧ Rep β' w' (Fz β' M bx' w') r v
def yieldOf (st : St) (d : Bool) : Op → Option (Nat × List V)
 | .call { callee := .value f, args := args, .. } => if d = true then none else match (st.get f).strip with
   | .yl b => some (b, args.toList.map fun x => (st.get x).strip)
   | _ => none
 | _ => none
def yieldLive (st : St) : Op → Prop
 | .call { callee := .value f, args := args, .. } => calleeLive st f args.toList
 | _ => False
def yieldP (P : Program) (o : POp) (K : St → Prop) (st : St) (b : Nat) (vs : List V) : Prop :=
 yieldLive st o.op ∧ dstOk st o.d ∧ AbsYield P b vs st.bx fun r bx' => K ({ st with bx := bx' }.put o.d r)
def branchP (P : Program) (d : Bool) (o : POp) (wb : Bool) (K : St → Prop) (st : St) : Prop :=
 d = false ∧ (wb = true → absOp P d o.oper K st) ∧ (wb = false → dstOk st o.d ∧ K (st.put o.d (.dead .unk)))
def boxP (P : Program) (e : TypeId) (x : Operand) (d : Option Tmp) (K : St → Prop) (st : St) : Prop :=
 storable P e (st.get x) ∧ dstOk st d ∧ FinB st.bx ∧ K (st.put d (.ep (st.get x) 0))
def opP0 (P : Program) (d : Bool) (o : POp) (K : St → Prop) (st : St) : Prop :=
 match yieldOf st d o.op with
 | some (b, vs) => match o.g with
   | none => yieldP P o K st b vs
   | some (s, want) => match (st.sl s).strip with
     | .bool c => (((st.sl s).liveB && (c == want)) = true → yieldP P o K st b vs) ∧ (((st.sl s).liveB && (c == want)) = false → dstOk st o.d ∧ K (st.put o.d (.dead .unk)))
     | _ => False
 | none => match o.g with
   | none => absOp P d o.oper K st
   | some (s, want) => match (st.sl s).strip with
     | .bool c => if isEv o.op = true then guardedP P d o ((st.sl s).liveB && (c == want)) K st else guardedP P d o ((st.sl s).liveB && (c == want)) K st ∨ branchP P d o ((st.sl s).liveB && (c == want)) K st
     | _ => False
def nilB (op : BinOp) (c : Bool) : Bool := match op with | .eql => c | _ => !c
def nilV (op : BinOp) (c : Bool) : V := .bool (nilB op c)
def nilcK (k : Knd) (op : BinOp) (x y : V) (d : Option Tmp) (K : St → Prop) (st : St) : Prop :=
 match k, x, y with
 | .slice _, .sl _ es, .nils => (op = .eql ∨ op = .neq) ∧ dstOk st d ∧ ∀ c : Bool, (es ≠ [] → c = false) → K (st.put d (nilV op c))
 | .slice _, .own _ _ _ n, .nils => (op = .eql ∨ op = .neq) ∧ dstOk st d ∧ ∀ c : Bool, (0 < n → c = false) → K (st.put d (nilV op c))
 | .slice _, .nils, .nils => (op = .eql ∨ op = .neq) ∧ dstOk st d ∧ K (st.put d (nilV op true))
 | _, _, _ => False
def bldFP (P : Program) (t : TypeId) (len : Nat) (parts : List (Nat × Operand)) (d : Option Tmp) (K : St → Prop) (st : St) : Prop :=
 match knd P t with
 | .slice e => match tzero P e with
   | some z => (storable P e (ofValue z) ∧ 0 < tsz P e ∧ len * tsz P e ≤ 16777216 ∧ ∀ p, p ∈ parts → p.1 < len ∧ storable P e (st.get p.2)) ∧ dstOk st d ∧ FinB st.bx ∧
       K (st.put d (.sl (tsz P e) (fillV st (List.replicate len (ofValue z)) parts)))
   | none => False
 | _ => False
def bldGP (P : Program) (t : TypeId) (len : Nat) (parts : List (Nat × Operand)) (g : Option (Tmp × Bool)) (d : Option Tmp) (K : St → Prop) (st : St) : Prop :=
 match g with
 | none => bldFP P t len parts d K st
 | some (s, w) => match (st.sl s).strip with
   | .bool c => (((st.sl s).liveB && (c == w)) = true → bldFP P t len parts d K st) ∧ (((st.sl s).liveB && (c == w)) = false → dstOk st d ∧ K (st.put d (.dead .unk)))
   | _ => False
def cvtQ (P : Program) (k : Knd) (s t : TypeId) (x : V) (dst : Option Tmp) (K : St → Prop) (st : St) : Prop :=
 match k with
 | .slice e => match x with
   | .own b sz o n => ∃ ty l, st.bx b = some (.row ty 1 (l.map byteV)) ∧ knd P e = .int .u8 ∧ knd P t = .str ∧ sz = 1 ∧ o = 0 ∧ n = l.length ∧ dstOk st dst ∧ K (st.put dst (.str l))
   | .nils => knd P e = .int .u8 ∧ knd P t = .str ∧ dstOk st dst ∧ K (st.put dst (.str []))
   | _ => False
 | _ => cvtP P s t x dst K st
def arrQ (P : Program) (k : Knd) (x : V) (lo : Option V) (dst : Option Tmp) (K : St → Prop) (st : St) : Prop :=
 match k, x, intArg 0 lo with
 | .arr n e, .ptr b sz i o, some (c, l) => ∃ ty cs, st.bx b = some (.row ty n [.agg cs]) ∧ sz = n ∧ i = 0 ∧ o = 0 ∧ cs.length = n ∧ (∀ c, c ∈ cs → c.cells = [c]) ∧ tyOk P e = true ∧ tsz P e = 1 ∧ n ≤ 1000000 ∧ c ∧ 0 ≤ l ∧ l < n ∧ dstOk st dst ∧
     K ((st.box b (some (.row ty 1 cs))).put dst (.own b 1 l.toNat (n - l.toNat)))
 | _, _, _ => False
def opP (P : Program) (d : Bool) (o : POp) (K : St → Prop) (st : St) : Prop :=
 match o.fz with
 | false => opP0 P d o K st
 | true => match o.op with
   | .box e x => d = false ∧ o.g = none ∧ boxP P e x o.d K st
   | .buildSlice t len parts => d = false ∧ bldGP P t len parts.toList o.g o.d K st
   | .binOp op t x y _ => d = false ∧ o.g = none ∧ nilcK (knd P t) op (st.get x) (st.get y) o.d K st
   | .convert s t x => d = false ∧ o.g = none ∧ cvtQ P (knd P s) s t (st.get x) o.d K st
   | .slice t x lo none none => d = false ∧ o.g = none ∧ arrQ P (knd P t) (st.get x) (lo.map st.get) o.d K st
   | .call { callee := .value _, .. } => if d = true then opP0 P d o.clr K st else ∃ st', Cov st st' ∧ opP0 P d o.clr K st'
   | _ => opP0 P d o.clr K st
def opsP (P : Program) (d : Bool) (K : St → Prop) : List POp → St → Prop
 | [], st => K st
 | o :: rest, st => opP P d o (opsP P d K rest) st
def opsB (P : Program) (K : St → Prop) : List Bool → List POp → St → Prop
 | _, [], st => K st
 | [], o :: rest, st => opP P true o (opsB P K [] rest) st
 | s :: so, o :: rest, st => opP P (!s) o (opsB P K so rest) st
def callQ (q : POp) : Bool :=
 match q.g, q.op with
 | none, .call { callee := .value (.func _), .. } => true
 | _, _ => false
def opF (P : Program) (q : POp) (K : St → Prop) (st : St) : Prop :=
 if (q.fz && fzb q.op) = true then
   match q.g with
   | none => (evF P st q.op).1 ∧ dstOk st q.d ∧ K (st.put q.d (evF P st q.op).2)
   | some (s, w) => match (st.sl s).strip with
     | .bool c => (((st.sl s).liveB && (c == w)) = true → (evF P st q.op).1) ∧ dstOk st q.d ∧ K (st.put q.d (mkOpt ((st.sl s).liveB && (c == w)) (evF P st q.op).2))
     | _ => False
 else if (q.fz && callQ q) = true then (∃ bx v, K (st.at bx q.d v)) ∧ absOp P false q.oper K st
 else opP0 P true q.clr K st
def opsF (P : Program) (K : St → Prop) : List POp → St → Prop
 | [], st => K st
 | o :: rest, st => opF P o (opsF P K rest) st
def fzAt (l : List POp) (k : Nat) : Bool :=
 match l[k]? with
 | some q => q.fz && fzb q.op
 | none => false
def clAt (l : List POp) (k : Nat) : Bool :=
 match l[k]? with
 | some q => q.fz && callQ q
 | none => false
def goodC (x y : PC) (a b : Code) : Prop := compile a = erase x ∧ compile b = erase y
def pw (P : Program) : PC → (Exit → St → Prop) → St → Prop
 | .skip, Q, st => Q .normal st
 | .reg d ops ks, Q, st => opsP P d (fun s => Q .normal (s.keep ks)) ops st
 | .regF un uv ops ks, Q, st => ((un.all fun p => fzAt ops p.1 || fzAt ops p.2) = true ∧ (uv.all fun p => !(clAt ops p.1 || clAt ops p.2) || fzAt ops p.1 || fzAt ops p.2) = true) ∧ opsF P (fun s => Q .normal (s.keep ks)) ops st
 | .regB so ops ks, Q, st => opsB P (fun s => Q .normal (s.keep ks)) so ops st
 | .seq a b, Q, st => pw P a (thenQ (pw P b Q) Q) st
 | .cond c a b, Q, st => match (st.get c).strip with
   | .bool x => (st.get c).liveB = true ∧ (x = true → pw P a Q st) ∧ (x = false → pw P b Q st)
   | _ => False
 | .block id c, Q, st => pw P c (blockQ id Q) st
 | .loop c, Q, st => ∃ (ι : Type) (C : ι → St) (μ : ι → Nat) (i : ι), Cov st (C i) ∧ ∀ i, pw P c (thenQ (fun s => ∃ i', Cov s (C i') ∧ μ i' < μ i) Q) (C i)
 | .exit id, Q, st => Q (.exit id) st
 | .ret, Q, st => Q .ret st
 | .wk c, Q, st => ∃ st', Cov st st' ∧ pw P c Q st'
 | .fz t c, Q, st => match st.sl t with
   | .ptr b sz i o => match st.bx b with
     | some (.row _ sz' es) => sz = sz' ∧ i < es.length ∧ pw P c Q ⟨st.n, upd st.sl t (.ep (es.getD i .unk) o), upd st.bx b none⟩
     | _ => False
   | _ => False
 | .rangeFunc g ps x y, Q, st => match (st.get g).strip with
   | .fn (.func gf) caps => (st.get g).liveB = true ∧ ∀ b, st.bx b = none → AbsCall P gf (.yl b :: caps) (upd st.bx b (some (.loop none ps (goodC x y) st.n st.sl))) fun _ bx' =>
       (bx' b = some (.loop none ps (goodC x y) st.n st.sl) ∧ Q .normal ⟨st.n, st.sl, upd bx' b none⟩) ∨
       (bx' b = some (.loop (some .ret) ps (goodC x y) st.n st.sl) ∧ Q .ret ⟨st.n, st.sl, upd bx' b none⟩) ∨
       (∃ id, bx' b = some (.loop (some (.exit id)) ps (goodC x y) st.n st.sl) ∧ Q (.exit id) ⟨st.n, st.sl, upd bx' b none⟩)
   | _ => False
 | .raw c, Q, st => ∀ (M : Off) (ro : Option Nat), Says P M ro c Q st
 | .bad, _, _ => False
section
variable {P : Program}
theorem call_yield {w : World} {a : Act} {dst : Option Tmp} {type : TypeId} {pos : String} {after : Array Edge} {guard : Option (Nat × Bool)} {c : Call} {f : Operand} (hc : c.callee = .value f) {k : Nat}
   (hf : a.eval f = .func (.yield k) #[] #[]) : (execOp a.eval ⟨dst, .call c, type, pos, after, guard⟩).run P w = (Instr.yield k (c.args.map a.eval)).run P w := by
 obtain ⟨callee, args, ts⟩ := c
 subst hc
 simp [execOp, resolve, Deferred.ofValue, invoke, hf]
theorem yield_in {ro : Option Nat} {n : Nat} {β : Beta} {M : Off} {w : World} {o : Oper} {st : St} {a : Act} {K : St → Prop} {K' : Act → World → Prop} {Q : Exit → Act → World → Prop} {b : Nat} {vs : List V} (hy : yieldOf st false o.op = some (b, vs)) {po : POp} (hpo : po.op = o.op) (hpd : po.d = o.dst)
   (h : yieldP P po K st b vs) (hr : Rs P β M st a w) (hK : Kont P β M st w K K') : o.wpIn (rf ro) n P a w K' Q := by
 obtain ⟨hlive, hd, hcall⟩ := h
 rw [hpo] at hlive
 rw [hpd] at hd hcall
 obtain ⟨dst, op, type, pos, after, guard⟩ := o
 simp only at hy hlive hd hcall
 unfold yieldOf at hy
 split at hy
 · rename_i f args ts
   simp only [Bool.false_eq_true, if_false] at hy
   split at hy
   · rename_i b' hs
     simp only [Option.some.injEq, Prod.mk.injEq] at hy
     obtain ⟨rfl, rfl⟩ := hy
     obtain ⟨h1, h2⟩ := hlive
     have rfv := hr.get f
     rw [live_of h1 hs] at rfv
     generalize hu : a.eval f = u at rfv
     cases rfv with
     | yl b k hb =>
       have hreps : ∀ (i : Nat) (c : V), (args.toList.map fun x => (st.get x).strip)[i]? = some c → Rep β w (Fz β M st.bx w) c ((args.map a.eval).getD i undef) := by
         intro i c hc
         simp only [List.getElem?_map, Array.getElem?_toList, Option.map_eq_some_iff] at hc
         obtain ⟨x, hx, rfl⟩ := hc
         rw [strip_live (h2 x (by simpa using Array.mem_of_getElem? hx))]
         have e : (args.map a.eval).getD i undef = a.eval x := by
           have h5 : i < args.size := (Array.getElem?_eq_some_iff.1 hx).1
           have := (Array.getElem?_eq_some_iff.1 hx).2
           simp [h5, this]
         rw [e]
         exact hr.get x
       obtain ⟨fn, tmps, assign, body, hrun, hround⟩ := hcall (n - 1) β M w (args.map a.eval) k hb hr.ok hr.gl (by simp) hreps
       refine ⟨fun _ _ => trivial, ?_⟩
       rw [Oper.semAt_eq _ _ _ (fun c hc => by cases hc), call_yield rfl hu]
       show Oper.uponIn _ _ _ _ _ _ _ ((Instr.yield k (args.map a.eval)).run P w)
       rw [hrun, Oper.uponIn_round]
       refine ⟨fun hdp => by simp [rf, Fence.wide] at hdp, ?_⟩
       refine RoundIn.mono (show RoundIn (rf ro) (n - 1) P k fn tmps assign body w _ from hround) ?_
       rintro e w' ⟨v, r, bx', β', rfl, hk, hok, htr, hrep⟩
       exact hK _ _ _ _ hk ((hr.step hok htr).put (by cases dst <;> exact hd) hrep) (by cases dst <;> exact htr)
   · cases hy
 · cases hy
theorem absOp_oper (d : Bool) (o : Oper) (K : St → Prop) (st : St) : absOp P d { dst := o.dst, op := o.op, type := 0, pos := "", after := #[], guard := none } K st = absOp P d o K st := rfl
theorem yieldOf_true (st : St) (o : Op) : yieldOf st true o = none := by
 unfold yieldOf
 split <;> simp
theorem opP0_absG {d : Bool} {ops : Array Oper} {o : Oper} {K : St → Prop} {st : St} (hd : d = true) (h : opP0 P d (compileOp ops o) K st) : absG P d ops o K st := by
 subst hd
 unfold opP0 at h
 rw [yieldOf_true] at h
 simp only at h
 unfold compileOp at h
 unfold absG
 cases hg : o.guard with
 | none => simpa [hg, POp.oper, absOp_oper] using h
 | some gw =>
   obtain ⟨g, want⟩ := gw
   simp only [hg] at h
   cases hdd : (ops[g]?).bind (·.dst) with
   | none =>
     simp only [hdd] at h
     simp [POp.oper, absOp, isEv] at h
   | some s =>
     simp only [hdd] at h
     simp only [wantedV, hdd]
     split at h
     · rename_i c hs
       simp only [hs]
       split at h
       · exact h
       · rcases h with h | h
         · exact h
         · exact absurd h.1 (by simp)
     · exact h.elim
theorem frz_0' (bx bx' : Boxes) (l : List V) : l.map (frz bx bx' 0) = l := by
 rw [List.map_congr_left (g := id) (fun a _ => by cases a <;> rfl)]; simp
theorem u8_all (l : List UInt8) : (l.map byteV).all isU8 = true := by
 rw [List.all_map]
 exact List.all_eq_true.2 fun x _ => rfl
theorem u8_back (l : List UInt8) : (l.map byteV).map toByte = l := by
 rw [List.map_map]
 exact (List.map_congr_left fun b _ => by simp [byteV, toByte]).trans (List.map_id l)
theorem cvtQ_wp {β : Beta} {M : Off} {w : World} {st : St} {a : Act} {dst : Option Tmp} {s t type : TypeId} {x : Operand} {pos : String} {after : Array Edge} {guard : Option (Nat × Bool)} {K' : Act → World → Prop} {Q : Exit → Act → World → Prop} (hr : Rs P β M st a w)
   {K : St → Prop} (h : cvtQ P (knd P s) s t (st.get x) dst K st) (hK : Kont P β M st w K K') : (Oper.mk dst (.convert s t x) type pos after guard).wp P a w K' Q := by
 unfold cvtQ at h
 split at h
 · rename_i e hs
   split at h
   · rename_i b sz o n hx
     obtain ⟨ty, l, hb, he, ht, rfl, rfl, rfl, hd, hk⟩ := h
     have hsub : SubBx st.bx (upd st.bx b none) := fun c => by
       by_cases hc : c = b
       · subst hc; exact .inl (upd_eq _ _ _)
       · exact .inr (.inl (upd_ne _ _ hc))
     have hrep := frz_rep hr.ok hsub 1 _ _ (hr.get x)
     rw [hx] at hrep
     have hf : frz st.bx (upd st.bx b none) 1 (.own b 1 0 l.length) = .sl 1 (l.map byteV) := by
       have e1 : List.take l.length (l.map byteV) = l.map byteV := List.take_of_length_le (by simp)
       have e2 := frz_0' st.bx (upd st.bx b none) (l.map byteV)
       simp [frz, hb, upd_eq, e1, e2]
     rw [hf] at hrep
     obtain ⟨v, hrun, hv⟩ := conv_sound (P := P) (s := s) (d := t) (fun e' hh => by rw [hs] at hh; cases hh.1) (by simp only [convV, hs, ht, V.strip]; exact ⟨rfl, he, trivial, u8_all l⟩) hrep
     simp only [convV, hs, ht, V.strip, u8_back] at hv
     obtain ⟨q, rfl, rfl⟩ := hv.str_inv
     unfold Oper.wp execOp
     simp only [Sem.run_bind, hrun, Result.andThen_ok, Sem.run_pure]
     exact hK.put hr hd (.str q) hk
   · rename_i hx
     obtain ⟨he, ht, hd, hk⟩ := h
     have hrep := hr.get x
     rw [hx] at hrep
     obtain ⟨v, hrun, hv⟩ := conv_sound (P := P) (s := s) (d := t) (fun e' hh => by rw [hs] at hh; cases hh.1) (by simp only [convV, hs, ht, V.strip]; exact ⟨rfl, he⟩) hrep
     simp only [convV, hs, ht, V.strip] at hv
     unfold Oper.wp execOp
     simp only [Sem.run_bind, hrun, Result.andThen_ok, Sem.run_pure]
     exact hK.put hr hd hv hk
   · exact h.elim
 · exact cvt_wp hr h hK
theorem row_view {β : Beta} {M : Off} {bx : Boxes} {w : World} (h : WOk β M bx w) {b : Nat} {ty : TypeId} {n : Nat} {cs : List V} (hb : bx b = some (.row ty n [.agg cs])) (hn : cs.length = n) (hc : ∀ c, c ∈ cs → c.cells = [c]) (hpos : 0 < n) :
   WOk β M (upd bx b (some (.row ty 1 cs))) w ∧ Tr β bx w β (upd bx b (some (.row ty 1 cs))) w := by
 have hdom : ∀ b', upd bx b (some (.row ty 1 cs)) b' ≠ none ↔ bx b' ≠ none := by
   intro b'
   by_cases e : b' = b
   · subst e; simp [upd_eq, hb]
   · rw [upd_ne _ _ e]
 have hF : ∀ k', Fz β M bx w k' → Fz β M (upd bx b (some (.row ty 1 cs))) w k' ∧ w.heap[k']? = w.heap[k']? :=
   fun k' hk => ⟨⟨hk.1, hk.2.1, fun b' hb' he => hk.2.2 b' ((hdom b').1 hb') he⟩, rfl⟩
 constructor
 · refine ⟨h.fin, h.mlt, fun b' box hb' => ?_, fun b1 b2 k' h1 h2 h3 h4 => h.inj b1 b2 k' ((hdom _).1 h1) ((hdom _).1 h2) h3 h4⟩
   by_cases e : b' = b
   · subst e
     rw [upd_eq] at hb'
     injection hb' with hb'
     subst hb'
     rcases h.live b' _ hb with ⟨_, h1⟩ | ⟨k, h1, h2, h3, cur, fr, g1, g2, g3, g4⟩
     · simp [Box.empty] at h1
     · obtain ⟨_, a2⟩ := g4 0 _ rfl
       refine .inr ⟨k, h1, h2, h3, cur, fr, g1, g2, by simpa [hn] using g3, fun i c hi => ?_⟩
       have hcc := hc c (List.mem_of_getElem? hi)
       refine ⟨by rw [hcc]; rfl, fun j c' hj => ?_⟩
       rw [hcc] at hj
       rcases j with _ | j
       · simp at hj
         subst hj
         obtain ⟨b1, b2⟩ := a2 i c hi
         rw [Nat.zero_mul, Nat.zero_add] at b1 b2
         rw [Nat.mul_one, Nat.add_zero]
         exact ⟨b1, b2.mono (fun _ _ h => h) hF (fun _ _ h => h)⟩
       · simp at hj
   · rw [upd_ne _ _ e] at hb'
     rcases h.live b' box hb' with h1 | ⟨k', h1, h2, h3, h4⟩
     · exact .inl h1
     · exact .inr ⟨k', h1, h2, h3, boxAt_mono h4 rfl (fun _ _ h => h) hF (fun _ _ h => h)⟩
 · exact ⟨rfl, rfl, rfl, fun _ => Nat.le_refl _, fun hm => Mk.of_upd hm (fun ty' e => by
     injection e with e
     injection e with _ e _
     cases e), Nat.le_refl _, fun _ _ _ => rfl, fun _ _ h => h, fun _ _ h => h, fun b' k' h1 h2 => .inl ⟨b', (hdom b').1 h1, h2⟩⟩
theorem arrQ_wp {β : Beta} {M : Off} {w : World} {st : St} {a : Act} {dst : Option Tmp} {t type : TypeId} {x : Operand} {lo : Option Operand} {pos : String} {after : Array Edge} {guard : Option (Nat × Bool)} {K' : Act → World → Prop} {Q : Exit → Act → World → Prop} (hr : Rs P β M st a w)
   {K : St → Prop} (h : arrQ P (knd P t) (st.get x) (lo.map st.get) dst K st) (hK : Kont P β M st w K K') : (Oper.mk dst (.slice t x lo none none) type pos after guard).wp P a w K' Q := by
 unfold arrQ at h
 split at h
 · rename_i n e b sz i o c l hk hx hlo
   obtain ⟨ty, cs, hb, rfl, rfl, rfl, hlen, hc1, hty, hts, hmax, hc, h0, h1, hd, hkk⟩ := h
   have rx := hr.get x
   rw [hx] at rx
   generalize hux : a.eval x = ux at rx
   cases rx with
   | ptr _ _ _ _ k hβ =>
     obtain ⟨hlt, hMk, cur, fr, hcur, hfr, hle, hrow⟩ := box_block hr.ok hb hβ
     have a1 := arg_sound (u := lo.map a.eval) hlo hc (by
       cases lo with
       | none => exact .inl ⟨rfl, rfl⟩
       | some y => exact .inr ⟨_, _, rfl, rfl, hr.get y⟩)
     obtain ⟨inf, hi1, hi2⟩ := tyOk_info hty
     have hrun : (Instr.sliceAt t (.pointer (some ⟨k, 0 * sz + 0, none⟩)) (lo.map a.eval) none none).run P w = .ok (.slice (some ⟨k, l.toNat * 1, none⟩) (sz - l.toNat) (sz - l.toNat)) w := by
       unfold Instr.sliceAt sizeOf typeInfo Instr.sureAddr
       have hb2 := run_sliceBounds (P := P) (w := w) (b := false) (len := sz) (cap := sz) (lo := lo.map a.eval) (hi := none) (l := l) (h := (sz : Int)) a1 (.inl ⟨rfl, rfl⟩) h0 (by omega) (Int.le_refl _) (Nat.le_refl _)
       rw [Int.toNat_natCast] at hb2
       have hne : ¬ sz = l.toNat := by omega
       have hadd : (⟨k, 0, none⟩ : Addr).add (l.toNat * inf.size) = ⟨k, l.toNat * inf.size, none⟩ := by
         unfold Addr.add
         by_cases h : l.toNat * inf.size = 0 <;> simp [h]
       have hsz1 : inf.size = 1 := by first | exact hi2.trans hts | exact hi2.symm.trans hts | omega
       rw [hsz1, Nat.mul_one] at hadd
       simp [run_underlying (knd_arr hk), hb2, hi1, hne, hadd, hsz1]
     unfold Oper.wp execOp
     simp only [Sem.run_bind, hux, Option.map_none, hrun, Result.andThen_ok, Sem.run_pure]
     obtain ⟨h3, h4⟩ := row_view hr.ok hb hlen hc1 (by omega)
     refine hK _ _ _ _ hkk ((hr.step h3 h4).put (st := { st with bx := _ }) (by cases dst <;> exact hd) ?_) (by cases dst <;> exact h4)
     have hsz : cur.size ≥ sz := by simpa using hle
     exact Rep.own (β := β) (w := w) (F := Fz β M (upd st.bx b (some (.row ty 1 cs))) w) b 1 l.toNat (sz - l.toNat) k (sz - l.toNat) cur.size _ hβ (shape_of hcur) (by omega) (Nat.le_refl _) (by unfold maxLen; omega)
 · exact h.elim
theorem opP0_in {ro : Option Nat} {n : Nat} {β : Beta} {M : Off} {w : World} {ops : Array Oper} {o : Oper} {i : Nat} {st : St} {a : Act} {K : St → Prop} {K' : Act → World → Prop} {Q : Exit → Act → World → Prop} (hi : ops[i]? = some o) (h : opP0 P false (compileOp ops o) K st) (hr : Rs P β M st a w) (hK : Kont P β M st w K K') :
   wpOpIn (rf ro) n P ops Q i K' a w := by
 unfold opP0 at h
 cases hy : yieldOf st false (compileOp ops o).op with
 | some p =>
   obtain ⟨b, vs⟩ := p
   simp only [hy] at h
   unfold wpOpIn
   simp only [hi]
   unfold compileOp at h hy
   cases hg : o.guard with
   | none =>
     simp only [hg] at h hy
     have hw : Region.wanted o (yielded ops a.tmps) = true := by simp [Region.wanted, hg]
     rw [if_pos hw]
     exact yield_in hy rfl rfl h hr hK
   | some gw =>
     obtain ⟨g, want⟩ := gw
     simp only [hg] at h hy
     cases hdd : (ops[g]?).bind (·.dst) with
     | none => simp [hdd, yieldOf] at hy
     | some s =>
       simp only [hdd] at h hy
       split at h
       · rename_i c hs
         have hw := wanted_of (ops := ops) (o := o) (wb := ((st.sl s).liveB && (c == want))) hg (by simp only [wantedV, hdd, hs]) hr
         rw [hw]
         cases hwb : ((st.sl s).liveB && (c == want)) with
         | true =>
           simp only [if_true]
           exact yield_in hy rfl rfl (h.1 hwb) hr hK
         | false =>
           simp only [Bool.false_eq_true, if_false]
           obtain ⟨hd, hk⟩ := h.2 hwb
           exact ⟨fun _ _ => trivial, hK.put hr hd (.dead _) hk⟩
       · exact h.elim
 | none =>
   simp only [hy] at h
   cases hg : o.guard with
   | none =>
     refine absG_sound (d := false) hi ?_ hr hK
     unfold compileOp at h
     unfold absG
     simpa [hg, POp.oper, absOp_oper] using h
   | some gw =>
     obtain ⟨g, want⟩ := gw
     unfold compileOp at h
     simp only [hg] at h
     cases hdd : (ops[g]?).bind (·.dst) with
     | none =>
       simp only [hdd] at h
       simp [POp.oper, absOp, isEv] at h
     | some s =>
       simp only [hdd] at h
       split at h
       · rename_i c hs
         have h' : guardedP P false ⟨o.dst, o.op, some (s, want), false⟩ ((st.sl s).liveB && (c == want)) K st ∨ branchP P false ⟨o.dst, o.op, some (s, want), false⟩ ((st.sl s).liveB && (c == want)) K st := by
           split at h
           · exact .inl h
           · exact h
         rcases h' with h | ⟨_, h1, h2⟩
         · refine absG_sound (d := false) hi ?_ hr hK
           unfold absG
           simp only [hg, wantedV, hdd, hs]
           exact h
         · unfold wpOpIn
           simp only [hi]
           have hw := wanted_of (ops := ops) (o := o) (wb := ((st.sl s).liveB && (c == want))) hg (by simp only [wantedV, hdd, hs]) hr
           rw [hw]
           cases hwb : ((st.sl s).liveB && (c == want)) with
           | true =>
             simp only [if_true]
             have h3 : absOp P false o K st := h1 hwb
             exact wp_in ro n (absOp_nd h3) (absOp_sound h3 hr hK)
           | false =>
             simp only [Bool.false_eq_true, if_false]
             obtain ⟨hd, hk⟩ := h2 hwb
             exact ⟨fun _ _ => trivial, hK.put hr hd (.dead _) hk⟩
       · exact h.elim
theorem clr_eq {q : POp} (h : q.fz = false) : q.clr = q := by
 obtain ⟨d, op, g, fz⟩ := q
 simp only at h
 subst h
 rfl
theorem nilc_run {β : Beta} {w : World} {F : Nat → Prop} {t : TypeId} {op : BinOp} {x y : V} {ux uy : Value} {d : Option Tmp} {K : St → Prop} {st : St} (h : nilcK (knd P t) op x y d K st) (rx : Rep β w F x ux) (ry : Rep β w F y uy) (ox oy : Operand) :
   dstOk st d ∧ ∃ c, (do eqGuard op t ox oy ux uy; binOp op t ux uy : Sem Value).run P w = .ok (.bool (nilB op c)) w ∧ K (st.put d (nilV op c)) := by
 have main : ∀ (A : Option Addr) (l cap : Nat) (e : TypeId), knd P t = .slice e → (op = .eql ∨ op = .neq) → ux = .slice A l cap → uy = .slice none 0 0 →
     (do eqGuard op t ox oy ux uy; binOp op t ux uy : Sem Value).run P w = .ok (.bool (nilB op A.isNone)) w := by
   rintro A l cap e hk hop rfl rfl
   have h3 : (Op.equal t (.slice A l cap) (.slice none 0 0)).run P w = .ok A.isNone w := by
     unfold Op.equal Op.maxDepth
     rw [Op.equalIn, Sem.run_bind, run_underlying (knd_slice hk), Result.andThen_ok]
     cases A <;> rfl
   have hg : (eqGuard op t ox oy (.slice A l cap) (.slice none 0 0)).run P w = .ok () w := by rcases hop with rfl | rfl <;> rfl
   rw [Sem.run_bind, hg]
   rcases hop with rfl | rfl
   · show (do pure (.bool (← Op.equal t (.slice A l cap) (.slice none 0 0))) : Sem Value).run P w = _
     rw [Sem.run_bind, h3]; rfl
   · show (do pure (.bool (!(← Op.equal t (.slice A l cap) (.slice none 0 0)))) : Sem Value).run P w = _
     rw [Sem.run_bind, h3]; rfl
 generalize hk0 : knd P t = kk at h
 unfold nilcK at h
 split at h
 · rename_i e sz es
   have hk := hk0
   obtain ⟨hop, hd, h⟩ := h
   refine ⟨hd, ?_⟩
   cases ry
   cases rx with
   | sl _ _ A cap u hcap hmax hA hsz hc hr =>
     refine ⟨A.isNone, main _ _ _ _ hk hop rfl rfl, h _ fun hes => ?_⟩
     cases A with
     | none => exact absurd rfl (hA hes)
     | some a => rfl
 · rename_i e b sz o n
   have hk := hk0
   obtain ⟨hop, hd, h⟩ := h
   refine ⟨hd, ?_⟩
   cases ry
   cases rx with
   | own0 => exact ⟨true, main _ _ _ _ hk hop rfl rfl, h _ fun hn => absurd hn (Nat.lt_irrefl 0)⟩
   | own => exact ⟨false, main _ _ _ _ hk hop rfl rfl, h _ fun _ => rfl⟩
 · rename_i e
   have hk := hk0
   obtain ⟨hop, hd, h⟩ := h
   refine ⟨hd, ?_⟩
   cases ry
   cases rx
   exact ⟨true, main _ _ _ _ hk hop rfl rfl, h⟩
 · exact h.elim
theorem opP_absG {d : Bool} {ops : Array Oper} {o : Oper} {q : POp} (hq : q.clr = compileOp ops o) {K : St → Prop} {st : St} (hd : d = true) (h : opP P d q K st) : absG P d ops o K st := by
 unfold opP at h
 split at h
 · rename_i hf
   rw [clr_eq hf] at hq
   rw [hq] at h
   exact opP0_absG hd h
 · split at h
   · rw [hd] at h; exact absurd h.1 (by simp)
   · rw [hd] at h; exact absurd h.1 (by simp)
   · rw [hd] at h; exact absurd h.1 (by simp)
   · rw [hd] at h; exact absurd h.1 (by simp)
   · rw [hd] at h; exact absurd h.1 (by simp)
   · rw [if_pos hd, hq] at h
     exact opP0_absG hd h
   · rw [hq] at h
     exact opP0_absG hd h
theorem fillV_len (st : St) : ∀ (ps : List (Nat × Operand)) (es : List V), (fillV st es ps).length = es.length
 | [], es => rfl
 | (i, x) :: ps, es => by simp only [fillV]; rw [fillV_len st ps]; simp
theorem bldF_in {ro : Option Nat} {n : Nat} {β : Beta} {M : Off} {w : World} {ops : Array Oper} {o : Oper} {t : TypeId} {len : Nat} {parts : Array (Nat × Operand)} {qd : Option Tmp} {qg : Option (Tmp × Bool)} (h0 : compileOp ops o = ⟨qd, .buildSlice t len parts, qg, false⟩) {i : Nat} {st : St} {a : Act} {K : St → Prop} {K' : Act → World → Prop} {Q : Exit → Act → World → Prop} (hi : ops[i]? = some o)
   (h : bldGP P t len parts.toList qg qd K st) (hr : Rs P β M st a w) (hK : Kont P β M st w K K') : wpOpIn (rf ro) n P ops Q i K' a w := by
 have plain : ∀ K1 : St → Prop, bldFP P t len parts.toList qd (fun _ => True) st → (∀ e z b, knd P t = .slice e → tzero P e = some z → 0 < tsz P e → st.bx b = none → K1 ((st.box b (some (.row e (tsz P e) (fillV st (List.replicate len (ofValue z)) parts.toList)))).put qd (.own b (tsz P e) 0 len))) →
     absOp P false (POp.oper ⟨qd, .buildSlice t len parts, qg, false⟩) K1 st := by
   intro K1 h1 h2
   unfold bldFP at h1
   unfold absOp
   simp only [isEv, Bool.false_eq_true, if_false, POp.oper]
   cases hk : knd P t with
   | slice e =>
     simp only [hk] at h1 ⊢
     cases hz : tzero P e with
     | none => simp only [hz] at h1
     | some z =>
       simp only [hz] at h1 ⊢
       obtain ⟨⟨g1, g2, g3, g4⟩, g5, g6, _⟩ := h1
       exact ⟨g1, g2, g3, g4, g5, g6, fun b hb => h2 e z b hk hz g2 hb⟩
   | _ => simp only [hk] at h1
 have weak : ∀ K2 : St → Prop, bldFP P t len parts.toList qd K2 st → bldFP P t len parts.toList qd (fun _ => True) st ∧ ∀ e z, knd P t = .slice e → tzero P e = some z → K2 (st.put qd (.sl (tsz P e) (fillV st (List.replicate len (ofValue z)) parts.toList))) := by
   intro K2 h1
   unfold bldFP at h1 ⊢
   cases hk : knd P t with
   | slice e =>
     simp only [hk] at h1 ⊢
     cases hz : tzero P e with
     | none => simp only [hz] at h1
     | some z =>
       simp only [hz] at h1 ⊢
       exact ⟨⟨h1.1, h1.2.1, h1.2.2.1, trivial⟩, fun e' z' he hz' => by cases he; rw [hz] at hz'; cases hz'; exact h1.2.2.2⟩
   | _ => simp only [hk] at h1
 have fin : ∀ (e : TypeId) (z : Value) (b : Nat), 0 < tsz P e → st.bx b = none → K (st.put qd (.sl (tsz P e) (fillV st (List.replicate len (ofValue z)) parts.toList))) →
     ∀ β' a' w', Rs P β' M ((st.box b (some (.row e (tsz P e) (fillV st (List.replicate len (ofValue z)) parts.toList)))).put qd (.own b (tsz P e) 0 len)) a' w' → Tr β st.bx w β' ((st.box b (some (.row e (tsz P e) (fillV st (List.replicate len (ofValue z)) parts.toList)))).put qd (.own b (tsz P e) 0 len)).bx w' → K' a' w' := by
   intro e z b hs hb hk β' a' w' hr' ht'
   generalize hes : fillV st (List.replicate len (ofValue z)) parts.toList = es at *
   have hlen : es.length = len := by rw [← hes, fillV_len]; simp
   have hcv : Cov ((st.box b (some (.row e (tsz P e) es))).put qd (.own b (tsz P e) 0 len)) (st.put qd (.sl (tsz P e) es)) := by
     have hsub : SubBx (upd st.bx b (some (.row e (tsz P e) es))) st.bx := by
       intro b'
       by_cases e : b' = b
       · subst e; exact .inl hb
       · exact .inr (.inl (by rw [upd_ne _ _ e]))
     have e0 : es.map (frz (upd st.bx b (some (Box.row e (tsz P e) es))) st.bx 0) = es := by
       rw [List.map_congr_left (g := id) (fun v _ => by cases v <;> rfl)]; simp
     cases qd with
     | none => exact ⟨Nat.le_refl _, fun t => .inr (.inl rfl), hsub⟩
     | some d =>
       refine ⟨Nat.le_refl _, fun t => ?_, hsub⟩
       by_cases ht : t = d
       · subst ht
         refine .inr (.inr (.inl ⟨1, ?_⟩))
         simp only [St.put, St.box, upd_eq, frz, hb]
         rw [if_pos ⟨trivial, hs, by omega⟩, List.drop_zero, List.take_of_length_le (by omega)]
         simp
       · refine .inr (.inl ?_)
         simp only [St.put, St.box]
         rw [upd_ne _ _ ht, upd_ne _ _ ht]
   have hbx : (st.put qd (.sl (tsz P e) es)).bx = st.bx := by cases qd <;> rfl
   have hbx2 : ((st.box b (some (.row e (tsz P e) es))).put qd (.own b (tsz P e) 0 len)).bx = upd st.bx b (some (.row e (tsz P e) es)) := by cases qd <;> rfl
   refine hK _ _ _ _ hk (hcv.rs hr') ?_
   rw [hbx]
   rw [hbx2] at ht'
   have := hcv.bx.tr (β := β') (w := w')
   rw [hbx, hbx2] at this
   exact ht'.trans this
 cases qg with
 | none =>
   obtain ⟨h1, h2⟩ := weak _ h
   have key : opP0 P false (compileOp ops o) (fun s => ∃ e z b, knd P t = .slice e ∧ tzero P e = some z ∧ 0 < tsz P e ∧ st.bx b = none ∧ s = (st.box b (some (.row e (tsz P e) (fillV st (List.replicate len (ofValue z)) parts.toList)))).put qd (.own b (tsz P e) 0 len)) st := by
     rw [h0]
     unfold opP0
     simp only [yieldOf]
     exact plain _ h1 fun e z b g1 g2 g3 g4 => ⟨e, z, b, g1, g2, g3, g4, rfl⟩
   refine opP0_in hi key hr ?_
   rintro st' β' a' w' ⟨e, z, b, g1, g2, g3, g4, rfl⟩ hr' ht'
   exact fin e z b g3 g4 (h2 e z g1 g2) β' a' w' hr' ht'
 | some sw =>
   obtain ⟨s, wt⟩ := sw
   simp only [bldGP] at h
   split at h
   · rename_i c hs
     have key : opP0 P false (compileOp ops o) (fun st' => (((st.sl s).liveB && (c == wt)) = true ∧ ∃ e z b, knd P t = .slice e ∧ tzero P e = some z ∧ 0 < tsz P e ∧ st.bx b = none ∧ st' = (st.box b (some (.row e (tsz P e) (fillV st (List.replicate len (ofValue z)) parts.toList)))).put qd (.own b (tsz P e) 0 len)) ∨
         (((st.sl s).liveB && (c == wt)) = false ∧ st' = st.put qd (.dead .unk))) st := by
       rw [h0]
       unfold opP0
       simp only [yieldOf, hs, isEv, Bool.false_eq_true, if_false]
       exact .inr ⟨rfl, fun hw => plain _ (weak _ (h.1 hw)).1 fun e z b g1 g2 g3 g4 => .inl ⟨hw, e, z, b, g1, g2, g3, g4, rfl⟩, fun hw => ⟨(h.2 hw).1, .inr ⟨hw, rfl⟩⟩⟩
     refine opP0_in hi key hr ?_
     rintro st' β' a' w' (⟨hw, e, z, b, g1, g2, g3, g4, rfl⟩ | ⟨hw, rfl⟩) hr' ht'
     · exact fin e z b g3 g4 ((weak _ (h.1 hw)).2 e z g1 g2) β' a' w' hr' ht'
     · exact hK _ _ _ _ (h.2 hw).2 hr' ht'
   · exact h.elim
theorem opP_in {ro : Option Nat} {n : Nat} {β : Beta} {M : Off} {w : World} {ops : Array Oper} {o : Oper} {q : POp} (hq : q.clr = compileOp ops o) {i : Nat} {st : St} {a : Act} {K : St → Prop} {K' : Act → World → Prop} {Q : Exit → Act → World → Prop} (hi : ops[i]? = some o) (h : opP P false q K st) (hr : Rs P β M st a w) (hK : Kont P β M st w K K') :
   wpOpIn (rf ro) n P ops Q i K' a w := by
 unfold opP at h
 split at h
 · rename_i hf
   rw [clr_eq hf] at hq
   rw [hq] at h
   exact opP0_in hi h hr hK
 · split at h
   · rename_i e x hop
     obtain ⟨_, hg, hst, hd, hfin, hk⟩ := h
     obtain ⟨qd, qop, qg, qf⟩ := q
     simp only at hop hg hd hk
     subst hop hg
     have h0 : compileOp ops o = ⟨qd, .box e x, none, false⟩ := hq.symm
     have key : opP0 P false (compileOp ops o) (fun s => ∃ b, st.bx b = none ∧ s = (st.box b (some (.row e (tsz P e) [st.get x]))).put qd (.ptr b (tsz P e) 0 0)) st := by
       rw [h0]
       unfold opP0
       simp only [yieldOf]
       unfold absOp
       simp only [isEv, Bool.false_eq_true, if_false, POp.oper]
       exact ⟨hst, hd, hfin, fun b hb => ⟨b, hb, rfl⟩⟩
     refine opP0_in hi key hr ?_
     rintro st' β' a' w' ⟨b, hb, rfl⟩ hr' ht'
     have hlen : (st.get x).cells.length = tsz P e := hst.2.2
     have hcv : Cov ((st.box b (some (.row e (tsz P e) [st.get x]))).put qd (.ptr b (tsz P e) 0 0)) (st.put qd (.ep (st.get x) 0)) := by
       have hsub : SubBx (upd st.bx b (some (.row e (tsz P e) [st.get x]))) st.bx := by
         intro b'
         by_cases e : b' = b
         · subst e; exact .inl hb
         · exact .inr (.inl (by rw [upd_ne _ _ e]))
       have e0 : frz (upd st.bx b (some (Box.row e (tsz P e) [st.get x]))) st.bx 0 (st.get x) = st.get x := by cases st.get x <;> rfl
       cases qd with
       | none => exact ⟨Nat.le_refl _, fun t => .inr (.inl rfl), hsub⟩
       | some d =>
         refine ⟨Nat.le_refl _, fun t => ?_, hsub⟩
         by_cases ht : t = d
         · subst ht
           refine .inr (.inr (.inl ⟨1, ?_⟩))
           simp only [St.put, St.box, upd_eq, frz, hb]
           simp [e0]
         · refine .inr (.inl ?_)
           simp only [St.put, St.box]
           rw [upd_ne _ _ ht, upd_ne _ _ ht]
     have hbx : (st.put qd (.ep (st.get x) 0)).bx = st.bx := by cases qd <;> rfl
     have hbx2 : ((st.box b (some (.row e (tsz P e) [st.get x]))).put qd (.ptr b (tsz P e) 0 0)).bx = upd st.bx b (some (.row e (tsz P e) [st.get x])) := by cases qd <;> rfl
     refine hK _ _ _ _ hk (hcv.rs hr') ?_
     rw [hbx]
     rw [hbx2] at ht'
     have := hcv.bx.tr (β := β') (w := w')
     rw [hbx, hbx2] at this
     exact ht'.trans this
   · rename_i t len parts hop
     obtain ⟨_, hk⟩ := h
     obtain ⟨qd, qop, qg, qf⟩ := q
     simp only at hop hk
     subst hop
     exact bldF_in hq.symm hi hk hr hK
   · rename_i bop t x y t' hop
     obtain ⟨_, hg, hk⟩ := h
     obtain ⟨qd, qop, qg, qf⟩ := q
     simp only at hop hg hk
     subst hop hg
     have h0 : compileOp ops o = ⟨qd, .binOp bop t x y t', none, false⟩ := hq.symm
     obtain ⟨odst, oop, otype, opos, oafter, oguard⟩ := o
     have h1 : odst = qd ∧ oop = .binOp bop t x y t' ∧ oguard = none := by
       unfold compileOp at h0
       cases oguard with
       | none =>
         simp only [POp.mk.injEq] at h0
         exact ⟨h0.1, h0.2.1, rfl⟩
       | some gw =>
         obtain ⟨g, wnt⟩ := gw
         simp only at h0
         split at h0
         · simp only [POp.mk.injEq] at h0
           exact absurd h0.2.2.1 (by simp)
         · simp only [POp.mk.injEq] at h0
           exact absurd h0.2.1 (by simp)
     obtain ⟨rfl, rfl, rfl⟩ := h1
     obtain ⟨hd, c, hrun, hkk⟩ := nilc_run hk (hr.get x) (hr.get y) x y
     unfold wpOpIn
     simp only [hi]
     rw [if_pos (show Region.wanted _ (yielded ops a.tmps) = true by simp [Region.wanted])]
     refine wp_in ro n (fun c hc => by cases hc) ?_
     unfold Oper.wp
     have hrun' : (execOp a.eval ⟨odst, .binOp bop t x y t', otype, opos, oafter, none⟩).run P w = .ok (.value (.bool (nilB bop c))) w := by
       show (do pure (Next.value (← (do eqGuard bop t x y (a.eval x) (a.eval y); binOp bop t (a.eval x) (a.eval y) : Sem Value))) : Sem Next).run P w = _
       rw [Sem.run_bind, hrun]
       simp only [Result.andThen_ok, Sem.run_pure]
     rw [hrun']
     exact hK.put hr hd (.bool _) hkk
   · rename_i s t x hop
     obtain ⟨_, hg, hk⟩ := h
     obtain ⟨qd, qop, qg, qf⟩ := q
     simp only at hop hg hk
     subst hop hg
     have h0 : compileOp ops o = ⟨qd, .convert s t x, none, false⟩ := hq.symm
     obtain ⟨odst, oop, otype, opos, oafter, oguard⟩ := o
     have h1 : odst = qd ∧ oop = .convert s t x ∧ oguard = none := by
       unfold compileOp at h0
       cases oguard with
       | none =>
         simp only [POp.mk.injEq] at h0
         exact ⟨h0.1, h0.2.1, rfl⟩
       | some gw =>
         obtain ⟨g, wnt⟩ := gw
         simp only at h0
         split at h0
         · simp only [POp.mk.injEq] at h0
           exact absurd h0.2.2.1 (by simp)
         · simp only [POp.mk.injEq] at h0
           exact absurd h0.2.1 (by simp)
     obtain ⟨rfl, rfl, rfl⟩ := h1
     unfold wpOpIn
     simp only [hi]
     rw [if_pos (show Region.wanted _ (yielded ops a.tmps) = true by simp [Region.wanted])]
     exact wp_in ro n (fun c hc => by cases hc) (cvtQ_wp hr hk hK)
   · rename_i t x lo hop
     obtain ⟨_, hg, hk⟩ := h
     obtain ⟨qd, qop, qg, qf⟩ := q
     simp only at hop hg hk
     subst hop hg
     have h0 : compileOp ops o = ⟨qd, .slice t x lo none none, none, false⟩ := hq.symm
     obtain ⟨odst, oop, otype, opos, oafter, oguard⟩ := o
     have h1 : odst = qd ∧ oop = .slice t x lo none none ∧ oguard = none := by
       unfold compileOp at h0
       cases oguard with
       | none =>
         simp only [POp.mk.injEq] at h0
         exact ⟨h0.1, h0.2.1, rfl⟩
       | some gw =>
         obtain ⟨g, wnt⟩ := gw
         simp only at h0
         split at h0
         · simp only [POp.mk.injEq] at h0
           exact absurd h0.2.2.1 (by simp)
         · simp only [POp.mk.injEq] at h0
           exact absurd h0.2.1 (by simp)
     obtain ⟨rfl, rfl, rfl⟩ := h1
     unfold wpOpIn
     simp only [hi]
     rw [if_pos (show Region.wanted _ (yielded ops a.tmps) = true by simp [Region.wanted])]
     exact wp_in ro n (fun c hc => by cases hc) (arrQ_wp hr hk hK)
   · rw [if_neg (by decide), hq] at h
     obtain ⟨st', hcv, h⟩ := h
     exact opP0_in hi h (hcv.rs hr) (fun st2 β' a' w' hk hr' ht => hK _ _ _ _ hk hr' (hcv.bx.tr.trans ht))
   · rw [hq] at h
     exact opP0_in hi h hr hK
theorem opP0_mono {d : Bool} {q : POp} {K K' : St → Prop} {st : St} (hm : ∀ s, K s → K' s) (h : opP0 P d q K st) : opP0 P d q K' st := by
 have hy : ∀ b vs, yieldP P q K st b vs → yieldP P q K' st b vs := fun b vs h => by
   obtain ⟨h1, h2, h3⟩ := h
   refine ⟨h1, h2, fun n β M w us k g1 g2 g3 g4 g5 => ?_⟩
   obtain ⟨fn, tmps, assign, body, e1, e2⟩ := h3 n β M w us k g1 g2 g3 g4 g5
   refine ⟨fn, tmps, assign, body, e1, e2.mono ?_⟩
   rintro e w' ⟨v, r, bx', β', rfl, hk', h3⟩
   exact ⟨v, r, bx', β', rfl, hm _ hk', h3⟩
 unfold opP0 at h ⊢
 split at h
 · rename_i b vs hyo
   split at h
   · exact hy _ _ h
   · split at h
     · exact ⟨fun hw => hy _ _ (h.1 hw), fun hw => ⟨(h.2 hw).1, hm _ (h.2 hw).2⟩⟩
     · exact h.elim
 · split at h
   · exact absOp_mono hm h
   · split at h
     · have hg : ∀ wb, guardedP P d q wb K st → guardedP P d q wb K' st := fun wb h => by
         unfold guardedP at h ⊢
         split at h
         · rename_i he
           rw [if_pos he]
           exact ⟨h.1, h.2.1, hm _ h.2.2⟩
         · rename_i he
           rw [if_neg he]
           split at h
           · split at h
             · obtain ⟨h1, r, h2, h3⟩ := h
               exact ⟨h1, r, h2, hm _ h3⟩
             · exact h.elim
           · exact ⟨fun hw => absOp_mono hm (h.1 hw), fun hw => ⟨(h.2 hw).1, hm _ (h.2 hw).2⟩⟩
       split at h
       · rename_i he; rw [if_pos he]; exact hg _ h
       · rename_i he
         rw [if_neg he]
         rcases h with h | ⟨h1, h2, h3⟩
         · exact .inl (hg _ h)
         · exact .inr ⟨h1, fun hw => absOp_mono hm (h2 hw), fun hw => ⟨(h3 hw).1, hm _ (h3 hw).2⟩⟩
     · exact h.elim
theorem Cov.refl (st : St) : Cov st st := ⟨Nat.le_refl _, fun _ => .inr (.inl rfl), SubBx.refl _⟩
theorem opP_call0 {d : Bool} {ops : Array Oper} {o : Oper} {q : POp} (hq : q.clr = compileOp ops o) (hc : soloC o = true) {K : St → Prop} {st : St} (h : opP P d q K st) : ∃ st', Cov st st' ∧ opP0 P d (compileOp ops o) K st' := by
 have hop : (compileOp ops o).op = o.op ∨ (compileOp ops o).op = .ready 0 := by
   unfold compileOp
   split
   · exact .inl rfl
   · split
     · exact .inl rfl
     · exact .inr rfl
 have hqo : q.op = (compileOp ops o).op := by rw [← hq]; rfl
 unfold opP at h
 split at h
 · rename_i hf
   rw [clr_eq hf] at hq
   rw [hq] at h
   exact ⟨st, Cov.refl st, h⟩
 · split at h
   · rename_i e1
     rw [hqo] at e1
     rcases hop with hop | hop <;> rw [hop] at e1
     · unfold soloC at hc; rw [e1] at hc; simp at hc
     · cases e1
   · rename_i e1
     rw [hqo] at e1
     rcases hop with hop | hop <;> rw [hop] at e1
     · unfold soloC at hc; rw [e1] at hc; simp at hc
     · cases e1
   · rename_i e1
     rw [hqo] at e1
     rcases hop with hop | hop <;> rw [hop] at e1
     · unfold soloC at hc; rw [e1] at hc; simp at hc
     · cases e1
   · rename_i e1
     rw [hqo] at e1
     rcases hop with hop | hop <;> rw [hop] at e1
     · unfold soloC at hc; rw [e1] at hc; simp at hc
     · cases e1
   · rename_i e1
     rw [hqo] at e1
     rcases hop with hop | hop <;> rw [hop] at e1
     · unfold soloC at hc; rw [e1] at hc; simp at hc
     · cases e1
   · rw [hq] at h
     split at h
     · exact ⟨st, Cov.refl st, h⟩
     · exact h
   · rw [hq] at h; exact ⟨st, Cov.refl st, h⟩
theorem soloL_drop {ops : Array Oper} {k : Nat} (h : k < ops.size) : (soloL ops).drop k = soloB ops k :: (soloL ops).drop (k + 1) := by
 have hl : k < (soloL ops).length := by simp [soloL, h]
 rw [List.drop_eq_getElem_cons hl]
 simp [soloL]
def soloS (P : Program) (ops : Array Oper) : Nat → Oper → (St → Prop) → St → Prop := fun _ o K st => ∃ st', Cov st st' ∧ opP0 P false (compileOp ops o) K st'
theorem soloS_mono {ops : Array Oper} : SMono (soloS P ops) := fun _ _ _ _ _ hm ⟨st', hc, h⟩ => ⟨st', hc, opP0_mono hm h⟩
theorem solo_c {ops : Array Oper} {i : Nat} (h : soloB ops i = true) {o : Oper} (ho : ops[i]? = some o) : soloC o = true := by
 unfold soloB at h
 rw [ho] at h
 simp only [Bool.and_eq_true] at h
 exact h.1
theorem opsB_absOps {ops : Array Oper} {K : St → Prop} : ∀ (l : List Oper) (ql : List POp) (k : Nat) (st : St), (∀ j, l[j]? = ops[k + j]?) → k + l.length = ops.size → ql.map POp.clr = l.map (compileOp ops) → opsB P K ((soloL ops).drop k) ql st → absOpsB P ops (soloS P ops) K l k st
 | [], [], k, st, _, _, _, h => by
   have : opsB P K ((soloL ops).drop k) [] st = K st := by cases (soloL ops).drop k <;> rfl
   rw [this] at h
   exact h
 | o :: l, q :: ql, k, st, hl, hk, hq, h => by
   simp only [List.map_cons, List.cons.injEq] at hq
   simp only [List.length_cons] at hk
   have h0 : ops[k]? = some o := by simpa using (hl 0).symm
   rw [soloL_drop (by omega)] at h
   have next : ∀ s, opsB P K ((soloL ops).drop (k + 1)) ql s → absOpsB P ops (soloS P ops) K l (k + 1) s := fun s hs => opsB_absOps l ql (k + 1) s (fun j => by have := hl (j + 1); simpa [Nat.add_assoc, Nat.add_comm 1 j] using this) (by omega) hq.2 hs
   show absS P ops (soloS P ops) k o (absOpsB P ops (soloS P ops) K l (k + 1)) st
   unfold absS
   cases hs : soloB ops k with
   | false =>
     rw [hs] at h
     rw [if_neg (by simp)]
     exact absG_mono next (opP_absG hq.1 rfl h)
   | true =>
     rw [hs] at h
     rw [if_pos rfl]
     obtain ⟨st', hc, h'⟩ := opP_call0 hq.1 (solo_c hs h0) h
     exact ⟨st', hc, opP0_mono next h'⟩
 | [], q :: ql, k, st, _, _, hq, h => by simp at hq
 | o :: l, [], k, st, _, _, hq, h => by simp at hq
theorem opsP_absOps {d : Bool} {ops : Array Oper} {K : St → Prop} (hd : d = true) : ∀ (l : List Oper) (ql : List POp) (st : St), ql.map POp.clr = l.map (compileOp ops) → opsP P d K ql st → absOps P d ops K l st
 | [], [], st, _, h => h
 | o :: l, q :: ql, st, hq, h => by
   simp only [List.map_cons, List.cons.injEq] at hq
   exact absG_mono (fun s hs => opsP_absOps hd l ql s hq.2 hs) (opP_absG hq.1 hd h)
 | [], q :: ql, st, hq, h => by simp at hq
 | o :: l, [], st, hq, h => by simp at hq
theorem opsP_in {ro : Option Nat} {n : Nat} {M : Off} {ops : Array Oper} {K : St → Prop} {Q : Exit → Act → World → Prop} : ∀ (l : List Oper) (ql : List POp) (k : Nat) (st : St) (a : Act) (w : World) (β : Beta), ql.map POp.clr = l.map (compileOp ops) → (∀ j, l[j]? = ops[k + j]?) → opsP P false K ql st → Rs P β M st a w → Kont P β M st w K (Q .normal) →
   wpOpsIn (rf ro) n P ops Q (List.range' k l.length) a w
 | [], [], k, st, a, w, β, _, _, h, hr, hK => by
   simp only [List.length_nil, List.range'_zero, wpOpsIn]
   exact hK st β a w h hr (Tr.refl _ _ _)
 | o :: l, q :: ql, k, st, a, w, β, hq, hl, h, hr, hK => by
   simp only [List.map_cons, List.cons.injEq] at hq
   have h0 : ops[k]? = some o := by simpa using (hl 0).symm
   simp only [List.length_cons, List.range'_succ, wpOpsIn_cons]
   refine opP_in hq.1 h0 h hr (fun st' β' a' w' hk hr' ht => ?_)
   exact opsP_in l ql (k + 1) st' a' w' β' hq.2 (fun j => by have := hl (j + 1); simpa [Nat.add_assoc, Nat.add_comm 1 j] using this) hk hr' (hK.trans ht)
 | [], q :: ql, k, st, a, w, β, hq, _, h, hr, hK => by simp at hq
 | o :: l, [], k, st, a, w, β, hq, _, h, hr, hK => by simp at hq
end
end Go.Pl

set_option linter.unusedSimpArgs false
set_option linter.unusedVariables false
namespace Go.Pl
open Go
theorem slk_keep (sl : Nat → V) (t : Nat) : ∀ (ks : List Nat), slk (ks.map fun k => (k, sl k)) t = .unk ∨ slk (ks.map fun k => (k, sl k)) t = sl t
 | [] => .inl rfl
 | k :: ks => by
   simp only [List.map, slk]
   by_cases h : t = k
   · subst h; simp
   · rw [if_neg h]; exact slk_keep sl t ks
theorem keep_cov (st : St) (ks : List Nat) : Cov st (st.keep ks) := by
 refine ⟨Nat.le_refl _, fun t => ?_, SubBx.refl _⟩
 rcases slk_keep st.sl t ks with h | h
 · exact .inl h
 · exact .inr (.inl h)
theorem compile_reg {c : Code} {d : Bool} {l : List POp} (h : compile c = .reg d l []) : ∃ id ops, c = .region id ops d ∧ (d = true → lexC ops = true) ∧ l = ops.toList.map (compileOp ops) := by
 cases c with
 | region id ops draw =>
   unfold compile at h
   split at h
   · split at h <;> cases h
   · rename_i hd
     split at h
     · cases h
     · injection h with h1 h2
       subst h1 h2
       refine ⟨id, ops, rfl, ?_, rfl⟩
       intro hdr
       subst hdr
       simpa using hd
 | _ => simp [compile] at h
theorem compile_regF {c : Code} {un uv : List (Nat × Nat)} {l : List POp} (h : compile c = .regF un uv l []) : ∃ id ops, c = .region id ops true ∧ lexD ops = true ∧ un = lexU ops ∧ uv = lexV ops ∧ l = ops.toList.map (compileOp ops) := by
 cases c with
 | region id ops draw =>
   unfold compile at h
   split at h
   · rename_i hd
     simp only [Bool.and_eq_true] at hd
     obtain ⟨rfl, _⟩ := hd
     split at h
     · rename_i hD
       injection h with h1 h3 h2
       exact ⟨id, ops, rfl, hD, h1.symm, h3.symm, h2.symm⟩
     · cases h
   · split at h
     · cases h
     · cases h
 | _ => simp [compile] at h
theorem compile_regB {c : Code} {so : List Bool} {l : List POp} (h : compile c = .regB so l []) : ∃ id ops, c = .region id ops true ∧ lexC ops = true ∧ so = soloL ops ∧ l = ops.toList.map (compileOp ops) := by
 cases c with
 | region id ops draw =>
   unfold compile at h
   split at h
   · split at h <;> cases h
   · rename_i hd
     split at h
     · rename_i hb
       simp only [Bool.and_eq_true] at hb
       obtain ⟨rfl, hb⟩ := hb
       injection h with h1 h2
       exact ⟨id, ops, rfl, by simpa using hd, h1.symm, h2.symm⟩
     · cases h
 | _ => simp [compile] at h
section
variable {P : Program}
theorem Says.mono {M : Off} {ro : Option Nat} {c : Code} {Q Q' : Exit → St → Prop} {st : St} (h : Says P M ro c Q st) (hq : ∀ e s, Q e s → Q' e s) : Says P M ro c Q' st := by
 intro n β a w hr
 refine wpIn_mono (h n β a w hr) ?_
 rintro e a' w' ⟨M', st', β', h1, h2⟩
 exact ⟨M', st', β', hq _ _ h1, h2⟩
theorem absOps_mono {d : Bool} {ops : Array Oper} {K K' : St → Prop} (hm : ∀ s, K s → K' s) : ∀ (l : List Oper) (st : St), absOps P d ops K l st → absOps P d ops K' l st
 | [], st, h => hm st h
 | o :: l, st, h => absG_mono (fun s hs => absOps_mono hm l s hs) h
theorem absOpsB_mono {ops : Array Oper} {S : Nat → Oper → (St → Prop) → St → Prop} (hS : SMono S) {K K' : St → Prop} (hm : ∀ s, K s → K' s) : ∀ (l : List Oper) (k : Nat) (st : St), absOpsB P ops S K l k st → absOpsB P ops S K' l k st
 | [], _, st, h => hm st h
 | o :: l, k, st, h => absS_mono hS (fun s hs => absOpsB_mono hS hm l (k + 1) s hs) h
theorem says_regB (hm : P.follows .mixedOrders = true) {M : Off} {ro : Option Nat} {id : Nat} {ops : Array Oper} {Q : Exit → St → Prop} {st : St} (hl : lexC ops = true) {l : List POp} (hl2 : l.map POp.clr = ops.toList.map (compileOp ops)) (h : opsB P (Q .normal) (soloL ops) l st) : Says P M ro (.region id ops true) (fun e s => e = .normal ∧ Q .normal s) st := by
 intro n β a w hr
 refine wpIn_region_any hm ?_
 have h := absOpsB_mono (P := P) (ops := ops) soloS_mono (K' := fun s => Exit.normal = .normal ∧ Q .normal s) (fun s hs => ⟨rfl, hs⟩) _ 0 _ (opsB_absOps ops.toList l 0 st (fun j => by simp) (by simp) hl2 (by simpa using h))
 have hr' : Rs P β M st a w.drew := ⟨hr.ok.drew, fun t => (Tr.drew hr.ok).rep (hr.sl t), hr.sz, hr.df, hr.bs, hr.gl.imp fun _ _ hh => (Tr.drew hr.ok).rep hh⟩
 have h1 := absAnyB_lex (P := P) soloS_mono hl ops.toList 0 (Array.replicate ops.size false) st (fun j => by simp) (by simp) (by simp) (fun j hj => by simp [hj]) h
 have h2 := absAnyB_sound (ro := ro) (n := n) (M := M) (Q := fun e a' w' => ∃ M' st' β', (e = .normal ∧ Q .normal st') ∧ MExt M M' w ∧ Rs P β' M' st' a' w' ∧ Tr β st.bx w β' st'.bx w') (fun i o K st a w β K' hi h hr hK => by
   obtain ⟨st', hcv, h⟩ := h
   exact opP0_in hi h (hcv.rs hr) (fun st2 β' a' w' hk hr' ht => hK _ _ _ _ hk hr' (hcv.bx.tr.trans ht))) _ _ st a w.drew β h1 hr' (fun st' β' a' w' hk hr2 ht => ⟨M, st', β', hk, MExt.refl _ _, hr2, (Tr.drew hr.ok).trans ht⟩)
 simpa using h2
theorem says_reg (hm : P.follows .mixedOrders = true) {M : Off} {ro : Option Nat} {id : Nat} {ops : Array Oper} {d : Bool} {Q : Exit → St → Prop} {st : St} (hl : d = true → lexC ops = true) {l : List POp} (hl2 : l.map POp.clr = ops.toList.map (compileOp ops)) (h : opsP P d (Q .normal) l st) : Says P M ro (.region id ops d) (fun e s => e = .normal ∧ Q .normal s) st := by
 cases d with
 | true => exact says_region hm hl (absOps_mono (fun s hs => ⟨rfl, hs⟩) _ _ (opsP_absOps rfl _ _ _ hl2 h))
 | false =>
   intro n β a w hr
   refine wpIn_region ?_
   have h1 := opsP_in (P := P) (ro := ro) (n := n) (M := M) (Q := fun e a' w' => ∃ M' st' β', (e = .normal ∧ Q .normal st') ∧ MExt M M' w ∧ Rs P β' M' st' a' w' ∧ Tr β st.bx w β' st'.bx w') ops.toList l 0 st a w β hl2 (fun j => by simp) h hr (fun st' β' a' w' hk hr' ht => ⟨M, st', β', ⟨rfl, hk⟩, MExt.refl _ _, hr', ht⟩)
   simpa [List.range_eq_range'] using h1
theorem opF_absX {ops : Array Oper} {fl : Nat → Bool} {i : Nat} {o : Oper} {q : POp} (hq : q.clr = compileOp ops o) (ho : ops[i]? = some o) (hf : fl i = q.fz) {K : St → Prop} {st : St} (h : opF P q K st) : absX P ops fl i K st := by
 rw [absX_at ho, hf]
 obtain ⟨qd, qop, qg, qf⟩ := q
 obtain ⟨odst, oop, otype, opos, oafter, oguard⟩ := o
 unfold opF at h
 simp only [POp.clr] at hq h ⊢
 cases oguard with
 | none =>
   simp only [compileOp, POp.mk.injEq] at hq
   obtain ⟨rfl, rfl, rfl, _⟩ := hq
   by_cases hb : (qf && fzb qop) = true
   · rw [if_pos hb] at h ⊢
     exact ⟨_, ⟨h.1, rfl⟩, h.2.1, h.2.2⟩
   · rw [if_neg hb] at h ⊢
     have ecb : callN ⟨qd, qop, otype, opos, oafter, none⟩ = callQ ⟨qd, qop, none, qf⟩ := rfl
     rw [ecb]
     by_cases hb2 : (qf && callQ ⟨qd, qop, none, qf⟩) = true
     · rw [if_pos hb2] at h ⊢
       exact h
     · rw [if_neg hb2] at h ⊢
       exact opP0_absG rfl (by simpa [compileOp] using h)
 | some gw =>
   obtain ⟨gg, w⟩ := gw
   cases hd : (ops[gg]?).bind (·.dst) with
   | none =>
     simp only [compileOp, hd, POp.mk.injEq] at hq
     obtain ⟨rfl, rfl, rfl, _⟩ := hq
     have hb : ¬ (qf && fzb (Op.ready 0)) = true := by simp [fzb]
     rw [if_neg hb, if_neg (by simp [callQ])] at h
     unfold opP0 at h
     simp only [yieldOf] at h
     unfold absOp at h
     simp [isEv, POp.oper] at h
   | some d =>
     simp only [compileOp, hd, POp.mk.injEq] at hq
     obtain ⟨rfl, rfl, rfl, _⟩ := hq
     by_cases hb : (qf && fzb qop) = true
     · rw [if_pos hb] at h ⊢
       simp only at h
       split at h
       · rename_i c hc
         refine ⟨_, ?_, h.2.1, h.2.2⟩
         unfold YF
         simp only
         exact ⟨_, by simp only [wantedV, hd, hc], h.1, rfl⟩
       · exact h.elim
     · rw [if_neg hb, if_neg (by simp [callQ])] at h
       rw [if_neg hb, if_neg (by simp [callN])]
       exact opP0_absG (ops := ops) rfl (by simpa [compileOp, hd] using h)
theorem opsF_chain {ops : Array Oper} {fl : Nat → Bool} {K : St → Prop} : ∀ (l : List Oper) (ql : List POp) (k : Nat) (st : St), ql.map POp.clr = l.map (compileOp ops) → (∀ j, l[j]? = ops[k + j]?) → (∀ j q, ql[j]? = some q → fl (k + j) = q.fz) → opsF P K ql st → chainT (absX P ops fl) K k l.length st
 | [], [], k, st, _, _, _, h => h
 | o :: l, q :: ql, k, st, hq, hl, hf, h => by
   simp only [List.map_cons, List.cons.injEq] at hq
   have h0 : ops[k]? = some o := by simpa using (hl 0).symm
   exact absX_ok.mono _ _ _ _ (fun s hs => opsF_chain l ql (k + 1) s hq.2 (fun j => by have := hl (j + 1); simpa [Nat.add_assoc, Nat.add_comm 1 j] using this) (fun j q' hj => by have := hf (j + 1) q' (by simpa using hj); simpa [Nat.add_assoc, Nat.add_comm 1 j] using this) hs) (opF_absX hq.1 h0 (by simpa using hf 0 q rfl) h)
 | [], q :: ql, k, st, hq, _, _, h => by simp at hq
 | o :: l, [], k, st, hq, _, _, h => by simp at hq
theorem fillV_fillL (st : St) : ∀ (ps : List (Nat × Operand)) (es : List V), fillV st es ps = fillL es (ps.map fun p => (p.1, st.get p.2))
 | [], es => rfl
 | (i, x) :: ps, es => by simp only [fillV, List.map_cons, fillL]; exact fillV_fillL st ps _
theorem finB_ok {β : Beta} {M : Off} {bx : Boxes} {w : World} (h : WOk β M bx w) : FinB bx := by
 obtain ⟨n, hn⟩ := h.fin
 refine ⟨n, fun b hb => ?_⟩
 cases hx : bx b with
 | none => rfl
 | some box =>
   rcases h.live b box hx with ⟨h1, _⟩ | ⟨k, h1, _⟩ <;> (rw [hn b hb] at h1; cases h1)
theorem bldE_FP {t : TypeId} {len : Nat} {parts : List (Nat × Operand)} {d : Option Tmp} {K : St → Prop} {st : St} (h1 : (bldE P t len (parts.map fun p => (p.1, st.get p.2))).1) (h2 : dstOk st d) (h3 : FinB st.bx) (h4 : K (st.put d (bldE P t len (parts.map fun p => (p.1, st.get p.2))).2)) : bldFP P t len parts d K st := by
 unfold bldE at h1 h4
 unfold bldFP
 split at h1
 · rename_i e hk
   simp only [hk] at h4 ⊢
   split at h1
   · rename_i z hz
     simp only [hz] at h4 ⊢
     obtain ⟨g1, g2, g3, g4⟩ := h1
     refine ⟨⟨g1, g2, g3, fun p hp => g4 (p.1, st.get p.2) (List.mem_map.2 ⟨p, hp, rfl⟩)⟩, h2, h3, ?_⟩
     rw [fillV_fillL]
     exact h4
   · exact h1.elim
 · exact h1.elim
theorem load_none {bx : Boxes} {t : TypeId} {a : V} (h : (loadV P (fun _ => none) t a).1) : loadV P bx t a = loadV P (fun _ => none) t a := by
 unfold loadV at h ⊢
 split at h
 · rename_i e o he; simp only [he]
 · exact h.elim
 · exact h.elim
theorem rs_dead {β : Beta} {M : Off} {st : St} {d : Option Tmp} {x : V} (y : V) {a : Act} {w : World} (h : Rs P β M (st.put d (.dead x)) a w) : Rs P β M (st.put d (.dead y)) a w := by
 cases d with
 | none => exact h
 | some d =>
   refine ⟨h.ok, fun t => ?_, h.sz, h.df, h.bs, h.gl⟩
   have := h.sl t
   simp only [St.put, upd] at this ⊢
   by_cases e : t = d
   · rw [if_pos e] at this ⊢
     generalize a.tmps.getD t undef = u at this ⊢
     cases this
     exact .dead _
   · rw [if_neg e] at this ⊢
     exact this
theorem absX_in {ro : Option Nat} {n : Nat} {β : Beta} {M : Off} {w : World} {ops : Array Oper} {fl : Nat → Bool} {o : Oper} {i : Nat} {st : St} {a : Act} {K : St → Prop} {K' : Act → World → Prop} {Q : Exit → Act → World → Prop} (hi : ops[i]? = some o) (h : absX P ops fl i K st) (hr : Rs P β M st a w) (hK : Kont P β M st w K K') :
   wpOpIn (rf ro) n P ops Q i K' a w := by
 rw [absX_at hi] at h
 by_cases hf : (fl i && fzb o.op) = true
 · rw [if_pos hf] at h
   obtain ⟨v, hy, hd, hk⟩ := h
   have hfz : fzb o.op = true := by simp only [Bool.and_eq_true] at hf; exact hf.2
   obtain ⟨odst, oop, otype, opos, oafter, oguard⟩ := o
   simp only at hfz hd hk
   unfold YF at hy
   cases oguard with
   | none =>
     obtain ⟨h1, rfl⟩ := hy
     cases oop <;> try (simp only [fzb, Bool.false_eq_true] at hfz; done)
     case load t x =>
       refine absG_sound (d := true) hi ?_ hr hK
       unfold absG absOp
       simp only [isEv, if_true, ev]
       simp only [evF] at h1 hk
       rw [load_none h1]
       exact ⟨h1, hd, hk⟩
     case buildSlice t len parts =>
       refine bldF_in (qd := odst) (qg := none) (by rfl) hi ?_ hr hK
       exact bldE_FP h1 hd (finB_ok hr.ok) hk
     case call c =>
       obtain ⟨x, t, rfl⟩ := fzb_len hfz
       refine absG_sound (d := true) hi ?_ hr hK
       unfold absG absOp
       simp only [isEv, if_true, ev, builtinV]
       have hl : lenOf { callee := .builtin .len, args := #[x], argTypes := #[t] } = some (x, t) := rfl
       simp only [evF, hl] at h1 hk
       rw [lenV_none h1]
       exact ⟨h1, hd, hk⟩
   | some gw =>
     obtain ⟨g, want⟩ := gw
     obtain ⟨wb, hwb, h1, rfl⟩ := hy
     have hK2 : ∀ x, Kont P β M st w (fun s => (wb = true ∧ K s) ∨ (wb = false ∧ s = st.put odst (.dead x))) K' := by
       rintro x st' β' a' w' (⟨rfl, hks⟩ | ⟨rfl, rfl⟩) hr' ht'
       · exact hK _ _ _ _ hks hr' ht'
       · exact hK _ _ _ _ hk (rs_dead _ hr') (by cases odst <;> exact ht')
     cases oop <;> try (simp only [fzb, Bool.false_eq_true] at hfz; done)
     case load t x =>
       refine absG_sound (d := true) (K := fun s => (wb = true ∧ K s) ∨ (wb = false ∧ s = st.put odst (.dead (loadV P st.bx t (gv P st x)).2.strip))) hi ?_ hr (hK2 _)
       unfold absG
       simp only [hwb, isEv, if_true, ev]
       simp only [evF] at h1 hk
       refine ⟨fun hw => by rw [load_none (h1 hw)]; exact h1 hw, hd, ?_⟩
       cases wb
       · exact .inr ⟨rfl, rfl⟩
       · refine .inl ⟨rfl, ?_⟩
         rw [load_none (h1 rfl)]
         exact hk
     case call c =>
       obtain ⟨x, t, rfl⟩ := fzb_len hfz
       refine absG_sound (d := true) (K := fun s => (wb = true ∧ K s) ∨ (wb = false ∧ s = st.put odst (.dead (lenV P st.bx t (st.get x)).2.strip))) hi ?_ hr (hK2 _)
       unfold absG
       simp only [hwb, isEv, if_true, ev, builtinV]
       have hl : lenOf { callee := .builtin .len, args := #[x], argTypes := #[t] } = some (x, t) := rfl
       simp only [evF, hl] at h1 hk
       refine ⟨fun hw => by rw [lenV_none (h1 hw)]; exact h1 hw, hd, ?_⟩
       cases wb
       · exact .inr ⟨rfl, rfl⟩
       · refine .inl ⟨rfl, ?_⟩
         rw [lenV_none (h1 rfl)]
         exact hk
     case buildSlice t len parts =>
       unfold wantedV at hwb
       cases hdd : (ops[g]?).bind (·.dst) with
       | none => simp [hdd] at hwb
       | some s =>
         simp only [hdd] at hwb
         split at hwb
         · rename_i c hc
           injection hwb with hwb
           refine bldF_in (t := t) (len := len) (parts := parts) (qd := odst) (qg := some (s, want)) (K := fun s => (wb = true ∧ K s) ∨ (wb = false ∧ s = st.put odst (.dead .unk))) (by simp [compileOp, hdd]) hi ?_ hr (hK2 _)
           simp only [bldGP, hc]
           rw [hwb]
           refine ⟨fun hw => bldE_FP (h1 hw) hd (finB_ok hr.ok) (.inl ⟨hw, ?_⟩), fun hw => ⟨hd, .inr ⟨hw, trivial⟩⟩⟩
           subst hw
           exact hk
         · cases hwb
 · rw [if_neg hf] at h
   by_cases hf2 : (fl i && callN o) = true
   · rw [if_pos hf2] at h
     exact absG_sound hi h.2 hr hK
   · rw [if_neg hf2] at h
     exact absG_sound hi h hr hK
theorem lexV_mem {ops : Array Oper} {k j : Nat} {ok oj : Oper} (hk : ops[k]? = some ok) (hj : ops[j]? = some oj) (hkj : k < j) (hw : ¬ Waits (masks ops) j k) (ha : ((callN ok || callN oj) && !cls0 ok && !cls0 oj) = true) : (k, j) ∈ lexV ops := by
 have h1 := (Array.getElem?_eq_some_iff.1 hk).1
 have h2 := (Array.getElem?_eq_some_iff.1 hj).1
 have hw' : ((masks ops).getD j 0).testBit k = false := by unfold Waits at hw; simpa using hw
 unfold lexV
 simp only [List.mem_flatMap, List.mem_range, List.mem_map, List.mem_filter]
 exact ⟨k, h1, j, ⟨h2, by simp only [hk, hj, ha, hkj, hw', decide_true, Bool.not_false, Bool.and_self]⟩, rfl⟩
theorem lexD_at {ops : Array Oper} (h : lexD ops = true) {k : Nat} {ok : Oper} (hk : ops[k]? = some ok) :
   (∀ e ∈ ok.after, Region.binds .any e = true → e.on < k) ∧ ∀ j oj, ops[j]? = some oj → k < j → ¬ Waits (masks ops) j k → ok.apart ops oj = true := by
 have hlt := (Array.getElem?_eq_some_iff.1 hk).1
 simp only [lexD, List.all_eq_true, List.mem_range] at h
 have h1 := h k hlt
 simp only [hk, Bool.and_eq_true] at h1
 obtain ⟨h2, h3⟩ := h1
 refine ⟨fun e he hb => ?_, fun j oj hj hkj hw => ?_⟩
 · have := Array.all_eq_true_iff_forall_mem.1 h2 e he
   simpa [hb] using this
 · have hjlt := (Array.getElem?_eq_some_iff.1 hj).1
   have h4 := List.all_eq_true.1 h3 j (List.mem_range.2 hjlt)
   simp only [hj, Bool.or_eq_true, decide_eq_true_eq] at h4
   rcases h4 with h4 | h4 | h4
   · omega
   · exact absurd h4 hw
   · exact h4
theorem lexU_mem {ops : Array Oper} {k j : Nat} {ok oj : Oper} (hk : ops[k]? = some ok) (hj : ops[j]? = some oj) (hkj : k < j) (hw : ¬ Waits (masks ops) j k) (ha : ¬ (apartC ops ok oj || swapC ops ok oj) = true) : (k, j) ∈ lexU ops := by
 have h1 := (Array.getElem?_eq_some_iff.1 hk).1
 have h2 := (Array.getElem?_eq_some_iff.1 hj).1
 have ha' : (apartC ops ok oj || swapC ops ok oj) = false := by
   cases hx : (apartC ops ok oj || swapC ops ok oj) with
   | false => rfl
   | true => exact absurd hx ha
 have hw' : ((masks ops).getD j 0).testBit k = false := by unfold Waits at hw; simpa using hw
 unfold lexU
 simp only [List.mem_flatMap, List.mem_range, List.mem_map, List.mem_filter]
 exact ⟨k, h1, j, ⟨h2, by simp only [hk, hj, ha', hkj, hw', decide_true, Bool.not_false, Bool.and_self]⟩, rfl⟩
theorem says_regF (hm : P.follows .mixedOrders = true) {M : Off} {ro : Option Nat} {id : Nat} {ops : Array Oper} {Q : Exit → St → Prop} {st : St} (hD : lexD ops = true) {l : List POp} (hl2 : l.map POp.clr = ops.toList.map (compileOp ops))
   (hU : ((lexU ops).all fun p => fzAt l p.1 || fzAt l p.2) = true) (hV : ((lexV ops).all fun p => !(clAt l p.1 || clAt l p.2) || fzAt l p.1 || fzAt l p.2) = true) (h : opsF P (Q .normal) l st) : Says P M ro (.region id ops true) (fun e s => e = .normal ∧ Q .normal s) st := by
 intro n β a w hr
 refine wpIn_region_any hm ?_
 have hr' : Rs P β M st a w.drew := ⟨hr.ok.drew, fun t => (Tr.drew hr.ok).rep (hr.sl t), hr.sz, hr.df, hr.bs, hr.gl.imp fun _ _ hh => (Tr.drew hr.ok).rep hh⟩
 let fl : Nat → Bool := fun i => match l[i]? with | some q => q.fz | none => false
 have hfz : ∀ k ok, ops[k]? = some ok → fzAt l k = true → clX fl k ok = true := by
   intro k ok hk hz
   unfold fzAt at hz
   cases hq : l[k]? with
   | none => simp [hq] at hz
   | some q =>
     simp only [hq, Bool.and_eq_true] at hz
     have e1 : (l.map POp.clr)[k]? = some q.clr := by simp [hq]
     rw [hl2] at e1
     have e2 : (ops.toList.map (compileOp ops))[k]? = some (compileOp ops ok) := by simp [hk]
     rw [e2] at e1
     injection e1 with e1
     have e3 : q.op = ok.op := by
       have h5 : (compileOp ops ok).op = q.op := by rw [e1]; rfl
       unfold compileOp at h5
       split at h5
       · exact h5.symm
       · split at h5
         · exact h5.symm
         · rw [← h5] at hz; simp [fzb] at hz
     simp only [clX, Bool.or_eq_true, Bool.and_eq_true]
     refine .inl ⟨?_, by rw [← e3]; exact hz.2⟩
     show (match l[k]? with | some q => q.fz | none => false) = true
     simp only [hq]
     exact hz.1
 have hLex : LexT ops (absX P ops fl) := by
   have hcl : ∀ k ok, ops[k]? = some ok → (fl k && callN ok) = true → clAt l k = true := by
     intro k ok hk hz
     simp only [Bool.and_eq_true] at hz
     obtain ⟨hz1, hz2⟩ := hz
     have e2 : (ops.toList.map (compileOp ops))[k]? = some (compileOp ops ok) := by simp [hk]
     rw [← hl2] at e2
     have hz1' : (match l[k]? with | some q => q.fz | none => false) = true := hz1
     unfold clAt
     cases hq : l[k]? with
     | none => simp [hq] at hz1'
     | some q =>
       simp only [hq] at hz1' ⊢
       simp only [List.getElem?_map, hq, Option.map_some, Option.some.injEq] at e2
       obtain ⟨hg, f, args, ts, hop⟩ := callN_spec hz2
       have e3 : q.clr = ⟨ok.dst, .call ⟨.value (.func f), args, ts⟩, none, false⟩ := by rw [e2]; unfold compileOp; rw [hg, hop]
       obtain ⟨qd, qop, qg, qf⟩ := q
       simp only [POp.clr, POp.mk.injEq] at e3
       obtain ⟨_, rfl, rfl, _⟩ := e3
       have hz3 : qf = true := hz1'
       subst hz3
       rfl
   have hVV : ∀ k ok j oj, ops[k]? = some ok → ops[j]? = some oj → k < j → ¬ Waits (masks ops) j k → ((fl k && callN ok) = true ∨ (fl j && callN oj) = true) → clX fl k ok = true ∨ clX fl j oj = true := by
     intro k ok j oj hk hj hkj hw hcc
     by_cases h1 : cls0 ok = true
     · exact .inl (by simp [clX, h1])
     by_cases h2 : cls0 oj = true
     · exact .inr (by simp [clX, h2])
     have hb : (callN ok || callN oj) = true := by
       rcases hcc with hcc | hcc <;> (simp only [Bool.and_eq_true] at hcc; simp [hcc.2])
     have := List.all_eq_true.1 hV _ (lexV_mem hk hj hkj hw (by simp [hb, h1, h2]))
     have hq : (clAt l k || clAt l j) = true := by
       rcases hcc with hcc | hcc
       · simp [hcl k ok hk hcc]
       · simp [hcl j oj hj hcc]
     simp only [hq, Bool.not_true, Bool.false_or, Bool.or_eq_true] at this
     exact this.imp (hfz k ok hk) (hfz j oj hj)
   have hcx : ∀ k ok, (fl k && callN ok) = true → ¬ clX fl k ok = true := by
     intro k ok hc hx
     simp only [Bool.and_eq_true] at hc
     simp only [clX, Bool.or_eq_true, Bool.and_eq_true] at hx
     rcases hx with hx | hx
     · rw [fzb_callN hx.2] at hc; exact absurd hc.2 (by simp)
     · rw [cls0_callN hx] at hc; exact absurd hc.2 (by simp)
   refine ⟨fun k ok hk => (lexD_at hD hk).1, fun k ok hk j oj hj hkj hw K st hh => comm_X hk hj ?_ (fun hc => (hVV k ok j oj hk hj hkj hw (.inl hc)).resolve_left (hcx k ok hc)) (fun hc => (hVV k ok j oj hk hj hkj hw (.inr hc)).resolve_right (hcx j oj hc)) hh⟩
   by_cases ha : (apartC ops ok oj || swapC ops ok oj) = true
   · exact .inl ha
   · refine .inr ⟨(lexD_at hD hk).2 j oj hj hkj hw, ?_⟩
     have := List.all_eq_true.1 hU _ (lexU_mem hk hj hkj hw ha)
     simp only [Bool.or_eq_true] at this
     exact this.imp (hfz k ok hk) (hfz j oj hj)
 have hch := opsF_chain (fl := fl) ops.toList l 0 st hl2 (fun j => by simp) (fun j q hj => by
   show (match l[0 + j]? with | some q => q.fz | none => false) = q.fz
   simp [hj]) h
 have h1 := anyT_lex (K := Q .normal) absX_ok hLex ops.toList.length 0 (Array.replicate ops.size false) st (by simp) (by simp) (fun j hj => by simp [hj]) hch
 have h2 := anyT_sound (P := P) (ro := ro) (n := n) (M := M) (ops := ops) (Q := fun e a' w' => ∃ M' st' β', (e = .normal ∧ Q .normal st') ∧ MExt M M' w ∧ Rs P β' M' st' a' w' ∧ Tr β st.bx w β' st'.bx w') (fun i o K st a w β K' hi h hr hK => absX_in hi h hr hK) _ _ st a w.drew β h1 hr' (fun st' β' a' w' hk hr2 ht => ⟨M, st', β', ⟨rfl, hk⟩, MExt.refl _ _, hr2, (Tr.drew hr.ok).trans ht⟩)
 simpa using h2
theorem says_range {M : Off} {g : Operand} {ps : Array Tmp} {x y : PC} {ca cb : Code} {Q : Exit → St → Prop} {st : St} (hc : goodC x y ca cb) (h : pw P (.rangeFunc g ps x y) Q st) : Says P M none (.rangeFunc g ps ca cb) Q st := by
 intro n β a w hr
 unfold pw at h
 split at h
 rotate_left
 · exact h.elim
 rename_i gf caps hs
 obtain ⟨hlive, hcall⟩ := h
 obtain ⟨b, hβ, hb⟩ := hr.ok.fresh
 specialize hcall b hb
 refine wpIn_rangeFunc ?_
 intro fn hfn
 have rg := hr.get g
 rw [live_of hlive hs] at rg
 generalize hgu : a.eval g = u at rg
 cases rg with
 | fn _ _ us hlen hreps =>
 obtain ⟨rec, hrec⟩ : ∃ rec : Loop, rec = { state := .ready, pending := none, fn, tmps := a.tmps, params := ps, assign := ca, body := cb, defers := w.heap.size } := ⟨_, rfl⟩
 obtain ⟨hw1, ht1, hx1⟩ := alloc_off hr.ok (.deferred (some []))
 obtain ⟨M1, hM1⟩ : ∃ M1, M.set w.heap.size (some (.deferred (some []))) = M1 := ⟨_, rfl⟩
 obtain ⟨w1, hw1e⟩ : ∃ w1, w.alloc (.deferred (some [])) = w1 := ⟨_, rfl⟩
 rw [hM1] at hw1 hx1
 rw [hw1e] at hw1 ht1
 have hsz1 : w1.heap.size = w.heap.size + 1 := by rw [← hw1e]; simp
 have hslots1 : ∀ t, Rep β w1 (Fz β M1 st.bx w1) (st.sl t) (a.tmps.getD t undef) := fun t => ht1.repx hx1 (hr.sl t)
 have htm : rec.tmps = a.tmps := by rw [hrec]
 have hext2 : ∀ q x, β q = some x → upd β b (some (some w1.heap.size)) q = some x := by
   intro q x hx
   rw [upd_ne _ _ (by rintro rfl; rw [hβ] at hx; cases hx)]; exact hx
 have hshape2 : ∀ k x, w1.shape? k = some x → (w1.alloc (.loop rec)).shape? k = some x := fun k x hx => by
   have : k < w1.heap.size := by
     rcases Nat.lt_or_ge k w1.heap.size with h1 | h1
     · exact h1
     · simp [World.shape?, Array.getElem?_eq_none h1] at hx
   rw [shape_heap (Go.RowKit.Below.heap_alloc w1 _ k this)]; exact hx
 obtain ⟨hw2, ht2⟩ := alloc_any hw1 hβ hb (.loop rec) (.loop none ps (goodC x y) st.n st.sl) (fun _ h => by cases h) (fun F' hF' =>
   ⟨rec, World.alloc_heap_new w1 _, by rw [hrec]; rfl, by rw [hrec], by rw [hrec], by rw [hrec]; exact hc, by rw [hrec]; exact hr.sz, fun t => by rw [htm]; exact (hslots1 t).mono hext2 hF' hshape2⟩)
 obtain ⟨w2, hw2e⟩ : ∃ w2, w1.alloc (.loop rec) = w2 := ⟨_, rfl⟩
 rw [hw2e] at hw2 ht2
 rw [hsz1] at hw2 ht2
 have henter : (Instr.enterLoop fn a.tmps ps ca cb (rf none).round).run P w = .ok (w.heap.size + 1, [{ target := .collected w.heap.size, args := #[] }]) w2 := by
   rw [← hw2e, ← hw1e, hrec]; exact run_enterLoop_outer _ _ _ _ _
 refine ⟨w.heap.size + 1, [{ target := .collected w.heap.size, args := #[] }], w2, { target := .fn (.func gf) us, args := #[.func (.yield (w.heap.size + 1)) #[] #[]] }, w2, gf, #[.func (.yield (w.heap.size + 1)) #[] #[]] ++ us, w2, henter, ?_, fun _ _ => trivial, ?_, fun hd => by simp [rf, Fence.wide] at hd, ?_⟩
 · simp only [resolve, hgu]
   simp [go_sem]
 · simp [invoke, go_sem, hcall.1]
 · have hb2 : upd β b (some (some (w.heap.size + 1))) b = some (some (w.heap.size + 1)) := upd_eq _ _ _
   have hcc := hcall.2 (upd β b (some (some (w.heap.size + 1)))) M1 w2 (#[.func (.yield (w.heap.size + 1)) #[] #[]] ++ us) hw2 (hr.gl.imp (fun _ _ hh => ht2.rep (M := M1) (ht1.repx hx1 hh)) (fun _ _ h => ht2.shape _ _ (ht1.shape _ _ h))) (by simp [hlen]; omega) (fun i c hci => by
     match i, hci with
     | 0, hci =>
       simp at hci; subst hci
       have e0 : (#[Value.func (.yield (w.heap.size + 1)) #[] #[]] ++ us).getD 0 undef = Value.func (.yield (w.heap.size + 1)) #[] #[] := by
         simp [Array.getElem?_append]
       rw [e0]
       exact Rep.yl b (w.heap.size + 1) hb2
     | i + 1, hci =>
       simp only [List.getElem?_cons_succ] at hci
       have h3 := ht2.rep (M := M1) (ht1.repx hx1 (hreps i c hci))
       have e : (#[Value.func (.yield (w.heap.size + 1)) #[] #[]] ++ us).getD (i + 1) undef = us.getD i undef := by
         simp [Array.getElem?_append]
       rw [e]
       exact h3)
   refine CallsIn.mono (show CallsIn (rf none) (n - 1) P gf _ w2 _ from callsIn_wide.2 hcc) ?_
   rintro e w3 ⟨v, r, bx', β', rfl, hdone, hok3, ht3, _⟩
   have hb3 : β' b = some (some (w.heap.size + 1)) := ht3.ext _ _ hb2
   have htot : Tr β st.bx w β' bx' w3 := ht1.trans (ht2.trans ht3)
   have hsl3 : ∀ t, Rep β' w3 (Fz β' M1 bx' w3) (st.sl t) (a.tmps.getD t undef) := fun t => ht3.rep (ht2.rep (hslots1 t))
   have hMD : M1 w.heap.size = some (.deferred (some [])) := by rw [← hM1]; exact Off.set_eq _ _ _
   have fin : ∀ pend : Option Code, bx' b = some (.loop pend ps (goodC x y) st.n st.sl) → ∃ w4, (Instr.endLoop (w.heap.size + 1)).run P w3 = .ok pend w4 ∧
       Rs P β' M1 ⟨st.n, st.sl, upd bx' b none⟩ { tmps := a.tmps, defers := { target := .collected w.heap.size, args := #[] } :: a.defers } w4 ∧ Tr β st.bx w β' (upd bx' b none) w4 := by
     intro pend hbox
     obtain ⟨hlt, hM, rec', hrec', hstate, hpend, hps, hgood, hsz', _⟩ := live_block hok3 hbox hb3
     have hend := run_endLoop (P := P) hrec' (by rw [hstate]; split <;> simp)
     rw [hpend] at hend
     have hs3 : w3.shape? (w.heap.size + 1) = none := by simp [World.shape?, hrec']
     obtain ⟨hok4, ht4⟩ := box_put hok3 hbox hb3 hs3 (.loop { rec' with state := .exhausted })
     rw [hpend] at hok4 ht4
     refine ⟨_, hend, ⟨hok4, fun t => ht4.rep (hsl3 t), hr.sz, ?_, ?_, hr.gl.imp (fun _ _ hh => ht4.rep (ht3.rep (ht2.rep (M := M1) (ht1.repx hx1 hh)))) (fun _ _ h => (htot.trans ht4).shape _ _ h)⟩, htot.trans ht4⟩
     · obtain ⟨ms, hms, hmk⟩ := hr.df
       refine ⟨{ target := .collected w.heap.size, args := #[] } :: ms, by rw [hx1.df, List.cons_append, ← hms], w.heap.size, rfl, by rw [hx1.base]; exact hr.bs, hMD, ?_⟩
       rw [hx1.base]
       refine hmk.mono (fun k o hk => ?_)
       have e : k ≠ w.heap.size := by have := hr.ok.mlt' hk; omega
       rw [upd_ne _ _ e]
       exact hx1.le k o hk
     · rw [hx1.base]
       exact Nat.le_trans hr.bs (htot.trans ht4).size
   rcases hdone with ⟨hbox, hq⟩ | ⟨hbox, hq⟩ | ⟨id, hbox, hq⟩
   · obtain ⟨w4, h1, h2, h3⟩ := fin none hbox
     exact ⟨none, w4, h1, M1, _, β', hq, hx1, h2, h3⟩
   · obtain ⟨w4, h1, h2, h3⟩ := fin (some .ret) hbox
     exact ⟨some .ret, w4, h1, wpIn_ret ⟨M1, _, β', hq, hx1, h2, h3⟩⟩
   · obtain ⟨w4, h1, h2, h3⟩ := fin (some (.exit id)) hbox
     exact ⟨some (.exit id), w4, h1, wpIn_exit ⟨M1, _, β', hq, hx1, h2, h3⟩⟩
end
end Go.Pl

set_option linter.unusedSimpArgs false
set_option linter.unusedVariables false
namespace Go.Pl
open Go
section
variable {P : Program}
theorem pw_sound (hm : P.follows .mixedOrders = true) {ro : Option Nat} : ∀ (pc : PC) (c : Code) (M : Off) (Q : Exit → St → Prop) (st : St), (ro = none ∨ noRange pc = true) → compile c = erase pc → pw P pc Q st → Says P M ro c Q st
 | .skip, c, M, Q, st, hn, hc, h => by
   cases c <;> simp only [compile, erase, reduceCtorEq] at hc
   · exact fun n β a w hr => wpIn_skip ⟨M, st, β, h, MExt.refl _ _, hr, Tr.refl _ _ _⟩
   · split at hc <;> first | (cases hc; done) | (split at hc <;> cases hc)
   · exact fun n β a w hr => wpIn_label ⟨M, st, β, h, MExt.refl _ _, hr, Tr.refl _ _ _⟩
 | .reg d l ks, c, M, Q, st, hn, hc, h => by
   obtain ⟨id, ops, rfl, hl, hl2⟩ := compile_reg hc
   intro n β a w hr
   refine wpIn_mono (says_reg (M := M) (ro := ro) (Q := fun e s => e = .normal → Q .normal (s.keep ks)) (id := id) hm hl hl2 (by
     unfold pw at h
     have e : (fun s : St => Q .normal (s.keep ks)) = (fun s : St => Exit.normal = Exit.normal → Q .normal (s.keep ks)) := by
       funext s; exact propext ⟨fun h _ => h, fun h => h rfl⟩
     rw [e] at h
     exact h) n β a w hr) ?_
   rintro e a' w' ⟨M', st', β', ⟨rfl, hq⟩, hx, hr', ht⟩
   exact ⟨M', _, β', hq rfl, hx, (keep_cov st' ks).rs hr', ht⟩
 | .regB so l ks, c, M, Q, st, hn, hc, h => by
   obtain ⟨id, ops, rfl, hl, rfl, hl2⟩ := compile_regB hc
   intro n β a w hr
   refine wpIn_mono (says_regB (M := M) (ro := ro) (Q := fun e s => e = .normal → Q .normal (s.keep ks)) (id := id) hm hl hl2 (by
     unfold pw at h
     have e : (fun s : St => Q .normal (s.keep ks)) = (fun s : St => Exit.normal = Exit.normal → Q .normal (s.keep ks)) := by
       funext s; exact propext ⟨fun h _ => h, fun h => h rfl⟩
     rw [e] at h
     exact h) n β a w hr) ?_
   rintro e a' w' ⟨M', st', β', ⟨rfl, hq⟩, hx, hr', ht⟩
   exact ⟨M', _, β', hq rfl, hx, (keep_cov st' ks).rs hr', ht⟩
 | .regF un uv l ks, c, M, Q, st, hn, hc, h => by
   obtain ⟨id, ops, rfl, hD, rfl, rfl, hl2⟩ := compile_regF hc
   unfold pw at h
   intro n β a w hr
   refine wpIn_mono (says_regF (M := M) (ro := ro) (Q := fun e s => e = .normal → Q .normal (s.keep ks)) (id := id) hm hD hl2 h.1.1 h.1.2 (by
     have e : (fun s : St => Q .normal (s.keep ks)) = (fun s : St => Exit.normal = Exit.normal → Q .normal (s.keep ks)) := by
       funext s; exact propext ⟨fun h _ => h, fun h => h rfl⟩
     rw [e] at h
     exact h.2) n β a w hr) ?_
   rintro e a' w' ⟨M', st', β', ⟨rfl, hq⟩, hx, hr', ht⟩
   exact ⟨M', _, β', hq rfl, hx, (keep_cov st' ks).rs hr', ht⟩
 | .raw c', c, M, Q, st, hn, hc, h => by
   cases c <;> simp only [compile, erase, reduceCtorEq] at hc
   · split at hc <;> first | (cases hc; done) | (split at hc <;> cases hc)
 | .seq x y, c, M, Q, st, hn, hc, h => by
   cases c <;> simp only [compile, erase, reduceCtorEq] at hc
   · split at hc <;> first | (cases hc; done) | (split at hc <;> cases hc)
   rename_i a b
   injection hc with h1 h2
   have hn1 : ro = none ∨ noRange x = true := by rcases hn with hn | hn <;> simp_all [noRange]
   have hn2 : ro = none ∨ noRange y = true := by rcases hn with hn | hn <;> simp_all [noRange]
   intro n β ac w hr
   refine wpIn_seq (wpIn_mono (pw_sound hm x a M _ st hn1 h1 h n β ac w hr) ?_)
   rintro e a' w' ⟨M', st', β', hq, hx, hr', ht⟩
   cases e with
   | normal =>
     refine wpIn_mono (pw_sound hm y b M' Q st' hn2 h2 hq n β' a' w' hr') ?_
     rintro e2 a2 w2 ⟨M2, st2, β2, hq2, hx2, hr2, ht2⟩
     exact ⟨M2, st2, β2, hq2, hx.trans hx2 ht.size, hr2, ht.trans ht2⟩
   | _ => exact ⟨M', st', β', hq, hx, hr', ht⟩
 | .cond o x y, c, M, Q, st, hn, hc, h => by
   cases c <;> simp only [compile, erase, reduceCtorEq] at hc
   · split at hc <;> first | (cases hc; done) | (split at hc <;> cases hc)
   rename_i c' a b
   injection hc with h0 h1 h2
   subst h0
   have hn1 : ro = none ∨ noRange x = true := by rcases hn with hn | hn <;> simp_all [noRange]
   have hn2 : ro = none ∨ noRange y = true := by rcases hn with hn | hn <;> simp_all [noRange]
   intro n β ac w hr
   unfold pw at h
   split at h
   · rename_i t ht
     obtain ⟨hl, h3, h4⟩ := h
     have hrep := hr.get c'
     rw [live_of hl ht] at hrep
     refine wpIn_cond_split (t := t) hrep.bool_inv (fun ht => ?_) (fun ht => ?_)
     · exact pw_sound hm x a M Q st hn1 h1 (h3 ht) n β ac w hr
     · exact pw_sound hm y b M Q st hn2 h2 (h4 ht) n β ac w hr
   · exact h.elim
 | .block id x, c, M, Q, st, hn, hc, h => by
   cases c <;> simp only [compile, erase, reduceCtorEq] at hc
   · split at hc <;> first | (cases hc; done) | (split at hc <;> cases hc)
   rename_i id' c
   injection hc with h0 h1
   subst h0
   intro n β a w hr
   refine wpIn_block (wpIn_mono (pw_sound hm x c M _ st hn h1 h n β a w hr) ?_)
   rintro e a' w' ⟨M', st', β', hq, hx, hr', ht⟩
   cases e with
   | exit id' =>
     simp only [blockQ] at hq
     simp only [Exit.inBlock]
     split at hq
     · rename_i he; rw [if_pos he]; exact ⟨M', st', β', hq, hx, hr', ht⟩
     · rename_i he; rw [if_neg he]; exact ⟨M', st', β', hq, hx, hr', ht⟩
   | _ => exact ⟨M', st', β', hq, hx, hr', ht⟩
 | .loop x, c, M, Q, st, hn, hc, h => by
   cases c <;> simp only [compile, erase, reduceCtorEq] at hc
   · split at hc <;> first | (cases hc; done) | (split at hc <;> cases hc)
   rename_i c
   injection hc with h1
   intro n β a w hr
   obtain ⟨ι, C, μ, i0, hcv, hround⟩ := h
   refine wpIn_loop_ghost (fun n a' w' => ∃ i M' β', μ i = n ∧ MExt M M' w ∧ Rs P β' M' (C i) a' w' ∧ Tr β st.bx w β' (C i).bx w') (μ i0) ⟨i0, M, β, rfl, MExt.refl _ _, hcv.rs hr, hcv.bx.tr⟩ ?_
   rintro m a' w' ⟨i, M', β', rfl, hx, hr', ht⟩
   refine wpIn_mono (pw_sound hm x c M' _ (C i) hn h1 (hround i) n β' a' w' hr') ?_
   rintro e a2 w2 ⟨M2, st2, β2, hq, hx2, hr2, ht2⟩
   cases e with
   | normal =>
     obtain ⟨i', hcov, hlt⟩ := hq
     exact ⟨μ i', hlt, i', M2, β2, rfl, hx.trans hx2 ht.size, hcov.rs hr2, ht.trans (ht2.trans hcov.bx.tr)⟩
   | _ => exact ⟨M2, st2, β2, hq, hx.trans hx2 ht.size, hr2, ht.trans ht2⟩
 | .wk x, c, M, Q, st, hn, hc, h => by
   obtain ⟨st', hcv, h⟩ := h
   intro n β a w hr
   refine wpIn_mono (pw_sound hm x c M Q st' hn hc h n β a w (hcv.rs hr)) ?_
   rintro e a' w' ⟨M', st2, β', hq, hx, hr', ht⟩
   exact ⟨M', st2, β', hq, hx, hr', hcv.bx.tr.trans ht⟩
 | .fz t x, c, M, Q, st, hn, hc, h => by
   unfold pw at h
   split at h
   · rename_i b sz i o hsl
     split at h
     · rename_i ty sz' es hbx
       obtain ⟨rfl, hi, h⟩ := h
       have hcv : Cov st ⟨st.n, upd st.sl t (.ep (es.getD i .unk) o), upd st.bx b none⟩ := by
         refine ⟨Nat.le_refl _, fun s => ?_, fun b' => ?_⟩
         · by_cases e : s = t
           · subst e
             refine .inr (.inr (.inl ⟨1, ?_⟩))
             simp only [upd_eq, hsl, frz, hbx]
             rw [if_pos ⟨trivial, hi⟩]
           · exact .inr (.inl (upd_ne _ _ e))
         · by_cases e : b' = b
           · subst e; exact .inl (upd_eq _ _ _)
           · exact .inr (.inl (upd_ne _ _ e))
       intro n β a w hr
       refine wpIn_mono (pw_sound hm x c M Q _ hn hc h n β a w (hcv.rs hr)) ?_
       rintro e a' w' ⟨M', st2, β', hq, hx, hr', ht⟩
       exact ⟨M', st2, β', hq, hx, hr', hcv.bx.tr.trans ht⟩
     · exact h.elim
   · exact h.elim
 | .exit id, c, M, Q, st, hn, hc, h => by
   cases c <;> simp only [compile, erase, reduceCtorEq] at hc
   · split at hc <;> first | (cases hc; done) | (split at hc <;> cases hc)
   injection hc with h0
   subst h0
   exact fun n β a w hr => wpIn_exit ⟨M, st, β, h, MExt.refl _ _, hr, Tr.refl _ _ _⟩
 | .ret, c, M, Q, st, hn, hc, h => by
   cases c <;> simp only [compile, erase, reduceCtorEq] at hc
   · split at hc <;> first | (cases hc; done) | (split at hc <;> cases hc)
   exact fun n β a w hr => wpIn_ret ⟨M, st, β, h, MExt.refl _ _, hr, Tr.refl _ _ _⟩
 | .rangeFunc g ps x y, c, M, Q, st, hn, hc, h => by
   cases c <;> simp only [compile, erase, reduceCtorEq] at hc
   · split at hc <;> first | (cases hc; done) | (split at hc <;> cases hc)
   rename_i g' ps' a b
   injection hc with h0 h1 h2 h3
   subst h0 h1
   rcases hn with rfl | hn
   · exact says_range ⟨h2, h3⟩ h
   · simp [noRange] at hn
 | .bad, c, M, Q, st, hn, hc, h => h.elim
theorem WOk.finB {β : Beta} {M : Off} {bx : Boxes} {w : World} (h : WOk β M bx w) : FinB bx := by
 obtain ⟨n, hn⟩ := h.fin
 refine ⟨n, fun b hb => ?_⟩
 cases hx : bx b with
 | none => rfl
 | some box =>
   rcases h.live b box hx with ⟨h1, _⟩ | ⟨k, h1, _⟩ <;> (rw [hn b hb] at h1; cases h1)
theorem abs_of (hm : P.follows .mixedOrders = true) {f : FuncId} {fn : Func} {pc : PC} {n : Nat} {rs : List ResultVar} (hf : P.funcs[f]? = some fn) (hb : ∃ c, fn.body = some c ∧ compile c = erase pc) (hent : ∀ vs w, (callFunc f vs).run P w = .ok (.enter f vs) w) (hn : fn.ntmps = n) (hrs : fn.results.toList = rs)
   {args : List V} {bx : Boxes} {Kc : V → Boxes → Prop} (h : FinB bx → pw P pc (fun e st => (e = .normal ∨ e = .ret) ∧ Ret P rs Kc st) (initSt n args bx)) : AbsCall P f args bx Kc := by
 obtain ⟨c, h1, h2⟩ := hb
 subst hn hrs
 exact absCall_of_says hf h1 hent fun M n β a w hr => pw_sound hm pc c M _ _ (.inl rfl) h2 (h hr.ok.finB) n β a w hr
end
end Go.Pl
