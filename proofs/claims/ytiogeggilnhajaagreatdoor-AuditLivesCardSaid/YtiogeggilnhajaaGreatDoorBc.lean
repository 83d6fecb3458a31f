/- Texts of the proof, put together: PlFs, PlRb, PlRc, PlT, PlY, PlZ. -/
import Derived.Test.YtiogeggilnhajaaGreatDoorBb
set_option linter.unusedSimpArgs false
set_option linter.unusedVariables false
namespace Go.Pl
open Go
def rE (o : Oper) : Bool:=match o.guard,o.op with
 | none,.alloc _=>true
 | none,.box _ _=>true
 | none,.buildSlice _ _ _=>true
 | none,.makeSlice _ _ _=>true
 | none,.makeMap _ none=>true
 | _,_=>false
def LO (o : Oper) : Bool:=match o.guard,o.op with
 | none,.alloc _=>true
 | none,.box _ _=>true
 | _,_=>false
def A1 (o : Oper) : Bool:=match o.guard,o.op with
 | none,.call { callee:=.builtin .append,.. }=>true
 | _,_=>false
def WW (o : Oper) : Bool:=match o.guard,o.op with
 | none,.load _ _=>true
 | _,_=>false
def Ru (o : Oper) : Bool:=match o.guard,o.op with
 | none,.call { callee:=.value _,.. }=>true
 | _,_=>false
def WX (o : Oper) : Bool:=match o.guard,o.op with
 | none,.build _ _=>true
 | _,_=>false
def mg (ops : Array Oper) (i j : Oper) : Bool:=i.apart ops j && (((rE i || A1 i) && WW j) || (WW i && rE j) || (Ru i && LO j) || ((rE i || A1 i || WX i) && rE j))
section
variable {P : Program} {ops : Array Oper} {o : Oper} {st : St}
theorem D2 {bx bx' : aa} {t : TypeId} {a : V} (hb : ∀ b,bx b ≠ none -> bx' b = bx b) (hc : (dH P bx t a).1) : dH P bx' t a = dH P bx t a:=by
 unfold dH at hc ⊢
 split
 ·rfl
 ·rename_i b sz i o ha
  simp only [ha] at hc
  cases hx : bx b with
  | none=>simp only [hx] at hc; exact hc.elim
  | some x=>rw [hb b (by rw [hx]; simp),hx]
 ·rfl
theorem D3 {bx bxo : aa} {x : Option bI} {t : TypeId} {a : V} (hf : bj bxo) (hs : ∀ b,bxo b ≠ none -> bx b = bxo b) (hc : ∀ b,bxo b = none -> (dH P (aA bxo b x) t a).1) :
 (dH P bx t a).1 /\ ∀ b,bxo b = none -> dH P (aA bxo b x) t a = dH P bx t a:=by
 obtain ⟨n,hn⟩:=hf
 have key : ∀ b0 : Nat,∃ b,bxo b = none /\ b ≠ b0:=fun b0=>⟨max n (b0 + 1),hn _ (Nat.le_max_left _ _),by have:=Nat.le_max_right n (b0 + 1); omega⟩
 unfold dH at hc ⊢
 split
 ·rename_i e o ha
  obtain ⟨b,h1,_⟩:=key 0
  have:=hc b h1
  simp only [ha] at this
  exact ⟨this,fun _ _=>rfl⟩
 ·rename_i b0 sz i o ha
  obtain ⟨b,h1,h2⟩:=key b0
  have h3:=hc b h1
  simp only [ha] at h3
  rw [ae _ _ (Ne.symm h2)] at h3
  have h4 : bxo b0 ≠ none:=fun e=>by rw [e] at h3; exact h3.elim
  rw [hs b0 h4]
  refine ⟨h3,fun b' aQ=>?_⟩
  have : b0 ≠ b':=fun e=>h4 (by rw [e]; exact aQ)
  simp only [ae _ _ this]
 ·rename_i h1 h2
  obtain ⟨b,h3,_⟩:=key 0
  have:=hc b h3
  split at this
  ·rename_i e o ha; exact absurd ha (h1 e o)
  ·rename_i b0 sz i o ha; exact absurd ha (h2 b0 sz i o)
  ·exact this.elim
theorem px (h : WW o = true) {K : St -> Prop} : ∃ t a,o.op = .load t a /\ ∀ st : St,bE P true ops o K st ↔ (dH P st.bx t (gv P st a)).1 /\ aJ st o.dst /\ K (st.put o.dst (dH P st.bx t (gv P st a)).2):=by
 obtain ⟨dst,op,type,pos,after,guard⟩:=o
 unfold WW at h
 split at h
 ·rename_i t a hg cm
  dsimp only at hg cm
  subst hg cm
  refine ⟨t,a,rfl,fun st=>?_⟩
  show aH P true _ K st ↔ _
  simp only [aH,bU,if_true,ev]
 ·cases h
theorem qe (h : rE o = true) {K : St -> Prop} (hh : bE P true ops o K st) : ∃ (xf : bI) (vf : Nat -> V),bj st.bx /\ (LO o = true -> ¬ xf.empty) /\ (∀ b,st.bx b = none -> K (st.at (aA st.bx b (some xf)) o.dst (vf b))) /\
 ∀ (st2 : St) (K2 : St -> Prop),(∀ t,t ∈ o.looksAt ops -> st2.sl t = st.sl t) -> st2.n = st.n -> bj st2.bx -> (∀ b,st2.bx b = none -> K2 (st2.at (aA st2.bx b (some xf)) o.dst (vf b))) -> bE P true ops o K2 st2:=by
 obtain ⟨dst,op,type,pos,after,guard⟩:=o
 have iu : ∀ st2 : St,(∀ t,t ∈ Oper.looksAt ops ⟨dst,op,type,pos,after,guard⟩ -> st2.sl t = st.sl t) -> st2.n = st.n -> cK ops ⟨dst,op,type,pos,after,guard⟩ st { st2 with bx:=st.bx }:=fun st2 h1 h2=>⟨h1,rfl,h2⟩
 have yj : ∀ (st2 : St) x,({ st2 with bx:=st.bx } : St).get x = st2.get x:=fun st2 x=>by cases x <;> rfl
 unfold rE at h
 split at h
 ·rename_i e hg cm
  dsimp only at hg cm
  subst hg cm
  change aH P true _ K st at hh
  simp only [aH,bU,Bool.false_eq_true,if_false] at hh
  cases hz : aT P e with
  | none=>rw [hz] at hh; exact hh.elim
  | some z =>
    rw [hz] at hh
    obtain ⟨h1,h2,h3,h4⟩:=hh
    refine ⟨.row e (aE P e) [ofValue z],fun b=>.ptr b (aE P e) 0 0,h3,fun _ h=>by simp [bI.empty] at h,h4,fun st2 K2 k1 k2 k3 k4=>?_⟩
    show aH P true _ K2 st2
    simp only [aH,bU,Bool.false_eq_true,if_false,hz]
    exact ⟨h1,((iu st2 k1 k2).dst _).2 h2,k3,k4⟩
 ·rename_i e x hg cm
  dsimp only at hg cm
  subst hg cm
  change aH P true _ K st at hh
  simp only [aH,bU,Bool.false_eq_true,if_false] at hh
  obtain ⟨h1,h2,h3,h4⟩:=hh
  refine ⟨.row e (aE P e) [st.get x],fun b=>.ptr b (aE P e) 0 0,h3,fun _ h=>by simp [bI.empty] at h,h4,fun st2 K2 k1 k2 k3 k4=>?_⟩
  show aH P true _ K2 st2
  simp only [aH,bU,Bool.false_eq_true,if_false]
  have e1 : st2.get x = st.get x:=by rw [<- yj st2]; exact (iu st2 k1 k2).get x (by simp [Op.operands])
  rw [e1]
  exact ⟨h1,((iu st2 k1 k2).dst _).2 h2,k3,k4⟩
 ·rename_i t len parts hg cm
  dsimp only at hg cm
  subst hg cm
  change aH P true _ K st at hh
  simp only [aH,bU,Bool.false_eq_true,if_false] at hh
  split at hh
  ·rename_i e hk
   cases hz : aT P e with
   | none=>rw [hz] at hh; exact hh.elim
   | some z =>
     rw [hz] at hh
     obtain ⟨h1,h2,h3,h4,h5,h6,h7⟩:=hh
     refine ⟨.row e (aE P e) (dM st (List.replicate len (ofValue z)) parts.toList),fun b=>.own b (aE P e) 0 len,h6,(fun h=>(by cases h)),h7,fun st2 K2 k1 k2 k3 k4=>?_⟩
     show aH P true _ K2 st2
     simp only [aH,bU,Bool.false_eq_true,if_false,hk,hz]
     have e1 : ∀ p,p ∈ parts.toList -> st2.get p.2 = st.get p.2:=fun p hp=>by
      rw [<- yj st2]; exact (iu st2 k1 k2).get p.2 (by simp only [Op.operands]; simp; exact ⟨p.1,by simpa using hp⟩)
     have e2 : ∀ (l : List (Nat × Operand)) (es : List V),(∀ p,p ∈ l -> st2.get p.2 = st.get p.2) -> dM st2 es l = dM st es l:=by
      intro l
      induction l with
      | nil=>intro es _; rfl
      | cons p l ih =>
        intro es hp
        obtain ⟨i,x⟩:=p
        unfold dM
        rw [hp (i,x) (by simp)]
        exact ih _ fun p qA=>hp p (by simp [qA])
     rw [e2 _ _ e1]
     exact ⟨h1,h2,h3,fun p hp=>by rw [e1 p hp]; exact h4 p hp,((iu st2 k1 k2).dst _).2 h5,k3,k4⟩
  ·exact hh.elim
 ·rename_i t l c hg cm
  dsimp only at hg cm
  subst hg cm
  change aH P true _ K st at hh
  simp only [aH,bU,Bool.false_eq_true,if_false] at hh
  split at hh
  ·rename_i e kl l' kc c' hk Im gP
   cases hz : aT P e with
   | none=>rw [hz] at hh; exact hh.elim
   | some z =>
     rw [hz] at hh
     obtain ⟨h1,h2,h3,h4,h5,h6,h7,h8,h9,r9,H9⟩:=hh
     refine ⟨.row e (aE P e) (List.replicate l'.toNat (ofValue z)),fun b=>.own b (aE P e) 0 l'.toNat,r9,(fun h=>(by cases h)),H9,fun st2 K2 k1 k2 k3 k4=>?_⟩
     show aH P true _ K2 st2
     have e1 : st2.get l = st.get l:=by rw [<- yj st2]; exact (iu st2 k1 k2).get l (by simp [Op.operands])
     have e2 : st2.get c = st.get c:=by rw [<- yj st2]; exact (iu st2 k1 k2).get c (by simp [Op.operands])
     simp only [aH,bU,Bool.false_eq_true,if_false,e1,e2,hk,Im,gP,hz]
     exact ⟨h1,h2,h3,h4,h5,h6,h7,h8,((iu st2 k1 k2).dst _).2 h9,k3,k4⟩
  ·exact hh.elim
 ·rename_i t hg cm
  dsimp only at hg cm
  subst hg cm
  change aH P true _ K st at hh
  simp only [aH,bU,Bool.false_eq_true,if_false] at hh
  obtain ⟨h1,h2,h3⟩:=hh
  refine ⟨.map [],fun b=>.mp b,h2,(fun h=>(by cases h)),h3,fun st2 K2 k1 k2 k3 k4=>?_⟩
  show aH P true _ K2 st2
  simp only [aH,bU,Bool.false_eq_true,if_false]
  exact ⟨((iu st2 k1 k2).dst _).2 h1,k3,k4⟩
 ·cases h
theorem A2 (h : (rE o || A1 o) = true) {K : St -> Prop} (hh : bE P true ops o K st) : ∃ (bxo : aa) (xf : Option bI) (vf : Nat -> V),bj bxo /\ (∀ b,bxo b ≠ none -> st.bx b = bxo b) /\ (∀ b,bxo b = none -> K (st.at (aA bxo b xf) o.dst (vf b))) /\
 ∀ (st2 : St) (K2 : St -> Prop),cK ops o st st2 -> (∀ b,bxo b = none -> K2 (st2.at (aA bxo b xf) o.dst (vf b))) -> bE P true ops o K2 st2:=by
 rcases Bool.or_eq_true_iff.1 h with h | h
 ·obtain ⟨xf,vf,h1,_,h3,h4⟩:=qe h hh
  exact ⟨st.bx,some xf,vf,h1,fun _ _=>rfl,h3,fun st2 K2 ha k=>h4 st2 K2 ha.sl ha.n (by rw [ha.bx]; exact h1) (by rw [ha.bx]; exact k)⟩
 ·obtain ⟨dst,op,type,pos,after,guard⟩:=o
  unfold A1 at h
  split at h
  ·rename_i args tys hg cm
   dsimp only at hg cm
   subst hg cm
   change aH P true _ K st at hh
   simp only [aH,bU,Bool.false_eq_true,if_false] at hh
   split at hh
   ·rename_i s x t t' jA ha ht
    obtain ⟨HA,hh⟩:=hh
    unfold c8 at hh
    split at hh
    ·rename_i e hk
     split at hh
     ·rename_i news z jO hz
      obtain ⟨h1,h2,h3,h4,h5⟩:=hh
      have Rv : ∀ st2 : St,cK ops (⟨dst,.call { callee:=.builtin .append,args:=args,argTypes:=tys },type,pos,after,none⟩ : Oper) st st2 -> st2.get s = st.get s /\ bP st2 (aE P e) (st2.get x) = bP st (aE P e) (st.get x):=fun st2 iu=>by
       have g1 : st2.get s = st.get s:=iu.get s (by
        simp only [Op.operands,Call.operands]
        have : s ∈ args.toList:=by rw [ha]; simp
        simpa using this)
       have g2 : st2.get x = st.get x:=iu.get x (by
        simp only [Op.operands,Call.operands]
        have : x ∈ args.toList:=by rw [ha]; simp
        simpa using this)
       refine ⟨g1,?_⟩
       rw [g2]
       unfold bP
       rw [iu.bx]
      have build : ∀ (st2 : St) (K2 : St -> Prop),cK ops (⟨dst,.call { callee:=.builtin .append,args:=args,argTypes:=tys },type,pos,after,none⟩ : Oper) st st2 -> c8 P st2 dst t (st2.get s) (st2.get x) K2 -> bE P true ops (⟨dst,.call { callee:=.builtin .append,args:=args,argTypes:=tys },type,pos,after,none⟩ : Oper) K2 st2:=fun st2 K2 iu rP=>by
       show aH P true _ K2 st2
       simp only [aH,bU,Bool.false_eq_true,if_false,ha,ht]
       exact ⟨HA,rP⟩
      split at h5
      ·rename_i hs
       obtain ⟨h6,h7,h8⟩:=h5
       refine ⟨st.bx,some (.row e (aE P e) news),fun b=>.own b (aE P e) 0 news.length,h4,fun _ _=>rfl,h8,fun st2 K2 iu k=>build st2 K2 iu ?_⟩
       obtain ⟨g1,g2⟩:=Rv st2 iu
       unfold c8
       simp only [hk,g2,jO,hz,g1,hs]
       exact ⟨h1,h2,(iu.dst _).2 h3,by rw [iu.bx]; exact h4,h6,h7,fun b' aQ=>by
        have:=k b' (by rw [<- iu.bx]; exact aQ)
        simpa [St.at,St.box,iu.bx] using this⟩
      ·rename_i b0 sz n hs
       split at h5
       ·rename_i e' eT es dD
        obtain ⟨c1,c2,c3,c4,c5,c6,h8⟩:=h5
        refine ⟨aA st.bx b0 none,some (.row e (aE P e) (es.take n ++ news)),fun b=>.own b (aE P e) 0 (n + news.length),(ar _ _ _).2 h4,fun b hb=>?_,h8,fun st2 K2 iu k=>build st2 K2 iu ?_⟩
        ·have : b ≠ b0:=fun e=>hb (by rw [e,af])
         rw [ae _ _ this]
        ·obtain ⟨g1,g2⟩:=Rv st2 iu
         unfold c8
         simp only [hk,g2,jO,hz,g1,hs,iu.bx,dD]
         refine ⟨h1,h2,(iu.dst _).2 h3,h4,c1,c2,c3,c4,c5,c6,fun b' aQ=>?_⟩
         have:=k b' aQ
         simpa [St.at,St.box,iu.bx] using this
       ·exact h5.elim
      ·exact h5.elim
     ·exact hh.elim
    ·exact hh.elim
   all_goals first | exact hh.elim | (rename_i nK _ _; cases nK; done) | (rename_i nK; cases nK; done) | (exfalso; simp_all; done)
  ·cases h
theorem Kw {st : St} {bx : aa} {d : Option Tmp} {v : V} {x : Operand} (h : ∀ t,x = .tmp t -> d ≠ some t) : gv P (st.at bx d v) x = gv P st x:=by
 have hg : (st.at bx d v).get x = st.get x:=by
  cases x with
  | tmp t=>exact lW (h t rfl)
  | _=>rfl
 cases x <;> first | rfl | exact hg
theorem kY (h : rE o = true) {K : St -> Prop} (hh : bE P true ops o K st) : ∃ (xf : bI) (vf : Nat -> V),∀ (st2 : St) (K2 : St -> Prop),(∀ t,t ∈ o.looksAt ops -> st2.sl t = st.sl t) -> st2.n = st.n ->
 (bE P true ops o K2 st2 ↔ bj st2.bx /\ ∀ b,st2.bx b = none -> K2 (st2.at (aA st2.bx b (some xf)) o.dst (vf b))):=by
 obtain ⟨dst,op,type,pos,after,guard⟩:=o
 have iu : ∀ st2 : St,(∀ t,t ∈ Oper.looksAt ops ⟨dst,op,type,pos,after,guard⟩ -> st2.sl t = st.sl t) -> st2.n = st.n -> cK ops ⟨dst,op,type,pos,after,guard⟩ st { st2 with bx:=st.bx }:=fun st2 h1 h2=>⟨h1,rfl,h2⟩
 have yj : ∀ (st2 : St) x,({ st2 with bx:=st.bx } : St).get x = st2.get x:=fun st2 x=>by cases x <;> rfl
 unfold rE at h
 split at h
 ·rename_i e hg cm
  dsimp only at hg cm
  subst hg cm
  change aH P true _ K st at hh
  simp only [aH,bU,Bool.false_eq_true,if_false] at hh
  cases hz : aT P e with
  | none=>rw [hz] at hh; exact hh.elim
  | some z =>
    rw [hz] at hh
    obtain ⟨h1,h2,h3,h4⟩:=hh
    refine ⟨.row e (aE P e) [ofValue z],fun b=>.ptr b (aE P e) 0 0,fun st2 K2 k1 k2=>?_⟩
    show aH P true _ K2 st2 ↔ _
    simp only [aH,bU,Bool.false_eq_true,if_false,hz]
    exact ⟨fun q=>⟨q.2.2.1,q.2.2.2⟩,fun q=>⟨h1,((iu st2 k1 k2).dst _).2 h2,q.1,q.2⟩⟩
 ·rename_i e x hg cm
  dsimp only at hg cm
  subst hg cm
  change aH P true _ K st at hh
  simp only [aH,bU,Bool.false_eq_true,if_false] at hh
  obtain ⟨h1,h2,h3,h4⟩:=hh
  refine ⟨.row e (aE P e) [st.get x],fun b=>.ptr b (aE P e) 0 0,fun st2 K2 k1 k2=>?_⟩
  show aH P true _ K2 st2 ↔ _
  simp only [aH,bU,Bool.false_eq_true,if_false]
  have e1 : st2.get x = st.get x:=by rw [<- yj st2]; exact (iu st2 k1 k2).get x (by simp [Op.operands])
  rw [e1]
  exact ⟨fun q=>⟨q.2.2.1,q.2.2.2⟩,fun q=>⟨h1,((iu st2 k1 k2).dst _).2 h2,q.1,q.2⟩⟩
 ·rename_i t len parts hg cm
  dsimp only at hg cm
  subst hg cm
  change aH P true _ K st at hh
  simp only [aH,bU,Bool.false_eq_true,if_false] at hh
  split at hh
  ·rename_i e hk
   cases hz : aT P e with
   | none=>rw [hz] at hh; exact hh.elim
   | some z =>
     rw [hz] at hh
     obtain ⟨h1,h2,h3,h4,h5,h6,h7⟩:=hh
     refine ⟨.row e (aE P e) (dM st (List.replicate len (ofValue z)) parts.toList),fun b=>.own b (aE P e) 0 len,fun st2 K2 k1 k2=>?_⟩
     show aH P true _ K2 st2 ↔ _
     simp only [aH,bU,Bool.false_eq_true,if_false,hk,hz]
     have e1 : ∀ p,p ∈ parts.toList -> st2.get p.2 = st.get p.2:=fun p hp=>by
      rw [<- yj st2]; exact (iu st2 k1 k2).get p.2 (by simp only [Op.operands]; simp; exact ⟨p.1,by simpa using hp⟩)
     have e2 : ∀ (l : List (Nat × Operand)) (es : List V),(∀ p,p ∈ l -> st2.get p.2 = st.get p.2) -> dM st2 es l = dM st es l:=by
      intro l
      induction l with
      | nil=>intro es _; rfl
      | cons p l ih =>
        intro es hp
        obtain ⟨i,x⟩:=p
        unfold dM
        rw [hp (i,x) (by simp)]
        exact ih _ fun p qA=>hp p (by simp [qA])
     rw [e2 _ _ e1]
     exact ⟨fun q=>⟨q.2.2.2.2.2.1,q.2.2.2.2.2.2⟩,fun q=>⟨h1,h2,h3,fun p hp=>by rw [e1 p hp]; exact h4 p hp,((iu st2 k1 k2).dst _).2 h5,q.1,q.2⟩⟩
  ·exact hh.elim
 ·rename_i t l c hg cm
  dsimp only at hg cm
  subst hg cm
  change aH P true _ K st at hh
  simp only [aH,bU,Bool.false_eq_true,if_false] at hh
  split at hh
  ·rename_i e kl l' kc c' hk Im gP
   cases hz : aT P e with
   | none=>rw [hz] at hh; exact hh.elim
   | some z =>
     rw [hz] at hh
     obtain ⟨h1,h2,h3,h4,h5,h6,h7,h8,h9,r9,H9⟩:=hh
     refine ⟨.row e (aE P e) (List.replicate l'.toNat (ofValue z)),fun b=>.own b (aE P e) 0 l'.toNat,fun st2 K2 k1 k2=>?_⟩
     show aH P true _ K2 st2 ↔ _
     have e1 : st2.get l = st.get l:=by rw [<- yj st2]; exact (iu st2 k1 k2).get l (by simp [Op.operands])
     have e2 : st2.get c = st.get c:=by rw [<- yj st2]; exact (iu st2 k1 k2).get c (by simp [Op.operands])
     simp only [aH,bU,Bool.false_eq_true,if_false,e1,e2,hk,Im,gP,hz]
     exact ⟨fun q=>⟨q.2.2.2.2.2.2.2.2.2.1,q.2.2.2.2.2.2.2.2.2.2⟩,fun q=>⟨h1,h2,h3,h4,h5,h6,h7,h8,((iu st2 k1 k2).dst _).2 h9,q.1,q.2⟩⟩
  ·exact hh.elim
 ·rename_i t hg cm
  dsimp only at hg cm
  subst hg cm
  change aH P true _ K st at hh
  simp only [aH,bU,Bool.false_eq_true,if_false] at hh
  obtain ⟨h1,h2,h3⟩:=hh
  refine ⟨.map [],fun b=>.mp b,fun st2 K2 k1 k2=>?_⟩
  show aH P true _ K2 st2 ↔ _
  simp only [aH,bU,Bool.false_eq_true,if_false]
  exact ⟨fun q=>⟨q.2.1,q.2.2⟩,fun q=>⟨((iu st2 k1 k2).dst _).2 h1,q.1,q.2⟩⟩
 ·cases h
def o8 (bx : aa) : Option Nat -> aa
 | none=>bx
 | some d=>aA bx d none
theorem A3 (h : A1 o = true) {K : St -> Prop} (hh : bE P true ops o K st) : ∃ (D : Option Nat) (xf : bI) (vf : Nat -> V),(∀ d,D = some d -> st.bx d ≠ none) /\ bj st.bx /\ (∀ b,o8 st.bx D b = none -> K (st.at (aA (o8 st.bx D) b (some xf)) o.dst (vf b))) /\
 ∀ (st2 : St) (K2 : St -> Prop),(∀ t,t ∈ o.looksAt ops -> st2.sl t = st.sl t) -> st2.n = st.n -> bj st2.bx -> (∀ c,st.bx c ≠ none -> st2.bx c = st.bx c) -> (∀ b,o8 st2.bx D b = none -> K2 (st2.at (aA (o8 st2.bx D) b (some xf)) o.dst (vf b))) -> bE P true ops o K2 st2:=by
 obtain ⟨dst,op,type,pos,after,guard⟩:=o
 have iu : ∀ st2 : St,(∀ t,t ∈ Oper.looksAt ops ⟨dst,op,type,pos,after,guard⟩ -> st2.sl t = st.sl t) -> st2.n = st.n -> cK ops ⟨dst,op,type,pos,after,guard⟩ st { st2 with bx:=st.bx }:=fun st2 h1 h2=>⟨h1,rfl,h2⟩
 have yj : ∀ (st2 : St) x,({ st2 with bx:=st.bx } : St).get x = st2.get x:=fun st2 x=>by cases x <;> rfl
 unfold A1 at h
 split at h
 ·rename_i args tys hg cm
  dsimp only at hg cm
  subst hg cm
  change aH P true _ K st at hh
  simp only [aH,bU,Bool.false_eq_true,if_false] at hh
  split at hh
  ·rename_i s x t t' jA ha ht
   obtain ⟨HA,hh⟩:=hh
   unfold c8 at hh
   split at hh
   ·rename_i e hk
    split at hh
    ·rename_i news z jO hz
     obtain ⟨h1,h2,h3,h4,h5⟩:=hh
     have Rv : ∀ st2 : St,(∀ t,t ∈ Oper.looksAt ops (⟨dst,.call { callee:=.builtin .append,args:=args,argTypes:=tys },type,pos,after,none⟩ : Oper) -> st2.sl t = st.sl t) -> st2.n = st.n -> (∀ c,st.bx c ≠ none -> st2.bx c = st.bx c) -> st2.get s = st.get s /\ bP st2 (aE P e) (st2.get x) = some news:=fun st2 k1 k2 k3=>by
      have g1 : st2.get s = st.get s:=by
       rw [<- yj st2]
       exact (iu st2 k1 k2).get s (by
        simp only [Op.operands,Call.operands]
        have : s ∈ args.toList:=by rw [ha]; simp
        simpa using this)
      have g2 : st2.get x = st.get x:=by
       rw [<- yj st2]
       exact (iu st2 k1 k2).get x (by
        simp only [Op.operands,Call.operands]
        have : x ∈ args.toList:=by rw [ha]; simp
        simpa using this)
      refine ⟨g1,?_⟩
      rw [g2,<- jO]
      unfold bP at jO ⊢
      split
      ·rfl
      ·rfl
      ·rename_i b eT o' n hx
       rw [hx] at jO
       dsimp only at jO
       cases hb : st.bx b with
       | none=>rw [hb] at jO; cases jO
       | some y=>rw [k3 b (by rw [hb]; simp),hb]
      ·rfl
      ·rfl
     have build : ∀ (st2 : St) (K2 : St -> Prop),c8 P st2 dst t (st2.get s) (st2.get x) K2 -> bE P true ops (⟨dst,.call { callee:=.builtin .append,args:=args,argTypes:=tys },type,pos,after,none⟩ : Oper) K2 st2:=fun st2 K2 rP=>by
      show aH P true _ K2 st2
      simp only [aH,bU,Bool.false_eq_true,if_false,ha,ht]
      exact ⟨HA,rP⟩
     split at h5
     ·rename_i hs
      obtain ⟨h6,h7,h8⟩:=h5
      refine ⟨none,.row e (aE P e) news,fun b=>.own b (aE P e) 0 news.length,(fun d hd=>by cases hd),h4,h8,fun st2 K2 k1 k2 k3 k4 k=>build st2 K2 ?_⟩
      obtain ⟨g1,g2⟩:=Rv st2 k1 k2 k4
      unfold c8
      simp only [hk,g2,hz,g1,hs]
      exact ⟨h1,h2,((iu st2 k1 k2).dst _).2 h3,k3,h6,h7,k⟩
     ·rename_i b0 sz n hs
      split at h5
      ·rename_i e' eT es dD
       obtain ⟨c1,c2,c3,c4,c5,c6,h8⟩:=h5
       refine ⟨some b0,.row e (aE P e) (es.take n ++ news),fun b=>.own b (aE P e) 0 (n + news.length),(fun d hd=>by injection hd with hd; rw [<- hd,dD]; simp),h4,h8,fun st2 K2 k1 k2 k3 k4 k=>build st2 K2 ?_⟩
       obtain ⟨g1,g2⟩:=Rv st2 k1 k2 k4
       have c9 : st2.bx b0 = some (.row e' eT es):=by rw [k4 b0 (by rw [dD]; simp),dD]
       unfold c8
       simp only [hk,g2,hz,g1,hs,c9]
       exact ⟨h1,h2,((iu st2 k1 k2).dst _).2 h3,k3,c1,c2,c3,c4,c5,c6,k⟩
      ·exact h5.elim
     ·exact h5.elim
    ·exact hh.elim
   ·exact hh.elim
  all_goals first | exact hh.elim | (rename_i nK _ _; cases nK; done) | (rename_i nK; cases nK; done) | (exfalso; simp_all; done)
 ·cases h
theorem EU (h : WX o = true) : ∃ (c : St -> Prop) (v : St -> V),(∀ st st2 : St,(∀ t,t ∈ o.looksAt ops -> st2.sl t = st.sl t) -> st2.n = st.n -> c st = c st2 /\ v st = v st2) /\ ∀ (st : St) (K : St -> Prop),bE P true ops o K st ↔ c st /\ aJ st o.dst /\ K (st.put o.dst (v st)):=by
 obtain ⟨dst,op,type,pos,after,guard⟩:=o
 unfold WX at h
 split at h
 ·rename_i t parts hg cm
  dsimp only at hg cm
  subst hg cm
  refine ⟨fun st=>(km P t (aT P t) (parts.toList.map fun p=>(p.1,st.get p.2))).1,fun st=>(km P t (aT P t) (parts.toList.map fun p=>(p.1,st.get p.2))).2,fun st st2 k1 k2=>?_,fun st K=>?_⟩
  ·have iu : cK ops (⟨dst,.build t parts,type,pos,after,none⟩ : Oper) st { st2 with bx:=st.bx }:=⟨k1,rfl,k2⟩
   have yj : ∀ x,({ st2 with bx:=st.bx } : St).get x = st2.get x:=fun x=>by cases x <;> rfl
   have e1 : (parts.toList.map fun p=>(p.1,st2.get p.2)) = parts.toList.map fun p=>(p.1,st.get p.2):=by
    apply List.map_congr_left
    intro p hp
    have : st2.get p.2 = st.get p.2:=by
     rw [<- yj]; exact iu.get p.2 (by simp only [Op.operands]; simp; exact ⟨p.1,by simpa using hp⟩)
    rw [this]
   dsimp only
   rw [e1]
   exact ⟨rfl,rfl⟩
  ·show aH P true _ K st ↔ _
   simp only [aH,bU,if_true,ev]
 ·cases h
theorem Kx {bM bx2 bx3 : aa} {d1 d2 : Option Tmp} {v1 v2 : V} (h : ∀ d,d1 = some d -> d2 ≠ some d) : (st.at bM d1 v1).at bx2 d2 v2 = (st.at bx3 d2 v2).at bx2 d1 v1:=by
 cases d1 with
 | none=>cases d2 <;> rfl
 | some a =>
   cases d2 with
   | none=>rfl
   | some b =>
     have hab : a ≠ b:=fun e=>h a rfl (by rw [e])
     have e : aA (aA st.sl a v1) b v2 = aA (aA st.sl b v2) a v1:=by
      funext z
      simp only [aA]
      by_cases q1 : z = b <;> by_cases q2 : z = a <;> simp_all
     show (⟨st.n,aA (aA st.sl a v1) b v2,bx2⟩ : St) = ⟨st.n,aA (aA st.sl b v2) a v1,bx2⟩
     rw [e]
theorem py {bx : aa} {d : Option Tmp} {v : V} : (st.at bx d v).bx = bx:=by cases d <;> rfl
theorem pz {bx : aa} {d : Option Tmp} {v : V} : (st.at bx d v).n = st.n:=by cases d <;> rfl
theorem A4 {bx : aa} {d : Option Tmp} {v : V} {t : Nat} (h : d ≠ some t) : (st.at bx d v).sl t = st.sl t:=by
 cases d with
 | none=>rfl
 | some x=>exact ae _ _ (fun e=>h (by rw [e]))
theorem EV {i j : Oper} (rP : i.apart ops j = true) (hi : (rE i || A1 i || WX i) = true) (hj : rE j = true) {K : St -> Prop} (hh : bE P true ops i (bE P true ops j K) st) : bE P true ops j (bE P true ops i K) st:=by
 obtain ⟨h1,h2,h3⟩:=Oper.apart_spec rP
 have Dw : ∀ d,j.dst = some d -> i.dst ≠ some d:=fun d hd he=>h2 d he hd
 have Ii : ∀ {bx v t},t ∈ j.looksAt ops -> (st.at bx i.dst v).sl t = st.sl t:=fun {bx v t} ht=>A4 fun e=>h1 _ e ht
 have oQ : ∀ {bx v t},t ∈ i.looksAt ops -> (st.at bx j.dst v).sl t = st.sl t:=fun {bx v t} ht=>A4 fun e=>h3 _ e ht
 simp only [Bool.or_eq_true] at hi
 rcases hi with (hi | hi) | hi
 ·obtain ⟨xi,vi,ei⟩:=kY hi hh
  obtain ⟨f1,g1⟩:=(ei st _ (fun _ _=>rfl) rfl).1 hh
  obtain ⟨b0,dD⟩:=kE f1
  obtain ⟨xj,vj,ej⟩:=kY hj (g1 b0 dD)
  refine (ej st _ (fun t ht=>(Ii ht).symm) pz.symm).2 ⟨f1,fun b' aQ=>(ei _ _ (fun t ht=>oQ ht) pz).2 ⟨by rw [py]; exact (ar _ _ _).2 f1,fun b hb=>?_⟩⟩
  rw [py] at hb ⊢
  have eV : b ≠ b':=fun e=>by rw [e,af] at hb; cases hb
  rw [ae _ _ eV] at hb
  have q:=((ej (st.at (aA st.bx b (some xi)) i.dst (vi b)) _ (fun t ht=>(Ii ht).trans (Ii ht).symm) (pz.trans pz.symm)).1 (g1 b hb)).2 b' (by rw [py,ae _ _ eV.symm]; exact aQ)
  rw [py] at q
  rw [Kx (bx3:=aA st.bx b (some xi)) Dw]
  have e : aA (aA st.bx b' (some xj)) b (some xi) = aA (aA st.bx b (some xi)) b' (some xj):=by
   funext z
   simp only [aA]
   by_cases q1 : z = b <;> by_cases q2 : z = b' <;> simp_all
  rw [e]
  exact q
 ·obtain ⟨D,xi,vi,hD,f1,g1,bi⟩:=A3 hi hh
  have fD : bj (o8 st.bx D):=by
   cases D with
   | none=>exact f1
   | some d=>exact (ar _ _ _).2 f1
  obtain ⟨b0,dD⟩:=kE fD
  obtain ⟨xj,vj,ej⟩:=kY hj (g1 b0 dD)
  refine (ej st _ (fun t ht=>(Ii ht).symm) pz.symm).2 ⟨f1,fun b' aQ=>bi _ _ (fun t ht=>oQ ht) pz (by rw [py]; exact (ar _ _ _).2 f1) (fun c hc=>by rw [py,ae _ _ fun e=>hc (by rw [e]; exact aQ)]) fun b hb=>?_⟩
  rw [py] at hb ⊢
  have hDb : ∀ d,D = some d -> d ≠ b':=fun d hd e=>hD d hd (by rw [e]; exact aQ)
  have hc : ∀ z,o8 (aA st.bx b' (some xj)) D z = aA (o8 st.bx D) b' (some xj) z:=fun z=>by
   cases D with
   | none=>rfl
   | some d =>
     have:=hDb d rfl
     simp only [o8,aA]
     by_cases q1 : z = d <;> by_cases q2 : z = b' <;> simp_all
  rw [hc] at hb
  have eV : b ≠ b':=fun e=>by rw [e,af] at hb; cases hb
  rw [ae _ _ eV] at hb
  have iG : o8 st.bx D b' = none:=by
   cases D with
   | none=>exact aQ
   | some d =>
     show aA st.bx d none b' = none
     rw [ae _ _ (hDb d rfl).symm]; exact aQ
  have q:=((ej (st.at (aA (o8 st.bx D) b (some xi)) i.dst (vi b)) _ (fun t ht=>(Ii ht).trans (Ii ht).symm) (pz.trans pz.symm)).1 (g1 b hb)).2 b' (by rw [py,ae _ _ eV.symm]; exact iG)
  rw [py] at q
  rw [Kx (bx3:=aA (o8 st.bx D) b (some xi)) Dw]
  have e : aA (o8 (aA st.bx b' (some xj)) D) b (some xi) = aA (aA (o8 st.bx D) b (some xi)) b' (some xj):=by
   rw [show o8 (aA st.bx b' (some xj)) D = aA (o8 st.bx D) b' (some xj) from funext hc]
   funext z
   simp only [aA]
   by_cases q1 : z = b <;> by_cases q2 : z = b' <;> simp_all
  rw [e]
  exact q
 ·obtain ⟨c,v,hc,he⟩:=EU (P:=P) (ops:=ops) hi
  obtain ⟨q1,q2,q3⟩:=(he st _).1 hh
  obtain ⟨xj,vj,ej⟩:=kY hj q3
  have kW : ∀ {v t},t ∈ j.looksAt ops -> (st.put i.dst v).sl t = st.sl t:=fun {v t} ht=>A4 (bx:=st.bx) fun e=>h1 _ e ht
  have Ky : ∀ {v},(st.put i.dst v).bx = st.bx:=by intro v; cases i.dst <;> rfl
  have hpn : ∀ {v},(st.put i.dst v).n = st.n:=by intro v; cases i.dst <;> rfl
  obtain ⟨f1,g1⟩:=(ej _ _ (fun _ _=>rfl) rfl).1 q3
  rw [Ky] at f1 g1
  refine (ej st _ (fun t ht=>(kW ht).symm) hpn.symm).2 ⟨f1,fun b hb=>(he _ _).2 ?_⟩
  obtain ⟨e1,e2⟩:=hc st (st.at (aA st.bx b (some xj)) j.dst (vj b)) (fun t ht=>oQ ht) pz
  rw [<- e1,<- e2]
  refine ⟨q1,kp.2 q2,?_⟩
  have:=g1 b hb
  rw [gY st _ _ _ h2] at this
  exact this
theorem D4 {i j : Oper} (h : mg ops i j = true) {K : St -> Prop} (hh : bE P true ops i (bE P true ops j K) st) : bE P true ops j (bE P true ops i K) st:=by
 simp only [mg,Bool.and_eq_true,Bool.or_eq_true] at h
 obtain ⟨rP,LI⟩:=h
 obtain ⟨h1,h2,h3⟩:=Oper.apart_spec rP
 have Dw : ∀ d,j.dst = some d -> i.dst ≠ some d:=fun d hd he=>h2 d he hd
 rcases LI with ((⟨hg,hr⟩ | ⟨hr,hn⟩) | ⟨hc,hn⟩) | ⟨hg,hn⟩
 ·obtain ⟨bxo,xf,vf,k1,k2,k3,k4⟩:=A2 (by simpa using hg) hh
  obtain ⟨t,a,cm,hl⟩:=px (P:=P) (ops:=ops) (o:=j) hr (K:=K)
  obtain ⟨t2,a2,EW,iJ⟩:=px (P:=P) (ops:=ops) (o:=j) hr (K:=bE P true ops i K)
  rw [cm] at EW
  injection EW with e1 e2
  subst e1 e2
  have ha : ∀ bx v,gv P (st.at bx i.dst v) a = gv P st a:=fun bx v=>Kw fun x hx e=>h1 x e (by
   subst hx
   simp [Oper.looksAt,cm,Op.operands])
  have hb:=fun b hb=>(hl _).1 (k3 b hb)
  have wG : ∀ b,(st.at (aA bxo b xf) i.dst (vf b)).bx = aA bxo b xf:=fun b=>by cases i.dst <;> rfl
  simp only [ha,wG] at hb
  obtain ⟨q1,q2⟩:=D3 (P:=P) (x:=xf) (t:=t) (a:=gv P st a) k1 k2 (fun b aQ=>(hb b aQ).1)
  refine (iJ st).2 ⟨q1,?_,?_⟩
  ·obtain ⟨b,aQ⟩:=kE k1
   exact kp.1 (hb b aQ).2.1
  ·refine k4 _ _ (j0 h3) fun b aQ=>?_
   have:=(hb b aQ).2.2
   rw [q2 b aQ] at this
   rw [gY st _ _ _ Dw]
   exact this
 ·obtain ⟨t,a,cm,hl⟩:=px (P:=P) (ops:=ops) (o:=i) hr (K:=K)
  obtain ⟨t2,a2,EW,iJ⟩:=px (P:=P) (ops:=ops) (o:=i) hr (K:=bE P true ops j K)
  rw [cm] at EW
  injection EW with e1 e2
  subst e1 e2
  obtain ⟨q1,q2,q3⟩:=(iJ st).1 hh
  obtain ⟨xf,vf,k1,_,k3,k4⟩:=qe hn q3
  have oP : (st.put i.dst (dH P st.bx t (gv P st a)).2).bx = st.bx:=by cases i.dst <;> rfl
  rw [oP] at k1 k3
  refine k4 st _ (fun x hx=>(iy (ops:=ops) (o:=j) (st:=st) (d:=i.dst) (v:=(dH P st.bx t (gv P st a)).2) (fun d hd=>h1 d hd)).sl x hx) (by cases i.dst <;> rfl) k1 fun b hb=>?_
  have ha : gv P (st.at (aA st.bx b (some xf)) j.dst (vf b)) a = gv P st a:=Kw fun x hx e=>h3 x e (by
   subst hx
   simp [Oper.looksAt,cm,Op.operands])
  have hk:=D2 (P:=P) (bx':=aA st.bx b (some xf)) (t:=t) (a:=gv P st a) (fun c hc=>ae _ _ fun e=>hc (by rw [e]; exact hb)) q1
  have mh : (st.at (aA st.bx b (some xf)) j.dst (vf b)).bx = aA st.bx b (some xf):=by cases j.dst <;> rfl
  refine (hl _).2 ?_
  rw [ha,mh,hk]
  refine ⟨q1,kp.2 q2,?_⟩
  have:=k3 b hb
  rw [gY st _ _ _ h2] at this
  exact this
 ·obtain ⟨dst,op,type,pos,after,guard⟩:=i
  unfold Ru at hc
  split at hc
  ·rename_i f args tys hg cm
   dsimp only at hg cm
   subst hg cm
   have wH : ∀ (K : St -> Prop) (s : St),bE P true ops (⟨dst,.call { callee:=.value f,args:=args,argTypes:=tys },type,pos,after,none⟩ : Oper) K s ↔ ∃ g vs,callee s f args.toList = some (g,vs) /\ eN s f args.toList /\ aJ s dst /\ ∃ r,ay P g vs s.bx r /\ K (s.put dst r):=fun K s=>by
    show aH P true _ K s ↔ _
    simp only [aH,bU,Bool.false_eq_true,if_false]
    constructor
    ·intro hx
     cases jA : callee s f args.toList with
     | none=>rw [jA] at hx; exact hx.elim
     | some gv =>
       obtain ⟨g,vs⟩:=gv
       rw [jA] at hx
       obtain ⟨x1,x2,x3⟩:=hx
       exact ⟨g,vs,rfl,x1,x2,by simpa using x3⟩
    ·rintro ⟨g,vs,jA,x1,x2,x3⟩
     rw [jA]
     exact ⟨x1,x2,by simpa using x3⟩
   obtain ⟨g,vs,jA,c1,c2,r,c3,c4⟩:=(wH _ _).1 hh
   obtain ⟨xf,vf,k1,k0,k3,k4⟩:=qe (by
    unfold LO at hn
    unfold rE
    split at hn <;> simp_all) c4
   have oP : (st.put dst r).bx = st.bx:=by cases dst <;> rfl
   rw [oP] at k1 k3
   refine k4 st _ (fun x hx=>(iy (ops:=ops) (o:=j) (st:=st) (d:=dst) (v:=r) (fun d hd=>h1 d hd)).sl x hx) (by cases dst <;> rfl) k1 fun b hb=>?_
   have eX : ∀ x,x = f \/ x ∈ args.toList -> (st.at (aA st.bx b (some xf)) j.dst (vf b)).get x = st.get x:=fun x hx=>by
    cases x with
    | tmp t =>
      refine lW fun e=>h3 t e ?_
      simp only [Oper.looksAt,Op.operands,Call.operands]
      rcases hx with hx | hx
      ·subst hx; simp
      ·simp only [List.mem_append,List.mem_filterMap]
       left
       exact ⟨.tmp t,by simpa using Or.inr hx,rfl⟩
    | _=>rfl
   have lU : callee (st.at (aA st.bx b (some xf)) j.dst (vf b)) f args.toList = some (g,vs):=by
    rw [<- jA]
    unfold callee
    rw [eX f (.inl rfl)]
    have : (args.toList.map fun x=>((st.at (aA st.bx b (some xf)) j.dst (vf b)).get x).strip) = args.toList.map fun x=>(st.get x).strip:=List.map_congr_left fun x hx=>by rw [eX x (.inr hx)]
    rw [this]
   have mh : (st.at (aA st.bx b (some xf)) j.dst (vf b)).bx = aA st.bx b (some xf):=by cases j.dst <;> rfl
   have hov : ov st.bx (fun c=>if c = b then some xf else none) = aA st.bx b (some xf):=by
    funext c
    unfold ov aA
    by_cases e : c = b <;> simp [e]
   have hd : Dj st.bx (fun c=>if c = b then some xf else none):=⟨fun c hc=>by
    by_cases e : c = b
    ·rw [e]; exact hb
    ·simp [e] at hc,fun c box hc=>by
    by_cases e : c = b
    ·simp [e] at hc; rw [<- hc]; exact k0 hn
    ·simp [e] at hc⟩
   have Rw : ay P g vs (aA st.bx b (some xf)) r:=by
    have:=aw.frame c3 hd
    rw [hov] at this
    refine ⟨this.1,fun β M w us a1 a2 a3 a4=>(this.2 β M w us a1 a2 a3 a4).mono ?_⟩
    rintro e w' ⟨v,r',bx',β',x1,⟨bxc',⟨x2,x3⟩,_,x4⟩,x5⟩
    rw [x3,hov] at x4
    exact ⟨v,r',bx',β',x1,⟨x2,x4⟩,x5⟩
   refine (wH _ _).2 ⟨g,vs,lU,⟨by rw [eX f (.inl rfl)]; exact c1.1,fun x hx=>by rw [eX x (.inr hx)]; exact c1.2 x hx⟩,kp.2 c2,r,by rw [mh]; exact Rw,?_⟩
   have:=k3 b hb
   rw [gY st _ _ _ h2] at this
   exact this
  ·cases hc
 ·exact EV rP (by simp only [Bool.or_eq_true]; exact hg) hn hh
end
end Go.Pl
namespace Go.Pl
open Go
def lenOf (c : Call) : Option (Operand × TypeId) :=
 match c.callee,c.args.toList,c.argTypes.toList with
 | .builtin .len,[x],[t]=>some (x,t)
 | _,_,_=>none
theorem sY {c : Call} {x : Operand} {t : TypeId} (h : lenOf c = some (x,t)) : c = { callee:=.builtin .len,args:=#[x],argTypes:=#[t] }:=by
 unfold lenOf at h
 split at h
 ·rename_i x' t' h1 h2 h3
  injection h with h
  injection h with e1 e2
  subst e1 e2
  obtain ⟨callee,args,ts⟩:=c
  simp only at h1 h2 h3
  rw [h1,<- Array.toArray_toList (xs:=args),h2,<- Array.toArray_toList (xs:=ts),h3]
 ·cases h
def mi : Op -> Bool
 | .load _ _=>true
 | .buildSlice _ _ _=>true
 | .call c=>(lenOf c).isSome
 | _=>false
def jC : List V -> List (Nat × V) -> List V
 | es,[]=>es
 | es,(i,x) :: ps=>jC (es.set i x) ps
def D5 (P : Program) (t : TypeId) (len : Nat) (ps : List (Nat × V)) : Ev :=
 match bu P t with
 | .slice e=>match aT P e with
   | some z=>(storable P e (ofValue z) /\ 0 < aE P e /\ len * aE P e <= 16777216 /\ ∀ p,p ∈ ps -> p.1 < len /\ storable P e p.2,.sl (aE P e) (jC (List.replicate len (ofValue z)) ps))
   | none=>dk
 | _=>dk
def rF (P : Program) (st : St) (op : Op) : Ev :=
 match op with
 | .load t a=>dH P (fun _=>none) t (gv P st a)
 | .buildSlice t len parts=>D5 P t len (parts.toList.map fun p=>(p.1,st.get p.2))
 | .call c=>match lenOf c with
   | some (x,t)=>nx P (fun _=>none) t (st.get x)
   | none=>dk
 | _=>dk
section
variable {P : Program} {ops : Array Oper} {st : St}
def YF (P : Program) (ops : Array Oper) (o : Oper) (st : St) (v : V) : Prop :=
 match o.guard with
 | none=>(rF P st o.op).1 /\ v = (rF P st o.op).2
 | some (g,want)=>∃ wb,dQ ops st g want = some wb /\ (wb = true -> (rF P st o.op).1) /\ v = eo wb (rF P st o.op).2
theorem YF.fn {o : Oper} {v v' : V} (h : YF P ops o st v) (h' : YF P ops o st v') : v = v':=by
 unfold YF at h h'
 split at h
 ·rename_i hg; simp only [hg] at h'; rw [h.2,h'.2]
 ·rename_i hg
  simp only [hg] at h'
  obtain ⟨wb,h1,_,h2⟩:=h
  obtain ⟨wb',h3,_,h4⟩:=h'
  rw [h1] at h3
  injection h3 with h3
  subst h3
  rw [h2,h4]
theorem cK.rF {o : Oper} {st st2 : St} (h : cK ops o st st2) : Pl.rF P st2 o.op = Pl.rF P st o.op:=by
 obtain ⟨dst,op,type,pos,after,guard⟩:=o
 cases op
 case load t a =>
  simp only [Pl.rF]
  rw [h.gv _ (by simp [Op.operands])]
 case buildSlice t len parts =>
  simp only [Pl.rF]
  have : (parts.toList.map fun p=>(p.1,st2.get p.2)) = parts.toList.map fun p=>(p.1,st.get p.2):=List.map_congr_left fun p hp=>by
   rw [h.get p.2 (by simp only [Op.operands]; simp; exact ⟨p.1,by simpa using hp⟩)]
  rw [this]
 case call c =>
  simp only [Pl.rF]
  cases hl : lenOf c with
  | none=>rfl
  | some p =>
    obtain ⟨x,t⟩:=p
    have:=sY hl
    subst this
    simp only
    rw [h.get x (by simp [Op.operands,Call.operands])]
 all_goals rfl
theorem YF.agree {o : Oper} {st2 : St} (hs : ∀ t,t ∈ o.looksAt ops -> st2.sl t = st.sl t) (hn : st2.n = st.n) {v : V} (h : YF P ops o st v) : YF P ops o st2 v:=by
 have ha : cK ops o st { st2 with bx:=st.bx }:=⟨hs,rfl,hn⟩
 have h1 : rF P st2 o.op = rF P st o.op:=by
  have e1 : rF P { st2 with bx:=st.bx } o.op = rF P st2 o.op:=by
   have hg : ∀ x,({ st2 with bx:=st.bx } : St).get x = st2.get x:=fun x=>by cases x <;> rfl
   have hv : ∀ x,gv P { st2 with bx:=st.bx } x = gv P st2 x:=fun x=>by cases x <;> rfl
   obtain ⟨dst,op,type,pos,after,guard⟩:=o
   cases op <;> first | rfl | (simp only [rF,hv]) | (simp only [rF,hg])
  rw [<- e1,ha.rF]
 unfold YF at h ⊢
 split
 ·rename_i hg; simp only [hg] at h; rw [h1]; exact h
 ·rename_i g want hg
  simp only [hg] at h
  obtain ⟨wb,h2,h3,h4⟩:=h
  refine ⟨wb,?_,by rw [h1]; exact h3,by rw [h1]; exact h4⟩
  have:=ha.wanted hg
  rw [<- h2,<- this]
  rfl
def dJ (o : Oper) : Bool :=
 match o.guard,o.op with
 | none,.call { callee:=.value (.func _),.. }=>true
 | _,_=>false
theorem kZ {o : Oper} (h : dJ o = true) : o.guard = none /\ ∃ f args ts,o.op = .call ⟨.value (.func f),args,ts⟩:=by
 unfold dJ at h
 split at h
 ·rename_i h1 h2
  exact ⟨h1,_,_,_,h2⟩
 ·cases h
theorem sZ {o : Oper} (h : n8 o = true) : dJ o = false:=by
 cases hc : dJ o with
 | false=>rfl
 | true =>
   obtain ⟨_,f,args,ts,e⟩:=kZ hc
   simp [n8,e] at h
theorem qh {o : Oper} (h : mi o.op = true) : dJ o = false:=by
 cases hc : dJ o with
 | false=>rfl
 | true =>
   obtain ⟨_,f,args,ts,e⟩:=kZ hc
   simp [mi,e,lenOf] at h
attribute [simp] lenOf
theorem BG {c : Call} (h : mi (.call c) = true) : ∃ x t,c = { callee:=.builtin .len,args:=#[x],argTypes:=#[t] }:=by
 simp only [mi] at h
 cases hl : lenOf c with
 | none=>rw [hl] at h; cases h
 | some p=>exact ⟨p.1,p.2,sY hl⟩
theorem qi {P : Program} {bx : aa} {t : TypeId} {x : V} (h : (nx P (fun _=>none) t x).1) : nx P bx t x = nx P (fun _=>none) t x:=by
 unfold nx at h ⊢
 split <;> first | rfl | (simp_all [dk])
theorem ta {o : Oper} (hc : dJ o = true) {st st2 : St} (ha : cK ops o st st2) {K K2 : St -> Prop} (h : bE P false ops o K st) (hk : ∀ bx v,K (st.at bx o.dst v) -> K2 (st2.at bx o.dst v)) : bE P false ops o K2 st2:=by
 obtain ⟨hg,f,args,ts,cm⟩:=kZ hc
 have BB : ∀ x,x ∈ args.toList -> st2.get x = st.get x:=fun x hx=>ha.get x (by simp [cm,Op.operands,Call.operands]; right; simpa using hx)
 have uV : st2.get (.func f) = st.get (.func f):=rfl
 have lU : callee st2 (.func f) args.toList = callee st (.func f) args.toList:=by
  unfold callee
  rw [uV]
  have : (args.toList.map fun x=>(st2.get x).strip) = args.toList.map fun x=>(st.get x).strip:=List.map_congr_left fun x hx=>by rw [BB x hx]
  rw [this]
 unfold bE at h ⊢
 simp only [hg] at h ⊢
 unfold aH at h ⊢
 have he : ¬ bU o.op = true:=by rw [cm]; simp [bU]
 rw [if_neg he] at h ⊢
 simp only [cm] at h ⊢
 rw [lU]
 cases rN : callee st (.func f) args.toList with
 | none=>simp only [rN] at h
 | some p =>
   obtain ⟨q,vs⟩:=p
   simp only [rN] at h ⊢
   obtain ⟨h1,h2,h3⟩:=h
   simp only [Bool.false_eq_true,if_false] at h3 ⊢
   refine ⟨⟨by rw [uV]; exact h1.1,fun x hx=>by rw [BB x hx]; exact h1.2 x hx⟩,(ha.dst _).2 h2,?_⟩
   rw [ha.bx]
   refine ⟨h3.1,fun β M w ws g1 g2 g3 g4=>(h3.2 β M w ws g1 g2 g3 g4).mono ?_⟩
   rintro e w' ⟨v,r,bx',β',g5,g6,g7⟩
   exact ⟨v,r,bx',β',g5,hk _ _ g6,g7⟩
def iA (P : Program) (ops : Array Oper) (fl : Nat -> Bool) (i : Nat) (K : St -> Prop) (st : St) : Prop :=
 match ops[i]? with
 | none=>False
 | some o=>if (fl i && mi o.op) = true then ∃ v,YF P ops o st v /\ aJ st o.dst /\ K (st.put o.dst v) else if (fl i && dJ o) = true then (∃ bx v,K (st.at bx o.dst v)) /\ bE P false ops o K st else bE P true ops o K st
variable {fl : Nat -> Bool} {i : Nat} {o : Oper}
theorem fM (ho : ops[i]? = some o) {K : St -> Prop} : iA P ops fl i K st = if (fl i && mi o.op) = true then ∃ v,YF P ops o st v /\ aJ st o.dst /\ K (st.put o.dst v) else if (fl i && dJ o) = true then (∃ bx v,K (st.at bx o.dst v)) /\ bE P false ops o K st else bE P true ops o K st:=by
 unfold iA
 simp only [ho]
def SX (P : Program) (ops : Array Oper) (fl : Nat -> Bool) (i : Nat) (o : Oper) (st : St) (v : V) : Prop:=if (fl i && mi o.op) = true then YF P ops o st v else Y0 P ops o st v
def uX (fl : Nat -> Bool) (i : Nat) (o : Oper) : Bool:=(fl i && mi o.op) || n8 o
theorem hI (ho : ops[i]? = some o) (hc : uX fl i o = true) {K : St -> Prop} : iA P ops fl i K st ↔ ∃ v,SX P ops fl i o st v /\ aJ st o.dst /\ K (st.put o.dst v):=by
 rw [fM ho]
 unfold SX
 by_cases hf : (fl i && mi o.op) = true
 ·simp only [if_pos hf]
 ·simp only [if_neg hf]
  have : n8 o = true:=by simpa [uX,hf] using hc
  rw [if_neg (by simp [sZ this])]
  exact pZ this
theorem SX.fn {v v' : V} (h : SX P ops fl i o st v) (h' : SX P ops fl i o st v') : v = v':=by
 unfold SX at h h'
 split at h
 ·rename_i hf; rw [if_pos hf] at h'; exact h.fn h'
 ·rename_i hf; rw [if_neg hf] at h'; exact h.fn h'
theorem SX.agree (hc : uX fl i o = true) {st2 : St} (hs : ∀ t,t ∈ o.looksAt ops -> st2.sl t = st.sl t) (hn : st2.n = st.n) {v : V} (h : SX P ops fl i o st v) : SX P ops fl i o st2 v:=by
 unfold SX at h ⊢
 by_cases hf : (fl i && mi o.op) = true
 ·rw [if_pos hf] at h ⊢
  exact h.agree hs hn
 ·rw [if_neg hf] at h ⊢
  exact h.agree (by simpa [uX,hf] using hc) hs hn
theorem la (ho : ops[i]? = some o) (rM : (fl i && dJ o) = false) {K : St -> Prop} (h : iA P ops fl i K st) : jt P true ops o st K (iA P ops fl i):=by
 rw [fM ho] at h
 by_cases hf : (fl i && mi o.op) = true
 ·rw [if_pos hf] at h
  obtain ⟨v,h1,h2,h3⟩:=h
  refine gH v h3 fun st2 K2 ha hk=>?_
  rw [fM ho,if_pos hf]
  exact ⟨v,h1.agree ha.sl ha.n,(ha.dst _).2 h2,hk⟩
 ·rw [if_neg hf,if_neg (by simp [rM])] at h
  obtain ⟨T,h1,h2,h3⟩:=gX h
  refine ⟨T,h1,h2,fun st2 K2 ha hT=>?_⟩
  rw [fM ho,if_neg hf,if_neg (by simp [rM])]
  exact h3 st2 K2 ha hT
theorem mY : WV (iA P ops fl) where
 mono i K K2 st hm h:=by
  unfold iA at h ⊢
  split at h
  ·exact h.elim
  ·rename_i o ho
   split at h
   ·rename_i hf
    obtain ⟨v,h1,h2,h3⟩:=h
    rw [if_pos hf]
    exact ⟨v,h1,h2,hm _ h3⟩
   ·rename_i hf
    rw [if_neg hf]
    split at h
    ·rename_i da
     rw [if_pos da]
     obtain ⟨⟨bx,v,h1⟩,h2⟩:=h
     exact ⟨⟨bx,v,hm _ h1⟩,cU hm h2⟩
    ·rename_i da
     rw [if_neg da]
     exact cU hm h
 live i K st h:=by
  cases ho : ops[i]? with
  | none=>unfold iA at h; simp only [ho] at h
  | some o =>
    by_cases rM : (fl i && dJ o) = true
    ·rw [fM ho] at h
     have Aa : dJ o = true:=by simp only [Bool.and_eq_true] at rM; exact rM.2
     have hz : ¬ (fl i && mi o.op) = true:=fun e=>by
      simp only [Bool.and_eq_true] at e
      rw [qh e.2] at Aa; cases Aa
     rw [if_neg hz,if_pos rM] at h
     obtain ⟨⟨bx,v,h1⟩,_⟩:=h
     exact ⟨_,h1⟩
    ·obtain ⟨T,⟨bx,v,h0⟩,hT,_⟩:=la ho (by simpa using rM) h
     exact ⟨_,hT bx v h0⟩
theorem EX {j : Nat} {oi oj : Oper} (hoi : ops[i]? = some oi) (lZ : ops[j]? = some oj) (h : (gC ops oi oj || mg ops oi oj) = true \/ (oi.apart ops oj = true /\ (uX fl i oi = true \/ uX fl j oj = true))) (hci' : (fl i && dJ oi) = true -> uX fl j oj = true) (hcj' : (fl j && dJ oj) = true -> uX fl i oi = true) {K : St -> Prop} (hh : iA P ops fl i (iA P ops fl j K) st) :
 iA P ops fl j (iA P ops fl i K) st:=by
 have rP : oi.apart ops oj = true:=by
  rcases h with h | h
  ·rcases Bool.or_eq_true_iff.1 h with h | h
   ·simp only [gC,Bool.and_eq_true] at h; exact h.1
   ·simp only [mg,Bool.and_eq_true] at h; exact h.1
  ·exact h.1
 obtain ⟨h1,h2,h3⟩:=Oper.apart_spec rP
 have Dw : ∀ d,oj.dst = some d -> oi.dst ≠ some d:=fun d hd he=>h2 d he hd
 have callZ : ∀ {i : Nat} {o : Oper},(fl i && dJ o) = true -> dJ o = true /\ ¬ (fl i && mi o.op) = true:=fun {i o} hn=>by
  have Aa : dJ o = true:=by simp only [Bool.and_eq_true] at hn; exact hn.2
  exact ⟨Aa,fun e=>by
   simp only [Bool.and_eq_true] at e
   rw [qh e.2] at Aa; cases Aa⟩
 by_cases wH : uX fl i oi = true
 ·obtain ⟨v,hy,hd,hk⟩:=(hI hoi wH).1 hh
  by_cases hnj : (fl j && dJ oj) = true
  ·obtain ⟨Aa,hz⟩:=callZ hnj
   rw [fM lZ,if_neg hz,if_pos hnj] at hk
   rw [fM lZ,if_neg hz,if_pos hnj]
   have yJ : ∀ bx u,K ((st.put oi.dst v).at bx oj.dst u) -> iA P ops fl i K (st.at bx oj.dst u):=fun bx u hu=>(hI hoi wH).2 ⟨v,hy.agree wH (fun t ht=>lW (fun e=>h3 t e ht)) uw,kp.2 hd,by
    rwa [gY st bx v u h2] at hu⟩
   obtain ⟨⟨bx,u,hu⟩,fJ⟩:=hk
   exact ⟨⟨bx,u,yJ bx u hu⟩,ta Aa (iy h1) fJ yJ⟩
  obtain ⟨T,_,hT,LJ⟩:=la lZ (by simpa using hnj) hk
  refine LJ st _ (iy h1) (fun bx u hu=>(hI hoi wH).2 ⟨v,hy.agree wH (fun t ht=>lW (fun e=>h3 t e ht)) uw,kp.2 hd,?_⟩)
  have:=hT bx u hu
  rwa [gY st bx v u h2] at this
 ·by_cases Ab : uX fl j oj = true
  ·by_cases hni : (fl i && dJ oi) = true
   ·obtain ⟨Aa,hz⟩:=callZ hni
    rw [fM hoi,if_neg hz,if_pos hni] at hh
    obtain ⟨⟨aC,u0,h0⟩,hh2⟩:=hh
    obtain ⟨v,hy,hd,EY⟩:=(hI lZ Ab).1 h0
    have BE : SX P ops fl j oj st v:=hy.agree Ab (fun t ht=>(lW (fun e=>h1 t e ht)).symm) uw.symm
    have yJ : ∀ bx u,iA P ops fl j K (st.at bx oi.dst u) -> K ((st.put oj.dst v).at bx oi.dst u):=fun bx u hu=>by
     obtain ⟨v',Rq,_,hk⟩:=(hI lZ Ab).1 hu
     have : v' = v:=(Rq.agree (st2:=st) Ab (fun t ht=>(lW (fun e=>h1 t e ht)).symm) uw.symm).fn BE
     subst this
     rw [gY st bx v' u Dw]
     exact hk
    refine (hI lZ Ab).2 ⟨v,BE,kp.1 hd,?_⟩
    rw [fM hoi,if_neg hz,if_pos hni]
    exact ⟨⟨aC,u0,yJ _ _ h0⟩,ta Aa (j0 h3) hh2 yJ⟩
   obtain ⟨T,⟨aC,u0,h0⟩,hT,LJ⟩:=la hoi (by simpa using hni) hh
   obtain ⟨v,hy,hd,_⟩:=(hI lZ Ab).1 (hT aC u0 h0)
   have BE : SX P ops fl j oj st v:=hy.agree Ab (fun t ht=>(lW (fun e=>h1 t e ht)).symm) uw.symm
   refine (hI lZ Ab).2 ⟨v,BE,kp.1 hd,LJ _ _ (j0 h3) (fun bx u hu=>?_)⟩
   obtain ⟨v',Rq,_,hk⟩:=(hI lZ Ab).1 (hT bx u hu)
   have : v' = v:=(Rq.agree (st2:=st) Ab (fun t ht=>(lW (fun e=>h1 t e ht)).symm) uw.symm).fn BE
   subst this
   rw [gY st bx v' u Dw]
   exact hk
  ·have Rx : (gC ops oi oj || mg ops oi oj) = true:=by
    rcases h with h | ⟨_,h | h⟩
    ·exact h
    ·exact absurd h wH
    ·exact absurd h Ab
   have iH : ¬ (fl i && mi oi.op) = true:=fun e=>wH (by simp [uX,e])
   have hfj : ¬ (fl j && mi oj.op) = true:=fun e=>Ab (by simp [uX,e])
   have ei : ∀ K st,iA P ops fl i K st = bE P true ops oi K st:=fun K st=>by rw [fM hoi,if_neg iH,if_neg fun e=>Ab (hci' e)]
   have ej : ∀ K st,iA P ops fl j K st = bE P true ops oj K st:=fun K st=>by rw [fM lZ,if_neg hfj,if_neg fun e=>wH (hcj' e)]
   rw [ej]
   rw [ei] at hh
   have hh' : bE P true ops oi (bE P true ops oj K) st:=cU (fun s hs=>by rw [<- ej]; exact hs) hh
   rcases Bool.or_eq_true_iff.1 Rx with Rx | Rx
   ·exact cU (fun s hs=>by rw [ei]; exact hs) (ow Rx hh')
   ·exact cU (fun s hs=>by rw [ei]; exact hs) (D4 Rx hh')
end
end Go.Pl
namespace Go.Pl
open Go
def qE (o : Oper) : Bool :=
 match o.op,o.guard with
 | .call { callee:=.value (.func _),.. },none=>true
 | .call { callee:=.value (.tmp _),.. },_=>true
 | _,_=>false
def lD (ops : Array Oper) (i : Nat) : Bool :=
 match ops[i]? with
 | some o=>qE o && (List.range ops.size).all fun j=>decide (j = i) || (if j < i then ((dx ops).getD i 0).testBit j else ((dx ops).getD j 0).testBit i)
 | none=>false
def jX (ops : Array Oper) : List Bool:=(List.range ops.size).map (lD ops)
section
variable {P : Program} {ops : Array Oper} {M : dP} {S : Nat -> Oper -> (St -> Prop) -> St -> Prop}
theorem tc {i : Nat} (h : lD ops i = true) {j : Nat} (hj : j < ops.size) : (j < i -> fC (dx ops) i j) /\ (i < j -> fC (dx ops) j i):=by
 unfold lD at h
 split at h
 ·simp only [Bool.and_eq_true] at h
  replace h:=h.2
  simp only [List.all_eq_true,List.mem_range,Bool.or_eq_true,decide_eq_true_eq] at h
  rcases h j hj with e | e
  ·exact ⟨fun h=>by omega,fun h=>by omega⟩
  ·refine ⟨fun h=>?_,fun h=>?_⟩
   ·rw [if_pos h] at e; exact e
   ·rw [if_neg (by omega)] at e; exact e
 ·cases h
def p0 (P : Program) (ops : Array Oper) (S : Nat -> Oper -> (St -> Prop) -> St -> Prop) (i : Nat) (o : Oper) (K : St -> Prop) (st : St) : Prop:=if lD ops i = true then S i o K st else bE P true ops o K st
def BH (S : Nat -> Oper -> (St -> Prop) -> St -> Prop) : Prop:=∀ i o K K' st,(∀ s,K s -> K' s) -> S i o K st -> S i o K' st
theorem uY (hS : BH S) {i : Nat} {o : Oper} {K K' : St -> Prop} {st : St} (hm : ∀ s,K s -> K' s) (h : p0 P ops S i o K st) : p0 P ops S i o K' st:=by
 unfold p0 at h ⊢
 split at h
 ·rename_i hs; rw [if_pos hs]; exact hS _ _ _ _ _ hm h
 ·rename_i hs; rw [if_neg hs]; exact cU hm h
def lb (P : Program) (ops : Array Oper) (S : Nat -> Oper -> (St -> Prop) -> St -> Prop) (K : St -> Prop) : Nat -> Array Bool -> St -> Prop
 | 0,listed,st=>Region.ready .any ops listed = [] /\ K st
 | fuel + 1,listed,st=>(Region.ready .any ops listed = [] -> K st) /\
  ∀ i ∈ Region.ready .any ops listed,∃ o,ops[i]? = some o /\ p0 P ops S i o (lb P ops S K fuel (listed.setIfInBounds i true)) st
def jv (P : Program) (ops : Array Oper) (S : Nat -> Oper -> (St -> Prop) -> St -> Prop) (K : St -> Prop) : List Oper -> Nat -> St -> Prop
 | [],_,st=>K st
 | o :: l,k,st=>p0 P ops S k o (jv P ops S K l (k + 1)) st
theorem iK {ro : Option Nat} {n : Nat} {K : St -> Prop} {Q : Exit -> Act -> World -> Prop} {M : dP}
 (hS : ∀ (i : Nat) (o : Oper) (K : St -> Prop) (st : St) (a : Act) (w : World) (β : Beta) (K' : Act -> World -> Prop),ops[i]? = some o -> S i o K st -> Rs P β M st a w -> gQ P β M st w K K' -> wpOpIn (rf ro) n P ops Q i K' a w) :
 ∀ (fuel : Nat) (listed : Array Bool) (st : St) (a : Act) (w : World) (β : Beta),lb P ops S K fuel listed st -> Rs P β M st a w -> gQ P β M st w K (Q .normal) ->
 wpAnyIn (rf ro) n P .any ops Q fuel listed a w
 | 0,listed,st,a,w,β,h,hr,hK=>⟨h.1,hK st β a w h.2 hr (Tr.refl _ _ _)⟩
 | fuel + 1,listed,st,a,w,β,h,hr,hK=>⟨fun h0=>hK st β a w (h.1 h0) hr (Tr.refl _ _ _),fun i hi=>by
  obtain ⟨o,ho,hg⟩:=h.2 i hi
  unfold p0 at hg
  split at hg
  ·exact hS i o _ st a w β _ ho hg hr (fun st' β' a' w' hk cJ ht=>iK hS fuel _ st' a' w' β' hk cJ (hK.trans ht))
  ·exact dN ho hg hr (fun st' β' a' w' hk cJ ht=>iK hS fuel _ st' a' w' β' hk cJ (hK.trans ht))⟩
theorem A5 {K : St -> Prop} {i : Nat} {oi : Oper} (hi : ops[i]? = some oi) (L6 : lD ops i = false) : ∀ (fuel : Nat) (listed : Array Bool) (st : St),sS ops listed ->
 (∀ j oj,ops[j]? = some oj -> j ≠ i -> listed.getD j true = false -> ¬ fC (dx ops) j i -> gC ops oi oj = true) ->
 i ∈ Region.ready .any ops listed -> bE P true ops oi (lb P ops S K fuel (listed.setIfInBounds i true)) st -> lb P ops S K (fuel + 1) listed st:=by
 have Ry : ¬ lD ops i = true:=by rw [L6]; simp
 intro fuel
 induction fuel with
 | zero =>
   intro listed st _ _ hr H
   refine ⟨fun h=>(by rw [h] at hr; cases hr),fun j hj=>?_⟩
   by_cases oQ : j = i
   ·subst oQ; exact ⟨oi,hi,by unfold p0; rw [if_neg Ry]; exact H⟩
   ·obtain ⟨T,⟨bx,v,h0⟩,hT,_⟩:=gX H
    have:=ready_mono hj oQ
    rw [(hT bx v h0).1] at this
    cases this
 | succ fuel ih =>
   intro listed st jn lY hr H
   refine ⟨fun h=>(by rw [h] at hr; cases hr),fun j hj=>?_⟩
   by_cases oQ : j = i
   ·subst oQ; exact ⟨oi,hi,by unfold p0; rw [if_neg Ry]; exact H⟩
   ·obtain ⟨wF,oj,lZ,ig⟩:=mem_ready.1 hj
    obtain ⟨Ax,oi',ZL,Rz⟩:=mem_ready.1 hr
    have nK : ∀ {x : Nat},listed.getD x true = false -> ¬ listed.getD x false = true:=fun {x} h1 h2=>by
     rcases Nat.lt_or_ge x listed.size with h' | h'
     ·simp [h'] at h1 h2; rw [h1] at h2; cases h2
     ·simp [Array.getElem?_eq_none h'] at h2
    have HE : ¬ fC (dx ops) j i:=fun hw=>nK Ax (gZ jn j oj i lZ ig hw)
    have ZM : ¬ fC (dx ops) i j:=fun hw=>nK wF (gZ jn i oi' j ZL Rz hw)
    have ZN:=(Array.getElem?_eq_some_iff.1 hi).1
    have WU : ¬ lD ops j = true:=by
     intro hs
     ·
      obtain ⟨w1,w2⟩:=tc hs ZN
      rcases Nat.lt_or_ge i j with h' | h'
      ·exact absurd (w1 h') HE
      ·exact absurd (w2 (by omega)) ZM
    have rP:=lY j oj lZ oQ wF HE
    have h1 : bE P true ops oi (bE P true ops oj (lb P ops S K fuel ((listed.setIfInBounds i true).setIfInBounds j true))) st :=
     cU (fun s hs=>by
      obtain ⟨o',E0,hg⟩:=hs.2 j (ready_mono hj oQ)
      rw [lZ] at E0
      injection E0 with E0
      subst E0
      unfold p0 at hg
      rw [if_neg WU] at hg
      exact hg) H
    have h2:=ow rP h1
    refine ⟨oj,lZ,?_⟩
    unfold p0
    rw [if_neg WU]
    refine cU (fun s hs=>?_) h2
    refine ih (listed.setIfInBounds j true) s ?_ ?_ (ready_mono hr (Ne.symm oQ)) ?_
    ·intro k ok hk Dy e he hb
     by_cases pR : k = j
     ·subst pR
      rw [lZ] at hk
      injection hk with hk
      subst hk
      exact getD_set_true (ig e he hb)
     ·rw [getD_set_ne false (Ne.symm pR)] at Dy
      exact getD_set_true (jn k ok hk Dy e he hb)
    ·intro k ok hk hki hun hnw'
     refine lY k ok hk hki ?_ hnw'
     by_cases BF : j = k
     ·subst BF; exact wF
     ·rw [getD_set_ne true BF] at hun; exact hun
    ·rw [Array.setIfInBounds_comm _ _ oQ]
     exact hs
theorem mj (hS : BH S) (hB : sR ops = true) {K : St -> Prop} : ∀ (l : List Oper) (k : Nat) (listed : Array Bool) (st : St),(∀ j,l[j]? = ops[k + j]?) -> listed.size = ops.size -> k + l.length = ops.size -> (∀ j,j < ops.size -> (listed.getD j false = decide (j < k)) /\ (listed.getD j true = decide (j < k))) ->
 jv P ops S K l k st -> lb P ops S K l.length listed st
 | [],k,listed,st,hl,bV,hk,hlist,h=>by
   refine ⟨?_,h⟩
   apply List.eq_nil_iff_forall_not_mem.2
   intro j hj
   obtain ⟨h1,o,ho,_⟩:=mem_ready.1 hj
   have dt:=(Array.getElem?_eq_some_iff.1 ho).1
   rw [(hlist j dt).2] at h1
   simp at h1 hk
   omega
 | o :: l,k,listed,st,hl,bV,hk,hlist,h=>by
   have h0 : ops[k]? = some o:=by simpa using (hl 0).symm
   have pY:=(Array.getElem?_eq_some_iff.1 h0).1
   obtain ⟨Ih,rP⟩:=rQ hB h0
   simp only [List.length_cons] at hk ⊢
   have jn : sS ops listed:=by
    intro j oj hj lB e he hb
    have lH:=(Array.getElem?_eq_some_iff.1 hj).1
    rw [(hlist j lH).1] at lB
    have BF : j < k:=by simpa using lB
    have:=(rQ hB hj).1 e he hb
    rw [(hlist e.on (by omega)).1]
    simp; omega
   have ZO : k ∈ Region.ready .any ops listed:=mem_ready.2 ⟨by rw [(hlist k pY).2]; simp,o,h0,fun e he hb=>by
    have:=Ih e he hb
    rw [(hlist e.on (by omega)).1]
    simp; omega⟩
   have next : ∀ s,jv P ops S K l (k + 1) s -> lb P ops S K l.length (listed.setIfInBounds k true) s:=fun s hs=>mj hS hB l (k + 1) _ s (fun j=>by have:=hl (j + 1); simpa [Nat.add_assoc,Nat.add_comm 1 j] using this) (by simpa using bV) (by omega) (fun j hj=>by
    by_cases e : k = j
    ·subst e
     have : k < listed.size:=by omega
     simp [this]
    ·rw [getD_set_ne false e,getD_set_ne true e,(hlist j hj).1,(hlist j hj).2]
     have : (j < k) ↔ (j < k + 1):=by omega
     simp [this]) hs
   cases hs : lD ops k with
   | false =>
     have h' : p0 P ops S k o (jv P ops S K l (k + 1)) st:=h
     unfold p0 at h'
     rw [if_neg (by rw [hs]; simp)] at h'
     refine A5 h0 hs l.length listed st jn (fun j oj hj bp hun hw=>?_) ZO (cU next h')
     have lH:=(Array.getElem?_eq_some_iff.1 hj).1
     rw [(hlist j lH).2] at hun
     simp at hun
     exact rP j oj hj (by omega) hw
   | true =>
     refine ⟨fun hn=>(by rw [hn] at ZO; cases ZO),fun j hj=>?_⟩
     obtain ⟨h1,oj,lZ,ig⟩:=mem_ready.1 hj
     have lH:=(Array.getElem?_eq_some_iff.1 lZ).1
     rw [(hlist j lH).2] at h1
     have BF : k <= j:=by simp at h1; omega
     have ZP : j = k:=by
      rcases Nat.lt_or_ge k j with h' | h'
      ·have:=gZ jn j oj k lZ ig ((tc hs lH).2 h')
       rw [(hlist k pY).1] at this
       simp at this
      ·omega
     subst ZP
     exact ⟨o,h0,uY hS next h⟩
end
end Go.Pl
namespace Go.Pl
open Go
structure bO where
 d : Option Tmp
 op : Op
 g : Option (Tmp × Bool)
 fz : Bool
def bO.jD (o : bO) : bO:={ o with fz:=false }
inductive PC where
 | skip
 | bn (d : Bool) (ops : List bO) (ks : List Nat)
 | hX (un uv : List (Nat × Nat)) (ops : List bO) (ks : List Nat)
 | jP (so : List Bool) (ops : List bO) (ks : List Nat)
 | seq (a b : PC)
 | cond (c : Operand) (a b : PC)
 | block (id : Nat) (c : PC)
 | loop (c : PC)
 | wk (c : PC)
 | fz (t : Nat) (c : PC)
 | rangeFunc (g : Operand) (ps : Array Tmp) (a b : PC)
 | exit (id : Nat)
 | ret
 | raw (c : Code)
 | bad
def bO.oper (o : bO) : Oper:={ dst:=o.d,op:=o.op,type:=0,pos:="",after:=#[],guard:=none }
def aB (ops : Array Oper) (o : Oper) : bO :=
 match o.guard with
 | none=>⟨o.dst,o.op,none,false⟩
 | some (g,w)=>match (ops[g]?).bind (·.dst) with
   | some d=>⟨o.dst,o.op,some (d,w),false⟩
   | none=>⟨o.dst,.ready 0,none,false⟩
def yK (ops : Array Oper) : List (Nat × Nat) :=
 let ms:=dx ops
 (List.range ops.size).flatMap fun k=>((List.range ops.size).filter fun j=>decide (k < j) && !(ms.getD j 0).testBit k && (match ops[k]?,ops[j]? with
  | some ok,some oj=>!(gC ops ok oj || mg ops ok oj)
  | _,_=>false)).map fun j=>(k,j)
def D6 (ops : Array Oper) : List (Nat × Nat) :=
 let ms:=dx ops
 (List.range ops.size).flatMap fun k=>((List.range ops.size).filter fun j=>decide (k < j) && !(ms.getD j 0).testBit k && (match ops[k]?,ops[j]? with
  | some ok,some oj=>(dJ ok || dJ oj) && !n8 ok && !n8 oj
  | _,_=>false)).map fun j=>(k,j)
def A6 (ops : Array Oper) : Bool :=
 let ms:=dx ops
 (List.range ops.size).all fun k=>match ops[k]? with
  | some ok=>ok.after.all (fun e=>!Region.binds .any e || decide (e.on < k)) &&
   (List.range ops.size).all fun j=>decide (j <= k) || match ops[j]? with
    | some oj=>(ms.getD j 0).testBit k || ok.apart ops oj
    | none=>true
  | none=>true
def compile : Code -> PC
 | .skip=>.skip
 | .label _=>.skip
 | .region _ ops draw=>if draw && !sR ops then (if A6 ops then .hX (yK ops) (D6 ops) (ops.toList.map (aB ops)) [] else .bad) else if draw && (jX ops).any id then .jP (jX ops) (ops.toList.map (aB ops)) [] else .bn draw (ops.toList.map (aB ops)) []
 | .seq a b=>.seq (compile a) (compile b)
 | .cond c a b=>.cond c (compile a) (compile b)
 | .block id c=>.block id (compile c)
 | .loop c=>.loop (compile c)
 | .exit id=>.exit id
 | .ret=>.ret
 | .rangeFunc g ps a b=>.rangeFunc g ps (compile a) (compile b)
 | _=>.bad
def dR : PC -> Bool
 | .seq a b=>dR a && dR b
 | .cond _ a b=>dR a && dR b
 | .block _ c=>dR c
 | .loop c=>dR c
 | .wk c=>dR c
 | .fz _ c=>dR c
 | .rangeFunc ..=>false
 | _=>true
def erase : PC -> PC
 | .bn d ops _=>.bn d (ops.map bO.jD) []
 | .hX un uv ops _=>.hX un uv (ops.map bO.jD) []
 | .jP so ops _=>.jP so (ops.map bO.jD) []
 | .seq a b=>.seq (erase a) (erase b)
 | .cond c a b=>.cond c (erase a) (erase b)
 | .block id c=>.block id (erase c)
 | .loop c=>.loop (erase c)
 | .wk c=>erase c
 | .fz _ c=>erase c
 | .rangeFunc g ps a b=>.rangeFunc g ps (erase a) (erase b)
 | c=>c
def bR : List (Nat × V) -> Nat -> V
 | [],_=>.cX
 | (k,v) :: l,t=>if t = k then v else bR l t
def St.ch (st : St) (ks : List Nat) : St:={ st with sl:=bR (ks.map fun k=>(k,st.sl k)) }
def dX (P : Program) (d : Bool) (o : bO) (wb : Bool) (K : St -> Prop) (st : St) : Prop :=
 if bU o.op = true then (wb = true -> (ev P st o.oper).1) /\ aJ st o.d /\ K (st.put o.d (eo wb (ev P st o.oper).2)) else
 match o.op with
 | .call { callee:=.value f,args:=args,.. }=>match callee st f args.toList with
   | some (q,vs)=>aJ st o.d /\ ∃ r,(wb = true -> eN st f args.toList /\ ay P q vs st.bx r) /\ K (st.put o.d (eo wb r))
   | none=>False
 | _=>(wb = true -> aH P d o.oper K st) /\ (wb = false -> aJ st o.d /\ K (st.put o.d (.dead .cX)))
def iT (P : Program) (b : Nat) (args : List V) (bx : aa) (Kc : V -> aa -> Prop) : Prop :=
 ∀ (n : Nat) (β : Beta) (M : dP) (w : World) (vs : Array Value) (k : Nat),β b = some (some k) -> eu β M bx w -> oU P β w (Fz β M bx w) -> vs.size = args.length ->
  (∀ (i : Nat) (c : V),args[i]? = some c -> aP β w (Fz β M bx w) c (vs.getD i undef)) ->
  YieldAt Fence.wide n P k vs w fun e w'=>∃ v r bx' β',e = .returned v /\ Kc r bx' /\ eu β' M bx' w' /\ Tr β bx w β' bx' w' /\ aP β' w' (Fz β' M bx' w') r v
def yieldOf (st : St) (d : Bool) : Op -> Option (Nat × List V)
 | .call { callee:=.value f,args:=args,.. }=>if d = true then none else match (st.get f).strip with
   | .yl b=>some (b,args.toList.map fun x=>(st.get x).strip)
   | _=>none
 | _=>none
def uZ (st : St) : Op -> Prop
 | .call { callee:=.value f,args:=args,.. }=>eN st f args.toList
 | _=>False
def qj (P : Program) (o : bO) (K : St -> Prop) (st : St) (b : Nat) (vs : List V) : Prop :=
 uZ st o.op /\ aJ st o.d /\ iT P b vs st.bx fun r bx'=>K ({ st with bx:=bx' }.put o.d r)
def p3 (P : Program) (d : Bool) (o : bO) (wb : Bool) (K : St -> Prop) (st : St) : Prop :=
 d = false /\ (wb = true -> aH P d o.oper K st) /\ (wb = false -> aJ st o.d /\ K (st.put o.d (.dead .cX)))
def R0 (P : Program) (e : TypeId) (x : Operand) (d : Option Tmp) (K : St -> Prop) (st : St) : Prop :=
 storable P e (st.get x) /\ aJ st d /\ bj st.bx /\ K (st.put d (.ep (st.get x) 0))
def eZ (P : Program) (d : Bool) (o : bO) (K : St -> Prop) (st : St) : Prop :=
 match yieldOf st d o.op with
 | some (b,vs)=>match o.g with
   | none=>qj P o K st b vs
   | some (s,want)=>match (st.sl s).strip with
     | .bool c=>(((st.sl s).ax && (c == want)) = true -> qj P o K st b vs) /\ (((st.sl s).ax && (c == want)) = false -> aJ st o.d /\ K (st.put o.d (.dead .cX)))
     | _=>False
 | none=>match o.g with
   | none=>aH P d o.oper K st
   | some (s,want)=>match (st.sl s).strip with
     | .bool c=>if bU o.op = true then dX P d o ((st.sl s).ax && (c == want)) K st else dX P d o ((st.sl s).ax && (c == want)) K st \/ p3 P d o ((st.sl s).ax && (c == want)) K st
     | _=>False
def Ir (op : BinOp) (c : Bool) : Bool:=match op with | .eql=>c | _=>!c
def wI (op : BinOp) (c : Bool) : V:=.bool (Ir op c)
def td (k : uJ) (op : BinOp) (x y : V) (d : Option Tmp) (K : St -> Prop) (st : St) : Prop :=
 match k,x,y with
 | .slice _,.sl _ es,.aI=>(op = .eql \/ op = .neq) /\ aJ st d /\ ∀ c : Bool,(es ≠ [] -> c = false) -> K (st.put d (wI op c))
 | .slice _,.own _ _ _ n,.aI=>(op = .eql \/ op = .neq) /\ aJ st d /\ ∀ c : Bool,(0 < n -> c = false) -> K (st.put d (wI op c))
 | .slice _,.aI,.aI=>(op = .eql \/ op = .neq) /\ aJ st d /\ K (st.put d (wI op true))
 | _,_,_=>False
def ml (P : Program) (t : TypeId) (len : Nat) (parts : List (Nat × Operand)) (d : Option Tmp) (K : St -> Prop) (st : St) : Prop :=
 match bu P t with
 | .slice e=>match aT P e with
   | some z=>(storable P e (ofValue z) /\ 0 < aE P e /\ len * aE P e <= 16777216 /\ ∀ p,p ∈ parts -> p.1 < len /\ storable P e (st.get p.2)) /\ aJ st d /\ bj st.bx /\
    K (st.put d (.sl (aE P e) (dM st (List.replicate len (ofValue z)) parts)))
   | none=>False
 | _=>False
def BI (P : Program) (t : TypeId) (len : Nat) (parts : List (Nat × Operand)) (g : Option (Tmp × Bool)) (d : Option Tmp) (K : St -> Prop) (st : St) : Prop :=
 match g with
 | none=>ml P t len parts d K st
 | some (s,w)=>match (st.sl s).strip with
   | .bool c=>(((st.sl s).ax && (c == w)) = true -> ml P t len parts d K st) /\ (((st.sl s).ax && (c == w)) = false -> aJ st d /\ K (st.put d (.dead .cX)))
   | _=>False
def Is (P : Program) (k : uJ) (s t : TypeId) (x : V) (dst : Option Tmp) (K : St -> Prop) (st : St) : Prop :=
 match k with
 | .slice e=>match x with
   | .own b sz o n=>∃ ty l,st.bx b = some (.row ty 1 (l.map dI)) /\ bu P e = .int .u8 /\ bu P t = .str /\ sz = 1 /\ o = 0 /\ n = l.length /\ aJ st dst /\ K (st.put dst (.str l))
   | .aI=>bu P e = .int .u8 /\ bu P t = .str /\ aJ st dst /\ K (st.put dst (.str []))
   | _=>False
 | _=>HX P s t x dst K st
def LP (P : Program) (k : uJ) (x : V) (lo : Option V) (dst : Option Tmp) (K : St -> Prop) (st : St) : Prop :=
 match k,x,fw 0 lo with
 | .arr n e,.ptr b sz i o,some (c,l)=>∃ ty cs,st.bx b = some (.row ty n [.agg cs]) /\ sz = n /\ i = 0 /\ o = 0 /\ cs.length = n /\ (∀ c,c ∈ cs -> c.cells = [c]) /\ cw P e = true /\ aE P e = 1 /\ n <= 1000000 /\ c /\ 0 <= l /\ l < n /\ aJ st dst /\
  K ((st.box b (some (.row ty 1 cs))).put dst (.own b 1 l.toNat (n - l.toNat)))
 | _,_,_=>False
def du (P : Program) (d : Bool) (o : bO) (K : St -> Prop) (st : St) : Prop :=
 match o.fz with
 | false=>eZ P d o K st
 | true=>match o.op with
   | .box e x=>d = false /\ o.g = none /\ R0 P e x o.d K st
   | .buildSlice t len parts=>d = false /\ BI P t len parts.toList o.g o.d K st
   | .binOp op t x y _=>d = false /\ o.g = none /\ td (bu P t) op (st.get x) (st.get y) o.d K st
   | .convert s t x=>d = false /\ o.g = none /\ Is P (bu P s) s t (st.get x) o.d K st
   | .slice t x lo none none=>d = false /\ o.g = none /\ LP P (bu P t) (st.get x) (lo.map st.get) o.d K st
   | .call { callee:=.value _,.. }=>if d = true then eZ P d o.jD K st else ∃ st',je st st' /\ eZ P d o.jD K st'
   | _=>eZ P d o.jD K st
def wJ (P : Program) (d : Bool) (K : St -> Prop) : List bO -> St -> Prop
 | [],st=>K st
 | o :: rest,st=>du P d o (wJ P d K rest) st
def lf (P : Program) (K : St -> Prop) : List Bool -> List bO -> St -> Prop
 | _,[],st=>K st
 | [],o :: rest,st=>du P true o (lf P K [] rest) st
 | s :: so,o :: rest,st=>du P (!s) o (lf P K so rest) st
def jE (q : bO) : Bool :=
 match q.g,q.op with
 | none,.call { callee:=.value (.func _),.. }=>true
 | _,_=>false
def BJ (P : Program) (q : bO) (K : St -> Prop) (st : St) : Prop :=
 if (q.fz && mi q.op) = true then
  match q.g with
  | none=>(rF P st q.op).1 /\ aJ st q.d /\ K (st.put q.d (rF P st q.op).2)
  | some (s,w)=>match (st.sl s).strip with
    | .bool c=>(((st.sl s).ax && (c == w)) = true -> (rF P st q.op).1) /\ aJ st q.d /\ K (st.put q.d (eo ((st.sl s).ax && (c == w)) (rF P st q.op).2))
    | _=>False
 else if (q.fz && jE q) = true then (∃ bx v,K (st.at bx q.d v)) /\ aH P false q.oper K st
 else eZ P true q.jD K st
def lh (P : Program) (K : St -> Prop) : List bO -> St -> Prop
 | [],st=>K st
 | o :: rest,st=>BJ P o (lh P K rest) st
def jh (l : List bO) (k : Nat) : Bool :=
 match l[k]? with
 | some q=>q.fz && mi q.op
 | none=>false
def lj (l : List bO) (k : Nat) : Bool :=
 match l[k]? with
 | some q=>q.fz && jE q
 | none=>false
def te (x y : PC) (a b : Code) : Prop:=compile a = erase x /\ compile b = erase y
def pw (P : Program) : PC -> (Exit -> St -> Prop) -> St -> Prop
 | .skip,Q,st=>Q .normal st
 | .bn d ops ks,Q,st=>wJ P d (fun s=>Q .normal (s.ch ks)) ops st
 | .hX un uv ops ks,Q,st=>((un.all fun p=>jh ops p.1 || jh ops p.2) = true /\ (uv.all fun p=>!(lj ops p.1 || lj ops p.2) || jh ops p.1 || jh ops p.2) = true) /\ lh P (fun s=>Q .normal (s.ch ks)) ops st
 | .jP so ops ks,Q,st=>lf P (fun s=>Q .normal (s.ch ks)) so ops st
 | .seq a b,Q,st=>pw P a (jo (pw P b Q) Q) st
 | .cond c a b,Q,st=>match (st.get c).strip with
   | .bool x=>(st.get c).ax = true /\ (x = true -> pw P a Q st) /\ (x = false -> pw P b Q st)
   | _=>False
 | .block id c,Q,st=>pw P c (oz id Q) st
 | .loop c,Q,st=>∃ (ι : Type) (C : ι -> St) (μ : ι -> Nat) (i : ι),je st (C i) /\ ∀ i,pw P c (jo (fun s=>∃ i',je s (C i') /\ μ i' < μ i) Q) (C i)
 | .exit id,Q,st=>Q (.exit id) st
 | .ret,Q,st=>Q .ret st
 | .wk c,Q,st=>∃ st',je st st' /\ pw P c Q st'
 | .fz t c,Q,st=>match st.sl t with
   | .ptr b sz i o=>match st.bx b with
     | some (.row _ eT es)=>sz = eT /\ i < es.length /\ pw P c Q ⟨st.n,aA st.sl t (.ep (es.getD i .cX) o),aA st.bx b none⟩
     | _=>False
   | _=>False
 | .rangeFunc g ps x y,Q,st=>match (st.get g).strip with
   | .fn (.func gf) caps=>(st.get g).ax = true /\ ∀ b,st.bx b = none -> aw P gf (.yl b :: caps) (aA st.bx b (some (.loop none ps (te x y) st.n st.sl))) fun _ bx' =>
    (bx' b = some (.loop none ps (te x y) st.n st.sl) /\ Q .normal ⟨st.n,st.sl,aA bx' b none⟩) \/
    (bx' b = some (.loop (some .ret) ps (te x y) st.n st.sl) /\ Q .ret ⟨st.n,st.sl,aA bx' b none⟩) \/
    (∃ id,bx' b = some (.loop (some (.exit id)) ps (te x y) st.n st.sl) /\ Q (.exit id) ⟨st.n,st.sl,aA bx' b none⟩)
   | _=>False
 | .raw c,Q,st=>∀ (M : dP) (ro : Option Nat),qb P M ro c Q st
 | .bad,_,_=>False
section
variable {P : Program}
theorem A7 {w : World} {a : Act} {dst : Option Tmp} {type : TypeId} {pos : String} {after : Array Edge} {guard : Option (Nat × Bool)} {c : Call} {f : Operand} (hc : c.callee = .value f) {k : Nat}
 (hf : a.eval f = .func (.yield k) #[] #[]) : (execOp a.eval ⟨dst,.call c,type,pos,after,guard⟩).run P w = (Instr.yield k (c.args.map a.eval)).run P w:=by
 obtain ⟨callee,args,ts⟩:=c
 subst hc
 simp [execOp,resolve,Deferred.ofValue,invoke,hf]
theorem yL {ro : Option Nat} {n : Nat} {β : Beta} {M : dP} {w : World} {o : Oper} {st : St} {a : Act} {K : St -> Prop} {K' : Act -> World -> Prop} {Q : Exit -> Act -> World -> Prop} {b : Nat} {vs : List V} (hy : yieldOf st false o.op = some (b,vs)) {po : bO} (hpo : po.op = o.op) (hpd : po.d = o.dst)
 (h : qj P po K st b vs) (hr : Rs P β M st a w) (hK : gQ P β M st w K K') : o.wpIn (rf ro) n P a w K' Q:=by
 obtain ⟨pg,hd,iR⟩:=h
 rw [hpo] at pg
 rw [hpd] at hd iR
 obtain ⟨dst,op,type,pos,after,guard⟩:=o
 simp only at hy pg hd iR
 unfold yieldOf at hy
 split at hy
 ·rename_i f args ts
  simp only [Bool.false_eq_true,if_false] at hy
  split at hy
  ·rename_i b' hs
   simp only [Option.some.injEq,Prod.mk.injEq] at hy
   obtain ⟨rfl,rfl⟩:=hy
   obtain ⟨h1,h2⟩:=pg
   have rfv:=hr.get f
   rw [aF h1 hs] at rfv
   generalize hu : a.eval f = u at rfv
   cases rfv with
   | yl b k hb =>
     have mf : ∀ (i : Nat) (c : V),(args.toList.map fun x=>(st.get x).strip)[i]? = some c -> aP β w (Fz β M st.bx w) c ((args.map a.eval).getD i undef):=by
      intro i c hc
      simp only [List.getElem?_map,Array.getElem?_toList,Option.map_eq_some_iff] at hc
      obtain ⟨x,hx,rfl⟩:=hc
      rw [aR (h2 x (by simpa using Array.mem_of_getElem? hx))]
      have e : (args.map a.eval).getD i undef = a.eval x:=by
       have h5 : i < args.size:=(Array.getElem?_eq_some_iff.1 hx).1
       have:=(Array.getElem?_eq_some_iff.1 hx).2
       simp [h5,this]
      rw [e]
      exact hr.get x
     obtain ⟨fn,tmps,assign,body,dS,A8⟩:=iR (n - 1) β M w (args.map a.eval) k hb hr.ok hr.gl (by simp) mf
     refine ⟨fun _ _=>trivial,?_⟩
     rw [Oper.semAt_eq _ _ _ (fun c hc=>by cases hc),A7 rfl hu]
     show Oper.uponIn _ _ _ _ _ _ _ ((Instr.yield k (args.map a.eval)).run P w)
     rw [dS,Oper.uponIn_round]
     refine ⟨fun hdp=>by simp [rf,Fence.wide] at hdp,?_⟩
     refine RoundIn.mono (show RoundIn (rf ro) (n - 1) P k fn tmps assign body w _ from A8) ?_
     rintro e w' ⟨v,r,bx',β',rfl,hk,cY,ja,bN⟩
     exact hK _ _ _ _ hk ((hr.step cY ja).put (by cases dst <;> exact hd) bN) (by cases dst <;> exact ja)
  ·cases hy
 ·cases hy
theorem tf (d : Bool) (o : Oper) (K : St -> Prop) (st : St) : aH P d { dst:=o.dst,op:=o.op,type:=0,pos:="",after:=#[],guard:=none } K st = aH P d o K st:=rfl
theorem wK (st : St) (o : Op) : yieldOf st true o = none:=by
 unfold yieldOf
 split <;> simp
theorem kH {d : Bool} {ops : Array Oper} {o : Oper} {K : St -> Prop} {st : St} (hd : d = true) (h : eZ P d (aB ops o) K st) : bE P d ops o K st:=by
 subst hd
 unfold eZ at h
 rw [wK] at h
 simp only at h
 unfold aB at h
 unfold bE
 cases hg : o.guard with
 | none=>simpa [hg,bO.oper,tf] using h
 | some gw =>
   obtain ⟨g,want⟩:=gw
   simp only [hg] at h
   cases yk : (ops[g]?).bind (·.dst) with
   | none =>
     simp only [yk] at h
     simp [bO.oper,aH,bU] at h
   | some s =>
     simp only [yk] at h
     simp only [dQ,yk]
     split at h
     ·rename_i c hs
      simp only [hs]
      split at h
      ·exact h
      ·rcases h with h | h
       ·exact h
       ·exact absurd h.1 (by simp)
     ·exact h.elim
theorem LQ (bx bx' : aa) (l : List V) : l.map (dA bx bx' 0) = l:=by
 rw [List.map_congr_left (g:=id) (fun a _=>by cases a <;> rfl)]; simp
theorem LR (l : List UInt8) : (l.map dI).all yu = true:=by
 rw [List.all_map]
 exact List.all_eq_true.2 fun x _=>rfl
theorem It (l : List UInt8) : (l.map dI).map toByte = l:=by
 rw [List.map_map]
 exact (List.map_congr_left fun b _=>by simp [dI,toByte]).trans (List.map_id l)
theorem Iu {β : Beta} {M : dP} {w : World} {st : St} {a : Act} {dst : Option Tmp} {s t type : TypeId} {x : Operand} {pos : String} {after : Array Edge} {guard : Option (Nat × Bool)} {K' : Act -> World -> Prop} {Q : Exit -> Act -> World -> Prop} (hr : Rs P β M st a w)
 {K : St -> Prop} (h : Is P (bu P s) s t (st.get x) dst K st) (hK : gQ P β M st w K K') : (Oper.mk dst (.convert s t x) type pos after guard).wp P a w K' Q:=by
 unfold Is at h
 split at h
 ·rename_i e hs
  split at h
  ·rename_i b sz o n hx
   obtain ⟨ty,l,hb,he,ht,rfl,rfl,rfl,hd,hk⟩:=h
   have jB : cj st.bx (aA st.bx b none):=fun c=>by
    by_cases hc : c = b
    ·subst hc; exact .inl (af _ _ _)
    ·exact .inr (.inl (ae _ _ hc))
   have bN:=kX hr.ok jB 1 _ _ (hr.get x)
   rw [hx] at bN
   have hf : dA st.bx (aA st.bx b none) 1 (.own b 1 0 l.length) = .sl 1 (l.map dI):=by
    have e1 : List.take l.length (l.map dI) = l.map dI:=List.take_of_length_le (by simp)
    have e2:=LQ st.bx (aA st.bx b none) (l.map dI)
    simp [dA,hb,af,e1,e2]
   rw [hf] at bN
   obtain ⟨v,dS,hv⟩:=od (P:=P) (s:=s) (d:=t) (fun e' hh=>by rw [hs] at hh; cases hh.1) (by simp only [jT,hs,ht,V.strip]; exact ⟨rfl,he,trivial,LR l⟩) bN
   simp only [jT,hs,ht,V.strip,It] at hv
   obtain ⟨q,rfl,rfl⟩:=hv.dW
   unfold Oper.wp execOp
   simp only [Sem.run_bind,dS,Result.andThen_ok,Sem.run_pure]
   exact hK.put hr hd (.str q) hk
  ·rename_i hx
   obtain ⟨he,ht,hd,hk⟩:=h
   have bN:=hr.get x
   rw [hx] at bN
   obtain ⟨v,dS,hv⟩:=od (P:=P) (s:=s) (d:=t) (fun e' hh=>by rw [hs] at hh; cases hh.1) (by simp only [jT,hs,ht,V.strip]; exact ⟨rfl,he⟩) bN
   simp only [jT,hs,ht,V.strip] at hv
   unfold Oper.wp execOp
   simp only [Sem.run_bind,dS,Result.andThen_ok,Sem.run_pure]
   exact hK.put hr hd hv hk
  ·exact h.elim
 ·exact LD hr h hK
theorem EZ {β : Beta} {M : dP} {bx : aa} {w : World} (h : eu β M bx w) {b : Nat} {ty : TypeId} {n : Nat} {cs : List V} (hb : bx b = some (.row ty n [.agg cs])) (hn : cs.length = n) (hc : ∀ c,c ∈ cs -> c.cells = [c]) (eK : 0 < n) :
 eu β M (aA bx b (some (.row ty 1 cs))) w /\ Tr β bx w β (aA bx b (some (.row ty 1 cs))) w:=by
 have eS : ∀ b',aA bx b (some (.row ty 1 cs)) b' ≠ none ↔ bx b' ≠ none:=by
  intro b'
  by_cases e : b' = b
  ·subst e; simp [af,hb]
  ·rw [ae _ _ e]
 have hF : ∀ k',Fz β M bx w k' -> Fz β M (aA bx b (some (.row ty 1 cs))) w k' /\ w.heap[k']? = w.heap[k']? :=
  fun k' hk=>⟨⟨hk.1,hk.2.1,fun b' aQ he=>hk.2.2 b' ((eS b').1 aQ) he⟩,rfl⟩
 constructor
 ·refine ⟨h.fin,h.mlt,fun b' box aQ=>?_,fun b1 b2 k' h1 h2 h3 h4=>h.inj b1 b2 k' ((eS _).1 h1) ((eS _).1 h2) h3 h4⟩
  by_cases e : b' = b
  ·subst e
   rw [af] at aQ
   injection aQ with aQ
   subst aQ
   rcases h.live b' _ hb with ⟨_,h1⟩ | ⟨k,h1,h2,h3,cur,fr,g1,g2,g3,g4⟩
   ·simp [bI.empty] at h1
   ·obtain ⟨_,a2⟩:=g4 0 _ rfl
    refine .inr ⟨k,h1,h2,h3,cur,fr,g1,g2,by simpa [hn] using g3,fun i c hi=>?_⟩
    have u4:=hc c (List.mem_of_getElem? hi)
    refine ⟨by rw [u4]; rfl,fun j c' hj=>?_⟩
    rw [u4] at hj
    rcases j with _ | j
    ·simp at hj
     subst hj
     obtain ⟨b1,b2⟩:=a2 i c hi
     rw [Nat.zero_mul,Nat.zero_add] at b1 b2
     rw [Nat.mul_one,Nat.add_zero]
     exact ⟨b1,b2.mono (fun _ _ h=>h) hF (fun _ _ h=>h)⟩
    ·simp at hj
  ·rw [ae _ _ e] at aQ
   rcases h.live b' box aQ with h1 | ⟨k',h1,h2,h3,h4⟩
   ·exact .inl h1
   ·exact .inr ⟨k',h1,h2,h3,bh h4 rfl (fun _ _ h=>h) hF (fun _ _ h=>h)⟩
 ·exact ⟨rfl,rfl,rfl,fun _=>Nat.le_refl _,fun hm=>Mk.kh hm (fun oO e=>by
   injection e with e
   injection e with _ e _
   cases e),Nat.le_refl _,fun _ _ _=>rfl,fun _ _ h=>h,fun _ _ h=>h,fun b' k' h1 h2=>.inl ⟨b',(eS b').1 h1,h2⟩⟩
theorem Iv {β : Beta} {M : dP} {w : World} {st : St} {a : Act} {dst : Option Tmp} {t type : TypeId} {x : Operand} {lo : Option Operand} {pos : String} {after : Array Edge} {guard : Option (Nat × Bool)} {K' : Act -> World -> Prop} {Q : Exit -> Act -> World -> Prop} (hr : Rs P β M st a w)
 {K : St -> Prop} (h : LP P (bu P t) (st.get x) (lo.map st.get) dst K st) (hK : gQ P β M st w K K') : (Oper.mk dst (.slice t x lo none none) type pos after guard).wp P a w K' Q:=by
 unfold LP at h
 split at h
 ·rename_i n e b sz i o c l hk hx wz
  obtain ⟨ty,cs,hb,rfl,rfl,rfl,hlen,pQ,ga,WY,gT,hc,h0,h1,hd,jm⟩:=h
  have rx:=hr.get x
  rw [hx] at rx
  generalize hux : a.eval x = ux at rx
  cases rx with
  | ptr _ _ _ _ k bL =>
    obtain ⟨dt,ED,cur,fr,aV,iG,hle,aq⟩:=eB hr.ok hb bL
    have a1:=cu (u:=lo.map a.eval) wz hc (by
     cases lo with
     | none=>exact .inl ⟨rfl,rfl⟩
     | some y=>exact .inr ⟨_,_,rfl,rfl,hr.get y⟩)
    obtain ⟨inf,yf,lM⟩:=fL ga
    have dS : (Instr.sliceAt t (.pointer (some ⟨k,0 * sz + 0,none⟩)) (lo.map a.eval) none none).run P w = .ok (.slice (some ⟨k,l.toNat * 1,none⟩) (sz - l.toNat) (sz - l.toNat)) w:=by
     unfold Instr.sliceAt sizeOf typeInfo Instr.sureAddr
     have c9:=jb (P:=P) (w:=w) (b:=false) (len:=sz) (cap:=sz) (lo:=lo.map a.eval) (hi:=none) (l:=l) (h:=(sz : Int)) a1 (.inl ⟨rfl,rfl⟩) h0 (by omega) (Int.le_refl _) (Nat.le_refl _)
     rw [Int.toNat_natCast] at c9
     have bp : ¬ sz = l.toNat:=by omega
     have wx : (⟨k,0,none⟩ : Addr).add (l.toNat * inf.size) = ⟨k,l.toNat * inf.size,none⟩:=by
      unfold Addr.add
      by_cases h : l.toNat * inf.size = 0 <;> simp [h]
     have Dr : inf.size = 1:=by first | exact lM.trans WY | exact lM.symm.trans WY | omega
     rw [Dr,Nat.mul_one] at wx
     simp [run_underlying (oW hk),c9,yf,bp,wx,Dr]
    unfold Oper.wp execOp
    simp only [Sem.run_bind,hux,Option.map_none,dS,Result.andThen_ok,Sem.run_pure]
    obtain ⟨h3,h4⟩:=EZ hr.ok hb hlen pQ (by omega)
    refine hK _ _ _ _ jm ((hr.step h3 h4).put (st:={ st with bx:=_ }) (by cases dst <;> exact hd) ?_) (by cases dst <;> exact h4)
    have bV : cur.size >= sz:=by simpa using hle
    exact aP.own (β:=β) (w:=w) (F:=Fz β M (aA st.bx b (some (.row ty 1 cs))) w) b 1 l.toNat (sz - l.toNat) k (sz - l.toNat) cur.size _ bL (bJ aV) (by omega) (Nat.le_refl _) (by unfold maxLen; omega)
 ·exact h.elim
theorem jY {ro : Option Nat} {n : Nat} {β : Beta} {M : dP} {w : World} {ops : Array Oper} {o : Oper} {i : Nat} {st : St} {a : Act} {K : St -> Prop} {K' : Act -> World -> Prop} {Q : Exit -> Act -> World -> Prop} (hi : ops[i]? = some o) (h : eZ P false (aB ops o) K st) (hr : Rs P β M st a w) (hK : gQ P β M st w K K') :
 wpOpIn (rf ro) n P ops Q i K' a w:=by
 unfold eZ at h
 cases hy : yieldOf st false (aB ops o).op with
 | some p =>
   obtain ⟨b,vs⟩:=p
   simp only [hy] at h
   unfold wpOpIn
   simp only [hi]
   unfold aB at h hy
   cases hg : o.guard with
   | none =>
     simp only [hg] at h hy
     have hw : Region.wanted o (yielded ops a.tmps) = true:=by simp [Region.wanted,hg]
     rw [if_pos hw]
     exact yL hy rfl rfl h hr hK
   | some gw =>
     obtain ⟨g,want⟩:=gw
     simp only [hg] at h hy
     cases yk : (ops[g]?).bind (·.dst) with
     | none=>simp [yk,yieldOf] at hy
     | some s =>
       simp only [yk] at h hy
       split at h
       ·rename_i c hs
        have hw:=mW (ops:=ops) (o:=o) (wb:=((st.sl s).ax && (c == want))) hg (by simp only [dQ,yk,hs]) hr
        rw [hw]
        cases lN : ((st.sl s).ax && (c == want)) with
        | true =>
          simp only [if_true]
          exact yL hy rfl rfl (h.1 lN) hr hK
        | false =>
          simp only [Bool.false_eq_true,if_false]
          obtain ⟨hd,hk⟩:=h.2 lN
          exact ⟨fun _ _=>trivial,hK.put hr hd (.dead _) hk⟩
       ·exact h.elim
 | none =>
   simp only [hy] at h
   cases hg : o.guard with
   | none =>
     refine dN (d:=false) hi ?_ hr hK
     unfold aB at h
     unfold bE
     simpa [hg,bO.oper,tf] using h
   | some gw =>
     obtain ⟨g,want⟩:=gw
     unfold aB at h
     simp only [hg] at h
     cases yk : (ops[g]?).bind (·.dst) with
     | none =>
       simp only [yk] at h
       simp [bO.oper,aH,bU] at h
     | some s =>
       simp only [yk] at h
       split at h
       ·rename_i c hs
        have h' : dX P false ⟨o.dst,o.op,some (s,want),false⟩ ((st.sl s).ax && (c == want)) K st \/ p3 P false ⟨o.dst,o.op,some (s,want),false⟩ ((st.sl s).ax && (c == want)) K st:=by
         split at h
         ·exact .inl h
         ·exact h
        rcases h' with h | ⟨_,h1,h2⟩
        ·refine dN (d:=false) hi ?_ hr hK
         unfold bE
         simp only [hg,dQ,yk,hs]
         exact h
        ·unfold wpOpIn
         simp only [hi]
         have hw:=mW (ops:=ops) (o:=o) (wb:=((st.sl s).ax && (c == want))) hg (by simp only [dQ,yk,hs]) hr
         rw [hw]
         cases lN : ((st.sl s).ax && (c == want)) with
         | true =>
           simp only [if_true]
           have h3 : aH P false o K st:=h1 lN
           exact ph ro n (pj h3) (jW h3 hr hK)
         | false =>
           simp only [Bool.false_eq_true,if_false]
           obtain ⟨hd,hk⟩:=h2 lN
           exact ⟨fun _ _=>trivial,hK.put hr hd (.dead _) hk⟩
       ·exact h.elim
theorem A9 {q : bO} (h : q.fz = false) : q.jD = q:=by
 obtain ⟨d,op,g,fz⟩:=q
 simp only at h
 subst h
 rfl
theorem Fa {β : Beta} {w : World} {F : Nat -> Prop} {t : TypeId} {op : BinOp} {x y : V} {ux uy : Value} {d : Option Tmp} {K : St -> Prop} {st : St} (h : td (bu P t) op x y d K st) (rx : aP β w F x ux) (ry : aP β w F y uy) (ox oy : Operand) :
 aJ st d /\ ∃ c,(do eqGuard op t ox oy ux uy; binOp op t ux uy : Sem Value).run P w = .ok (.bool (Ir op c)) w /\ K (st.put d (wI op c)):=by
 have main : ∀ (A : Option Addr) (l cap : Nat) (e : TypeId),bu P t = .slice e -> (op = .eql \/ op = .neq) -> ux = .slice A l cap -> uy = .slice none 0 0 ->
  (do eqGuard op t ox oy ux uy; binOp op t ux uy : Sem Value).run P w = .ok (.bool (Ir op A.isNone)) w:=by
  rintro A l cap e hk cm rfl rfl
  have h3 : (Op.equal t (.slice A l cap) (.slice none 0 0)).run P w = .ok A.isNone w:=by
   unfold Op.equal Op.maxDepth
   rw [Op.equalIn,Sem.run_bind,run_underlying (bq hk),Result.andThen_ok]
   cases A <;> rfl
  have hg : (eqGuard op t ox oy (.slice A l cap) (.slice none 0 0)).run P w = .ok () w:=by rcases cm with rfl | rfl <;> rfl
  rw [Sem.run_bind,hg]
  rcases cm with rfl | rfl
  ·show (do pure (.bool (<- Op.equal t (.slice A l cap) (.slice none 0 0))) : Sem Value).run P w = _
   rw [Sem.run_bind,h3]; rfl
  ·show (do pure (.bool (!(<- Op.equal t (.slice A l cap) (.slice none 0 0)))) : Sem Value).run P w = _
   rw [Sem.run_bind,h3]; rfl
 generalize EY : bu P t = kk at h
 unfold td at h
 split at h
 ·rename_i e sz es
  have hk:=EY
  obtain ⟨cm,hd,h⟩:=h
  refine ⟨hd,?_⟩
  cases ry
  cases rx with
  | sl _ _ A cap u kz gT hA bV hc hr =>
    refine ⟨A.isNone,main _ _ _ _ hk cm rfl rfl,h _ fun wu=>?_⟩
    cases A with
    | none=>exact absurd rfl (hA wu)
    | some a=>rfl
 ·rename_i e b sz o n
  have hk:=EY
  obtain ⟨cm,hd,h⟩:=h
  refine ⟨hd,?_⟩
  cases ry
  cases rx with
  | nv=>exact ⟨true,main _ _ _ _ hk cm rfl rfl,h _ fun hn=>absurd hn (Nat.lt_irrefl 0)⟩
  | own=>exact ⟨false,main _ _ _ _ hk cm rfl rfl,h _ fun _=>rfl⟩
 ·rename_i e
  have hk:=EY
  obtain ⟨cm,hd,h⟩:=h
  refine ⟨hd,?_⟩
  cases ry
  cases rx
  exact ⟨true,main _ _ _ _ hk cm rfl rfl,h⟩
 ·exact h.elim
theorem yM {d : Bool} {ops : Array Oper} {o : Oper} {q : bO} (hq : q.jD = aB ops o) {K : St -> Prop} {st : St} (hd : d = true) (h : du P d q K st) : bE P d ops o K st:=by
 unfold du at h
 split at h
 ·rename_i hf
  rw [A9 hf] at hq
  rw [hq] at h
  exact kH hd h
 ·split at h
  ·rw [hd] at h; exact absurd h.1 (by simp)
  ·rw [hd] at h; exact absurd h.1 (by simp)
  ·rw [hd] at h; exact absurd h.1 (by simp)
  ·rw [hd] at h; exact absurd h.1 (by simp)
  ·rw [hd] at h; exact absurd h.1 (by simp)
  ·rw [if_pos hd,hq] at h
   exact kH hd h
  ·rw [hq] at h
   exact kH hd h
theorem va (st : St) : ∀ (ps : List (Nat × Operand)) (es : List V),(dM st es ps).length = es.length
 | [],es=>rfl
 | (i,x) :: ps,es=>by simp only [dM]; rw [va st ps]; simp
theorem wL {ro : Option Nat} {n : Nat} {β : Beta} {M : dP} {w : World} {ops : Array Oper} {o : Oper} {t : TypeId} {len : Nat} {parts : Array (Nat × Operand)} {qd : Option Tmp} {qg : Option (Tmp × Bool)} (h0 : aB ops o = ⟨qd,.buildSlice t len parts,qg,false⟩) {i : Nat} {st : St} {a : Act} {K : St -> Prop} {K' : Act -> World -> Prop} {Q : Exit -> Act -> World -> Prop} (hi : ops[i]? = some o)
 (h : BI P t len parts.toList qg qd K st) (hr : Rs P β M st a w) (hK : gQ P β M st w K K') : wpOpIn (rf ro) n P ops Q i K' a w:=by
 have plain : ∀ K1 : St -> Prop,ml P t len parts.toList qd (fun _=>True) st -> (∀ e z b,bu P t = .slice e -> aT P e = some z -> 0 < aE P e -> st.bx b = none -> K1 ((st.box b (some (.row e (aE P e) (dM st (List.replicate len (ofValue z)) parts.toList)))).put qd (.own b (aE P e) 0 len))) ->
  aH P false (bO.oper ⟨qd,.buildSlice t len parts,qg,false⟩) K1 st:=by
  intro K1 h1 h2
  unfold ml at h1
  unfold aH
  simp only [bU,Bool.false_eq_true,if_false,bO.oper]
  cases hk : bu P t with
  | slice e =>
    simp only [hk] at h1 ⊢
    cases hz : aT P e with
    | none=>simp only [hz] at h1
    | some z =>
      simp only [hz] at h1 ⊢
      obtain ⟨⟨g1,g2,g3,g4⟩,g5,g6,_⟩:=h1
      exact ⟨g1,g2,g3,g4,g5,g6,fun b hb=>h2 e z b hk hz g2 hb⟩
  | _=>simp only [hk] at h1
 have D7 : ∀ K2 : St -> Prop,ml P t len parts.toList qd K2 st -> ml P t len parts.toList qd (fun _=>True) st /\ ∀ e z,bu P t = .slice e -> aT P e = some z -> K2 (st.put qd (.sl (aE P e) (dM st (List.replicate len (ofValue z)) parts.toList))):=by
  intro K2 h1
  unfold ml at h1 ⊢
  cases hk : bu P t with
  | slice e =>
    simp only [hk] at h1 ⊢
    cases hz : aT P e with
    | none=>simp only [hz] at h1
    | some z =>
      simp only [hz] at h1 ⊢
      exact ⟨⟨h1.1,h1.2.1,h1.2.2.1,trivial⟩,fun e' z' he jZ=>by cases he; rw [hz] at jZ; cases jZ; exact h1.2.2.2⟩
  | _=>simp only [hk] at h1
 have fin : ∀ (e : TypeId) (z : Value) (b : Nat),0 < aE P e -> st.bx b = none -> K (st.put qd (.sl (aE P e) (dM st (List.replicate len (ofValue z)) parts.toList))) ->
  ∀ β' a' w',Rs P β' M ((st.box b (some (.row e (aE P e) (dM st (List.replicate len (ofValue z)) parts.toList)))).put qd (.own b (aE P e) 0 len)) a' w' -> Tr β st.bx w β' ((st.box b (some (.row e (aE P e) (dM st (List.replicate len (ofValue z)) parts.toList)))).put qd (.own b (aE P e) 0 len)).bx w' -> K' a' w':=by
  intro e z b hs hb hk β' a' w' cJ wM
  generalize wu : dM st (List.replicate len (ofValue z)) parts.toList = es at *
  have hlen : es.length = len:=by rw [<- wu,va]; simp
  have lI : je ((st.box b (some (.row e (aE P e) es))).put qd (.own b (aE P e) 0 len)) (st.put qd (.sl (aE P e) es)):=by
   have jB : cj (aA st.bx b (some (.row e (aE P e) es))) st.bx:=by
    intro b'
    by_cases e : b' = b
    ·subst e; exact .inl hb
    ·exact .inr (.inl (by rw [ae _ _ e]))
   have e0 : es.map (dA (aA st.bx b (some (bI.row e (aE P e) es))) st.bx 0) = es:=by
    rw [List.map_congr_left (g:=id) (fun v _=>by cases v <;> rfl)]; simp
   cases qd with
   | none=>exact ⟨Nat.le_refl _,fun t=>.inr (.inl rfl),jB⟩
   | some d =>
     refine ⟨Nat.le_refl _,fun t=>?_,jB⟩
     by_cases ht : t = d
     ·subst ht
      refine .inr (.inr (.inl ⟨1,?_⟩))
      simp only [St.put,St.box,af,dA,hb]
      rw [if_pos ⟨trivial,hs,by omega⟩,List.drop_zero,List.take_of_length_le (by omega)]
      simp
     ·refine .inr (.inl ?_)
      simp only [St.put,St.box]
      rw [ae _ _ ht,ae _ _ ht]
  have oP : (st.put qd (.sl (aE P e) es)).bx = st.bx:=by cases qd <;> rfl
  have mh : ((st.box b (some (.row e (aE P e) es))).put qd (.own b (aE P e) 0 len)).bx = aA st.bx b (some (.row e (aE P e) es)):=by cases qd <;> rfl
  refine hK _ _ _ _ hk (lI.rs cJ) ?_
  rw [oP]
  rw [mh] at wM
  have:=lI.bx.tr (β:=β') (w:=w')
  rw [oP,mh] at this
  exact wM.trans this
 cases qg with
 | none =>
   obtain ⟨h1,h2⟩:=D7 _ h
   have key : eZ P false (aB ops o) (fun s=>∃ e z b,bu P t = .slice e /\ aT P e = some z /\ 0 < aE P e /\ st.bx b = none /\ s = (st.box b (some (.row e (aE P e) (dM st (List.replicate len (ofValue z)) parts.toList)))).put qd (.own b (aE P e) 0 len)) st:=by
    rw [h0]
    unfold eZ
    simp only [yieldOf]
    exact plain _ h1 fun e z b g1 g2 g3 g4=>⟨e,z,b,g1,g2,g3,g4,rfl⟩
   refine jY hi key hr ?_
   rintro st' β' a' w' ⟨e,z,b,g1,g2,g3,g4,rfl⟩ cJ wM
   exact fin e z b g3 g4 (h2 e z g1 g2) β' a' w' cJ wM
 | some sw =>
   obtain ⟨s,wt⟩:=sw
   simp only [BI] at h
   split at h
   ·rename_i c hs
    have key : eZ P false (aB ops o) (fun st'=>(((st.sl s).ax && (c == wt)) = true /\ ∃ e z b,bu P t = .slice e /\ aT P e = some z /\ 0 < aE P e /\ st.bx b = none /\ st' = (st.box b (some (.row e (aE P e) (dM st (List.replicate len (ofValue z)) parts.toList)))).put qd (.own b (aE P e) 0 len)) \/
     (((st.sl s).ax && (c == wt)) = false /\ st' = st.put qd (.dead .cX))) st:=by
     rw [h0]
     unfold eZ
     simp only [yieldOf,hs,bU,Bool.false_eq_true,if_false]
     exact .inr ⟨rfl,fun hw=>plain _ (D7 _ (h.1 hw)).1 fun e z b g1 g2 g3 g4=>.inl ⟨hw,e,z,b,g1,g2,g3,g4,rfl⟩,fun hw=>⟨(h.2 hw).1,.inr ⟨hw,rfl⟩⟩⟩
    refine jY hi key hr ?_
    rintro st' β' a' w' (⟨hw,e,z,b,g1,g2,g3,g4,rfl⟩ | ⟨hw,rfl⟩) cJ wM
    ·exact fin e z b g3 g4 ((D7 _ (h.1 hw)).2 e z g1 g2) β' a' w' cJ wM
    ·exact hK _ _ _ _ (h.2 hw).2 cJ wM
   ·exact h.elim
theorem Fb {ro : Option Nat} {n : Nat} {β : Beta} {M : dP} {w : World} {ops : Array Oper} {o : Oper} {q : bO} (hq : q.jD = aB ops o) {i : Nat} {st : St} {a : Act} {K : St -> Prop} {K' : Act -> World -> Prop} {Q : Exit -> Act -> World -> Prop} (hi : ops[i]? = some o) (h : du P false q K st) (hr : Rs P β M st a w) (hK : gQ P β M st w K K') :
 wpOpIn (rf ro) n P ops Q i K' a w:=by
 unfold du at h
 split at h
 ·rename_i hf
  rw [A9 hf] at hq
  rw [hq] at h
  exact jY hi h hr hK
 ·split at h
  ·rename_i e x cm
   obtain ⟨_,hg,iq,hd,De,hk⟩:=h
   obtain ⟨qd,qop,qg,qf⟩:=q
   simp only at cm hg hd hk
   subst cm hg
   have h0 : aB ops o = ⟨qd,.box e x,none,false⟩:=hq.symm
   have key : eZ P false (aB ops o) (fun s=>∃ b,st.bx b = none /\ s = (st.box b (some (.row e (aE P e) [st.get x]))).put qd (.ptr b (aE P e) 0 0)) st:=by
    rw [h0]
    unfold eZ
    simp only [yieldOf]
    unfold aH
    simp only [bU,Bool.false_eq_true,if_false,bO.oper]
    exact ⟨iq,hd,De,fun b hb=>⟨b,hb,rfl⟩⟩
   refine jY hi key hr ?_
   rintro st' β' a' w' ⟨b,hb,rfl⟩ cJ wM
   have hlen : (st.get x).cells.length = aE P e:=iq.2.2
   have lI : je ((st.box b (some (.row e (aE P e) [st.get x]))).put qd (.ptr b (aE P e) 0 0)) (st.put qd (.ep (st.get x) 0)):=by
    have jB : cj (aA st.bx b (some (.row e (aE P e) [st.get x]))) st.bx:=by
     intro b'
     by_cases e : b' = b
     ·subst e; exact .inl hb
     ·exact .inr (.inl (by rw [ae _ _ e]))
    have e0 : dA (aA st.bx b (some (bI.row e (aE P e) [st.get x]))) st.bx 0 (st.get x) = st.get x:=by cases st.get x <;> rfl
    cases qd with
    | none=>exact ⟨Nat.le_refl _,fun t=>.inr (.inl rfl),jB⟩
    | some d =>
      refine ⟨Nat.le_refl _,fun t=>?_,jB⟩
      by_cases ht : t = d
      ·subst ht
       refine .inr (.inr (.inl ⟨1,?_⟩))
       simp only [St.put,St.box,af,dA,hb]
       simp [e0]
      ·refine .inr (.inl ?_)
       simp only [St.put,St.box]
       rw [ae _ _ ht,ae _ _ ht]
   have oP : (st.put qd (.ep (st.get x) 0)).bx = st.bx:=by cases qd <;> rfl
   have mh : ((st.box b (some (.row e (aE P e) [st.get x]))).put qd (.ptr b (aE P e) 0 0)).bx = aA st.bx b (some (.row e (aE P e) [st.get x])):=by cases qd <;> rfl
   refine hK _ _ _ _ hk (lI.rs cJ) ?_
   rw [oP]
   rw [mh] at wM
   have:=lI.bx.tr (β:=β') (w:=w')
   rw [oP,mh] at this
   exact wM.trans this
  ·rename_i t len parts cm
   obtain ⟨_,hk⟩:=h
   obtain ⟨qd,qop,qg,qf⟩:=q
   simp only at cm hk
   subst cm
   exact wL hq.symm hi hk hr hK
  ·rename_i bop t x y t' cm
   obtain ⟨_,hg,hk⟩:=h
   obtain ⟨qd,qop,qg,qf⟩:=q
   simp only at cm hg hk
   subst cm hg
   have h0 : aB ops o = ⟨qd,.binOp bop t x y t',none,false⟩:=hq.symm
   obtain ⟨odst,oop,otype,opos,oafter,oguard⟩:=o
   have h1 : odst = qd /\ oop = .binOp bop t x y t' /\ oguard = none:=by
    unfold aB at h0
    cases oguard with
    | none =>
      simp only [bO.mk.injEq] at h0
      exact ⟨h0.1,h0.2.1,rfl⟩
    | some gw =>
      obtain ⟨g,wnt⟩:=gw
      simp only at h0
      split at h0
      ·simp only [bO.mk.injEq] at h0
       exact absurd h0.2.2.1 (by simp)
      ·simp only [bO.mk.injEq] at h0
       exact absurd h0.2.1 (by simp)
   obtain ⟨rfl,rfl,rfl⟩:=h1
   obtain ⟨hd,c,dS,jm⟩:=Fa hk (hr.get x) (hr.get y) x y
   unfold wpOpIn
   simp only [hi]
   rw [if_pos (show Region.wanted _ (yielded ops a.tmps) = true by simp [Region.wanted])]
   refine ph ro n (fun c hc=>by cases hc) ?_
   unfold Oper.wp
   have R2 : (execOp a.eval ⟨odst,.binOp bop t x y t',otype,opos,oafter,none⟩).run P w = .ok (.value (.bool (Ir bop c))) w:=by
    show (do pure (Next.value (<- (do eqGuard bop t x y (a.eval x) (a.eval y); binOp bop t (a.eval x) (a.eval y) : Sem Value))) : Sem Next).run P w = _
    rw [Sem.run_bind,dS]
    simp only [Result.andThen_ok,Sem.run_pure]
   rw [R2]
   exact hK.put hr hd (.bool _) jm
  ·rename_i s t x cm
   obtain ⟨_,hg,hk⟩:=h
   obtain ⟨qd,qop,qg,qf⟩:=q
   simp only at cm hg hk
   subst cm hg
   have h0 : aB ops o = ⟨qd,.convert s t x,none,false⟩:=hq.symm
   obtain ⟨odst,oop,otype,opos,oafter,oguard⟩:=o
   have h1 : odst = qd /\ oop = .convert s t x /\ oguard = none:=by
    unfold aB at h0
    cases oguard with
    | none =>
      simp only [bO.mk.injEq] at h0
      exact ⟨h0.1,h0.2.1,rfl⟩
    | some gw =>
      obtain ⟨g,wnt⟩:=gw
      simp only at h0
      split at h0
      ·simp only [bO.mk.injEq] at h0
       exact absurd h0.2.2.1 (by simp)
      ·simp only [bO.mk.injEq] at h0
       exact absurd h0.2.1 (by simp)
   obtain ⟨rfl,rfl,rfl⟩:=h1
   unfold wpOpIn
   simp only [hi]
   rw [if_pos (show Region.wanted _ (yielded ops a.tmps) = true by simp [Region.wanted])]
   exact ph ro n (fun c hc=>by cases hc) (Iu hr hk hK)
  ·rename_i t x lo cm
   obtain ⟨_,hg,hk⟩:=h
   obtain ⟨qd,qop,qg,qf⟩:=q
   simp only at cm hg hk
   subst cm hg
   have h0 : aB ops o = ⟨qd,.slice t x lo none none,none,false⟩:=hq.symm
   obtain ⟨odst,oop,otype,opos,oafter,oguard⟩:=o
   have h1 : odst = qd /\ oop = .slice t x lo none none /\ oguard = none:=by
    unfold aB at h0
    cases oguard with
    | none =>
      simp only [bO.mk.injEq] at h0
      exact ⟨h0.1,h0.2.1,rfl⟩
    | some gw =>
      obtain ⟨g,wnt⟩:=gw
      simp only at h0
      split at h0
      ·simp only [bO.mk.injEq] at h0
       exact absurd h0.2.2.1 (by simp)
      ·simp only [bO.mk.injEq] at h0
       exact absurd h0.2.1 (by simp)
   obtain ⟨rfl,rfl,rfl⟩:=h1
   unfold wpOpIn
   simp only [hi]
   rw [if_pos (show Region.wanted _ (yielded ops a.tmps) = true by simp [Region.wanted])]
   exact ph ro n (fun c hc=>by cases hc) (Iv hr hk hK)
  ·rw [if_neg (by decide),hq] at h
   obtain ⟨st',lI,h⟩:=h
   exact jY hi h (lI.rs hr) (fun st2 β' a' w' hk cJ ht=>hK _ _ _ _ hk cJ (lI.bx.tr.trans ht))
  ·rw [hq] at h
   exact jY hi h hr hK
theorem vb {d : Bool} {q : bO} {K K' : St -> Prop} {st : St} (hm : ∀ s,K s -> K' s) (h : eZ P d q K st) : eZ P d q K' st:=by
 have hy : ∀ b vs,qj P q K st b vs -> qj P q K' st b vs:=fun b vs h=>by
  obtain ⟨h1,h2,h3⟩:=h
  refine ⟨h1,h2,fun n β M w us k g1 g2 g3 g4 g5=>?_⟩
  obtain ⟨fn,tmps,assign,body,e1,e2⟩:=h3 n β M w us k g1 g2 g3 g4 g5
  refine ⟨fn,tmps,assign,body,e1,e2.mono ?_⟩
  rintro e w' ⟨v,r,bx',β',rfl,jM,h3⟩
  exact ⟨v,r,bx',β',rfl,hm _ jM,h3⟩
 unfold eZ at h ⊢
 split at h
 ·rename_i b vs hyo
  split at h
  ·exact hy _ _ h
  ·split at h
   ·exact ⟨fun hw=>hy _ _ (h.1 hw),fun hw=>⟨(h.2 hw).1,hm _ (h.2 hw).2⟩⟩
   ·exact h.elim
 ·split at h
  ·exact gB hm h
  ·split at h
   ·have hg : ∀ wb,dX P d q wb K st -> dX P d q wb K' st:=fun wb h=>by
     unfold dX at h ⊢
     split at h
     ·rename_i he
      rw [if_pos he]
      exact ⟨h.1,h.2.1,hm _ h.2.2⟩
     ·rename_i he
      rw [if_neg he]
      split at h
      ·split at h
       ·obtain ⟨h1,r,h2,h3⟩:=h
        exact ⟨h1,r,h2,hm _ h3⟩
       ·exact h.elim
      ·exact ⟨fun hw=>gB hm (h.1 hw),fun hw=>⟨(h.2 hw).1,hm _ (h.2 hw).2⟩⟩
    split at h
    ·rename_i he; rw [if_pos he]; exact hg _ h
    ·rename_i he
     rw [if_neg he]
     rcases h with h | ⟨h1,h2,h3⟩
     ·exact .inl (hg _ h)
     ·exact .inr ⟨h1,fun hw=>gB hm (h2 hw),fun hw=>⟨(h3 hw).1,hm _ (h3 hw).2⟩⟩
   ·exact h.elim
theorem je.refl (st : St) : je st st:=⟨Nat.le_refl _,fun _=>.inr (.inl rfl),cj.refl _⟩
theorem D8 {d : Bool} {ops : Array Oper} {o : Oper} {q : bO} (hq : q.jD = aB ops o) (hc : qE o = true) {K : St -> Prop} {st : St} (h : du P d q K st) : ∃ st',je st st' /\ eZ P d (aB ops o) K st':=by
 have cm : (aB ops o).op = o.op \/ (aB ops o).op = .ready 0:=by
  unfold aB
  split
  ·exact .inl rfl
  ·split
   ·exact .inl rfl
   ·exact .inr rfl
 have R4 : q.op = (aB ops o).op:=by rw [<- hq]; rfl
 unfold du at h
 split at h
 ·rename_i hf
  rw [A9 hf] at hq
  rw [hq] at h
  exact ⟨st,je.refl st,h⟩
 ·split at h
  ·rename_i e1
   rw [R4] at e1
   rcases cm with cm | cm <;> rw [cm] at e1
   ·unfold qE at hc; rw [e1] at hc; simp at hc
   ·cases e1
  ·rename_i e1
   rw [R4] at e1
   rcases cm with cm | cm <;> rw [cm] at e1
   ·unfold qE at hc; rw [e1] at hc; simp at hc
   ·cases e1
  ·rename_i e1
   rw [R4] at e1
   rcases cm with cm | cm <;> rw [cm] at e1
   ·unfold qE at hc; rw [e1] at hc; simp at hc
   ·cases e1
  ·rename_i e1
   rw [R4] at e1
   rcases cm with cm | cm <;> rw [cm] at e1
   ·unfold qE at hc; rw [e1] at hc; simp at hc
   ·cases e1
  ·rename_i e1
   rw [R4] at e1
   rcases cm with cm | cm <;> rw [cm] at e1
   ·unfold qE at hc; rw [e1] at hc; simp at hc
   ·cases e1
  ·rw [hq] at h
   split at h
   ·exact ⟨st,je.refl st,h⟩
   ·exact h
  ·rw [hq] at h; exact ⟨st,je.refl st,h⟩
theorem AA {ops : Array Oper} {k : Nat} (h : k < ops.size) : (jX ops).drop k = lD ops k :: (jX ops).drop (k + 1):=by
 have hl : k < (jX ops).length:=by simp [jX,h]
 rw [List.drop_eq_getElem_cons hl]
 simp [jX]
def yN (P : Program) (ops : Array Oper) : Nat -> Oper -> (St -> Prop) -> St -> Prop:=fun _ o K st=>∃ st',je st st' /\ eZ P false (aB ops o) K st'
theorem o9 {ops : Array Oper} : BH (yN P ops):=fun _ _ _ _ _ hm ⟨st',hc,h⟩=>⟨st',hc,vb hm h⟩
theorem LS {ops : Array Oper} {i : Nat} (h : lD ops i = true) {o : Oper} (ho : ops[i]? = some o) : qE o = true:=by
 unfold lD at h
 rw [ho] at h
 simp only [Bool.and_eq_true] at h
 exact h.1
theorem mn {ops : Array Oper} {K : St -> Prop} : ∀ (l : List Oper) (ql : List bO) (k : Nat) (st : St),(∀ j,l[j]? = ops[k + j]?) -> k + l.length = ops.size -> ql.map bO.jD = l.map (aB ops) -> lf P K ((jX ops).drop k) ql st -> jv P ops (yN P ops) K l k st
 | [],[],k,st,_,_,_,h=>by
   have : lf P K ((jX ops).drop k) [] st = K st:=by cases (jX ops).drop k <;> rfl
   rw [this] at h
   exact h
 | o :: l,q :: ql,k,st,hl,hk,hq,h=>by
   simp only [List.map_cons,List.cons.injEq] at hq
   simp only [List.length_cons] at hk
   have h0 : ops[k]? = some o:=by simpa using (hl 0).symm
   rw [AA (by omega)] at h
   have next : ∀ s,lf P K ((jX ops).drop (k + 1)) ql s -> jv P ops (yN P ops) K l (k + 1) s:=fun s hs=>mn l ql (k + 1) s (fun j=>by have:=hl (j + 1); simpa [Nat.add_assoc,Nat.add_comm 1 j] using this) (by omega) hq.2 hs
   show p0 P ops (yN P ops) k o (jv P ops (yN P ops) K l (k + 1)) st
   unfold p0
   cases hs : lD ops k with
   | false =>
     rw [hs] at h
     rw [if_neg (by simp)]
     exact cU next (yM hq.1 rfl h)
   | true =>
     rw [hs] at h
     rw [if_pos rfl]
     obtain ⟨st',hc,h'⟩:=D8 hq.1 (LS hs h0) h
     exact ⟨st',hc,vb next h'⟩
 | [],q :: ql,k,st,_,_,hq,h=>by simp at hq
 | o :: l,[],k,st,_,_,hq,h=>by simp at hq
theorem qF {d : Bool} {ops : Array Oper} {K : St -> Prop} (hd : d = true) : ∀ (l : List Oper) (ql : List bO) (st : St),ql.map bO.jD = l.map (aB ops) -> wJ P d K ql st -> oo P d ops K l st
 | [],[],st,_,h=>h
 | o :: l,q :: ql,st,hq,h=>by
   simp only [List.map_cons,List.cons.injEq] at hq
   exact cU (fun s hs=>qF hd l ql s hq.2 hs) (yM hq.1 hd h)
 | [],q :: ql,st,hq,h=>by simp at hq
 | o :: l,[],st,hq,h=>by simp at hq
theorem BK {ro : Option Nat} {n : Nat} {M : dP} {ops : Array Oper} {K : St -> Prop} {Q : Exit -> Act -> World -> Prop} : ∀ (l : List Oper) (ql : List bO) (k : Nat) (st : St) (a : Act) (w : World) (β : Beta),ql.map bO.jD = l.map (aB ops) -> (∀ j,l[j]? = ops[k + j]?) -> wJ P false K ql st -> Rs P β M st a w -> gQ P β M st w K (Q .normal) ->
 wpOpsIn (rf ro) n P ops Q (List.range' k l.length) a w
 | [],[],k,st,a,w,β,_,_,h,hr,hK=>by
   simp only [List.length_nil,List.range'_zero,wpOpsIn]
   exact hK st β a w h hr (Tr.refl _ _ _)
 | o :: l,q :: ql,k,st,a,w,β,hq,hl,h,hr,hK=>by
   simp only [List.map_cons,List.cons.injEq] at hq
   have h0 : ops[k]? = some o:=by simpa using (hl 0).symm
   simp only [List.length_cons,List.range'_succ,wpOpsIn_cons]
   refine Fb hq.1 h0 h hr (fun st' β' a' w' hk cJ ht=>?_)
   exact BK l ql (k + 1) st' a' w' β' hq.2 (fun j=>by have:=hl (j + 1); simpa [Nat.add_assoc,Nat.add_comm 1 j] using this) hk cJ (hK.trans ht)
 | [],q :: ql,k,st,a,w,β,hq,_,h,hr,hK=>by simp at hq
 | o :: l,[],k,st,a,w,β,hq,_,h,hr,hK=>by simp at hq
end
end Go.Pl
namespace Go.Pl
open Go
theorem yO (sl : Nat -> V) (t : Nat) : ∀ (ks : List Nat),bR (ks.map fun k=>(k,sl k)) t = .cX \/ bR (ks.map fun k=>(k,sl k)) t = sl t
 | []=>.inl rfl
 | k :: ks=>by
   simp only [List.map,bR]
   by_cases h : t = k
   ·subst h; simp
   ·rw [if_neg h]; exact yO sl t ks
theorem mo (st : St) (ks : List Nat) : je st (st.ch ks):=by
 refine ⟨Nat.le_refl _,fun t=>?_,cj.refl _⟩
 rcases yO st.sl t ks with h | h
 ·exact .inl h
 ·exact .inr (.inl h)
theorem qG {c : Code} {d : Bool} {l : List bO} (h : compile c = .bn d l []) : ∃ id ops,c = .region id ops d /\ (d = true -> sR ops = true) /\ l = ops.toList.map (aB ops):=by
 cases c with
 | region id ops draw =>
   unfold compile at h
   split at h
   ·split at h <;> cases h
   ·rename_i hd
    split at h
    ·cases h
    ·injection h with h1 h2
     subst h1 h2
     refine ⟨id,ops,rfl,?_,rfl⟩
     intro wm
     subst wm
     simpa using hd
 | _=>simp [compile] at h
theorem wN {c : Code} {un uv : List (Nat × Nat)} {l : List bO} (h : compile c = .hX un uv l []) : ∃ id ops,c = .region id ops true /\ A6 ops = true /\ un = yK ops /\ uv = D6 ops /\ l = ops.toList.map (aB ops):=by
 cases c with
 | region id ops draw =>
   unfold compile at h
   split at h
   ·rename_i hd
    simp only [Bool.and_eq_true] at hd
    obtain ⟨rfl,_⟩:=hd
    split at h
    ·rename_i hD
     injection h with h1 h3 h2
     exact ⟨id,ops,rfl,hD,h1.symm,h3.symm,h2.symm⟩
    ·cases h
   ·split at h
    ·cases h
    ·cases h
 | _=>simp [compile] at h
theorem p4 {c : Code} {so : List Bool} {l : List bO} (h : compile c = .jP so l []) : ∃ id ops,c = .region id ops true /\ sR ops = true /\ so = jX ops /\ l = ops.toList.map (aB ops):=by
 cases c with
 | region id ops draw =>
   unfold compile at h
   split at h
   ·split at h <;> cases h
   ·rename_i hd
    split at h
    ·rename_i hb
     simp only [Bool.and_eq_true] at hb
     obtain ⟨rfl,hb⟩:=hb
     injection h with h1 h2
     exact ⟨id,ops,rfl,by simpa using hd,h1.symm,h2.symm⟩
    ·cases h
 | _=>simp [compile] at h
section
variable {P : Program}
theorem qb.mono {M : dP} {ro : Option Nat} {c : Code} {Q Q' : Exit -> St -> Prop} {st : St} (h : qb P M ro c Q st) (hq : ∀ e s,Q e s -> Q' e s) : qb P M ro c Q' st:=by
 intro n β a w hr
 refine wpIn_mono (h n β a w hr) ?_
 rintro e a' w' ⟨M',st',β',h1,h2⟩
 exact ⟨M',st',β',hq _ _ h1,h2⟩
theorem qH {d : Bool} {ops : Array Oper} {K K' : St -> Prop} (hm : ∀ s,K s -> K' s) : ∀ (l : List Oper) (st : St),oo P d ops K l st -> oo P d ops K' l st
 | [],st,h=>hm st h
 | o :: l,st,h=>cU (fun s hs=>qH hm l s hs) h
theorem p5 {ops : Array Oper} {S : Nat -> Oper -> (St -> Prop) -> St -> Prop} (hS : BH S) {K K' : St -> Prop} (hm : ∀ s,K s -> K' s) : ∀ (l : List Oper) (k : Nat) (st : St),jv P ops S K l k st -> jv P ops S K' l k st
 | [],_,st,h=>hm st h
 | o :: l,k,st,h=>uY hS (fun s hs=>p5 hS hm l (k + 1) s hs) h
theorem D9 (hm : P.follows .mixedOrders = true) {M : dP} {ro : Option Nat} {id : Nat} {ops : Array Oper} {Q : Exit -> St -> Prop} {st : St} (hl : sR ops = true) {l : List bO} (iJ : l.map bO.jD = ops.toList.map (aB ops)) (h : lf P (Q .normal) (jX ops) l st) : qb P M ro (.region id ops true) (fun e s=>e = .normal /\ Q .normal s) st:=by
 intro n β a w hr
 refine wpIn_region_any hm ?_
 have h:=p5 (P:=P) (ops:=ops) o9 (K':=fun s=>Exit.normal = .normal /\ Q .normal s) (fun s hs=>⟨rfl,hs⟩) _ 0 _ (mn ops.toList l 0 st (fun j=>by simp) (by simp) iJ (by simpa using h))
 have cJ : Rs P β M st a w.drew:=⟨hr.ok.drew,fun t=>(Tr.drew hr.ok).rep (hr.sl t),hr.sz,hr.df,hr.bs,hr.gl.imp fun _ _ hh=>(Tr.drew hr.ok).rep hh⟩
 have h1:=mj (P:=P) o9 hl ops.toList 0 (Array.replicate ops.size false) st (fun j=>by simp) (by simp) (by simp) (fun j hj=>by simp [hj]) h
 have h2:=iK (ro:=ro) (n:=n) (M:=M) (Q:=fun e a' w'=>∃ M' st' β',(e = .normal /\ Q .normal st') /\ hH M M' w /\ Rs P β' M' st' a' w' /\ Tr β st.bx w β' st'.bx w') (fun i o K st a w β K' hi h hr hK=>by
  obtain ⟨st',lI,h⟩:=h
  exact jY hi h (lI.rs hr) (fun st2 β' a' w' hk cJ ht=>hK _ _ _ _ hk cJ (lI.bx.tr.trans ht))) _ _ st a w.drew β h1 cJ (fun st' β' a' w' hk rR ht=>⟨M,st',β',hk,hH.refl _ _,rR,(Tr.drew hr.ok).trans ht⟩)
 simpa using h2
theorem Fc (hm : P.follows .mixedOrders = true) {M : dP} {ro : Option Nat} {id : Nat} {ops : Array Oper} {d : Bool} {Q : Exit -> St -> Prop} {st : St} (hl : d = true -> sR ops = true) {l : List bO} (iJ : l.map bO.jD = ops.toList.map (aB ops)) (h : wJ P d (Q .normal) l st) : qb P M ro (.region id ops d) (fun e s=>e = .normal /\ Q .normal s) st:=by
 cases d with
 | true=>exact yG hm hl (qH (fun s hs=>⟨rfl,hs⟩) _ _ (qF rfl _ _ _ iJ h))
 | false =>
   intro n β a w hr
   refine wpIn_region ?_
   have h1:=BK (P:=P) (ro:=ro) (n:=n) (M:=M) (Q:=fun e a' w'=>∃ M' st' β',(e = .normal /\ Q .normal st') /\ hH M M' w /\ Rs P β' M' st' a' w' /\ Tr β st.bx w β' st'.bx w') ops.toList l 0 st a w β iJ (fun j=>by simp) h hr (fun st' β' a' w' hk cJ ht=>⟨M,st',β',⟨rfl,hk⟩,hH.refl _ _,cJ,ht⟩)
   simpa [List.range_eq_range'] using h1
theorem yP {ops : Array Oper} {fl : Nat -> Bool} {i : Nat} {o : Oper} {q : bO} (hq : q.jD = aB ops o) (ho : ops[i]? = some o) (hf : fl i = q.fz) {K : St -> Prop} {st : St} (h : BJ P q K st) : iA P ops fl i K st:=by
 rw [fM ho,hf]
 obtain ⟨qd,qop,qg,qf⟩:=q
 obtain ⟨odst,oop,otype,opos,oafter,oguard⟩:=o
 unfold BJ at h
 simp only [bO.jD] at hq h ⊢
 cases oguard with
 | none =>
   simp only [aB,bO.mk.injEq] at hq
   obtain ⟨rfl,rfl,rfl,_⟩:=hq
   by_cases hb : (qf && mi qop) = true
   ·rw [if_pos hb] at h ⊢
    exact ⟨_,⟨h.1,rfl⟩,h.2.1,h.2.2⟩
   ·rw [if_neg hb] at h ⊢
    have ecb : dJ ⟨qd,qop,otype,opos,oafter,none⟩ = jE ⟨qd,qop,none,qf⟩:=rfl
    rw [ecb]
    by_cases c9 : (qf && jE ⟨qd,qop,none,qf⟩) = true
    ·rw [if_pos c9] at h ⊢
     exact h
    ·rw [if_neg c9] at h ⊢
     exact kH rfl (by simpa [aB] using h)
 | some gw =>
   obtain ⟨gg,w⟩:=gw
   cases hd : (ops[gg]?).bind (·.dst) with
   | none =>
     simp only [aB,hd,bO.mk.injEq] at hq
     obtain ⟨rfl,rfl,rfl,_⟩:=hq
     have hb : ¬ (qf && mi (Op.ready 0)) = true:=by simp [mi]
     rw [if_neg hb,if_neg (by simp [jE])] at h
     unfold eZ at h
     simp only [yieldOf] at h
     unfold aH at h
     simp [bU,bO.oper] at h
   | some d =>
     simp only [aB,hd,bO.mk.injEq] at hq
     obtain ⟨rfl,rfl,rfl,_⟩:=hq
     by_cases hb : (qf && mi qop) = true
     ·rw [if_pos hb] at h ⊢
      simp only at h
      split at h
      ·rename_i c hc
       refine ⟨_,?_,h.2.1,h.2.2⟩
       unfold YF
       simp only
       exact ⟨_,by simp only [dQ,hd,hc],h.1,rfl⟩
      ·exact h.elim
     ·rw [if_neg hb,if_neg (by simp [jE])] at h
      rw [if_neg hb,if_neg (by simp [dJ])]
      exact kH (ops:=ops) rfl (by simpa [aB,hd] using h)
theorem tg {ops : Array Oper} {fl : Nat -> Bool} {K : St -> Prop} : ∀ (l : List Oper) (ql : List bO) (k : Nat) (st : St),ql.map bO.jD = l.map (aB ops) -> (∀ j,l[j]? = ops[k + j]?) -> (∀ j q,ql[j]? = some q -> fl (k + j) = q.fz) -> lh P K ql st -> ec (iA P ops fl) K k l.length st
 | [],[],k,st,_,_,_,h=>h
 | o :: l,q :: ql,k,st,hq,hl,hf,h=>by
   simp only [List.map_cons,List.cons.injEq] at hq
   have h0 : ops[k]? = some o:=by simpa using (hl 0).symm
   exact mY.mono _ _ _ _ (fun s hs=>tg l ql (k + 1) s hq.2 (fun j=>by have:=hl (j + 1); simpa [Nat.add_assoc,Nat.add_comm 1 j] using this) (fun j q' hj=>by have:=hf (j + 1) q' (by simpa using hj); simpa [Nat.add_assoc,Nat.add_comm 1 j] using this) hs) (yP hq.1 h0 (by simpa using hf 0 q rfl) h)
 | [],q :: ql,k,st,hq,_,_,h=>by simp at hq
 | o :: l,[],k,st,hq,_,_,h=>by simp at hq
theorem qI (st : St) : ∀ (ps : List (Nat × Operand)) (es : List V),dM st es ps = jC es (ps.map fun p=>(p.1,st.get p.2))
 | [],es=>rfl
 | (i,x) :: ps,es=>by simp only [dM,List.map_cons,jC]; exact qI st ps _
theorem BL {β : Beta} {M : dP} {bx : aa} {w : World} (h : eu β M bx w) : bj bx:=by
 obtain ⟨n,hn⟩:=h.fin
 refine ⟨n,fun b hb=>?_⟩
 cases hx : bx b with
 | none=>rfl
 | some box =>
   rcases h.live b box hx with ⟨h1,_⟩ | ⟨k,h1,_⟩ <;> (rw [hn b hb] at h1; cases h1)
theorem BM {t : TypeId} {len : Nat} {parts : List (Nat × Operand)} {d : Option Tmp} {K : St -> Prop} {st : St} (h1 : (D5 P t len (parts.map fun p=>(p.1,st.get p.2))).1) (h2 : aJ st d) (h3 : bj st.bx) (h4 : K (st.put d (D5 P t len (parts.map fun p=>(p.1,st.get p.2))).2)) : ml P t len parts d K st:=by
 unfold D5 at h1 h4
 unfold ml
 split at h1
 ·rename_i e hk
  simp only [hk] at h4 ⊢
  split at h1
  ·rename_i z hz
   simp only [hz] at h4 ⊢
   obtain ⟨g1,g2,g3,g4⟩:=h1
   refine ⟨⟨g1,g2,g3,fun p hp=>g4 (p.1,st.get p.2) (List.mem_map.2 ⟨p,hp,rfl⟩)⟩,h2,h3,?_⟩
   rw [qI]
   exact h4
  ·exact h1.elim
 ·exact h1.elim
theorem qk {bx : aa} {t : TypeId} {a : V} (h : (dH P (fun _=>none) t a).1) : dH P bx t a = dH P (fun _=>none) t a:=by
 unfold dH at h ⊢
 split at h
 ·rename_i e o he; simp only [he]
 ·exact h.elim
 ·exact h.elim
theorem Iw {β : Beta} {M : dP} {st : St} {d : Option Tmp} {x : V} (y : V) {a : Act} {w : World} (h : Rs P β M (st.put d (.dead x)) a w) : Rs P β M (st.put d (.dead y)) a w:=by
 cases d with
 | none=>exact h
 | some d =>
   refine ⟨h.ok,fun t=>?_,h.sz,h.df,h.bs,h.gl⟩
   have:=h.sl t
   simp only [St.put,aA] at this ⊢
   by_cases e : t = d
   ·rw [if_pos e] at this ⊢
    generalize a.tmps.getD t undef = u at this ⊢
    cases this
    exact .dead _
   ·rw [if_neg e] at this ⊢
    exact this
theorem BN {ro : Option Nat} {n : Nat} {β : Beta} {M : dP} {w : World} {ops : Array Oper} {fl : Nat -> Bool} {o : Oper} {i : Nat} {st : St} {a : Act} {K : St -> Prop} {K' : Act -> World -> Prop} {Q : Exit -> Act -> World -> Prop} (hi : ops[i]? = some o) (h : iA P ops fl i K st) (hr : Rs P β M st a w) (hK : gQ P β M st w K K') :
 wpOpIn (rf ro) n P ops Q i K' a w:=by
 rw [fM hi] at h
 by_cases hf : (fl i && mi o.op) = true
 ·rw [if_pos hf] at h
  obtain ⟨v,hy,hd,hk⟩:=h
  have rC : mi o.op = true:=by simp only [Bool.and_eq_true] at hf; exact hf.2
  obtain ⟨odst,oop,otype,opos,oafter,oguard⟩:=o
  simp only at rC hd hk
  unfold YF at hy
  cases oguard with
  | none =>
    obtain ⟨h1,rfl⟩:=hy
    cases oop <;> try (simp only [mi,Bool.false_eq_true] at rC; done)
    case load t x =>
     refine dN (d:=true) hi ?_ hr hK
     unfold bE aH
     simp only [bU,if_true,ev]
     simp only [rF] at h1 hk
     rw [qk h1]
     exact ⟨h1,hd,hk⟩
    case buildSlice t len parts =>
     refine wL (qd:=odst) (qg:=none) (by rfl) hi ?_ hr hK
     exact BM h1 hd (BL hr.ok) hk
    case call c =>
     obtain ⟨x,t,rfl⟩:=BG rC
     refine dN (d:=true) hi ?_ hr hK
     unfold bE aH
     simp only [bU,if_true,ev,lP]
     have hl : lenOf { callee:=.builtin .len,args:=#[x],argTypes:=#[t] } = some (x,t):=rfl
     simp only [rF,hl] at h1 hk
     rw [qi h1]
     exact ⟨h1,hd,hk⟩
  | some gw =>
    obtain ⟨g,want⟩:=gw
    obtain ⟨wb,lN,h1,rfl⟩:=hy
    have ZQ : ∀ x,gQ P β M st w (fun s=>(wb = true /\ K s) \/ (wb = false /\ s = st.put odst (.dead x))) K':=by
     rintro x st' β' a' w' (⟨rfl,hks⟩ | ⟨rfl,rfl⟩) cJ wM
     ·exact hK _ _ _ _ hks cJ wM
     ·exact hK _ _ _ _ hk (Iw _ cJ) (by cases odst <;> exact wM)
    cases oop <;> try (simp only [mi,Bool.false_eq_true] at rC; done)
    case load t x =>
     refine dN (d:=true) (K:=fun s=>(wb = true /\ K s) \/ (wb = false /\ s = st.put odst (.dead (dH P st.bx t (gv P st x)).2.strip))) hi ?_ hr (ZQ _)
     unfold bE
     simp only [lN,bU,if_true,ev]
     simp only [rF] at h1 hk
     refine ⟨fun hw=>by rw [qk (h1 hw)]; exact h1 hw,hd,?_⟩
     cases wb
     ·exact .inr ⟨rfl,rfl⟩
     ·refine .inl ⟨rfl,?_⟩
      rw [qk (h1 rfl)]
      exact hk
    case call c =>
     obtain ⟨x,t,rfl⟩:=BG rC
     refine dN (d:=true) (K:=fun s=>(wb = true /\ K s) \/ (wb = false /\ s = st.put odst (.dead (nx P st.bx t (st.get x)).2.strip))) hi ?_ hr (ZQ _)
     unfold bE
     simp only [lN,bU,if_true,ev,lP]
     have hl : lenOf { callee:=.builtin .len,args:=#[x],argTypes:=#[t] } = some (x,t):=rfl
     simp only [rF,hl] at h1 hk
     refine ⟨fun hw=>by rw [qi (h1 hw)]; exact h1 hw,hd,?_⟩
     cases wb
     ·exact .inr ⟨rfl,rfl⟩
     ·refine .inl ⟨rfl,?_⟩
      rw [qi (h1 rfl)]
      exact hk
    case buildSlice t len parts =>
     unfold dQ at lN
     cases yk : (ops[g]?).bind (·.dst) with
     | none=>simp [yk] at lN
     | some s =>
       simp only [yk] at lN
       split at lN
       ·rename_i c hc
        injection lN with lN
        refine wL (t:=t) (len:=len) (parts:=parts) (qd:=odst) (qg:=some (s,want)) (K:=fun s=>(wb = true /\ K s) \/ (wb = false /\ s = st.put odst (.dead .cX))) (by simp [aB,yk]) hi ?_ hr (ZQ _)
        simp only [BI,hc]
        rw [lN]
        refine ⟨fun hw=>BM (h1 hw) hd (BL hr.ok) (.inl ⟨hw,?_⟩),fun hw=>⟨hd,.inr ⟨hw,trivial⟩⟩⟩
        subst hw
        exact hk
       ·cases lN
 ·rw [if_neg hf] at h
  by_cases da : (fl i && dJ o) = true
  ·rw [if_pos da] at h
   exact dN hi h.2 hr hK
  ·rw [if_neg da] at h
   exact dN hi h hr hK
theorem Fe {ops : Array Oper} {k j : Nat} {ok oj : Oper} (hk : ops[k]? = some ok) (hj : ops[j]? = some oj) (pR : k < j) (hw : ¬ fC (dx ops) j k) (ha : ((dJ ok || dJ oj) && !n8 ok && !n8 oj) = true) : (k,j) ∈ D6 ops:=by
 have h1:=(Array.getElem?_eq_some_iff.1 hk).1
 have h2:=(Array.getElem?_eq_some_iff.1 hj).1
 have R5 : ((dx ops).getD j 0).testBit k = false:=by unfold fC at hw; simpa using hw
 unfold D6
 simp only [List.mem_flatMap,List.mem_range,List.mem_map,List.mem_filter]
 exact ⟨k,h1,j,⟨h2,by simp only [hk,hj,ha,pR,R5,decide_true,Bool.not_false,Bool.and_self]⟩,rfl⟩
theorem wO {ops : Array Oper} (h : A6 ops = true) {k : Nat} {ok : Oper} (hk : ops[k]? = some ok) :
 (∀ e ∈ ok.after,Region.binds .any e = true -> e.on < k) /\ ∀ j oj,ops[j]? = some oj -> k < j -> ¬ fC (dx ops) j k -> ok.apart ops oj = true:=by
 have dt:=(Array.getElem?_eq_some_iff.1 hk).1
 simp only [A6,List.all_eq_true,List.mem_range] at h
 have h1:=h k dt
 simp only [hk,Bool.and_eq_true] at h1
 obtain ⟨h2,h3⟩:=h1
 refine ⟨fun e he hb=>?_,fun j oj hj pR hw=>?_⟩
 ·have:=Array.all_eq_true_iff_forall_mem.1 h2 e he
  simpa [hb] using this
 ·have lH:=(Array.getElem?_eq_some_iff.1 hj).1
  have h4:=List.all_eq_true.1 h3 j (List.mem_range.2 lH)
  simp only [hj,Bool.or_eq_true,decide_eq_true_eq] at h4
  rcases h4 with h4 | h4 | h4
  ·omega
  ·exact absurd h4 hw
  ·exact h4
theorem yQ {ops : Array Oper} {k j : Nat} {ok oj : Oper} (hk : ops[k]? = some ok) (hj : ops[j]? = some oj) (pR : k < j) (hw : ¬ fC (dx ops) j k) (ha : ¬ (gC ops ok oj || mg ops ok oj) = true) : (k,j) ∈ yK ops:=by
 have h1:=(Array.getElem?_eq_some_iff.1 hk).1
 have h2:=(Array.getElem?_eq_some_iff.1 hj).1
 have fA : (gC ops ok oj || mg ops ok oj) = false:=by
  cases hx : (gC ops ok oj || mg ops ok oj) with
  | false=>rfl
  | true=>exact absurd hx ha
 have R5 : ((dx ops).getD j 0).testBit k = false:=by unfold fC at hw; simpa using hw
 unfold yK
 simp only [List.mem_flatMap,List.mem_range,List.mem_map,List.mem_filter]
 exact ⟨k,h1,j,⟨h2,by simp only [hk,hj,fA,pR,R5,decide_true,Bool.not_false,Bool.and_self]⟩,rfl⟩
theorem vc (hm : P.follows .mixedOrders = true) {M : dP} {ro : Option Nat} {id : Nat} {ops : Array Oper} {Q : Exit -> St -> Prop} {st : St} (hD : A6 ops = true) {l : List bO} (iJ : l.map bO.jD = ops.toList.map (aB ops))
 (hU : ((yK ops).all fun p=>jh l p.1 || jh l p.2) = true) (hV : ((D6 ops).all fun p=>!(lj l p.1 || lj l p.2) || jh l p.1 || jh l p.2) = true) (h : lh P (Q .normal) l st) : qb P M ro (.region id ops true) (fun e s=>e = .normal /\ Q .normal s) st:=by
 intro n β a w hr
 refine wpIn_region_any hm ?_
 have cJ : Rs P β M st a w.drew:=⟨hr.ok.drew,fun t=>(Tr.drew hr.ok).rep (hr.sl t),hr.sz,hr.df,hr.bs,hr.gl.imp fun _ _ hh=>(Tr.drew hr.ok).rep hh⟩
 let fl : Nat -> Bool:=fun i=>match l[i]? with | some q=>q.fz | none=>false
 have rC : ∀ k ok,ops[k]? = some ok -> jh l k = true -> uX fl k ok = true:=by
  intro k ok hk hz
  unfold jh at hz
  cases hq : l[k]? with
  | none=>simp [hq] at hz
  | some q =>
    simp only [hq,Bool.and_eq_true] at hz
    have e1 : (l.map bO.jD)[k]? = some q.jD:=by simp [hq]
    rw [iJ] at e1
    have e2 : (ops.toList.map (aB ops))[k]? = some (aB ops ok):=by simp [hk]
    rw [e2] at e1
    injection e1 with e1
    have e3 : q.op = ok.op:=by
     have h5 : (aB ops ok).op = q.op:=by rw [e1]; rfl
     unfold aB at h5
     split at h5
     ·exact h5.symm
     ·split at h5
      ·exact h5.symm
      ·rw [<- h5] at hz; simp [mi] at hz
    simp only [uX,Bool.or_eq_true,Bool.and_eq_true]
    refine .inl ⟨?_,by rw [<- e3]; exact hz.2⟩
    show (match l[k]? with | some q=>q.fz | none=>false) = true
    simp only [hq]
    exact hz.1
 have LU : LN ops (iA P ops fl):=by
  have jn : ∀ k ok,ops[k]? = some ok -> (fl k && dJ ok) = true -> lj l k = true:=by
   intro k ok hk hz
   simp only [Bool.and_eq_true] at hz
   obtain ⟨LA,AB⟩:=hz
   have e2 : (ops.toList.map (aB ops))[k]? = some (aB ops ok):=by simp [hk]
   rw [<- iJ] at e2
   have LV : (match l[k]? with | some q=>q.fz | none=>false) = true:=LA
   unfold lj
   cases hq : l[k]? with
   | none=>simp [hq] at LV
   | some q =>
     simp only [hq] at LV ⊢
     simp only [List.getElem?_map,hq,Option.map_some,Option.some.injEq] at e2
     obtain ⟨hg,f,args,ts,cm⟩:=kZ AB
     have e3 : q.jD = ⟨ok.dst,.call ⟨.value (.func f),args,ts⟩,none,false⟩:=by rw [e2]; unfold aB; rw [hg,cm]
     obtain ⟨qd,qop,qg,qf⟩:=q
     simp only [bO.jD,bO.mk.injEq] at e3
     obtain ⟨_,rfl,rfl,_⟩:=e3
     have hz3 : qf = true:=LV
     subst hz3
     rfl
  have hVV : ∀ k ok j oj,ops[k]? = some ok -> ops[j]? = some oj -> k < j -> ¬ fC (dx ops) j k -> ((fl k && dJ ok) = true \/ (fl j && dJ oj) = true) -> uX fl k ok = true \/ uX fl j oj = true:=by
   intro k ok j oj hk hj pR hw u4
   by_cases h1 : n8 ok = true
   ·exact .inl (by simp [uX,h1])
   by_cases h2 : n8 oj = true
   ·exact .inr (by simp [uX,h2])
   have hb : (dJ ok || dJ oj) = true:=by
    rcases u4 with u4 | u4 <;> (simp only [Bool.and_eq_true] at u4; simp [u4.2])
   have:=List.all_eq_true.1 hV _ (Fe hk hj pR hw (by simp [hb,h1,h2]))
   have hq : (lj l k || lj l j) = true:=by
    rcases u4 with u4 | u4
    ·simp [jn k ok hk u4]
    ·simp [jn j oj hj u4]
   simp only [hq,Bool.not_true,Bool.false_or,Bool.or_eq_true] at this
   exact this.imp (rC k ok hk) (rC j oj hj)
  have WZ : ∀ k ok,(fl k && dJ ok) = true -> ¬ uX fl k ok = true:=by
   intro k ok hc hx
   simp only [Bool.and_eq_true] at hc
   simp only [uX,Bool.or_eq_true,Bool.and_eq_true] at hx
   rcases hx with hx | hx
   ·rw [qh hx.2] at hc; exact absurd hc.2 (by simp)
   ·rw [sZ hx] at hc; exact absurd hc.2 (by simp)
  refine ⟨fun k ok hk=>(wO hD hk).1,fun k ok hk j oj hj pR hw K st hh=>EX hk hj ?_ (fun hc=>(hVV k ok j oj hk hj pR hw (.inl hc)).resolve_left (WZ k ok hc)) (fun hc=>(hVV k ok j oj hk hj pR hw (.inr hc)).resolve_right (WZ j oj hc)) hh⟩
  by_cases ha : (gC ops ok oj || mg ops ok oj) = true
  ·exact .inl ha
  ·refine .inr ⟨(wO hD hk).2 j oj hj pR hw,?_⟩
   have:=List.all_eq_true.1 hU _ (yQ hk hj pR hw ha)
   simp only [Bool.or_eq_true] at this
   exact this.imp (rC k ok hk) (rC j oj hj)
 have Ff:=tg (fl:=fl) ops.toList l 0 st iJ (fun j=>by simp) (fun j q hj=>by
  show (match l[0 + j]? with | some q=>q.fz | none=>false) = q.fz
  simp [hj]) h
 have h1:=sX (K:=Q .normal) mY LU ops.toList.length 0 (Array.replicate ops.size false) st (by simp) (by simp) (fun j hj=>by simp [hj]) Ff
 have h2:=o7 (P:=P) (ro:=ro) (n:=n) (M:=M) (ops:=ops) (Q:=fun e a' w'=>∃ M' st' β',(e = .normal /\ Q .normal st') /\ hH M M' w /\ Rs P β' M' st' a' w' /\ Tr β st.bx w β' st'.bx w') (fun i o K st a w β K' hi h hr hK=>BN hi h hr hK) _ _ st a w.drew β h1 cJ (fun st' β' a' w' hk rR ht=>⟨M,st',β',⟨rfl,hk⟩,hH.refl _ _,rR,(Tr.drew hr.ok).trans ht⟩)
 simpa using h2
theorem AD {M : dP} {g : Operand} {ps : Array Tmp} {x y : PC} {ca cb : Code} {Q : Exit -> St -> Prop} {st : St} (hc : te x y ca cb) (h : pw P (.rangeFunc g ps x y) Q st) : qb P M none (.rangeFunc g ps ca cb) Q st:=by
 intro n β a w hr
 unfold pw at h
 split at h
 rotate_left
 ·exact h.elim
 rename_i gf caps hs
 obtain ⟨pg,iR⟩:=h
 obtain ⟨b,bL,hb⟩:=hr.ok.fresh
 specialize iR b hb
 refine wpIn_rangeFunc ?_
 intro fn hfn
 have rg:=hr.get g
 rw [aF pg hs] at rg
 generalize hgu : a.eval g = u at rg
 cases rg with
 | fn _ _ us hlen mf =>
 obtain ⟨rec,AE⟩ : ∃ rec : Loop,rec = { state:=.ready,pending:=none,fn,tmps:=a.tmps,params:=ps,assign:=ca,body:=cb,defers:=w.heap.size }:=⟨_,rfl⟩
 obtain ⟨jd,HF,jg⟩:=D0 hr.ok (.deferred (some []))
 obtain ⟨M1,hM1⟩ : ∃ M1,M.set w.heap.size (some (.deferred (some []))) = M1:=⟨_,rfl⟩
 obtain ⟨w1,LW⟩ : ∃ w1,w.alloc (.deferred (some [])) = w1:=⟨_,rfl⟩
 rw [hM1] at jd jg
 rw [LW] at jd HF
 have Dr : w1.heap.size = w.heap.size + 1:=by rw [<- LW]; simp
 have BO : ∀ t,aP β w1 (Fz β M1 st.bx w1) (st.sl t) (a.tmps.getD t undef):=fun t=>HF.ET jg (hr.sl t)
 have htm : rec.tmps = a.tmps:=by rw [AE]
 have R6 : ∀ q x,β q = some x -> aA β b (some (some w1.heap.size)) q = some x:=by
  intro q x hx
  rw [ae _ _ (by rintro rfl; rw [bL] at hx; cases hx)]; exact hx
 have Ix : ∀ k x,w1.shape? k = some x -> (w1.alloc (.loop rec)).shape? k = some x:=fun k x hx=>by
  have : k < w1.heap.size:=by
   rcases Nat.lt_or_ge k w1.heap.size with h1 | h1
   ·exact h1
   ·simp [World.shape?,Array.getElem?_eq_none h1] at hx
  rw [bD (Go.RowKit.Below.heap_alloc w1 _ k this)]; exact hx
 obtain ⟨jN,yR⟩:=Dz jd bL hb (.loop rec) (.loop none ps (te x y) st.n st.sl) (fun _ h=>by cases h) (fun F' Rt =>
  ⟨rec,World.alloc_heap_new w1 _,by rw [AE]; rfl,by rw [AE],by rw [AE],by rw [AE]; exact hc,by rw [AE]; exact hr.sz,fun t=>by rw [htm]; exact (BO t).mono R6 Rt Ix⟩)
 obtain ⟨w2,R7⟩ : ∃ w2,w1.alloc (.loop rec) = w2:=⟨_,rfl⟩
 rw [R7] at jN yR
 rw [Dr] at jN yR
 have LX : (Instr.enterLoop fn a.tmps ps ca cb (rf none).round).run P w = .ok (w.heap.size + 1,[{ target:=.collected w.heap.size,args:=#[] }]) w2:=by
  rw [<- R7,<- LW,AE]; exact run_enterLoop_outer _ _ _ _ _
 refine ⟨w.heap.size + 1,[{ target:=.collected w.heap.size,args:=#[] }],w2,{ target:=.fn (.func gf) us,args:=#[.func (.yield (w.heap.size + 1)) #[] #[]] },w2,gf,#[.func (.yield (w.heap.size + 1)) #[] #[]] ++ us,w2,LX,?_,fun _ _=>trivial,?_,fun hd=>by simp [rf,Fence.wide] at hd,?_⟩
 ·simp only [resolve,hgu]
  simp [go_sem]
 ·simp [invoke,go_sem,iR.1]
 ·have c9 : aA β b (some (some (w.heap.size + 1))) b = some (some (w.heap.size + 1)):=af _ _ _
  have u4:=iR.2 (aA β b (some (some (w.heap.size + 1)))) M1 w2 (#[.func (.yield (w.heap.size + 1)) #[] #[]] ++ us) jN (hr.gl.imp (fun _ _ hh=>yR.rep (M:=M1) (HF.ET jg hh)) (fun _ _ h=>yR.shape _ _ (HF.shape _ _ h))) (by simp [hlen]; omega) (fun i c wH=>by
   match i,wH with
   | 0,wH =>
     simp at wH; subst wH
     have e0 : (#[Value.func (.yield (w.heap.size + 1)) #[] #[]] ++ us).getD 0 undef = Value.func (.yield (w.heap.size + 1)) #[] #[]:=by
      simp [Array.getElem?_append]
     rw [e0]
     exact aP.yl b (w.heap.size + 1) c9
   | i + 1,wH =>
     simp only [List.getElem?_cons_succ] at wH
     have h3:=yR.rep (M:=M1) (HF.ET jg (mf i c wH))
     have e : (#[Value.func (.yield (w.heap.size + 1)) #[] #[]] ++ us).getD (i + 1) undef = us.getD i undef:=by
      simp [Array.getElem?_append]
     rw [e]
     exact h3)
  refine CallsIn.mono (show CallsIn (rf none) (n - 1) P gf _ w2 _ from callsIn_wide.2 u4) ?_
  rintro e w3 ⟨v,r,bx',β',rfl,fE,R8,Ps,_⟩
  have rG : β' b = some (some (w.heap.size + 1)):=Ps.ext _ _ c9
  have DA : Tr β st.bx w β' bx' w3:=HF.trans (yR.trans Ps)
  have ZR : ∀ t,aP β' w3 (Fz β' M1 bx' w3) (st.sl t) (a.tmps.getD t undef):=fun t=>Ps.rep (yR.rep (BO t))
  have hMD : M1 w.heap.size = some (.deferred (some [])):=by rw [<- hM1]; exact dP.Ay _ _ _
  have fin : ∀ pend : Option Code,bx' b = some (.loop pend ps (te x y) st.n st.sl) -> ∃ w4,(Instr.endLoop (w.heap.size + 1)).run P w3 = .ok pend w4 /\
   Rs P β' M1 ⟨st.n,st.sl,aA bx' b none⟩ { tmps:=a.tmps,defers:={ target:=.collected w.heap.size,args:=#[] } :: a.defers } w4 /\ Tr β st.bx w β' (aA bx' b none) w4:=by
   intro pend dK
   obtain ⟨dt,hM,rec',Kz,LY,K0,hps,ad7,Iy,_⟩:=iz R8 dK rG
   have R9:=run_endLoop (P:=P) Kz (by rw [LY]; split <;> simp)
   rw [K0] at R9
   have ZS : w3.shape? (w.heap.size + 1) = none:=by simp [World.shape?,Kz]
   obtain ⟨RA,Iz⟩:=Iq R8 dK rG ZS (.loop { rec' with state:=.exhausted })
   rw [K0] at RA Iz
   refine ⟨_,R9,⟨RA,fun t=>Iz.rep (ZR t),hr.sz,?_,?_,hr.gl.imp (fun _ _ hh=>Iz.rep (Ps.rep (yR.rep (M:=M1) (HF.ET jg hh)))) (fun _ _ h=>(DA.trans Iz).shape _ _ h)⟩,DA.trans Iz⟩
   ·obtain ⟨ms,uq,B8⟩:=hr.df
    refine ⟨{ target:=.collected w.heap.size,args:=#[] } :: ms,by rw [jg.df,List.cons_append,<- uq],w.heap.size,rfl,by rw [jg.base]; exact hr.bs,hMD,?_⟩
    rw [jg.base]
    refine B8.mono (fun k o hk=>?_)
    have e : k ≠ w.heap.size:=by have:=hr.ok.nW hk; omega
    rw [ae _ _ e]
    exact jg.le k o hk
   ·rw [jg.base]
    exact Nat.le_trans hr.bs (DA.trans Iz).size
  rcases fE with ⟨dK,hq⟩ | ⟨dK,hq⟩ | ⟨id,dK,hq⟩
  ·obtain ⟨w4,h1,h2,h3⟩:=fin none dK
   exact ⟨none,w4,h1,M1,_,β',hq,jg,h2,h3⟩
  ·obtain ⟨w4,h1,h2,h3⟩:=fin (some .ret) dK
   exact ⟨some .ret,w4,h1,wpIn_ret ⟨M1,_,β',hq,jg,h2,h3⟩⟩
  ·obtain ⟨w4,h1,h2,h3⟩:=fin (some (.exit id)) dK
   exact ⟨some (.exit id),w4,h1,wpIn_exit ⟨M1,_,β',hq,jg,h2,h3⟩⟩
end
end Go.Pl
namespace Go.Pl
open Go
section
variable {P : Program}
theorem eC (hm : P.follows .mixedOrders = true) {ro : Option Nat} : ∀ (pc : PC) (c : Code) (M : dP) (Q : Exit -> St -> Prop) (st : St),(ro = none \/ dR pc = true) -> compile c = erase pc -> pw P pc Q st -> qb P M ro c Q st
 | .skip,c,M,Q,st,hn,hc,h=>by
   cases c <;> simp only [compile,erase,reduceCtorEq] at hc
   ·exact fun n β a w hr=>wpIn_skip ⟨M,st,β,h,hH.refl _ _,hr,Tr.refl _ _ _⟩
   ·split at hc <;> first | (cases hc; done) | (split at hc <;> cases hc)
   ·exact fun n β a w hr=>wpIn_label ⟨M,st,β,h,hH.refl _ _,hr,Tr.refl _ _ _⟩
 | .bn d l ks,c,M,Q,st,hn,hc,h=>by
   obtain ⟨id,ops,rfl,hl,iJ⟩:=qG hc
   intro n β a w hr
   refine wpIn_mono (Fc (M:=M) (ro:=ro) (Q:=fun e s=>e = .normal -> Q .normal (s.ch ks)) (id:=id) hm hl iJ (by
    unfold pw at h
    have e : (fun s : St=>Q .normal (s.ch ks)) = (fun s : St=>Exit.normal = Exit.normal -> Q .normal (s.ch ks)):=by
     funext s; exact propext ⟨fun h _=>h,fun h=>h rfl⟩
    rw [e] at h
    exact h) n β a w hr) ?_
   rintro e a' w' ⟨M',st',β',⟨rfl,hq⟩,hx,cJ,ht⟩
   exact ⟨M',_,β',hq rfl,hx,(mo st' ks).rs cJ,ht⟩
 | .jP so l ks,c,M,Q,st,hn,hc,h=>by
   obtain ⟨id,ops,rfl,hl,rfl,iJ⟩:=p4 hc
   intro n β a w hr
   refine wpIn_mono (D9 (M:=M) (ro:=ro) (Q:=fun e s=>e = .normal -> Q .normal (s.ch ks)) (id:=id) hm hl iJ (by
    unfold pw at h
    have e : (fun s : St=>Q .normal (s.ch ks)) = (fun s : St=>Exit.normal = Exit.normal -> Q .normal (s.ch ks)):=by
     funext s; exact propext ⟨fun h _=>h,fun h=>h rfl⟩
    rw [e] at h
    exact h) n β a w hr) ?_
   rintro e a' w' ⟨M',st',β',⟨rfl,hq⟩,hx,cJ,ht⟩
   exact ⟨M',_,β',hq rfl,hx,(mo st' ks).rs cJ,ht⟩
 | .hX un uv l ks,c,M,Q,st,hn,hc,h=>by
   obtain ⟨id,ops,rfl,hD,rfl,rfl,iJ⟩:=wN hc
   unfold pw at h
   intro n β a w hr
   refine wpIn_mono (vc (M:=M) (ro:=ro) (Q:=fun e s=>e = .normal -> Q .normal (s.ch ks)) (id:=id) hm hD iJ h.1.1 h.1.2 (by
    have e : (fun s : St=>Q .normal (s.ch ks)) = (fun s : St=>Exit.normal = Exit.normal -> Q .normal (s.ch ks)):=by
     funext s; exact propext ⟨fun h _=>h,fun h=>h rfl⟩
    rw [e] at h
    exact h.2) n β a w hr) ?_
   rintro e a' w' ⟨M',st',β',⟨rfl,hq⟩,hx,cJ,ht⟩
   exact ⟨M',_,β',hq rfl,hx,(mo st' ks).rs cJ,ht⟩
 | .raw c',c,M,Q,st,hn,hc,h=>by
   cases c <;> simp only [compile,erase,reduceCtorEq] at hc
   ·split at hc <;> first | (cases hc; done) | (split at hc <;> cases hc)
 | .seq x y,c,M,Q,st,hn,hc,h=>by
   cases c <;> simp only [compile,erase,reduceCtorEq] at hc
   ·split at hc <;> first | (cases hc; done) | (split at hc <;> cases hc)
   rename_i a b
   injection hc with h1 h2
   have wP : ro = none \/ dR x = true:=by rcases hn with hn | hn <;> simp_all [dR]
   have Fg : ro = none \/ dR y = true:=by rcases hn with hn | hn <;> simp_all [dR]
   intro n β ac w hr
   refine wpIn_seq (wpIn_mono (eC hm x a M _ st wP h1 h n β ac w hr) ?_)
   rintro e a' w' ⟨M',st',β',hq,hx,cJ,ht⟩
   cases e with
   | normal =>
     refine wpIn_mono (eC hm y b M' Q st' Fg h2 hq n β' a' w' cJ) ?_
     rintro e2 a2 w2 ⟨M2,st2,β2,LH,di,rR,yR⟩
     exact ⟨M2,st2,β2,LH,hx.trans di ht.size,rR,ht.trans yR⟩
   | _=>exact ⟨M',st',β',hq,hx,cJ,ht⟩
 | .cond o x y,c,M,Q,st,hn,hc,h=>by
   cases c <;> simp only [compile,erase,reduceCtorEq] at hc
   ·split at hc <;> first | (cases hc; done) | (split at hc <;> cases hc)
   rename_i c' a b
   injection hc with h0 h1 h2
   subst h0
   have wP : ro = none \/ dR x = true:=by rcases hn with hn | hn <;> simp_all [dR]
   have Fg : ro = none \/ dR y = true:=by rcases hn with hn | hn <;> simp_all [dR]
   intro n β ac w hr
   unfold pw at h
   split at h
   ·rename_i t ht
    obtain ⟨hl,h3,h4⟩:=h
    have bN:=hr.get c'
    rw [aF hl ht] at bN
    refine wpIn_cond_split (t:=t) bN.fy (fun ht=>?_) (fun ht=>?_)
    ·exact eC hm x a M Q st wP h1 (h3 ht) n β ac w hr
    ·exact eC hm y b M Q st Fg h2 (h4 ht) n β ac w hr
   ·exact h.elim
 | .block id x,c,M,Q,st,hn,hc,h=>by
   cases c <;> simp only [compile,erase,reduceCtorEq] at hc
   ·split at hc <;> first | (cases hc; done) | (split at hc <;> cases hc)
   rename_i id' c
   injection hc with h0 h1
   subst h0
   intro n β a w hr
   refine wpIn_block (wpIn_mono (eC hm x c M _ st hn h1 h n β a w hr) ?_)
   rintro e a' w' ⟨M',st',β',hq,hx,cJ,ht⟩
   cases e with
   | exit id' =>
     simp only [oz] at hq
     simp only [Exit.inBlock]
     split at hq
     ·rename_i he; rw [if_pos he]; exact ⟨M',st',β',hq,hx,cJ,ht⟩
     ·rename_i he; rw [if_neg he]; exact ⟨M',st',β',hq,hx,cJ,ht⟩
   | _=>exact ⟨M',st',β',hq,hx,cJ,ht⟩
 | .loop x,c,M,Q,st,hn,hc,h=>by
   cases c <;> simp only [compile,erase,reduceCtorEq] at hc
   ·split at hc <;> first | (cases hc; done) | (split at hc <;> cases hc)
   rename_i c
   injection hc with h1
   intro n β a w hr
   obtain ⟨ι,C,μ,i0,lI,A8⟩:=h
   refine wpIn_loop_ghost (fun n a' w'=>∃ i M' β',μ i = n /\ hH M M' w /\ Rs P β' M' (C i) a' w' /\ Tr β st.bx w β' (C i).bx w') (μ i0) ⟨i0,M,β,rfl,hH.refl _ _,lI.rs hr,lI.bx.tr⟩ ?_
   rintro m a' w' ⟨i,M',β',rfl,hx,cJ,ht⟩
   refine wpIn_mono (eC hm x c M' _ (C i) hn h1 (A8 i) n β' a' w' cJ) ?_
   rintro e a2 w2 ⟨M2,st2,β2,hq,di,rR,yR⟩
   cases e with
   | normal =>
     obtain ⟨i',RD,dt⟩:=hq
     exact ⟨μ i',dt,i',M2,β2,rfl,hx.trans di ht.size,RD.rs rR,ht.trans (yR.trans RD.bx.tr)⟩
   | _=>exact ⟨M2,st2,β2,hq,hx.trans di ht.size,rR,ht.trans yR⟩
 | .wk x,c,M,Q,st,hn,hc,h=>by
   obtain ⟨st',lI,h⟩:=h
   intro n β a w hr
   refine wpIn_mono (eC hm x c M Q st' hn hc h n β a w (lI.rs hr)) ?_
   rintro e a' w' ⟨M',st2,β',hq,hx,cJ,ht⟩
   exact ⟨M',st2,β',hq,hx,cJ,lI.bx.tr.trans ht⟩
 | .fz t x,c,M,Q,st,hn,hc,h=>by
   unfold pw at h
   split at h
   ·rename_i b sz i o hsl
    split at h
    ·rename_i ty eT es oP
     obtain ⟨rfl,hi,h⟩:=h
     have lI : je st ⟨st.n,aA st.sl t (.ep (es.getD i .cX) o),aA st.bx b none⟩:=by
      refine ⟨Nat.le_refl _,fun s=>?_,fun b'=>?_⟩
      ·by_cases e : s = t
       ·subst e
        refine .inr (.inr (.inl ⟨1,?_⟩))
        simp only [af,hsl,dA,oP]
        rw [if_pos ⟨trivial,hi⟩]
       ·exact .inr (.inl (ae _ _ e))
      ·by_cases e : b' = b
       ·subst e; exact .inl (af _ _ _)
       ·exact .inr (.inl (ae _ _ e))
     intro n β a w hr
     refine wpIn_mono (eC hm x c M Q _ hn hc h n β a w (lI.rs hr)) ?_
     rintro e a' w' ⟨M',st2,β',hq,hx,cJ,ht⟩
     exact ⟨M',st2,β',hq,hx,cJ,lI.bx.tr.trans ht⟩
    ·exact h.elim
   ·exact h.elim
 | .exit id,c,M,Q,st,hn,hc,h=>by
   cases c <;> simp only [compile,erase,reduceCtorEq] at hc
   ·split at hc <;> first | (cases hc; done) | (split at hc <;> cases hc)
   injection hc with h0
   subst h0
   exact fun n β a w hr=>wpIn_exit ⟨M,st,β,h,hH.refl _ _,hr,Tr.refl _ _ _⟩
 | .ret,c,M,Q,st,hn,hc,h=>by
   cases c <;> simp only [compile,erase,reduceCtorEq] at hc
   ·split at hc <;> first | (cases hc; done) | (split at hc <;> cases hc)
   exact fun n β a w hr=>wpIn_ret ⟨M,st,β,h,hH.refl _ _,hr,Tr.refl _ _ _⟩
 | .rangeFunc g ps x y,c,M,Q,st,hn,hc,h=>by
   cases c <;> simp only [compile,erase,reduceCtorEq] at hc
   ·split at hc <;> first | (cases hc; done) | (split at hc <;> cases hc)
   rename_i g' ps' a b
   injection hc with h0 h1 h2 h3
   subst h0 h1
   rcases hn with rfl | hn
   ·exact AD ⟨h2,h3⟩ h
   ·simp [dR] at hn
 | .bad,c,M,Q,st,hn,hc,h=>h.elim
theorem eu.RE {β : Beta} {M : dP} {bx : aa} {w : World} (h : eu β M bx w) : bj bx:=by
 obtain ⟨n,hn⟩:=h.fin
 refine ⟨n,fun b hb=>?_⟩
 cases hx : bx b with
 | none=>rfl
 | some box =>
   rcases h.live b box hx with ⟨h1,_⟩ | ⟨k,h1,_⟩ <;> (rw [hn b hb] at h1; cases h1)
theorem qm (hm : P.follows .mixedOrders = true) {f : FuncId} {fn : Func} {pc : PC} {n : Nat} {rs : List ResultVar} (hf : P.funcs[f]? = some fn) (hb : ∃ c,fn.body = some c /\ compile c = erase pc) (hent : ∀ vs w,(callFunc f vs).run P w = .ok (.enter f vs) w) (hn : fn.ntmps = n) (hrs : fn.results.toList = rs)
 {args : List V} {bx : aa} {Kc : V -> aa -> Prop} (h : bj bx -> pw P pc (fun e st=>(e = .normal \/ e = .ret) /\ zZ P rs Kc st) (bW n args bx)) : aw P f args bx Kc:=by
 obtain ⟨c,h1,h2⟩:=hb
 subst hn hrs
 exact lC hf h1 hent fun M n β a w hr=>eC hm pc c M _ _ (.inl rfl) h2 (h hr.ok.RE) n β a w hr
end
end Go.Pl
