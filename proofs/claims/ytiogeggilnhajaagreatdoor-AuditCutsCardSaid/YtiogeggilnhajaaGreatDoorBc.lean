/- Texts of the proof, put together: PlRa, PlFs, PlRb, PlRc, PlT, PlY, PlZ. -/
import Derived.Test.YtiogeggilnhajaaGreatDoorBb
set_option linter.unusedSimpArgs false
set_option linter.unusedVariables false
namespace Go.Pl
open Go
section
variable {ops:Array Oper}
def DH (ops:Array Oper) (T:Nat -> (St -> Prop) -> St -> Prop) (K:St -> Prop):Nat -> Array Bool -> St -> Prop
 | 0,listed,st=>Region.ready .any ops listed = [] /\ K st
 | fuel + 1,listed,st=>(Region.ready .any ops listed = [] -> K st) /\ ∀ i ∈ Region.ready .any ops listed,T i (DH ops T K fuel (listed.setIfInBounds i true)) st
def eu (T:Nat -> (St -> Prop) -> St -> Prop) (K:St -> Prop):Nat -> Nat -> St -> Prop
 | _,0,st=>K st
 | k,n + 1,st=>T k (eu T K (k + 1) n) st
structure XM (T:Nat -> (St -> Prop) -> St -> Prop):Prop where
 mono:∀ i (K K2:St -> Prop) st,(∀ s,K s -> K2 s) -> T i K st -> T i K2 st
 live:∀ i (K:St -> Prop) st,T i K st -> ∃ s,K s
theorem AR {T:Nat -> (St -> Prop) -> St -> Prop} (hT:XM T) {K:St -> Prop} {i:Nat} {oi:Oper} (hi:ops[i]? = some oi):∀ (fuel:Nat) (listed:Array Bool) (st:St),tv ops listed ->
 (∀ j oj,ops[j]? = some oj -> j ≠ i -> listed.getD j true = false -> ¬ fL (dC ops) j i -> ∀ K st,T i (T j K) st -> T j (T i K) st) ->
 i ∈ Region.ready .any ops listed -> T i (DH ops T K fuel (listed.setIfInBounds i true)) st -> DH ops T K (fuel + 1) listed st:=by
 intro fuel
 induction fuel with
 | zero =>
   intro listed st _ _ hr H
   refine ⟨fun h=>(by rw [h] at hr; cases hr),fun j hj=>?_⟩
   by_cases pv:j = i
   ·subst pv; exact H
   ·obtain ⟨s,hs⟩:=hT.live _ _ _ H
    have:=ready_mono hj pv
    rw [hs.1] at this
    cases this
 | succ fuel ih =>
   intro listed st jj mE hr H
   refine ⟨fun h=>(by rw [h] at hr; cases hr),fun j hj=>?_⟩
   by_cases pv:j = i
   ·subst pv; exact H
   ·obtain ⟨xl,oj,ly,gr⟩:=mem_ready.1 hj
    have AM:=(mem_ready.1 hr).1
    have Ij:¬ fL (dC ops) j i:=fun hw=>by
     have h1:=ib jj j oj i ly gr hw
     rcases Nat.lt_or_ge i listed.size with h' | h'
     ·simp [h'] at h1 AM; rw [AM] at h1; cases h1
     ·simp [Array.getElem?_eq_none h'] at h1
    have su:=mE j oj ly pv xl Ij
    have h1:T i (T j (DH ops T K fuel ((listed.setIfInBounds i true).setIfInBounds j true))) st :=
     hT.mono _ _ _ _ (fun s hs=>hs.2 j (ready_mono hj pv)) H
    have h2:=su _ _ h1
    refine hT.mono _ _ _ _ (fun s hs=>?_) h2
    refine ih (listed.setIfInBounds j true) s ?_ ?_ (ready_mono hr (Ne.symm pv)) ?_
    ·intro k ok hk AN e he hb
     by_cases ou:k = j
     ·subst ou
      rw [ly] at hk
      injection hk with hk
      subst hk
      exact getD_set_true (gr e he hb)
     ·rw [getD_set_ne false (Ne.symm ou)] at AN
      exact getD_set_true (jj k ok hk AN e he hb)
    ·intro k ok hk hki hun hnw'
     refine mE k ok hk hki ?_ hnw'
     by_cases AO:j = k
     ·subst AO; exact xl
     ·rw [getD_set_ne true AO] at hun; exact hun
    ·rw [Array.setIfInBounds_comm _ _ pv]
     exact hs
structure My (ops:Array Oper) (T:Nat -> (St -> Prop) -> St -> Prop):Prop where
 dep:∀ k ok,ops[k]? = some ok -> ∀ e ∈ ok.after,Region.binds .any e = true -> e.on < k
 comm:∀ k ok,ops[k]? = some ok -> ∀ j oj,ops[j]? = some oj -> k < j -> ¬ fL (dC ops) j k -> ∀ K st,T k (T j K) st -> T j (T k K) st
theorem tB {T:Nat -> (St -> Prop) -> St -> Prop} (hT:XM T) (hB:My ops T) {K:St -> Prop}:∀ (n k:Nat) (listed:Array Bool) (st:St),listed.size = ops.size -> k + n = ops.size -> (∀ j,j < ops.size -> (listed.getD j false = decide (j < k)) /\ (listed.getD j true = decide (j < k))) ->
 eu T K k n st -> DH ops T K n listed st
 | 0,k,listed,st,bW,hk,hlist,h=>by
   refine ⟨?_,h⟩
   apply List.eq_nil_iff_forall_not_mem.2
   intro j hj
   obtain ⟨h1,o,ho,_⟩:=mem_ready.1 hj
   have dr:=(Array.getElem?_eq_some_iff.1 ho).1
   rw [(hlist j dr).2] at h1
   simp at h1 hk
   omega
 | n + 1,k,listed,st,bW,hk,hlist,h=>by
   have my:k < ops.size:=by omega
   have h0:ops[k]? = some ops[k]:=Array.getElem?_eq_getElem my
   refine AR hT h0 n listed st ?_ ?_ ?_ ?_
   ·intro j oj hj lR e he hb
    have lX:=(Array.getElem?_eq_some_iff.1 hj).1
    rw [(hlist j lX).1] at lR
    have AO:j < k:=by simpa using lR
    have:=hB.dep j oj hj e he hb
    rw [(hlist e.on (by omega)).1]
    simp; omega
   ·intro j oj hj bB hun hw
    have lX:=(Array.getElem?_eq_some_iff.1 hj).1
    rw [(hlist j lX).2] at hun
    simp at hun
    exact hB.comm k _ h0 j oj hj (by omega) hw
   ·refine mem_ready.2 ⟨by rw [(hlist k my).2]; simp,_,h0,fun e he hb=>?_⟩
    have:=hB.dep k _ h0 e he hb
    rw [(hlist e.on (by omega)).1]
    simp; omega
   ·refine hT.mono _ _ _ _ (fun s hs=>tB hT hB n (k + 1) _ s (by simpa using bW) (by omega) (fun j hj=>?_) hs) h
    by_cases e:k = j
    ·subst e
     have:k < listed.size:=by omega
     simp [this]
    ·rw [getD_set_ne false e,getD_set_ne true e,(hlist j hj).1,(hlist j hj).2]
     have:(j < k) ↔ (j < k + 1):=by omega
     simp [this]
theorem oQ {P:Program} {T:Nat -> (St -> Prop) -> St -> Prop} {ro:Option Nat} {n:Nat} {K:St -> Prop} {Q:Exit -> Act -> World -> Prop} {M:dR}
 (hs:∀ (i:Nat) (o:Oper) (K:St -> Prop) (st:St) (a:Act) (w:World) (β:Beta) (K':Act -> World -> Prop),ops[i]? = some o -> T i K st -> Rs P β M st a w -> hH P β M st w K K' -> wpOpIn (rf ro) n P ops Q i K' a w) :
 ∀ (fuel:Nat) (listed:Array Bool) (st:St) (a:Act) (w:World) (β:Beta),DH ops T K fuel listed st -> Rs P β M st a w -> hH P β M st w K (Q .normal) ->
 wpAnyIn (rf ro) n P .any ops Q fuel listed a w
 | 0,listed,st,a,w,β,h,hr,hK=>⟨h.1,hK st β a w h.2 hr (Tr.refl _ _ _)⟩
 | fuel + 1,listed,st,a,w,β,h,hr,hK=>⟨fun h0=>hK st β a w (h.1 h0) hr (Tr.refl _ _ _),fun i hi=>by
  obtain ⟨_,o,ho,_⟩:=mem_ready.1 hi
  exact hs i o _ st a w β _ ho (h.2 i hi) hr (fun st' β' a' w' hk de ht=>oQ hs fuel _ st' a' w' β' hk de (hK.trans ht))⟩
end
end Go.Pl
namespace Go.Pl
open Go
def sc (o:Oper):Bool:=match o.guard,o.op with
 | none,.alloc _=>true
 | none,.box _ _=>true
 | none,.buildSlice _ _ _=>true
 | none,.makeSlice _ _ _=>true
 | none,.makeMap _ none=>true
 | _,_=>false
def Mz (o:Oper):Bool:=match o.guard,o.op with
 | none,.alloc _=>true
 | none,.box _ _=>true
 | _,_=>false
def AS (o:Oper):Bool:=match o.guard,o.op with
 | none,.call { callee:=.builtin .append,.. }=>true
 | _,_=>false
def XN (o:Oper):Bool:=match o.guard,o.op with
 | none,.load _ _=>true
 | _,_=>false
def Sg (o:Oper):Bool:=match o.guard,o.op with
 | none,.call { callee:=.value _,.. }=>true
 | _,_=>false
def XO (o:Oper):Bool:=match o.guard,o.op with
 | none,.build _ _=>true
 | _,_=>false
def mI (ops:Array Oper) (i j:Oper):Bool:=i.apart ops j && (((sc i || AS i) && XN j) || (XN i && sc j) || (Sg i && Mz j) || ((sc i || AS i || XO i) && sc j))
section
variable {P:Program} {ops:Array Oper} {o:Oper} {st:St}
theorem DI {bx bx':aa} {t:TypeId} {a:V} (hb:∀ b,bx b ≠ none -> bx' b = bx b) (hc:(dM P bx t a).1):dM P bx' t a = dM P bx t a:=by
 unfold dM at hc ⊢
 split
 ·rfl
 ·rename_i b sz i o ha
  simp only [ha] at hc
  cases hx:bx b with
  | none=>simp only [hx] at hc; exact hc.elim
  | some x=>rw [hb b (by rw [hx]; simp),hx]
 ·rfl
theorem DJ {bx bxo:aa} {x:Option bF} {t:TypeId} {a:V} (hf:ba bxo) (hs:∀ b,bxo b ≠ none -> bx b = bxo b) (hc:∀ b,bxo b = none -> (dM P (aB bxo b x) t a).1) :
 (dM P bx t a).1 /\ ∀ b,bxo b = none -> dM P (aB bxo b x) t a = dM P bx t a:=by
 obtain ⟨n,hn⟩:=hf
 have key:∀ b0:Nat,∃ b,bxo b = none /\ b ≠ b0:=fun b0=>⟨max n (b0 + 1),hn _ (Nat.le_max_left _ _),by have:=Nat.le_max_right n (b0 + 1); omega⟩
 unfold dM at hc ⊢
 split
 ·rename_i e o ha
  obtain ⟨b,h1,_⟩:=key 0
  have:=hc b h1
  simp only [ha] at this
  exact ⟨this,fun _ _=>rfl⟩
 ·rename_i b0 sz i o ha
  obtain ⟨b,h1,h2⟩:=key b0
  have h3:=hc b h1
  simp only [ha] at h3
  rw [ae _ _ (Ne.symm h2)] at h3
  have h4:bxo b0 ≠ none:=fun e=>by rw [e] at h3; exact h3.elim
  rw [hs b0 h4]
  refine ⟨h3,fun b' aR=>?_⟩
  have:b0 ≠ b':=fun e=>h4 (by rw [e]; exact aR)
  simp only [ae _ _ this]
 ·rename_i h1 h2
  obtain ⟨b,h3,_⟩:=key 0
  have:=hc b h3
  split at this
  ·rename_i e o ha; exact absurd ha (h1 e o)
  ·rename_i b0 sz i o ha; exact absurd ha (h2 b0 sz i o)
  ·exact this.elim
theorem pL (h:XN o = true) {K:St -> Prop}:∃ t a,o.op = .load t a /\ ∀ st:St,bJ P true ops o K st ↔ (dM P st.bx t (gv P st a)).1 /\ aL st o.dst /\ K (st.put o.dst (dM P st.bx t (gv P st a)).2):=by
 obtain ⟨dst,op,type,pos,after,guard⟩:=o
 unfold XN at h
 split at h
 ·rename_i t a hg c9
  dsimp only at hg c9
  subst hg c9
  refine ⟨t,a,rfl,fun st=>?_⟩
  show aK P true _ K st ↔ _
  simp only [aK,bV,if_true,ev]
 ·cases h
theorem qF (h:sc o = true) {K:St -> Prop} (hh:bJ P true ops o K st):∃ (xf:bF) (vf:Nat -> V),ba st.bx /\ (Mz o = true -> ¬ xf.empty) /\ (∀ b,st.bx b = none -> K (st.at (aB st.bx b (some xf)) o.dst (vf b))) /\
 ∀ (st2:St) (K2:St -> Prop),(∀ t,t ∈ o.looksAt ops -> st2.sl t = st.sl t) -> st2.n = st.n -> ba st2.bx -> (∀ b,st2.bx b = none -> K2 (st2.at (aB st2.bx b (some xf)) o.dst (vf b))) -> bJ P true ops o K2 st2:=by
 obtain ⟨dst,op,type,pos,after,guard⟩:=o
 have iD:∀ st2:St,(∀ t,t ∈ Oper.looksAt ops ⟨dst,op,type,pos,after,guard⟩ -> st2.sl t = st.sl t) -> st2.n = st.n -> dh ops ⟨dst,op,type,pos,after,guard⟩ st { st2 with bx:=st.bx }:=fun st2 h1 h2=>⟨h1,rfl,h2⟩
 have yB:∀ (st2:St) x,({ st2 with bx:=st.bx }:St).get x = st2.get x:=fun st2 x=>by cases x <;> rfl
 unfold sc at h
 split at h
 ·rename_i e hg c9
  dsimp only at hg c9
  subst hg c9
  change aK P true _ K st at hh
  simp only [aK,bV,Bool.false_eq_true,if_false] at hh
  cases hz:aV P e with
  | none=>rw [hz] at hh; exact hh.elim
  | some z =>
    rw [hz] at hh
    obtain ⟨h1,h2,h3,h4⟩:=hh
    refine ⟨.row e (aF P e) [ofValue z],fun b=>.ptr b (aF P e) 0 0,h3,fun _ h=>by simp [bF.empty] at h,h4,fun st2 K2 k1 k2 k3 k4=>?_⟩
    show aK P true _ K2 st2
    simp only [aK,bV,Bool.false_eq_true,if_false,hz]
    exact ⟨h1,((iD st2 k1 k2).dst _).2 h2,k3,k4⟩
 ·rename_i e x hg c9
  dsimp only at hg c9
  subst hg c9
  change aK P true _ K st at hh
  simp only [aK,bV,Bool.false_eq_true,if_false] at hh
  obtain ⟨h1,h2,h3,h4⟩:=hh
  refine ⟨.row e (aF P e) [st.get x],fun b=>.ptr b (aF P e) 0 0,h3,fun _ h=>by simp [bF.empty] at h,h4,fun st2 K2 k1 k2 k3 k4=>?_⟩
  show aK P true _ K2 st2
  simp only [aK,bV,Bool.false_eq_true,if_false]
  have e1:st2.get x = st.get x:=by rw [<- yB st2]; exact (iD st2 k1 k2).get x (by simp [Op.operands])
  rw [e1]
  exact ⟨h1,((iD st2 k1 k2).dst _).2 h2,k3,k4⟩
 ·rename_i t len parts hg c9
  dsimp only at hg c9
  subst hg c9
  change aK P true _ K st at hh
  simp only [aK,bV,Bool.false_eq_true,if_false] at hh
  split at hh
  ·rename_i e hk
   cases hz:aV P e with
   | none=>rw [hz] at hh; exact hh.elim
   | some z =>
     rw [hz] at hh
     obtain ⟨h1,h2,h3,h4,h5,h6,h7⟩:=hh
     refine ⟨.row e (aF P e) (dS st (List.replicate len (ofValue z)) parts.toList),fun b=>.own b (aF P e) 0 len,h6,(fun h=>(by cases h)),h7,fun st2 K2 k1 k2 k3 k4=>?_⟩
     show aK P true _ K2 st2
     simp only [aK,bV,Bool.false_eq_true,if_false,hk,hz]
     have e1:∀ p,p ∈ parts.toList -> st2.get p.2 = st.get p.2:=fun p hp=>by
      rw [<- yB st2]; exact (iD st2 k1 k2).get p.2 (by simp only [Op.operands]; simp; exact ⟨p.1,by simpa using hp⟩)
     have e2:∀ (l:List (Nat × Operand)) (es:List V),(∀ p,p ∈ l -> st2.get p.2 = st.get p.2) -> dS st2 es l = dS st es l:=by
      intro l
      induction l with
      | nil=>intro es _; rfl
      | cons p l ih =>
        intro es hp
        obtain ⟨i,x⟩:=p
        unfold dS
        rw [hp (i,x) (by simp)]
        exact ih _ fun p qZ=>hp p (by simp [qZ])
     rw [e2 _ _ e1]
     exact ⟨h1,h2,h3,fun p hp=>by rw [e1 p hp]; exact h4 p hp,((iD st2 k1 k2).dst _).2 h5,k3,k4⟩
  ·exact hh.elim
 ·rename_i t l c hg c9
  dsimp only at hg c9
  subst hg c9
  change aK P true _ K st at hh
  simp only [aK,bV,Bool.false_eq_true,if_false] at hh
  split at hh
  ·rename_i e kl l' kc c' hk IG ec
   cases hz:aV P e with
   | none=>rw [hz] at hh; exact hh.elim
   | some z =>
     rw [hz] at hh
     obtain ⟨h1,h2,h3,h4,h5,h6,h7,h8,h9,qu,Ie⟩:=hh
     refine ⟨.row e (aF P e) (List.replicate l'.toNat (ofValue z)),fun b=>.own b (aF P e) 0 l'.toNat,qu,(fun h=>(by cases h)),Ie,fun st2 K2 k1 k2 k3 k4=>?_⟩
     show aK P true _ K2 st2
     have e1:st2.get l = st.get l:=by rw [<- yB st2]; exact (iD st2 k1 k2).get l (by simp [Op.operands])
     have e2:st2.get c = st.get c:=by rw [<- yB st2]; exact (iD st2 k1 k2).get c (by simp [Op.operands])
     simp only [aK,bV,Bool.false_eq_true,if_false,e1,e2,hk,IG,ec,hz]
     exact ⟨h1,h2,h3,h4,h5,h6,h7,h8,((iD st2 k1 k2).dst _).2 h9,k3,k4⟩
  ·exact hh.elim
 ·rename_i t hg c9
  dsimp only at hg c9
  subst hg c9
  change aK P true _ K st at hh
  simp only [aK,bV,Bool.false_eq_true,if_false] at hh
  obtain ⟨h1,h2,h3⟩:=hh
  refine ⟨.map [],fun b=>.mp b,h2,(fun h=>(by cases h)),h3,fun st2 K2 k1 k2 k3 k4=>?_⟩
  show aK P true _ K2 st2
  simp only [aK,bV,Bool.false_eq_true,if_false]
  exact ⟨((iD st2 k1 k2).dst _).2 h1,k3,k4⟩
 ·cases h
theorem AT (h:(sc o || AS o) = true) {K:St -> Prop} (hh:bJ P true ops o K st):∃ (bxo:aa) (xf:Option bF) (vf:Nat -> V),ba bxo /\ (∀ b,bxo b ≠ none -> st.bx b = bxo b) /\ (∀ b,bxo b = none -> K (st.at (aB bxo b xf) o.dst (vf b))) /\
 ∀ (st2:St) (K2:St -> Prop),dh ops o st st2 -> (∀ b,bxo b = none -> K2 (st2.at (aB bxo b xf) o.dst (vf b))) -> bJ P true ops o K2 st2:=by
 rcases Bool.or_eq_true_iff.1 h with h | h
 ·obtain ⟨xf,vf,h1,_,h3,h4⟩:=qF h hh
  exact ⟨st.bx,some xf,vf,h1,fun _ _=>rfl,h3,fun st2 K2 ha k=>h4 st2 K2 ha.sl ha.n (by rw [ha.bx]; exact h1) (by rw [ha.bx]; exact k)⟩
 ·obtain ⟨dst,op,type,pos,after,guard⟩:=o
  unfold AS at h
  split at h
  ·rename_i args tys hg c9
   dsimp only at hg c9
   subst hg c9
   change aK P true _ K st at hh
   simp only [aK,bV,Bool.false_eq_true,if_false] at hh
   split at hh
   ·rename_i s x t t' jQ ha ht
    obtain ⟨Ig,hh⟩:=hh
    unfold da at hh
    split at hh
    ·rename_i e hk
     split at hh
     ·rename_i news z ka hz
      obtain ⟨h1,h2,h3,h4,h5⟩:=hh
      have Sh:∀ st2:St,dh ops (⟨dst,.call { callee:=.builtin .append,args:=args,argTypes:=tys },type,pos,after,none⟩:Oper) st st2 -> st2.get s = st.get s /\ bM st2 (aF P e) (st2.get x) = bM st (aF P e) (st.get x):=fun st2 iD=>by
       have g1:st2.get s = st.get s:=iD.get s (by
        simp only [Op.operands,Call.operands]
        have:s ∈ args.toList:=by rw [ha]; simp
        simpa using this)
       have g2:st2.get x = st.get x:=iD.get x (by
        simp only [Op.operands,Call.operands]
        have:x ∈ args.toList:=by rw [ha]; simp
        simpa using this)
       refine ⟨g1,?_⟩
       rw [g2]
       unfold bM
       rw [iD.bx]
      have build:∀ (st2:St) (K2:St -> Prop),dh ops (⟨dst,.call { callee:=.builtin .append,args:=args,argTypes:=tys },type,pos,after,none⟩:Oper) st st2 -> da P st2 dst t (st2.get s) (st2.get x) K2 -> bJ P true ops (⟨dst,.call { callee:=.builtin .append,args:=args,argTypes:=tys },type,pos,after,none⟩:Oper) K2 st2:=fun st2 K2 iD su=>by
       show aK P true _ K2 st2
       simp only [aK,bV,Bool.false_eq_true,if_false,ha,ht]
       exact ⟨Ig,su⟩
      split at h5
      ·rename_i hs
       obtain ⟨h6,h7,h8⟩:=h5
       refine ⟨st.bx,some (.row e (aF P e) news),fun b=>.own b (aF P e) 0 news.length,h4,fun _ _=>rfl,h8,fun st2 K2 iD k=>build st2 K2 iD ?_⟩
       obtain ⟨g1,g2⟩:=Sh st2 iD
       unfold da
       simp only [hk,g2,ka,hz,g1,hs]
       exact ⟨h1,h2,(iD.dst _).2 h3,by rw [iD.bx]; exact h4,h6,h7,fun b' aR=>by
        have:=k b' (by rw [<- iD.bx]; exact aR)
        simpa [St.at,St.box,iD.bx] using this⟩
      ·rename_i b0 sz n hs
       split at h5
       ·rename_i e' eU es dH
        obtain ⟨c1,c2,c3,c4,c5,c6,h8⟩:=h5
        refine ⟨aB st.bx b0 none,some (.row e (aF P e) (es.take n ++ news)),fun b=>.own b (aF P e) 0 (n + news.length),(an _ _ _).2 h4,fun b hb=>?_,h8,fun st2 K2 iD k=>build st2 K2 iD ?_⟩
        ·have:b ≠ b0:=fun e=>hb (by rw [e,af])
         rw [ae _ _ this]
        ·obtain ⟨g1,g2⟩:=Sh st2 iD
         unfold da
         simp only [hk,g2,ka,hz,g1,hs,iD.bx,dH]
         refine ⟨h1,h2,(iD.dst _).2 h3,h4,c1,c2,c3,c4,c5,c6,fun b' aR=>?_⟩
         have:=k b' aR
         simpa [St.at,St.box,iD.bx] using this
       ·exact h5.elim
      ·exact h5.elim
     ·exact hh.elim
    ·exact hh.elim
   all_goals first | exact hh.elim | (rename_i pK _ _; cases pK; done) | (rename_i pK; cases pK; done) | (exfalso; simp_all; done)
  ·cases h
theorem La {st:St} {bx:aa} {d:Option Tmp} {v:V} {x:Operand} (h:∀ t,x = .tmp t -> d ≠ some t):gv P (st.at bx d v) x = gv P st x:=by
 have hg:(st.at bx d v).get x = st.get x:=by
  cases x with
  | tmp t=>exact mC (h t rfl)
  | _=>rfl
 cases x <;> first | rfl | exact hg
theorem l5 (h:sc o = true) {K:St -> Prop} (hh:bJ P true ops o K st):∃ (xf:bF) (vf:Nat -> V),∀ (st2:St) (K2:St -> Prop),(∀ t,t ∈ o.looksAt ops -> st2.sl t = st.sl t) -> st2.n = st.n ->
 (bJ P true ops o K2 st2 ↔ ba st2.bx /\ ∀ b,st2.bx b = none -> K2 (st2.at (aB st2.bx b (some xf)) o.dst (vf b))):=by
 obtain ⟨dst,op,type,pos,after,guard⟩:=o
 have iD:∀ st2:St,(∀ t,t ∈ Oper.looksAt ops ⟨dst,op,type,pos,after,guard⟩ -> st2.sl t = st.sl t) -> st2.n = st.n -> dh ops ⟨dst,op,type,pos,after,guard⟩ st { st2 with bx:=st.bx }:=fun st2 h1 h2=>⟨h1,rfl,h2⟩
 have yB:∀ (st2:St) x,({ st2 with bx:=st.bx }:St).get x = st2.get x:=fun st2 x=>by cases x <;> rfl
 unfold sc at h
 split at h
 ·rename_i e hg c9
  dsimp only at hg c9
  subst hg c9
  change aK P true _ K st at hh
  simp only [aK,bV,Bool.false_eq_true,if_false] at hh
  cases hz:aV P e with
  | none=>rw [hz] at hh; exact hh.elim
  | some z =>
    rw [hz] at hh
    obtain ⟨h1,h2,h3,h4⟩:=hh
    refine ⟨.row e (aF P e) [ofValue z],fun b=>.ptr b (aF P e) 0 0,fun st2 K2 k1 k2=>?_⟩
    show aK P true _ K2 st2 ↔ _
    simp only [aK,bV,Bool.false_eq_true,if_false,hz]
    exact ⟨fun q=>⟨q.2.2.1,q.2.2.2⟩,fun q=>⟨h1,((iD st2 k1 k2).dst _).2 h2,q.1,q.2⟩⟩
 ·rename_i e x hg c9
  dsimp only at hg c9
  subst hg c9
  change aK P true _ K st at hh
  simp only [aK,bV,Bool.false_eq_true,if_false] at hh
  obtain ⟨h1,h2,h3,h4⟩:=hh
  refine ⟨.row e (aF P e) [st.get x],fun b=>.ptr b (aF P e) 0 0,fun st2 K2 k1 k2=>?_⟩
  show aK P true _ K2 st2 ↔ _
  simp only [aK,bV,Bool.false_eq_true,if_false]
  have e1:st2.get x = st.get x:=by rw [<- yB st2]; exact (iD st2 k1 k2).get x (by simp [Op.operands])
  rw [e1]
  exact ⟨fun q=>⟨q.2.2.1,q.2.2.2⟩,fun q=>⟨h1,((iD st2 k1 k2).dst _).2 h2,q.1,q.2⟩⟩
 ·rename_i t len parts hg c9
  dsimp only at hg c9
  subst hg c9
  change aK P true _ K st at hh
  simp only [aK,bV,Bool.false_eq_true,if_false] at hh
  split at hh
  ·rename_i e hk
   cases hz:aV P e with
   | none=>rw [hz] at hh; exact hh.elim
   | some z =>
     rw [hz] at hh
     obtain ⟨h1,h2,h3,h4,h5,h6,h7⟩:=hh
     refine ⟨.row e (aF P e) (dS st (List.replicate len (ofValue z)) parts.toList),fun b=>.own b (aF P e) 0 len,fun st2 K2 k1 k2=>?_⟩
     show aK P true _ K2 st2 ↔ _
     simp only [aK,bV,Bool.false_eq_true,if_false,hk,hz]
     have e1:∀ p,p ∈ parts.toList -> st2.get p.2 = st.get p.2:=fun p hp=>by
      rw [<- yB st2]; exact (iD st2 k1 k2).get p.2 (by simp only [Op.operands]; simp; exact ⟨p.1,by simpa using hp⟩)
     have e2:∀ (l:List (Nat × Operand)) (es:List V),(∀ p,p ∈ l -> st2.get p.2 = st.get p.2) -> dS st2 es l = dS st es l:=by
      intro l
      induction l with
      | nil=>intro es _; rfl
      | cons p l ih =>
        intro es hp
        obtain ⟨i,x⟩:=p
        unfold dS
        rw [hp (i,x) (by simp)]
        exact ih _ fun p qZ=>hp p (by simp [qZ])
     rw [e2 _ _ e1]
     exact ⟨fun q=>⟨q.2.2.2.2.2.1,q.2.2.2.2.2.2⟩,fun q=>⟨h1,h2,h3,fun p hp=>by rw [e1 p hp]; exact h4 p hp,((iD st2 k1 k2).dst _).2 h5,q.1,q.2⟩⟩
  ·exact hh.elim
 ·rename_i t l c hg c9
  dsimp only at hg c9
  subst hg c9
  change aK P true _ K st at hh
  simp only [aK,bV,Bool.false_eq_true,if_false] at hh
  split at hh
  ·rename_i e kl l' kc c' hk IG ec
   cases hz:aV P e with
   | none=>rw [hz] at hh; exact hh.elim
   | some z =>
     rw [hz] at hh
     obtain ⟨h1,h2,h3,h4,h5,h6,h7,h8,h9,qu,Ie⟩:=hh
     refine ⟨.row e (aF P e) (List.replicate l'.toNat (ofValue z)),fun b=>.own b (aF P e) 0 l'.toNat,fun st2 K2 k1 k2=>?_⟩
     show aK P true _ K2 st2 ↔ _
     have e1:st2.get l = st.get l:=by rw [<- yB st2]; exact (iD st2 k1 k2).get l (by simp [Op.operands])
     have e2:st2.get c = st.get c:=by rw [<- yB st2]; exact (iD st2 k1 k2).get c (by simp [Op.operands])
     simp only [aK,bV,Bool.false_eq_true,if_false,e1,e2,hk,IG,ec,hz]
     exact ⟨fun q=>⟨q.2.2.2.2.2.2.2.2.2.1,q.2.2.2.2.2.2.2.2.2.2⟩,fun q=>⟨h1,h2,h3,h4,h5,h6,h7,h8,((iD st2 k1 k2).dst _).2 h9,q.1,q.2⟩⟩
  ·exact hh.elim
 ·rename_i t hg c9
  dsimp only at hg c9
  subst hg c9
  change aK P true _ K st at hh
  simp only [aK,bV,Bool.false_eq_true,if_false] at hh
  obtain ⟨h1,h2,h3⟩:=hh
  refine ⟨.map [],fun b=>.mp b,fun st2 K2 k1 k2=>?_⟩
  show aK P true _ K2 st2 ↔ _
  simp only [aK,bV,Bool.false_eq_true,if_false]
  exact ⟨fun q=>⟨q.2.1,q.2.2⟩,fun q=>⟨((iD st2 k1 k2).dst _).2 h1,q.1,q.2⟩⟩
 ·cases h
def oR (bx:aa):Option Nat -> aa
 | none=>bx
 | some d=>aB bx d none
theorem AU (h:AS o = true) {K:St -> Prop} (hh:bJ P true ops o K st):∃ (D:Option Nat) (xf:bF) (vf:Nat -> V),(∀ d,D = some d -> st.bx d ≠ none) /\ ba st.bx /\ (∀ b,oR st.bx D b = none -> K (st.at (aB (oR st.bx D) b (some xf)) o.dst (vf b))) /\
 ∀ (st2:St) (K2:St -> Prop),(∀ t,t ∈ o.looksAt ops -> st2.sl t = st.sl t) -> st2.n = st.n -> ba st2.bx -> (∀ c,st.bx c ≠ none -> st2.bx c = st.bx c) -> (∀ b,oR st2.bx D b = none -> K2 (st2.at (aB (oR st2.bx D) b (some xf)) o.dst (vf b))) -> bJ P true ops o K2 st2:=by
 obtain ⟨dst,op,type,pos,after,guard⟩:=o
 have iD:∀ st2:St,(∀ t,t ∈ Oper.looksAt ops ⟨dst,op,type,pos,after,guard⟩ -> st2.sl t = st.sl t) -> st2.n = st.n -> dh ops ⟨dst,op,type,pos,after,guard⟩ st { st2 with bx:=st.bx }:=fun st2 h1 h2=>⟨h1,rfl,h2⟩
 have yB:∀ (st2:St) x,({ st2 with bx:=st.bx }:St).get x = st2.get x:=fun st2 x=>by cases x <;> rfl
 unfold AS at h
 split at h
 ·rename_i args tys hg c9
  dsimp only at hg c9
  subst hg c9
  change aK P true _ K st at hh
  simp only [aK,bV,Bool.false_eq_true,if_false] at hh
  split at hh
  ·rename_i s x t t' jQ ha ht
   obtain ⟨Ig,hh⟩:=hh
   unfold da at hh
   split at hh
   ·rename_i e hk
    split at hh
    ·rename_i news z ka hz
     obtain ⟨h1,h2,h3,h4,h5⟩:=hh
     have Sh:∀ st2:St,(∀ t,t ∈ Oper.looksAt ops (⟨dst,.call { callee:=.builtin .append,args:=args,argTypes:=tys },type,pos,after,none⟩:Oper) -> st2.sl t = st.sl t) -> st2.n = st.n -> (∀ c,st.bx c ≠ none -> st2.bx c = st.bx c) -> st2.get s = st.get s /\ bM st2 (aF P e) (st2.get x) = some news:=fun st2 k1 k2 k3=>by
      have g1:st2.get s = st.get s:=by
       rw [<- yB st2]
       exact (iD st2 k1 k2).get s (by
        simp only [Op.operands,Call.operands]
        have:s ∈ args.toList:=by rw [ha]; simp
        simpa using this)
      have g2:st2.get x = st.get x:=by
       rw [<- yB st2]
       exact (iD st2 k1 k2).get x (by
        simp only [Op.operands,Call.operands]
        have:x ∈ args.toList:=by rw [ha]; simp
        simpa using this)
      refine ⟨g1,?_⟩
      rw [g2,<- ka]
      unfold bM at ka ⊢
      split
      ·rfl
      ·rfl
      ·rename_i b eU o' n hx
       rw [hx] at ka
       dsimp only at ka
       cases hb:st.bx b with
       | none=>rw [hb] at ka; cases ka
       | some y=>rw [k3 b (by rw [hb]; simp),hb]
      ·rfl
      ·rfl
     have build:∀ (st2:St) (K2:St -> Prop),da P st2 dst t (st2.get s) (st2.get x) K2 -> bJ P true ops (⟨dst,.call { callee:=.builtin .append,args:=args,argTypes:=tys },type,pos,after,none⟩:Oper) K2 st2:=fun st2 K2 su=>by
      show aK P true _ K2 st2
      simp only [aK,bV,Bool.false_eq_true,if_false,ha,ht]
      exact ⟨Ig,su⟩
     split at h5
     ·rename_i hs
      obtain ⟨h6,h7,h8⟩:=h5
      refine ⟨none,.row e (aF P e) news,fun b=>.own b (aF P e) 0 news.length,(fun d hd=>by cases hd),h4,h8,fun st2 K2 k1 k2 k3 k4 k=>build st2 K2 ?_⟩
      obtain ⟨g1,g2⟩:=Sh st2 k1 k2 k4
      unfold da
      simp only [hk,g2,hz,g1,hs]
      exact ⟨h1,h2,((iD st2 k1 k2).dst _).2 h3,k3,h6,h7,k⟩
     ·rename_i b0 sz n hs
      split at h5
      ·rename_i e' eU es dH
       obtain ⟨c1,c2,c3,c4,c5,c6,h8⟩:=h5
       refine ⟨some b0,.row e (aF P e) (es.take n ++ news),fun b=>.own b (aF P e) 0 (n + news.length),(fun d hd=>by injection hd with hd; rw [<- hd,dH]; simp),h4,h8,fun st2 K2 k1 k2 k3 k4 k=>build st2 K2 ?_⟩
       obtain ⟨g1,g2⟩:=Sh st2 k1 k2 k4
       have cz:st2.bx b0 = some (.row e' eU es):=by rw [k4 b0 (by rw [dH]; simp),dH]
       unfold da
       simp only [hk,g2,hz,g1,hs,cz]
       exact ⟨h1,h2,((iD st2 k1 k2).dst _).2 h3,k3,c1,c2,c3,c4,c5,c6,k⟩
      ·exact h5.elim
     ·exact h5.elim
    ·exact hh.elim
   ·exact hh.elim
  all_goals first | exact hh.elim | (rename_i pK _ _; cases pK; done) | (rename_i pK; cases pK; done) | (exfalso; simp_all; done)
 ·cases h
theorem Fu (h:XO o = true):∃ (c:St -> Prop) (v:St -> V),(∀ st st2:St,(∀ t,t ∈ o.looksAt ops -> st2.sl t = st.sl t) -> st2.n = st.n -> c st = c st2 /\ v st = v st2) /\ ∀ (st:St) (K:St -> Prop),bJ P true ops o K st ↔ c st /\ aL st o.dst /\ K (st.put o.dst (v st)):=by
 obtain ⟨dst,op,type,pos,after,guard⟩:=o
 unfold XO at h
 split at h
 ·rename_i t parts hg c9
  dsimp only at hg c9
  subst hg c9
  refine ⟨fun st=>(kC P t (aV P t) (parts.toList.map fun p=>(p.1,st.get p.2))).1,fun st=>(kC P t (aV P t) (parts.toList.map fun p=>(p.1,st.get p.2))).2,fun st st2 k1 k2=>?_,fun st K=>?_⟩
  ·have iD:dh ops (⟨dst,.build t parts,type,pos,after,none⟩:Oper) st { st2 with bx:=st.bx }:=⟨k1,rfl,k2⟩
   have yB:∀ x,({ st2 with bx:=st.bx }:St).get x = st2.get x:=fun x=>by cases x <;> rfl
   have e1:(parts.toList.map fun p=>(p.1,st2.get p.2)) = parts.toList.map fun p=>(p.1,st.get p.2):=by
    apply List.map_congr_left
    intro p hp
    have:st2.get p.2 = st.get p.2:=by
     rw [<- yB]; exact iD.get p.2 (by simp only [Op.operands]; simp; exact ⟨p.1,by simpa using hp⟩)
    rw [this]
   dsimp only
   rw [e1]
   exact ⟨rfl,rfl⟩
  ·show aK P true _ K st ↔ _
   simp only [aK,bV,if_true,ev]
 ·cases h
theorem Lb {bP bx2 bx3:aa} {d1 d2:Option Tmp} {v1 v2:V} (h:∀ d,d1 = some d -> d2 ≠ some d):(st.at bP d1 v1).at bx2 d2 v2 = (st.at bx3 d2 v2).at bx2 d1 v1:=by
 cases d1 with
 | none=>cases d2 <;> rfl
 | some a =>
   cases d2 with
   | none=>rfl
   | some b =>
     have hab:a ≠ b:=fun e=>h a rfl (by rw [e])
     have e:aB (aB st.sl a v1) b v2 = aB (aB st.sl b v2) a v1:=by
      funext z
      simp only [aB]
      by_cases q1:z = b <;> by_cases q2:z = a <;> simp_all
     show (⟨st.n,aB (aB st.sl a v1) b v2,bx2⟩:St) = ⟨st.n,aB (aB st.sl b v2) a v1,bx2⟩
     rw [e]
theorem pM {bx:aa} {d:Option Tmp} {v:V}:(st.at bx d v).bx = bx:=by cases d <;> rfl
theorem pN {bx:aa} {d:Option Tmp} {v:V}:(st.at bx d v).n = st.n:=by cases d <;> rfl
theorem AV {bx:aa} {d:Option Tmp} {v:V} {t:Nat} (h:d ≠ some t):(st.at bx d v).sl t = st.sl t:=by
 cases d with
 | none=>rfl
 | some x=>exact ae _ _ (fun e=>h (by rw [e]))
theorem Fv {i j:Oper} (su:i.apart ops j = true) (hi:(sc i || AS i || XO i) = true) (hj:sc j = true) {K:St -> Prop} (hh:bJ P true ops i (bJ P true ops j K) st):bJ P true ops j (bJ P true ops i K) st:=by
 obtain ⟨h1,h2,h3⟩:=Oper.apart_spec su
 have DD:∀ d,j.dst = some d -> i.dst ≠ some d:=fun d hd he=>h2 d he hd
 have IA:∀ {bx v t},t ∈ j.looksAt ops -> (st.at bx i.dst v).sl t = st.sl t:=fun {bx v t} ht=>AV fun e=>h1 _ e ht
 have pv:∀ {bx v t},t ∈ i.looksAt ops -> (st.at bx j.dst v).sl t = st.sl t:=fun {bx v t} ht=>AV fun e=>h3 _ e ht
 simp only [Bool.or_eq_true] at hi
 rcases hi with (hi | hi) | hi
 ·obtain ⟨xi,vi,ei⟩:=l5 hi hh
  obtain ⟨f1,g1⟩:=(ei st _ (fun _ _=>rfl) rfl).1 hh
  obtain ⟨b0,dH⟩:=kU f1
  obtain ⟨xj,vj,ej⟩:=l5 hj (g1 b0 dH)
  refine (ej st _ (fun t ht=>(IA ht).symm) pN.symm).2 ⟨f1,fun b' aR=>(ei _ _ (fun t ht=>pv ht) pN).2 ⟨by rw [pM]; exact (an _ _ _).2 f1,fun b hb=>?_⟩⟩
  rw [pM] at hb ⊢
  have ff:b ≠ b':=fun e=>by rw [e,af] at hb; cases hb
  rw [ae _ _ ff] at hb
  have q:=((ej (st.at (aB st.bx b (some xi)) i.dst (vi b)) _ (fun t ht=>(IA ht).trans (IA ht).symm) (pN.trans pN.symm)).1 (g1 b hb)).2 b' (by rw [pM,ae _ _ ff.symm]; exact aR)
  rw [pM] at q
  rw [Lb (bx3:=aB st.bx b (some xi)) DD]
  have e:aB (aB st.bx b' (some xj)) b (some xi) = aB (aB st.bx b (some xi)) b' (some xj):=by
   funext z
   simp only [aB]
   by_cases q1:z = b <;> by_cases q2:z = b' <;> simp_all
  rw [e]
  exact q
 ·obtain ⟨D,xi,vi,hD,f1,g1,bi⟩:=AU hi hh
  have fD:ba (oR st.bx D):=by
   cases D with
   | none=>exact f1
   | some d=>exact (an _ _ _).2 f1
  obtain ⟨b0,dH⟩:=kU fD
  obtain ⟨xj,vj,ej⟩:=l5 hj (g1 b0 dH)
  refine (ej st _ (fun t ht=>(IA ht).symm) pN.symm).2 ⟨f1,fun b' aR=>bi _ _ (fun t ht=>pv ht) pN (by rw [pM]; exact (an _ _ _).2 f1) (fun c hc=>by rw [pM,ae _ _ fun e=>hc (by rw [e]; exact aR)]) fun b hb=>?_⟩
  rw [pM] at hb ⊢
  have hDb:∀ d,D = some d -> d ≠ b':=fun d hd e=>hD d hd (by rw [e]; exact aR)
  have hc:∀ z,oR (aB st.bx b' (some xj)) D z = aB (oR st.bx D) b' (some xj) z:=fun z=>by
   cases D with
   | none=>rfl
   | some d =>
     have:=hDb d rfl
     simp only [oR,aB]
     by_cases q1:z = d <;> by_cases q2:z = b' <;> simp_all
  rw [hc] at hb
  have ff:b ≠ b':=fun e=>by rw [e,af] at hb; cases hb
  rw [ae _ _ ff] at hb
  have iA:oR st.bx D b' = none:=by
   cases D with
   | none=>exact aR
   | some d =>
     show aB st.bx d none b' = none
     rw [ae _ _ (hDb d rfl).symm]; exact aR
  have q:=((ej (st.at (aB (oR st.bx D) b (some xi)) i.dst (vi b)) _ (fun t ht=>(IA ht).trans (IA ht).symm) (pN.trans pN.symm)).1 (g1 b hb)).2 b' (by rw [pM,ae _ _ ff.symm]; exact iA)
  rw [pM] at q
  rw [Lb (bx3:=aB (oR st.bx D) b (some xi)) DD]
  have e:aB (oR (aB st.bx b' (some xj)) D) b (some xi) = aB (aB (oR st.bx D) b (some xi)) b' (some xj):=by
   rw [show oR (aB st.bx b' (some xj)) D = aB (oR st.bx D) b' (some xj) from funext hc]
   funext z
   simp only [aB]
   by_cases q1:z = b <;> by_cases q2:z = b' <;> simp_all
  rw [e]
  exact q
 ·obtain ⟨c,v,hc,he⟩:=Fu (P:=P) (ops:=ops) hi
  obtain ⟨q1,q2,q3⟩:=(he st _).1 hh
  obtain ⟨xj,vj,ej⟩:=l5 hj q3
  have lx:∀ {v t},t ∈ j.looksAt ops -> (st.put i.dst v).sl t = st.sl t:=fun {v t} ht=>AV (bx:=st.bx) fun e=>h1 _ e ht
  have Lc:∀ {v},(st.put i.dst v).bx = st.bx:=by intro v; cases i.dst <;> rfl
  have hpn:∀ {v},(st.put i.dst v).n = st.n:=by intro v; cases i.dst <;> rfl
  obtain ⟨f1,g1⟩:=(ej _ _ (fun _ _=>rfl) rfl).1 q3
  rw [Lc] at f1 g1
  refine (ej st _ (fun t ht=>(lx ht).symm) hpn.symm).2 ⟨f1,fun b hb=>(he _ _).2 ?_⟩
  obtain ⟨e1,e2⟩:=hc st (st.at (aB st.bx b (some xj)) j.dst (vj b)) (fun t ht=>pv ht) pN
  rw [<- e1,<- e2]
  refine ⟨q1,kF.2 q2,?_⟩
  have:=g1 b hb
  rw [ia st _ _ _ h2] at this
  exact this
theorem DK {i j:Oper} (h:mI ops i j = true) {K:St -> Prop} (hh:bJ P true ops i (bJ P true ops j K) st):bJ P true ops j (bJ P true ops i K) st:=by
 simp only [mI,Bool.and_eq_true,Bool.or_eq_true] at h
 obtain ⟨su,Ms⟩:=h
 obtain ⟨h1,h2,h3⟩:=Oper.apart_spec su
 have DD:∀ d,j.dst = some d -> i.dst ≠ some d:=fun d hd he=>h2 d he hd
 rcases Ms with ((⟨hg,hr⟩ | ⟨hr,hn⟩) | ⟨hc,hn⟩) | ⟨hg,hn⟩
 ·obtain ⟨bxo,xf,vf,k1,k2,k3,k4⟩:=AT (by simpa using hg) hh
  obtain ⟨t,a,c9,hl⟩:=pL (P:=P) (ops:=ops) (o:=j) hr (K:=K)
  obtain ⟨t2,a2,Fw,iS⟩:=pL (P:=P) (ops:=ops) (o:=j) hr (K:=bJ P true ops i K)
  rw [c9] at Fw
  injection Fw with e1 e2
  subst e1 e2
  have ha:∀ bx v,gv P (st.at bx i.dst v) a = gv P st a:=fun bx v=>La fun x hx e=>h1 x e (by
   subst hx
   simp [Oper.looksAt,c9,Op.operands])
  have hb:=fun b hb=>(hl _).1 (k3 b hb)
  have jA:∀ b,(st.at (aB bxo b xf) i.dst (vf b)).bx = aB bxo b xf:=fun b=>by cases i.dst <;> rfl
  simp only [ha,jA] at hb
  obtain ⟨q1,q2⟩:=DJ (P:=P) (x:=xf) (t:=t) (a:=gv P st a) k1 k2 (fun b aR=>(hb b aR).1)
  refine (iS st).2 ⟨q1,?_,?_⟩
  ·obtain ⟨b,aR⟩:=kU k1
   exact kF.1 (hb b aR).2.1
  ·refine k4 _ _ (jH h3) fun b aR=>?_
   have:=(hb b aR).2.2
   rw [q2 b aR] at this
   rw [ia st _ _ _ DD]
   exact this
 ·obtain ⟨t,a,c9,hl⟩:=pL (P:=P) (ops:=ops) (o:=i) hr (K:=K)
  obtain ⟨t2,a2,Fw,iS⟩:=pL (P:=P) (ops:=ops) (o:=i) hr (K:=bJ P true ops j K)
  rw [c9] at Fw
  injection Fw with e1 e2
  subst e1 e2
  obtain ⟨q1,q2,q3⟩:=(iS st).1 hh
  obtain ⟨xf,vf,k1,_,k3,k4⟩:=qF hn q3
  have pt:(st.put i.dst (dM P st.bx t (gv P st a)).2).bx = st.bx:=by cases i.dst <;> rfl
  rw [pt] at k1 k3
  refine k4 st _ (fun x hx=>(iF (ops:=ops) (o:=j) (st:=st) (d:=i.dst) (v:=(dM P st.bx t (gv P st a)).2) (fun d hd=>h1 d hd)).sl x hx) (by cases i.dst <;> rfl) k1 fun b hb=>?_
  have ha:gv P (st.at (aB st.bx b (some xf)) j.dst (vf b)) a = gv P st a:=La fun x hx e=>h3 x e (by
   subst hx
   simp [Oper.looksAt,c9,Op.operands])
  have hk:=DI (P:=P) (bx':=aB st.bx b (some xf)) (t:=t) (a:=gv P st a) (fun c hc=>ae _ _ fun e=>hc (by rw [e]; exact hb)) q1
  have mJ:(st.at (aB st.bx b (some xf)) j.dst (vf b)).bx = aB st.bx b (some xf):=by cases j.dst <;> rfl
  refine (hl _).2 ?_
  rw [ha,mJ,hk]
  refine ⟨q1,kF.2 q2,?_⟩
  have:=k3 b hb
  rw [ia st _ _ _ h2] at this
  exact this
 ·obtain ⟨dst,op,type,pos,after,guard⟩:=i
  unfold Sg at hc
  split at hc
  ·rename_i f args tys hg c9
   dsimp only at hg c9
   subst hg c9
   have xm:∀ (K:St -> Prop) (s:St),bJ P true ops (⟨dst,.call { callee:=.value f,args:=args,argTypes:=tys },type,pos,after,none⟩:Oper) K s ↔ ∃ g vs,callee s f args.toList = some (g,vs) /\ eV s f args.toList /\ aL s dst /\ ∃ r,ay P g vs s.bx r /\ K (s.put dst r):=fun K s=>by
    show aK P true _ K s ↔ _
    simp only [aK,bV,Bool.false_eq_true,if_false]
    constructor
    ·intro hx
     cases jQ:callee s f args.toList with
     | none=>rw [jQ] at hx; exact hx.elim
     | some gv =>
       obtain ⟨g,vs⟩:=gv
       rw [jQ] at hx
       obtain ⟨x1,x2,x3⟩:=hx
       exact ⟨g,vs,rfl,x1,x2,by simpa using x3⟩
    ·rintro ⟨g,vs,jQ,x1,x2,x3⟩
     rw [jQ]
     exact ⟨x1,x2,by simpa using x3⟩
   obtain ⟨g,vs,jQ,c1,c2,r,c3,c4⟩:=(xm _ _).1 hh
   obtain ⟨xf,vf,k1,k0,k3,k4⟩:=qF (by
    unfold Mz at hn
    unfold sc
    split at hn <;> simp_all) c4
   have pt:(st.put dst r).bx = st.bx:=by cases dst <;> rfl
   rw [pt] at k1 k3
   refine k4 st _ (fun x hx=>(iF (ops:=ops) (o:=j) (st:=st) (d:=dst) (v:=r) (fun d hd=>h1 d hd)).sl x hx) (by cases dst <;> rfl) k1 fun b hb=>?_
   have eI:∀ x,x = f \/ x ∈ args.toList -> (st.at (aB st.bx b (some xf)) j.dst (vf b)).get x = st.get x:=fun x hx=>by
    cases x with
    | tmp t =>
      refine mC fun e=>h3 t e ?_
      simp only [Oper.looksAt,Op.operands,Call.operands]
      rcases hx with hx | hx
      ·subst hx; simp
      ·simp only [List.mem_append,List.mem_filterMap]
       left
       exact ⟨.tmp t,by simpa using Or.inr hx,rfl⟩
    | _=>rfl
   have mA:callee (st.at (aB st.bx b (some xf)) j.dst (vf b)) f args.toList = some (g,vs):=by
    rw [<- jQ]
    unfold callee
    rw [eI f (.inl rfl)]
    have:(args.toList.map fun x=>((st.at (aB st.bx b (some xf)) j.dst (vf b)).get x).strip) = args.toList.map fun x=>(st.get x).strip:=List.map_congr_left fun x hx=>by rw [eI x (.inr hx)]
    rw [this]
   have mJ:(st.at (aB st.bx b (some xf)) j.dst (vf b)).bx = aB st.bx b (some xf):=by cases j.dst <;> rfl
   have hov:ov st.bx (fun c=>if c = b then some xf else none) = aB st.bx b (some xf):=by
    funext c
    unfold ov aB
    by_cases e:c = b <;> simp [e]
   have hd:Dj st.bx (fun c=>if c = b then some xf else none):=⟨fun c hc=>by
    by_cases e:c = b
    ·rw [e]; exact hb
    ·simp [e] at hc,fun c box hc=>by
    by_cases e:c = b
    ·simp [e] at hc; rw [<- hc]; exact k0 hn
    ·simp [e] at hc⟩
   have Si:ay P g vs (aB st.bx b (some xf)) r:=by
    have:=aw.frame c3 hd
    rw [hov] at this
    refine ⟨this.1,fun β M w us a1 a2 a3 a4=>(this.2 β M w us a1 a2 a3 a4).mono ?_⟩
    rintro e w' ⟨v,r',bx',β',x1,⟨bxc',⟨x2,x3⟩,_,x4⟩,x5⟩
    rw [x3,hov] at x4
    exact ⟨v,r',bx',β',x1,⟨x2,x4⟩,x5⟩
   refine (xm _ _).2 ⟨g,vs,mA,⟨by rw [eI f (.inl rfl)]; exact c1.1,fun x hx=>by rw [eI x (.inr hx)]; exact c1.2 x hx⟩,kF.2 c2,r,by rw [mJ]; exact Si,?_⟩
   have:=k3 b hb
   rw [ia st _ _ _ h2] at this
   exact this
  ·cases hc
 ·exact Fv su (by simp only [Bool.or_eq_true]; exact hg) hn hh
end
end Go.Pl
namespace Go.Pl
open Go
def lenOf (c:Call):Option (Operand × TypeId) :=
 match c.callee,c.args.toList,c.argTypes.toList with
 | .builtin .len,[x],[t]=>some (x,t)
 | _,_,_=>none
theorem tC {c:Call} {x:Operand} {t:TypeId} (h:lenOf c = some (x,t)):c = { callee:=.builtin .len,args:=#[x],argTypes:=#[t] }:=by
 unfold lenOf at h
 split at h
 ·rename_i x' t' h1 h2 h3
  injection h with h
  injection h with e1 e2
  subst e1 e2
  obtain ⟨callee,args,ts⟩:=c
  simp only at h1 h2 h3
  rw [h1,<- Array.toArray_toList (xs:=args),h2,<- Array.toArray_toList (xs:=ts),h3]
 ·cases h
def mh:Op -> Bool
 | .load _ _=>true
 | .buildSlice _ _ _=>true
 | .call c=>(lenOf c).isSome
 | _=>false
def jR:List V -> List (Nat × V) -> List V
 | es,[]=>es
 | es,(i,x) :: ps=>jR (es.set i x) ps
def DL (P:Program) (t:TypeId) (len:Nat) (ps:List (Nat × V)):Ev :=
 match bC P t with
 | .slice e=>match aV P e with
   | some z=>(storable P e (ofValue z) /\ 0 < aF P e /\ len * aF P e <= 16777216 /\ ∀ p,p ∈ ps -> p.1 < len /\ storable P e p.2,.sl (aF P e) (jR (List.replicate len (ofValue z)) ps))
   | none=>dt
 | _=>dt
def sd (P:Program) (st:St) (op:Op):Ev :=
 match op with
 | .load t a=>dM P (fun _=>none) t (gv P st a)
 | .buildSlice t len parts=>DL P t len (parts.toList.map fun p=>(p.1,st.get p.2))
 | .call c=>match lenOf c with
   | some (x,t)=>nO P (fun _=>none) t (st.get x)
   | none=>dt
 | _=>dt
section
variable {P:Program} {ops:Array Oper} {st:St}
def YF (P:Program) (ops:Array Oper) (o:Oper) (st:St) (v:V):Prop :=
 match o.guard with
 | none=>(sd P st o.op).1 /\ v = (sd P st o.op).2
 | some (g,want)=>∃ wb,dV ops st g want = some wb /\ (wb = true -> (sd P st o.op).1) /\ v = eB wb (sd P st o.op).2
theorem YF.fn {o:Oper} {v v':V} (h:YF P ops o st v) (h':YF P ops o st v'):v = v':=by
 unfold YF at h h'
 split at h
 ·rename_i hg; simp only [hg] at h'; rw [h.2,h'.2]
 ·rename_i hg
  simp only [hg] at h'
  obtain ⟨wb,h1,_,h2⟩:=h
  obtain ⟨wb',h3,_,h4⟩:=h'
  rw [h1] at h3
  injection h3 with h3
  subst h3
  rw [h2,h4]
theorem dh.sd {o:Oper} {st st2:St} (h:dh ops o st st2):Pl.sd P st2 o.op = Pl.sd P st o.op:=by
 obtain ⟨dst,op,type,pos,after,guard⟩:=o
 cases op
 case load t a =>
  simp only [Pl.sd]
  rw [h.gv _ (by simp [Op.operands])]
 case buildSlice t len parts =>
  simp only [Pl.sd]
  have:(parts.toList.map fun p=>(p.1,st2.get p.2)) = parts.toList.map fun p=>(p.1,st.get p.2):=List.map_congr_left fun p hp=>by
   rw [h.get p.2 (by simp only [Op.operands]; simp; exact ⟨p.1,by simpa using hp⟩)]
  rw [this]
 case call c =>
  simp only [Pl.sd]
  cases hl:lenOf c with
  | none=>rfl
  | some p =>
    obtain ⟨x,t⟩:=p
    have:=tC hl
    subst this
    simp only
    rw [h.get x (by simp [Op.operands,Call.operands])]
 all_goals rfl
theorem YF.agree {o:Oper} {st2:St} (hs:∀ t,t ∈ o.looksAt ops -> st2.sl t = st.sl t) (hn:st2.n = st.n) {v:V} (h:YF P ops o st v):YF P ops o st2 v:=by
 have ha:dh ops o st { st2 with bx:=st.bx }:=⟨hs,rfl,hn⟩
 have h1:sd P st2 o.op = sd P st o.op:=by
  have e1:sd P { st2 with bx:=st.bx } o.op = sd P st2 o.op:=by
   have hg:∀ x,({ st2 with bx:=st.bx }:St).get x = st2.get x:=fun x=>by cases x <;> rfl
   have hv:∀ x,gv P { st2 with bx:=st.bx } x = gv P st2 x:=fun x=>by cases x <;> rfl
   obtain ⟨dst,op,type,pos,after,guard⟩:=o
   cases op <;> first | rfl | (simp only [sd,hv]) | (simp only [sd,hg])
  rw [<- e1,ha.sd]
 unfold YF at h ⊢
 split
 ·rename_i hg; simp only [hg] at h; rw [h1]; exact h
 ·rename_i g want hg
  simp only [hg] at h
  obtain ⟨wb,h2,h3,h4⟩:=h
  refine ⟨wb,?_,by rw [h1]; exact h3,by rw [h1]; exact h4⟩
  have:=ha.wanted hg
  rw [<- h2,<- this]
  rfl
def dO (o:Oper):Bool :=
 match o.guard,o.op with
 | none,.call { callee:=.value (.func _),.. }=>true
 | _,_=>false
theorem l6 {o:Oper} (h:dO o = true):o.guard = none /\ ∃ f args ts,o.op = .call ⟨.value (.func f),args,ts⟩:=by
 unfold dO at h
 split at h
 ·rename_i h1 h2
  exact ⟨h1,_,_,_,h2⟩
 ·cases h
theorem tD {o:Oper} (h:nT o = true):dO o = false:=by
 cases hc:dO o with
 | false=>rfl
 | true =>
   obtain ⟨_,f,args,ts,e⟩:=l6 hc
   simp [nT,e] at h
theorem qG {o:Oper} (h:mh o.op = true):dO o = false:=by
 cases hc:dO o with
 | false=>rfl
 | true =>
   obtain ⟨_,f,args,ts,e⟩:=l6 hc
   simp [mh,e,lenOf] at h
attribute [simp] lenOf
theorem Cc {c:Call} (h:mh (.call c) = true):∃ x t,c = { callee:=.builtin .len,args:=#[x],argTypes:=#[t] }:=by
 simp only [mh] at h
 cases hl:lenOf c with
 | none=>rw [hl] at h; cases h
 | some p=>exact ⟨p.1,p.2,tC hl⟩
theorem qH {P:Program} {bx:aa} {t:TypeId} {x:V} (h:(nO P (fun _=>none) t x).1):nO P bx t x = nO P (fun _=>none) t x:=by
 unfold nO at h ⊢
 split <;> first | rfl | (simp_all [dt])
theorem tE {o:Oper} (hc:dO o = true) {st st2:St} (ha:dh ops o st st2) {K K2:St -> Prop} (h:bJ P false ops o K st) (hk:∀ bx v,K (st.at bx o.dst v) -> K2 (st2.at bx o.dst v)):bJ P false ops o K2 st2:=by
 obtain ⟨hg,f,args,ts,c9⟩:=l6 hc
 have BY:∀ x,x ∈ args.toList -> st2.get x = st.get x:=fun x hx=>ha.get x (by simp [c9,Op.operands,Call.operands]; right; simpa using hx)
 have vD:st2.get (.func f) = st.get (.func f):=rfl
 have mA:callee st2 (.func f) args.toList = callee st (.func f) args.toList:=by
  unfold callee
  rw [vD]
  have:(args.toList.map fun x=>(st2.get x).strip) = args.toList.map fun x=>(st.get x).strip:=List.map_congr_left fun x hx=>by rw [BY x hx]
  rw [this]
 unfold bJ at h ⊢
 simp only [hg] at h ⊢
 unfold aK at h ⊢
 have he:¬ bV o.op = true:=by rw [c9]; simp [bV]
 rw [if_neg he] at h ⊢
 simp only [c9] at h ⊢
 rw [mA]
 cases qA:callee st (.func f) args.toList with
 | none=>simp only [qA] at h
 | some p =>
   obtain ⟨q,vs⟩:=p
   simp only [qA] at h ⊢
   obtain ⟨h1,h2,h3⟩:=h
   simp only [Bool.false_eq_true,if_false] at h3 ⊢
   refine ⟨⟨by rw [vD]; exact h1.1,fun x hx=>by rw [BY x hx]; exact h1.2 x hx⟩,(ha.dst _).2 h2,?_⟩
   rw [ha.bx]
   refine ⟨h3.1,fun β M w ws g1 g2 g3 g4=>(h3.2 β M w ws g1 g2 g3 g4).mono ?_⟩
   rintro e w' ⟨v,r,bx',β',g5,g6,g7⟩
   exact ⟨v,r,bx',β',g5,hk _ _ g6,g7⟩
def iJ (P:Program) (ops:Array Oper) (fl:Nat -> Bool) (i:Nat) (K:St -> Prop) (st:St):Prop :=
 match ops[i]? with
 | none=>False
 | some o=>if (fl i && mh o.op) = true then ∃ v,YF P ops o st v /\ aL st o.dst /\ K (st.put o.dst v) else if (fl i && dO o) = true then (∃ bx v,K (st.at bx o.dst v)) /\ bJ P false ops o K st else bJ P true ops o K st
variable {fl:Nat -> Bool} {i:Nat} {o:Oper}
theorem fU (ho:ops[i]? = some o) {K:St -> Prop}:iJ P ops fl i K st = if (fl i && mh o.op) = true then ∃ v,YF P ops o st v /\ aL st o.dst /\ K (st.put o.dst v) else if (fl i && dO o) = true then (∃ bx v,K (st.at bx o.dst v)) /\ bJ P false ops o K st else bJ P true ops o K st:=by
 unfold iJ
 simp only [ho]
def SX (P:Program) (ops:Array Oper) (fl:Nat -> Bool) (i:Nat) (o:Oper) (st:St) (v:V):Prop:=if (fl i && mh o.op) = true then YF P ops o st v else Y0 P ops o st v
def vH (fl:Nat -> Bool) (i:Nat) (o:Oper):Bool:=(fl i && mh o.op) || nT o
theorem ig (ho:ops[i]? = some o) (hc:vH fl i o = true) {K:St -> Prop}:iJ P ops fl i K st ↔ ∃ v,SX P ops fl i o st v /\ aL st o.dst /\ K (st.put o.dst v):=by
 rw [fU ho]
 unfold SX
 by_cases hf:(fl i && mh o.op) = true
 ·simp only [if_pos hf]
 ·simp only [if_neg hf]
  have:nT o = true:=by simpa [vH,hf] using hc
  rw [if_neg (by simp [tD this])]
  exact qB this
theorem SX.fn {v v':V} (h:SX P ops fl i o st v) (h':SX P ops fl i o st v'):v = v':=by
 unfold SX at h h'
 split at h
 ·rename_i hf; rw [if_pos hf] at h'; exact h.fn h'
 ·rename_i hf; rw [if_neg hf] at h'; exact h.fn h'
theorem SX.agree (hc:vH fl i o = true) {st2:St} (hs:∀ t,t ∈ o.looksAt ops -> st2.sl t = st.sl t) (hn:st2.n = st.n) {v:V} (h:SX P ops fl i o st v):SX P ops fl i o st2 v:=by
 unfold SX at h ⊢
 by_cases hf:(fl i && mh o.op) = true
 ·rw [if_pos hf] at h ⊢
  exact h.agree hs hn
 ·rw [if_neg hf] at h ⊢
  exact h.agree (by simpa [vH,hf] using hc) hs hn
theorem l7 (ho:ops[i]? = some o) (si:(fl i && dO o) = false) {K:St -> Prop} (h:iJ P ops fl i K st):j8 P true ops o st K (iJ P ops fl i):=by
 rw [fU ho] at h
 by_cases hf:(fl i && mh o.op) = true
 ·rw [if_pos hf] at h
  obtain ⟨v,h1,h2,h3⟩:=h
  refine gT v h3 fun st2 K2 ha hk=>?_
  rw [fU ho,if_pos hf]
  exact ⟨v,h1.agree ha.sl ha.n,(ha.dst _).2 h2,hk⟩
 ·rw [if_neg hf,if_neg (by simp [si])] at h
  obtain ⟨T,h1,h2,h3⟩:=hZ h
  refine ⟨T,h1,h2,fun st2 K2 ha hT=>?_⟩
  rw [fU ho,if_neg hf,if_neg (by simp [si])]
  exact h3 st2 K2 ha hT
theorem n8:XM (iJ P ops fl) where
 mono i K K2 st hm h:=by
  unfold iJ at h ⊢
  split at h
  ·exact h.elim
  ·rename_i o ho
   split at h
   ·rename_i hf
    obtain ⟨v,h1,h2,h3⟩:=h
    rw [if_pos hf]
    exact ⟨v,h1,h2,hm _ h3⟩
   ·rename_i hf
    rw [if_neg hf]
    split at h
    ·rename_i cm
     rw [if_pos cm]
     obtain ⟨⟨bx,v,h1⟩,h2⟩:=h
     exact ⟨⟨bx,v,hm _ h1⟩,dk hm h2⟩
    ·rename_i cm
     rw [if_neg cm]
     exact dk hm h
 live i K st h:=by
  cases ho:ops[i]? with
  | none=>unfold iJ at h; simp only [ho] at h
  | some o =>
    by_cases si:(fl i && dO o) = true
    ·rw [fU ho] at h
     have Ax:dO o = true:=by simp only [Bool.and_eq_true] at si; exact si.2
     have hz:¬ (fl i && mh o.op) = true:=fun e=>by
      simp only [Bool.and_eq_true] at e
      rw [qG e.2] at Ax; cases Ax
     rw [if_neg hz,if_pos si] at h
     obtain ⟨⟨bx,v,h1⟩,_⟩:=h
     exact ⟨_,h1⟩
    ·obtain ⟨T,⟨bx,v,h0⟩,hT,_⟩:=l7 ho (by simpa using si) h
     exact ⟨_,hT bx v h0⟩
theorem Fx {j:Nat} {oi oj:Oper} (hoi:ops[i]? = some oi) (ly:ops[j]? = some oj) (h:(gJ ops oi oj || mI ops oi oj) = true \/ (oi.apart ops oj = true /\ (vH fl i oi = true \/ vH fl j oj = true))) (hci':(fl i && dO oi) = true -> vH fl j oj = true) (hcj':(fl j && dO oj) = true -> vH fl i oi = true) {K:St -> Prop} (hh:iJ P ops fl i (iJ P ops fl j K) st) :
 iJ P ops fl j (iJ P ops fl i K) st:=by
 have su:oi.apart ops oj = true:=by
  rcases h with h | h
  ·rcases Bool.or_eq_true_iff.1 h with h | h
   ·simp only [gJ,Bool.and_eq_true] at h; exact h.1
   ·simp only [mI,Bool.and_eq_true] at h; exact h.1
  ·exact h.1
 obtain ⟨h1,h2,h3⟩:=Oper.apart_spec su
 have DD:∀ d,oj.dst = some d -> oi.dst ≠ some d:=fun d hd he=>h2 d he hd
 have callZ:∀ {i:Nat} {o:Oper},(fl i && dO o) = true -> dO o = true /\ ¬ (fl i && mh o.op) = true:=fun {i o} hn=>by
  have Ax:dO o = true:=by simp only [Bool.and_eq_true] at hn; exact hn.2
  exact ⟨Ax,fun e=>by
   simp only [Bool.and_eq_true] at e
   rw [qG e.2] at Ax; cases Ax⟩
 by_cases xm:vH fl i oi = true
 ·obtain ⟨v,hy,hd,hk⟩:=(ig hoi xm).1 hh
  by_cases hnj:(fl j && dO oj) = true
  ·obtain ⟨Ax,hz⟩:=callZ hnj
   rw [fU ly,if_neg hz,if_pos hnj] at hk
   rw [fU ly,if_neg hz,if_pos hnj]
   have zi:∀ bx u,K ((st.put oi.dst v).at bx oj.dst u) -> iJ P ops fl i K (st.at bx oj.dst u):=fun bx u hu=>(ig hoi xm).2 ⟨v,hy.agree xm (fun t ht=>mC (fun e=>h3 t e ht)) uW,kF.2 hd,by
    rwa [ia st bx v u h2] at hu⟩
   obtain ⟨⟨bx,u,hu⟩,fJ⟩:=hk
   exact ⟨⟨bx,u,zi bx u hu⟩,tE Ax (iF h1) fJ zi⟩
  obtain ⟨T,_,hT,Mt⟩:=l7 ly (by simpa using hnj) hk
  refine Mt st _ (iF h1) (fun bx u hu=>(ig hoi xm).2 ⟨v,hy.agree xm (fun t ht=>mC (fun e=>h3 t e ht)) uW,kF.2 hd,?_⟩)
  have:=hT bx u hu
  rwa [ia st bx v u h2] at this
 ·by_cases Ay:vH fl j oj = true
  ·by_cases hni:(fl i && dO oi) = true
   ·obtain ⟨Ax,hz⟩:=callZ hni
    rw [fU hoi,if_neg hz,if_pos hni] at hh
    obtain ⟨⟨aD,u0,h0⟩,hh2⟩:=hh
    obtain ⟨v,hy,hd,DM⟩:=(ig ly Ay).1 h0
    have Cb:SX P ops fl j oj st v:=hy.agree Ay (fun t ht=>(mC (fun e=>h1 t e ht)).symm) uW.symm
    have zi:∀ bx u,iJ P ops fl j K (st.at bx oi.dst u) -> K ((st.put oj.dst v).at bx oi.dst u):=fun bx u hu=>by
     obtain ⟨v',Sd,_,hk⟩:=(ig ly Ay).1 hu
     have:v' = v:=(Sd.agree (st2:=st) Ay (fun t ht=>(mC (fun e=>h1 t e ht)).symm) uW.symm).fn Cb
     subst this
     rw [ia st bx v' u DD]
     exact hk
    refine (ig ly Ay).2 ⟨v,Cb,kF.1 hd,?_⟩
    rw [fU hoi,if_neg hz,if_pos hni]
    exact ⟨⟨aD,u0,zi _ _ h0⟩,tE Ax (jH h3) hh2 zi⟩
   obtain ⟨T,⟨aD,u0,h0⟩,hT,Mt⟩:=l7 hoi (by simpa using hni) hh
   obtain ⟨v,hy,hd,_⟩:=(ig ly Ay).1 (hT aD u0 h0)
   have Cb:SX P ops fl j oj st v:=hy.agree Ay (fun t ht=>(mC (fun e=>h1 t e ht)).symm) uW.symm
   refine (ig ly Ay).2 ⟨v,Cb,kF.1 hd,Mt _ _ (jH h3) (fun bx u hu=>?_)⟩
   obtain ⟨v',Sd,_,hk⟩:=(ig ly Ay).1 (hT bx u hu)
   have:v' = v:=(Sd.agree (st2:=st) Ay (fun t ht=>(mC (fun e=>h1 t e ht)).symm) uW.symm).fn Cb
   subst this
   rw [ia st bx v' u DD]
   exact hk
  ·have Sj:(gJ ops oi oj || mI ops oi oj) = true:=by
    rcases h with h | ⟨_,h | h⟩
    ·exact h
    ·exact absurd h xm
    ·exact absurd h Ay
   have iR:¬ (fl i && mh oi.op) = true:=fun e=>xm (by simp [vH,e])
   have hfj:¬ (fl j && mh oj.op) = true:=fun e=>Ay (by simp [vH,e])
   have ei:∀ K st,iJ P ops fl i K st = bJ P true ops oi K st:=fun K st=>by rw [fU hoi,if_neg iR,if_neg fun e=>Ay (hci' e)]
   have ej:∀ K st,iJ P ops fl j K st = bJ P true ops oj K st:=fun K st=>by rw [fU ly,if_neg hfj,if_neg fun e=>xm (hcj' e)]
   rw [ej]
   rw [ei] at hh
   have hh':bJ P true ops oi (bJ P true ops oj K) st:=dk (fun s hs=>by rw [<- ej]; exact hs) hh
   rcases Bool.or_eq_true_iff.1 Sj with Sj | Sj
   ·exact dk (fun s hs=>by rw [ei]; exact hs) (oO Sj hh')
   ·exact dk (fun s hs=>by rw [ei]; exact hs) (DK Sj hh')
end
end Go.Pl
namespace Go.Pl
open Go
def rn (o:Oper):Bool :=
 match o.op,o.guard with
 | .call { callee:=.value (.func _),.. },none=>true
 | .call { callee:=.value (.tmp _),.. },_=>true
 | _,_=>false
def lT (ops:Array Oper) (i:Nat):Bool :=
 match ops[i]? with
 | some o=>rn o && (List.range ops.size).all fun j=>decide (j = i) || (if j < i then ((dC ops).getD i 0).testBit j else ((dC ops).getD j 0).testBit i)
 | none=>false
def kq (ops:Array Oper):List Bool:=(List.range ops.size).map (lT ops)
section
variable {P:Program} {ops:Array Oper} {M:dR} {S:Nat -> Oper -> (St -> Prop) -> St -> Prop}
theorem tF {i:Nat} (h:lT ops i = true) {j:Nat} (hj:j < ops.size):(j < i -> fL (dC ops) i j) /\ (i < j -> fL (dC ops) j i):=by
 unfold lT at h
 split at h
 ·simp only [Bool.and_eq_true] at h
  replace h:=h.2
  simp only [List.all_eq_true,List.mem_range,Bool.or_eq_true,decide_eq_true_eq] at h
  rcases h j hj with e | e
  ·exact ⟨fun h=>by omega,fun h=>by omega⟩
  ·refine ⟨fun h=>?_,fun h=>?_⟩
   ·rw [if_pos h] at e; exact e
   ·rw [if_neg (by omega)] at e; exact e
 ·cases h
def pO (P:Program) (ops:Array Oper) (S:Nat -> Oper -> (St -> Prop) -> St -> Prop) (i:Nat) (o:Oper) (K:St -> Prop) (st:St):Prop:=if lT ops i = true then S i o K st else bJ P true ops o K st
def Cd (S:Nat -> Oper -> (St -> Prop) -> St -> Prop):Prop:=∀ i o K K' st,(∀ s,K s -> K' s) -> S i o K st -> S i o K' st
theorem vI (hS:Cd S) {i:Nat} {o:Oper} {K K':St -> Prop} {st:St} (hm:∀ s,K s -> K' s) (h:pO P ops S i o K st):pO P ops S i o K' st:=by
 unfold pO at h ⊢
 split at h
 ·rename_i hs; rw [if_pos hs]; exact hS _ _ _ _ _ hm h
 ·rename_i hs; rw [if_neg hs]; exact dk hm h
def l8 (P:Program) (ops:Array Oper) (S:Nat -> Oper -> (St -> Prop) -> St -> Prop) (K:St -> Prop):Nat -> Array Bool -> St -> Prop
 | 0,listed,st=>Region.ready .any ops listed = [] /\ K st
 | fuel + 1,listed,st=>(Region.ready .any ops listed = [] -> K st) /\
  ∀ i ∈ Region.ready .any ops listed,∃ o,ops[i]? = some o /\ pO P ops S i o (l8 P ops S K fuel (listed.setIfInBounds i true)) st
def jB (P:Program) (ops:Array Oper) (S:Nat -> Oper -> (St -> Prop) -> St -> Prop) (K:St -> Prop):List Oper -> Nat -> St -> Prop
 | [],_,st=>K st
 | o :: l,k,st=>pO P ops S k o (jB P ops S K l (k + 1)) st
theorem iT {ro:Option Nat} {n:Nat} {K:St -> Prop} {Q:Exit -> Act -> World -> Prop} {M:dR}
 (hS:∀ (i:Nat) (o:Oper) (K:St -> Prop) (st:St) (a:Act) (w:World) (β:Beta) (K':Act -> World -> Prop),ops[i]? = some o -> S i o K st -> Rs P β M st a w -> hH P β M st w K K' -> wpOpIn (rf ro) n P ops Q i K' a w) :
 ∀ (fuel:Nat) (listed:Array Bool) (st:St) (a:Act) (w:World) (β:Beta),l8 P ops S K fuel listed st -> Rs P β M st a w -> hH P β M st w K (Q .normal) ->
 wpAnyIn (rf ro) n P .any ops Q fuel listed a w
 | 0,listed,st,a,w,β,h,hr,hK=>⟨h.1,hK st β a w h.2 hr (Tr.refl _ _ _)⟩
 | fuel + 1,listed,st,a,w,β,h,hr,hK=>⟨fun h0=>hK st β a w (h.1 h0) hr (Tr.refl _ _ _),fun i hi=>by
  obtain ⟨o,ho,hg⟩:=h.2 i hi
  unfold pO at hg
  split at hg
  ·exact hS i o _ st a w β _ ho hg hr (fun st' β' a' w' hk de ht=>iT hS fuel _ st' a' w' β' hk de (hK.trans ht))
  ·exact dT ho hg hr (fun st' β' a' w' hk de ht=>iT hS fuel _ st' a' w' β' hk de (hK.trans ht))⟩
theorem AW {K:St -> Prop} {i:Nat} {oi:Oper} (hi:ops[i]? = some oi) (Mh:lT ops i = false):∀ (fuel:Nat) (listed:Array Bool) (st:St),tv ops listed ->
 (∀ j oj,ops[j]? = some oj -> j ≠ i -> listed.getD j true = false -> ¬ fL (dC ops) j i -> gJ ops oi oj = true) ->
 i ∈ Region.ready .any ops listed -> bJ P true ops oi (l8 P ops S K fuel (listed.setIfInBounds i true)) st -> l8 P ops S K (fuel + 1) listed st:=by
 have Sk:¬ lT ops i = true:=by rw [Mh]; simp
 intro fuel
 induction fuel with
 | zero =>
   intro listed st _ _ hr H
   refine ⟨fun h=>(by rw [h] at hr; cases hr),fun j hj=>?_⟩
   by_cases pv:j = i
   ·subst pv; exact ⟨oi,hi,by unfold pO; rw [if_neg Sk]; exact H⟩
   ·obtain ⟨T,⟨bx,v,h0⟩,hT,_⟩:=hZ H
    have:=ready_mono hj pv
    rw [(hT bx v h0).1] at this
    cases this
 | succ fuel ih =>
   intro listed st jj mE hr H
   refine ⟨fun h=>(by rw [h] at hr; cases hr),fun j hj=>?_⟩
   by_cases pv:j = i
   ·subst pv; exact ⟨oi,hi,by unfold pO; rw [if_neg Sk]; exact H⟩
   ·obtain ⟨xl,oj,ly,gr⟩:=mem_ready.1 hj
    obtain ⟨AM,oi',aaj,Sl⟩:=mem_ready.1 hr
    have pK:∀ {x:Nat},listed.getD x true = false -> ¬ listed.getD x false = true:=fun {x} h1 h2=>by
     rcases Nat.lt_or_ge x listed.size with h' | h'
     ·simp [h'] at h1 h2; rw [h1] at h2; cases h2
     ·simp [Array.getElem?_eq_none h'] at h2
    have Ij:¬ fL (dC ops) j i:=fun hw=>pK AM (ib jj j oj i ly gr hw)
    have aak:¬ fL (dC ops) i j:=fun hw=>pK xl (ib jj i oi' j aaj Sl hw)
    have aal:=(Array.getElem?_eq_some_iff.1 hi).1
    have XL:¬ lT ops j = true:=by
     intro hs
     ·
      obtain ⟨w1,w2⟩:=tF hs aal
      rcases Nat.lt_or_ge i j with h' | h'
      ·exact absurd (w1 h') Ij
      ·exact absurd (w2 (by omega)) aak
    have su:=mE j oj ly pv xl Ij
    have h1:bJ P true ops oi (bJ P true ops oj (l8 P ops S K fuel ((listed.setIfInBounds i true).setIfInBounds j true))) st :=
     dk (fun s hs=>by
      obtain ⟨o',EM,hg⟩:=hs.2 j (ready_mono hj pv)
      rw [ly] at EM
      injection EM with EM
      subst EM
      unfold pO at hg
      rw [if_neg XL] at hg
      exact hg) H
    have h2:=oO su h1
    refine ⟨oj,ly,?_⟩
    unfold pO
    rw [if_neg XL]
    refine dk (fun s hs=>?_) h2
    refine ih (listed.setIfInBounds j true) s ?_ ?_ (ready_mono hr (Ne.symm pv)) ?_
    ·intro k ok hk AN e he hb
     by_cases ou:k = j
     ·subst ou
      rw [ly] at hk
      injection hk with hk
      subst hk
      exact getD_set_true (gr e he hb)
     ·rw [getD_set_ne false (Ne.symm ou)] at AN
      exact getD_set_true (jj k ok hk AN e he hb)
    ·intro k ok hk hki hun hnw'
     refine mE k ok hk hki ?_ hnw'
     by_cases AO:j = k
     ·subst AO; exact xl
     ·rw [getD_set_ne true AO] at hun; exact hun
    ·rw [Array.setIfInBounds_comm _ _ pv]
     exact hs
theorem mK (hS:Cd S) (hB:tu ops = true) {K:St -> Prop}:∀ (l:List Oper) (k:Nat) (listed:Array Bool) (st:St),(∀ j,l[j]? = ops[k + j]?) -> listed.size = ops.size -> k + l.length = ops.size -> (∀ j,j < ops.size -> (listed.getD j false = decide (j < k)) /\ (listed.getD j true = decide (j < k))) ->
 jB P ops S K l k st -> l8 P ops S K l.length listed st
 | [],k,listed,st,hl,bW,hk,hlist,h=>by
   refine ⟨?_,h⟩
   apply List.eq_nil_iff_forall_not_mem.2
   intro j hj
   obtain ⟨h1,o,ho,_⟩:=mem_ready.1 hj
   have dr:=(Array.getElem?_eq_some_iff.1 ho).1
   rw [(hlist j dr).2] at h1
   simp at h1 hk
   omega
 | o :: l,k,listed,st,hl,bW,hk,hlist,h=>by
   have h0:ops[k]? = some o:=by simpa using (hl 0).symm
   have my:=(Array.getElem?_eq_some_iff.1 h0).1
   obtain ⟨I9,su⟩:=sv hB h0
   simp only [List.length_cons] at hk ⊢
   have jj:tv ops listed:=by
    intro j oj hj lR e he hb
    have lX:=(Array.getElem?_eq_some_iff.1 hj).1
    rw [(hlist j lX).1] at lR
    have AO:j < k:=by simpa using lR
    have:=(sv hB hj).1 e he hb
    rw [(hlist e.on (by omega)).1]
    simp; omega
   have hkr:k ∈ Region.ready .any ops listed:=mem_ready.2 ⟨by rw [(hlist k my).2]; simp,o,h0,fun e he hb=>by
    have:=I9 e he hb
    rw [(hlist e.on (by omega)).1]
    simp; omega⟩
   have next:∀ s,jB P ops S K l (k + 1) s -> l8 P ops S K l.length (listed.setIfInBounds k true) s:=fun s hs=>mK hS hB l (k + 1) _ s (fun j=>by have:=hl (j + 1); simpa [Nat.add_assoc,Nat.add_comm 1 j] using this) (by simpa using bW) (by omega) (fun j hj=>by
    by_cases e:k = j
    ·subst e
     have:k < listed.size:=by omega
     simp [this]
    ·rw [getD_set_ne false e,getD_set_ne true e,(hlist j hj).1,(hlist j hj).2]
     have:(j < k) ↔ (j < k + 1):=by omega
     simp [this]) hs
   cases hs:lT ops k with
   | false =>
     have h':pO P ops S k o (jB P ops S K l (k + 1)) st:=h
     unfold pO at h'
     rw [if_neg (by rw [hs]; simp)] at h'
     refine AW h0 hs l.length listed st jj (fun j oj hj bB hun hw=>?_) hkr (dk next h')
     have lX:=(Array.getElem?_eq_some_iff.1 hj).1
     rw [(hlist j lX).2] at hun
     simp at hun
     exact su j oj hj (by omega) hw
   | true =>
     refine ⟨fun hn=>(by rw [hn] at hkr; cases hkr),fun j hj=>?_⟩
     obtain ⟨h1,oj,ly,gr⟩:=mem_ready.1 hj
     have lX:=(Array.getElem?_eq_some_iff.1 ly).1
     rw [(hlist j lX).2] at h1
     have AO:k <= j:=by simp at h1; omega
     have aam:j = k:=by
      rcases Nat.lt_or_ge k j with h' | h'
      ·have:=ib jj j oj k ly gr ((tF hs lX).2 h')
       rw [(hlist k my).1] at this
       simp at this
      ·omega
     subst aam
     exact ⟨o,h0,vI hS next h⟩
end
end Go.Pl
namespace Go.Pl
open Go
structure bS where
 d:Option Tmp
 op:Op
 g:Option (Tmp × Bool)
 fz:Bool
def bS.jS (o:bS):bS:={ o with fz:=false }
inductive PC where
 | skip
 | bq (d:Bool) (ops:List bS) (ks:List Nat)
 | gL (un uv:List (Nat × Nat)) (ops:List bS) (ks:List Nat)
 | ke (so:List Bool) (ops:List bS) (ks:List Nat)
 | seq (a b:PC)
 | cond (c:Operand) (a b:PC)
 | block (id:Nat) (c:PC)
 | loop (c:PC)
 | wk (c:PC)
 | fz (t:Nat) (c:PC)
 | rangeFunc (g:Operand) (ps:Array Tmp) (a b:PC)
 | exit (id:Nat)
 | ret
 | raw (c:Code)
 | bad
def bS.oper (o:bS):Oper:={ dst:=o.d,op:=o.op,type:=0,pos:="",after:=#[],guard:=none }
def aC (ops:Array Oper) (o:Oper):bS :=
 match o.guard with
 | none=>⟨o.dst,o.op,none,false⟩
 | some (g,w)=>match (ops[g]?).bind (·.dst) with
   | some d=>⟨o.dst,o.op,some (d,w),false⟩
   | none=>⟨o.dst,.ready 0,none,false⟩
def zj (ops:Array Oper):List (Nat × Nat) :=
 let ms:=dC ops
 (List.range ops.size).flatMap fun k=>((List.range ops.size).filter fun j=>decide (k < j) && !(ms.getD j 0).testBit k && (match ops[k]?,ops[j]? with
  | some ok,some oj=>!(gJ ops ok oj || mI ops ok oj)
  | _,_=>false)).map fun j=>(k,j)
def DN (ops:Array Oper):List (Nat × Nat) :=
 let ms:=dC ops
 (List.range ops.size).flatMap fun k=>((List.range ops.size).filter fun j=>decide (k < j) && !(ms.getD j 0).testBit k && (match ops[k]?,ops[j]? with
  | some ok,some oj=>(dO ok || dO oj) && !nT ok && !nT oj
  | _,_=>false)).map fun j=>(k,j)
def AX (ops:Array Oper):Bool :=
 let ms:=dC ops
 (List.range ops.size).all fun k=>match ops[k]? with
  | some ok=>ok.after.all (fun e=>!Region.binds .any e || decide (e.on < k)) &&
   (List.range ops.size).all fun j=>decide (j <= k) || match ops[j]? with
    | some oj=>(ms.getD j 0).testBit k || ok.apart ops oj
    | none=>true
  | none=>true
def compile:Code -> PC
 | .skip=>.skip
 | .label _=>.skip
 | .region _ ops draw=>if draw && !tu ops then (if AX ops then .gL (zj ops) (DN ops) (ops.toList.map (aC ops)) [] else .bad) else if draw && (kq ops).any id then .ke (kq ops) (ops.toList.map (aC ops)) [] else .bq draw (ops.toList.map (aC ops)) []
 | .seq a b=>.seq (compile a) (compile b)
 | .cond c a b=>.cond c (compile a) (compile b)
 | .block id c=>.block id (compile c)
 | .loop c=>.loop (compile c)
 | .exit id=>.exit id
 | .ret=>.ret
 | .rangeFunc g ps a b=>.rangeFunc g ps (compile a) (compile b)
 | _=>.bad
def dW:PC -> Bool
 | .seq a b=>dW a && dW b
 | .cond _ a b=>dW a && dW b
 | .block _ c=>dW c
 | .loop c=>dW c
 | .wk c=>dW c
 | .fz _ c=>dW c
 | .rangeFunc ..=>false
 | _=>true
def erase:PC -> PC
 | .bq d ops _=>.bq d (ops.map bS.jS) []
 | .gL un uv ops _=>.gL un uv (ops.map bS.jS) []
 | .ke so ops _=>.ke so (ops.map bS.jS) []
 | .seq a b=>.seq (erase a) (erase b)
 | .cond c a b=>.cond c (erase a) (erase b)
 | .block id c=>.block id (erase c)
 | .loop c=>.loop (erase c)
 | .wk c=>erase c
 | .fz _ c=>erase c
 | .rangeFunc g ps a b=>.rangeFunc g ps (erase a) (erase b)
 | c=>c
def bR:List (Nat × V) -> Nat -> V
 | [],_=>.cU
 | (k,v) :: l,t=>if t = k then v else bR l t
def St.cw (st:St) (ks:List Nat):St:={ st with sl:=bR (ks.map fun k=>(k,st.sl k)) }
def ek (P:Program) (d:Bool) (o:bS) (wb:Bool) (K:St -> Prop) (st:St):Prop :=
 if bV o.op = true then (wb = true -> (ev P st o.oper).1) /\ aL st o.d /\ K (st.put o.d (eB wb (ev P st o.oper).2)) else
 match o.op with
 | .call { callee:=.value f,args:=args,.. }=>match callee st f args.toList with
   | some (q,vs)=>aL st o.d /\ ∃ r,(wb = true -> eV st f args.toList /\ ay P q vs st.bx r) /\ K (st.put o.d (eB wb r))
   | none=>False
 | _=>(wb = true -> aK P d o.oper K st) /\ (wb = false -> aL st o.d /\ K (st.put o.d (.dead .cU)))
def jc (P:Program) (b:Nat) (args:List V) (bx:aa) (Kc:V -> aa -> Prop):Prop :=
 ∀ (n:Nat) (β:Beta) (M:dR) (w:World) (vs:Array Value) (k:Nat),β b = some (some k) -> er β M bx w -> p3 P β w (Fz β M bx w) -> vs.size = args.length ->
  (∀ (i:Nat) (c:V),args[i]? = some c -> aP β w (Fz β M bx w) c (vs.getD i undef)) ->
  YieldAt Fence.wide n P k vs w fun e w'=>∃ v r bx' β',e = .returned v /\ Kc r bx' /\ er β' M bx' w' /\ Tr β bx w β' bx' w' /\ aP β' w' (Fz β' M bx' w') r v
def yieldOf (st:St) (d:Bool):Op -> Option (Nat × List V)
 | .call { callee:=.value f,args:=args,.. }=>if d = true then none else match (st.get f).strip with
   | .yl b=>some (b,args.toList.map fun x=>(st.get x).strip)
   | _=>none
 | _=>none
def vJ (st:St):Op -> Prop
 | .call { callee:=.value f,args:=args,.. }=>eV st f args.toList
 | _=>False
def qI (P:Program) (o:bS) (K:St -> Prop) (st:St) (b:Nat) (vs:List V):Prop :=
 vJ st o.op /\ aL st o.d /\ jc P b vs st.bx fun r bx'=>K ({ st with bx:=bx' }.put o.d r)
def pP (P:Program) (d:Bool) (o:bS) (wb:Bool) (K:St -> Prop) (st:St):Prop :=
 d = false /\ (wb = true -> aK P d o.oper K st) /\ (wb = false -> aL st o.d /\ K (st.put o.d (.dead .cU)))
def Sm (P:Program) (e:TypeId) (x:Operand) (d:Option Tmp) (K:St -> Prop) (st:St):Prop :=
 storable P e (st.get x) /\ aL st d /\ ba st.bx /\ K (st.put d (.ep (st.get x) 0))
def fm (P:Program) (d:Bool) (o:bS) (K:St -> Prop) (st:St):Prop :=
 match yieldOf st d o.op with
 | some (b,vs)=>match o.g with
   | none=>qI P o K st b vs
   | some (s,want)=>match (st.sl s).strip with
     | .bool c=>(((st.sl s).az && (c == want)) = true -> qI P o K st b vs) /\ (((st.sl s).az && (c == want)) = false -> aL st o.d /\ K (st.put o.d (.dead .cU)))
     | _=>False
 | none=>match o.g with
   | none=>aK P d o.oper K st
   | some (s,want)=>match (st.sl s).strip with
     | .bool c=>if bV o.op = true then ek P d o ((st.sl s).az && (c == want)) K st else ek P d o ((st.sl s).az && (c == want)) K st \/ pP P d o ((st.sl s).az && (c == want)) K st
     | _=>False
def IL (op:BinOp) (c:Bool):Bool:=match op with | .eql=>c | _=>!c
def xn (op:BinOp) (c:Bool):V:=.bool (IL op c)
def tG (k:vt) (op:BinOp) (x y:V) (d:Option Tmp) (K:St -> Prop) (st:St):Prop :=
 match k,x,y with
 | .slice _,.sl _ es,.aH=>(op = .eql \/ op = .neq) /\ aL st d /\ ∀ c:Bool,(es ≠ [] -> c = false) -> K (st.put d (xn op c))
 | .slice _,.own _ _ _ n,.aH=>(op = .eql \/ op = .neq) /\ aL st d /\ ∀ c:Bool,(0 < n -> c = false) -> K (st.put d (xn op c))
 | .slice _,.aH,.aH=>(op = .eql \/ op = .neq) /\ aL st d /\ K (st.put d (xn op true))
 | _,_,_=>False
def mL (P:Program) (t:TypeId) (len:Nat) (parts:List (Nat × Operand)) (d:Option Tmp) (K:St -> Prop) (st:St):Prop :=
 match bC P t with
 | .slice e=>match aV P e with
   | some z=>(storable P e (ofValue z) /\ 0 < aF P e /\ len * aF P e <= 16777216 /\ ∀ p,p ∈ parts -> p.1 < len /\ storable P e (st.get p.2)) /\ aL st d /\ ba st.bx /\
    K (st.put d (.sl (aF P e) (dS st (List.replicate len (ofValue z)) parts)))
   | none=>False
 | _=>False
def Ce (P:Program) (t:TypeId) (len:Nat) (parts:List (Nat × Operand)) (g:Option (Tmp × Bool)) (d:Option Tmp) (K:St -> Prop) (st:St):Prop :=
 match g with
 | none=>mL P t len parts d K st
 | some (s,w)=>match (st.sl s).strip with
   | .bool c=>(((st.sl s).az && (c == w)) = true -> mL P t len parts d K st) /\ (((st.sl s).az && (c == w)) = false -> aL st d /\ K (st.put d (.dead .cU)))
   | _=>False
def IM (P:Program) (k:vt) (s t:TypeId) (x:V) (dst:Option Tmp) (K:St -> Prop) (st:St):Prop :=
 match k with
 | .slice e=>match x with
   | .own b sz o n=>∃ ty l,st.bx b = some (.row ty 1 (l.map dN)) /\ bC P e = .int .u8 /\ bC P t = .str /\ sz = 1 /\ o = 0 /\ n = l.length /\ aL st dst /\ K (st.put dst (.str l))
   | .aH=>bC P e = .int .u8 /\ bC P t = .str /\ aL st dst /\ K (st.put dst (.str []))
   | _=>False
 | _=>I1 P s t x dst K st
def M0 (P:Program) (k:vt) (x:V) (lo:Option V) (dst:Option Tmp) (K:St -> Prop) (st:St):Prop :=
 match k,x,fF 0 lo with
 | .arr n e,.ptr b sz i o,some (c,l)=>∃ ty cs,st.bx b = some (.row ty n [.agg cs]) /\ sz = n /\ i = 0 /\ o = 0 /\ cs.length = n /\ (∀ c,c ∈ cs -> c.cells = [c]) /\ cY P e = true /\ aF P e = 1 /\ n <= 1000000 /\ c /\ 0 <= l /\ l < n /\ aL st dst /\
  K ((st.box b (some (.row ty 1 cs))).put dst (.own b 1 l.toNat (n - l.toNat)))
 | _,_,_=>False
def dB (P:Program) (d:Bool) (o:bS) (K:St -> Prop) (st:St):Prop :=
 match o.fz with
 | false=>fm P d o K st
 | true=>match o.op with
   | .box e x=>d = false /\ o.g = none /\ Sm P e x o.d K st
   | .buildSlice t len parts=>d = false /\ Ce P t len parts.toList o.g o.d K st
   | .binOp op t x y _=>d = false /\ o.g = none /\ tG (bC P t) op (st.get x) (st.get y) o.d K st
   | .convert s t x=>d = false /\ o.g = none /\ IM P (bC P s) s t (st.get x) o.d K st
   | .slice t x lo none none=>d = false /\ o.g = none /\ M0 P (bC P t) (st.get x) (lo.map st.get) o.d K st
   | .call { callee:=.value _,.. }=>if d = true then fm P d o.jS K st else ∃ st',jq st st' /\ fm P d o.jS K st'
   | _=>fm P d o.jS K st
def xo (P:Program) (d:Bool) (K:St -> Prop):List bS -> St -> Prop
 | [],st=>K st
 | o :: rest,st=>dB P d o (xo P d K rest) st
def l9 (P:Program) (K:St -> Prop):List Bool -> List bS -> St -> Prop
 | _,[],st=>K st
 | [],o :: rest,st=>dB P true o (l9 P K [] rest) st
 | s :: so,o :: rest,st=>dB P (!s) o (l9 P K so rest) st
def jT (q:bS):Bool :=
 match q.g,q.op with
 | none,.call { callee:=.value (.func _),.. }=>true
 | _,_=>false
def Cf (P:Program) (q:bS) (K:St -> Prop) (st:St):Prop :=
 if (q.fz && mh q.op) = true then
  match q.g with
  | none=>(sd P st q.op).1 /\ aL st q.d /\ K (st.put q.d (sd P st q.op).2)
  | some (s,w)=>match (st.sl s).strip with
    | .bool c=>(((st.sl s).az && (c == w)) = true -> (sd P st q.op).1) /\ aL st q.d /\ K (st.put q.d (eB ((st.sl s).az && (c == w)) (sd P st q.op).2))
    | _=>False
 else if (q.fz && jT q) = true then (∃ bx v,K (st.at bx q.d v)) /\ aK P false q.oper K st
 else fm P true q.jS K st
def lA (P:Program) (K:St -> Prop):List bS -> St -> Prop
 | [],st=>K st
 | o :: rest,st=>Cf P o (lA P K rest) st
def jd (l:List bS) (k:Nat):Bool :=
 match l[k]? with
 | some q=>q.fz && mh q.op
 | none=>false
def lB (l:List bS) (k:Nat):Bool :=
 match l[k]? with
 | some q=>q.fz && jT q
 | none=>false
def tH (x y:PC) (a b:Code):Prop:=compile a = erase x /\ compile b = erase y
def pw (P:Program):PC -> (Exit -> St -> Prop) -> St -> Prop
 | .skip,Q,st=>Q .normal st
 | .bq d ops ks,Q,st=>xo P d (fun s=>Q .normal (s.cw ks)) ops st
 | .gL un uv ops ks,Q,st=>((un.all fun p=>jd ops p.1 || jd ops p.2) = true /\ (uv.all fun p=>!(lB ops p.1 || lB ops p.2) || jd ops p.1 || jd ops p.2) = true) /\ lA P (fun s=>Q .normal (s.cw ks)) ops st
 | .ke so ops ks,Q,st=>l9 P (fun s=>Q .normal (s.cw ks)) so ops st
 | .seq a b,Q,st=>pw P a (jy (pw P b Q) Q) st
 | .cond c a b,Q,st=>match (st.get c).strip with
   | .bool x=>(st.get c).az = true /\ (x = true -> pw P a Q st) /\ (x = false -> pw P b Q st)
   | _=>False
 | .block id c,Q,st=>pw P c (oP id Q) st
 | .loop c,Q,st=>∃ (ι:Type) (C:ι -> St) (μ:ι -> Nat) (i:ι),jq st (C i) /\ ∀ i,pw P c (jy (fun s=>∃ i',jq s (C i') /\ μ i' < μ i) Q) (C i)
 | .exit id,Q,st=>Q (.exit id) st
 | .ret,Q,st=>Q .ret st
 | .wk c,Q,st=>∃ st',jq st st' /\ pw P c Q st'
 | .fz t c,Q,st=>match st.sl t with
   | .ptr b sz i o=>match st.bx b with
     | some (.row _ eU es)=>sz = eU /\ i < es.length /\ pw P c Q ⟨st.n,aB st.sl t (.ep (es.getD i .cU) o),aB st.bx b none⟩
     | _=>False
   | _=>False
 | .rangeFunc g ps x y,Q,st=>match (st.get g).strip with
   | .fn (.func gf) caps=>(st.get g).az = true /\ ∀ b,st.bx b = none -> aw P gf (.yl b :: caps) (aB st.bx b (some (.loop none ps (tH x y) st.n st.sl))) fun _ bx' =>
    (bx' b = some (.loop none ps (tH x y) st.n st.sl) /\ Q .normal ⟨st.n,st.sl,aB bx' b none⟩) \/
    (bx' b = some (.loop (some .ret) ps (tH x y) st.n st.sl) /\ Q .ret ⟨st.n,st.sl,aB bx' b none⟩) \/
    (∃ id,bx' b = some (.loop (some (.exit id)) ps (tH x y) st.n st.sl) /\ Q (.exit id) ⟨st.n,st.sl,aB bx' b none⟩)
   | _=>False
 | .raw c,Q,st=>∀ (M:dR) (ro:Option Nat),qD P M ro c Q st
 | .bad,_,_=>False
section
variable {P:Program}
theorem AY {w:World} {a:Act} {dst:Option Tmp} {type:TypeId} {pos:String} {after:Array Edge} {guard:Option (Nat × Bool)} {c:Call} {f:Operand} (hc:c.callee = .value f) {k:Nat}
 (hf:a.eval f = .func (.yield k) #[] #[]):(execOp a.eval ⟨dst,.call c,type,pos,after,guard⟩).run P w = (Instr.yield k (c.args.map a.eval)).run P w:=by
 obtain ⟨callee,args,ts⟩:=c
 subst hc
 simp [execOp,resolve,Deferred.ofValue,invoke,hf]
theorem zk {ro:Option Nat} {n:Nat} {β:Beta} {M:dR} {w:World} {o:Oper} {st:St} {a:Act} {K:St -> Prop} {K':Act -> World -> Prop} {Q:Exit -> Act -> World -> Prop} {b:Nat} {vs:List V} (hy:yieldOf st false o.op = some (b,vs)) {po:bS} (hpo:po.op = o.op) (hpd:po.d = o.dst)
 (h:qI P po K st b vs) (hr:Rs P β M st a w) (hK:hH P β M st w K K'):o.wpIn (rf ro) n P a w K' Q:=by
 obtain ⟨pD,hd,iZ⟩:=h
 rw [hpo] at pD
 rw [hpd] at hd iZ
 obtain ⟨dst,op,type,pos,after,guard⟩:=o
 simp only at hy pD hd iZ
 unfold yieldOf at hy
 split at hy
 ·rename_i f args ts
  simp only [Bool.false_eq_true,if_false] at hy
  split at hy
  ·rename_i b' hs
   simp only [Option.some.injEq,Prod.mk.injEq] at hy
   obtain ⟨rfl,rfl⟩:=hy
   obtain ⟨h1,h2⟩:=pD
   have rfv:=hr.get f
   rw [aG h1 hs] at rfv
   generalize hu:a.eval f = u at rfv
   cases rfv with
   | yl b k hb =>
     have mH:∀ (i:Nat) (c:V),(args.toList.map fun x=>(st.get x).strip)[i]? = some c -> aP β w (Fz β M st.bx w) c ((args.map a.eval).getD i undef):=by
      intro i c hc
      simp only [List.getElem?_map,Array.getElem?_toList,Option.map_eq_some_iff] at hc
      obtain ⟨x,hx,rfl⟩:=hc
      rw [aS (h2 x (by simpa using Array.mem_of_getElem? hx))]
      have e:(args.map a.eval).getD i undef = a.eval x:=by
       have h5:i < args.size:=(Array.getElem?_eq_some_iff.1 hx).1
       have:=(Array.getElem?_eq_some_iff.1 hx).2
       simp [h5,this]
      rw [e]
      exact hr.get x
     obtain ⟨fn,tmps,assign,body,dX,AZ⟩:=iZ (n - 1) β M w (args.map a.eval) k hb hr.ok hr.gl (by simp) mH
     refine ⟨fun _ _=>trivial,?_⟩
     rw [Oper.semAt_eq _ _ _ (fun c hc=>by cases hc),AY rfl hu]
     show Oper.uponIn _ _ _ _ _ _ _ ((Instr.yield k (args.map a.eval)).run P w)
     rw [dX,Oper.uponIn_round]
     refine ⟨fun hdp=>by simp [rf,Fence.wide] at hdp,?_⟩
     refine RoundIn.mono (show RoundIn (rf ro) (n - 1) P k fn tmps assign body w _ from AZ) ?_
     rintro e w' ⟨v,r,bx',β',rfl,hk,c8,jk,bO⟩
     exact hK _ _ _ _ hk ((hr.step c8 jk).put (by cases dst <;> exact hd) bO) (by cases dst <;> exact jk)
  ·cases hy
 ·cases hy
theorem tI (d:Bool) (o:Oper) (K:St -> Prop) (st:St):aK P d { dst:=o.dst,op:=o.op,type:=0,pos:="",after:=#[],guard:=none } K st = aK P d o K st:=rfl
theorem xp (st:St) (o:Op):yieldOf st true o = none:=by
 unfold yieldOf
 split <;> simp
theorem kW {d:Bool} {ops:Array Oper} {o:Oper} {K:St -> Prop} {st:St} (hd:d = true) (h:fm P d (aC ops o) K st):bJ P d ops o K st:=by
 subst hd
 unfold fm at h
 rw [xp] at h
 simp only at h
 unfold aC at h
 unfold bJ
 cases hg:o.guard with
 | none=>simpa [hg,bS.oper,tI] using h
 | some gw =>
   obtain ⟨g,want⟩:=gw
   simp only [hg] at h
   cases yC:(ops[g]?).bind (·.dst) with
   | none =>
     simp only [yC] at h
     simp [bS.oper,aK,bV] at h
   | some s =>
     simp only [yC] at h
     simp only [dV,yC]
     split at h
     ·rename_i c hs
      simp only [hs]
      split at h
      ·exact h
      ·rcases h with h | h
       ·exact h
       ·exact absurd h.1 (by simp)
     ·exact h.elim
theorem M3 (bx bx':aa) (l:List V):l.map (cK bx bx' 0) = l:=by
 rw [List.map_congr_left (g:=id) (fun a _=>by cases a <;> rfl)]; simp
theorem M5 (l:List UInt8):(l.map dN).all yK = true:=by
 rw [List.all_map]
 exact List.all_eq_true.2 fun x _=>rfl
theorem IN (l:List UInt8):(l.map dN).map toByte = l:=by
 rw [List.map_map]
 exact (List.map_congr_left fun b _=>by simp [dN,toByte]).trans (List.map_id l)
theorem IQ {β:Beta} {M:dR} {w:World} {st:St} {a:Act} {dst:Option Tmp} {s t type:TypeId} {x:Operand} {pos:String} {after:Array Edge} {guard:Option (Nat × Bool)} {K':Act -> World -> Prop} {Q:Exit -> Act -> World -> Prop} (hr:Rs P β M st a w)
 {K:St -> Prop} (h:IM P (bC P s) s t (st.get x) dst K st) (hK:hH P β M st w K K'):(Oper.mk dst (.convert s t x) type pos after guard).wp P a w K' Q:=by
 unfold IM at h
 split at h
 ·rename_i e hs
  split at h
  ·rename_i b sz o n hx
   obtain ⟨ty,l,hb,he,ht,rfl,rfl,rfl,hd,hk⟩:=h
   have jo:bX st.bx (aB st.bx b none):=fun c=>by
    by_cases hc:c = b
    ·subst hc; exact .inl (af _ _ _)
    ·exact .inr (.inl (ae _ _ hc))
   have bO:=l4 hr.ok jo 1 _ _ (hr.get x)
   rw [hx] at bO
   have hf:cK st.bx (aB st.bx b none) 1 (.own b 1 0 l.length) = .sl 1 (l.map dN):=by
    have e1:List.take l.length (l.map dN) = l.map dN:=List.take_of_length_le (by simp)
    have e2:=M3 st.bx (aB st.bx b none) (l.map dN)
    simp [cK,hb,af,e1,e2]
   rw [hf] at bO
   obtain ⟨v,dX,hv⟩:=oJ (P:=P) (s:=s) (d:=t) (fun e' hh=>by rw [hs] at hh; cases hh.1) (by simp only [km,hs,ht,V.strip]; exact ⟨rfl,he,trivial,M5 l⟩) bO
   simp only [km,hs,ht,V.strip,IN] at hv
   obtain ⟨q,rfl,rfl⟩:=hv.eg
   unfold Oper.wp execOp
   simp only [Sem.run_bind,dX,Result.andThen_ok,Sem.run_pure]
   exact hK.put hr hd (.str q) hk
  ·rename_i hx
   obtain ⟨he,ht,hd,hk⟩:=h
   have bO:=hr.get x
   rw [hx] at bO
   obtain ⟨v,dX,hv⟩:=oJ (P:=P) (s:=s) (d:=t) (fun e' hh=>by rw [hs] at hh; cases hh.1) (by simp only [km,hs,ht,V.strip]; exact ⟨rfl,he⟩) bO
   simp only [km,hs,ht,V.strip] at hv
   unfold Oper.wp execOp
   simp only [Sem.run_bind,dX,Result.andThen_ok,Sem.run_pure]
   exact hK.put hr hd hv hk
  ·exact h.elim
 ·exact Mp hr h hK
theorem Fy {β:Beta} {M:dR} {bx:aa} {w:World} (h:er β M bx w) {b:Nat} {ty:TypeId} {n:Nat} {cs:List V} (hb:bx b = some (.row ty n [.agg cs])) (hn:cs.length = n) (hc:∀ c,c ∈ cs -> c.cells = [c]) (eJ:0 < n) :
 er β M (aB bx b (some (.row ty 1 cs))) w /\ Tr β bx w β (aB bx b (some (.row ty 1 cs))) w:=by
 have fc:∀ b',aB bx b (some (.row ty 1 cs)) b' ≠ none ↔ bx b' ≠ none:=by
  intro b'
  by_cases e:b' = b
  ·subst e; simp [af,hb]
  ·rw [ae _ _ e]
 have hF:∀ k',Fz β M bx w k' -> Fz β M (aB bx b (some (.row ty 1 cs))) w k' /\ w.heap[k']? = w.heap[k']? :=
  fun k' hk=>⟨⟨hk.1,hk.2.1,fun b' aR he=>hk.2.2 b' ((fc b').1 aR) he⟩,rfl⟩
 constructor
 ·refine ⟨h.fin,h.mlt,fun b' box aR=>?_,fun b1 b2 k' h1 h2 h3 h4=>h.inj b1 b2 k' ((fc _).1 h1) ((fc _).1 h2) h3 h4⟩
  by_cases e:b' = b
  ·subst e
   rw [af] at aR
   injection aR with aR
   subst aR
   rcases h.live b' _ hb with ⟨_,h1⟩ | ⟨k,h1,h2,h3,cur,fr,g1,g2,g3,g4⟩
   ·simp [bF.empty] at h1
   ·obtain ⟨_,a2⟩:=g4 0 _ rfl
    refine .inr ⟨k,h1,h2,h3,cur,fr,g1,g2,by simpa [hn] using g3,fun i c hi=>?_⟩
    have uZ:=hc c (List.mem_of_getElem? hi)
    refine ⟨by rw [uZ]; rfl,fun j c' hj=>?_⟩
    rw [uZ] at hj
    rcases j with _ | j
    ·simp at hj
     subst hj
     obtain ⟨b1,b2⟩:=a2 i c hi
     rw [Nat.zero_mul,Nat.zero_add] at b1 b2
     rw [Nat.mul_one,Nat.add_zero]
     exact ⟨b1,b2.mono (fun _ _ h=>h) hF (fun _ _ h=>h)⟩
    ·simp at hj
  ·rw [ae _ _ e] at aR
   rcases h.live b' box aR with h1 | ⟨k',h1,h2,h3,h4⟩
   ·exact .inl h1
   ·exact .inr ⟨k',h1,h2,h3,bn h4 rfl (fun _ _ h=>h) hF (fun _ _ h=>h)⟩
 ·exact ⟨rfl,rfl,rfl,fun _=>Nat.le_refl _,fun hm=>Mk.kA hm (fun mj e=>by
   injection e with e
   injection e with _ e _
   cases e),Nat.le_refl _,fun _ _ _=>rfl,fun _ _ h=>h,fun _ _ h=>h,fun b' k' h1 h2=>.inl ⟨b',(fc b').1 h1,h2⟩⟩
theorem IS {β:Beta} {M:dR} {w:World} {st:St} {a:Act} {dst:Option Tmp} {t type:TypeId} {x:Operand} {lo:Option Operand} {pos:String} {after:Array Edge} {guard:Option (Nat × Bool)} {K':Act -> World -> Prop} {Q:Exit -> Act -> World -> Prop} (hr:Rs P β M st a w)
 {K:St -> Prop} (h:M0 P (bC P t) (st.get x) (lo.map st.get) dst K st) (hK:hH P β M st w K K'):(Oper.mk dst (.slice t x lo none none) type pos after guard).wp P a w K' Q:=by
 unfold M0 at h
 split at h
 ·rename_i n e b sz i o c l hk hx sj
  obtain ⟨ty,cs,hb,rfl,rfl,rfl,hlen,nt,fb,XP,gZ,hc,h0,h1,hd,jx⟩:=h
  have rx:=hr.get x
  rw [hx] at rx
  generalize hux:a.eval x = ux at rx
  cases rx with
  | ptr _ _ _ _ k bQ =>
    obtain ⟨dr,Fc,cur,fr,aU,iA,hle,au⟩:=eL hr.ok hb bQ
    have a1:=cX (u:=lo.map a.eval) sj hc (by
     cases lo with
     | none=>exact .inl ⟨rfl,rfl⟩
     | some y=>exact .inr ⟨_,_,rfl,rfl,hr.get y⟩)
    obtain ⟨inf,y7,mf⟩:=fT fb
    have dX:(Instr.sliceAt t (.pointer (some ⟨k,0 * sz + 0,none⟩)) (lo.map a.eval) none none).run P w = .ok (.slice (some ⟨k,l.toNat * 1,none⟩) (sz - l.toNat) (sz - l.toNat)) w:=by
     unfold Instr.sliceAt sizeOf typeInfo Instr.sureAddr
     have cz:=jm (P:=P) (w:=w) (b:=false) (len:=sz) (cap:=sz) (lo:=lo.map a.eval) (hi:=none) (l:=l) (h:=(sz:Int)) a1 (.inl ⟨rfl,rfl⟩) h0 (by omega) (Int.le_refl _) (Nat.le_refl _)
     rw [Int.toNat_natCast] at cz
     have bB:¬ sz = l.toNat:=by omega
     have wV:(⟨k,0,none⟩:Addr).add (l.toNat * inf.size) = ⟨k,l.toNat * inf.size,none⟩:=by
      unfold Addr.add
      by_cases h:l.toNat * inf.size = 0 <;> simp [h]
     have D8:inf.size = 1:=by first | exact mf.trans XP | exact mf.symm.trans XP | omega
     rw [D8,Nat.mul_one] at wV
     simp [run_underlying (p5 hk),cz,y7,bB,wV,D8]
    unfold Oper.wp execOp
    simp only [Sem.run_bind,hux,Option.map_none,dX,Result.andThen_ok,Sem.run_pure]
    obtain ⟨h3,h4⟩:=Fy hr.ok hb hlen nt (by omega)
    refine hK _ _ _ _ jx ((hr.step h3 h4).put (st:={ st with bx:=_ }) (by cases dst <;> exact hd) ?_) (by cases dst <;> exact h4)
    have bW:cur.size >= sz:=by simpa using hle
    exact aP.own (β:=β) (w:=w) (F:=Fz β M (aB st.bx b (some (.row ty 1 cs))) w) b 1 l.toNat (sz - l.toNat) k (sz - l.toNat) cur.size _ bQ (bN aU) (by omega) (Nat.le_refl _) (by unfold maxLen; omega)
 ·exact h.elim
theorem kr {ro:Option Nat} {n:Nat} {β:Beta} {M:dR} {w:World} {ops:Array Oper} {o:Oper} {i:Nat} {st:St} {a:Act} {K:St -> Prop} {K':Act -> World -> Prop} {Q:Exit -> Act -> World -> Prop} (hi:ops[i]? = some o) (h:fm P false (aC ops o) K st) (hr:Rs P β M st a w) (hK:hH P β M st w K K') :
 wpOpIn (rf ro) n P ops Q i K' a w:=by
 unfold fm at h
 cases hy:yieldOf st false (aC ops o).op with
 | some p =>
   obtain ⟨b,vs⟩:=p
   simp only [hy] at h
   unfold wpOpIn
   simp only [hi]
   unfold aC at h hy
   cases hg:o.guard with
   | none =>
     simp only [hg] at h hy
     have hw:Region.wanted o (yielded ops a.tmps) = true:=by simp [Region.wanted,hg]
     rw [if_pos hw]
     exact zk hy rfl rfl h hr hK
   | some gw =>
     obtain ⟨g,want⟩:=gw
     simp only [hg] at h hy
     cases yC:(ops[g]?).bind (·.dst) with
     | none=>simp [yC,yieldOf] at hy
     | some s =>
       simp only [yC] at h hy
       split at h
       ·rename_i c hs
        have hw:=nz (ops:=ops) (o:=o) (wb:=((st.sl s).az && (c == want))) hg (by simp only [dV,yC,hs]) hr
        rw [hw]
        cases mg:((st.sl s).az && (c == want)) with
        | true =>
          simp only [if_true]
          exact zk hy rfl rfl (h.1 mg) hr hK
        | false =>
          simp only [Bool.false_eq_true,if_false]
          obtain ⟨hd,hk⟩:=h.2 mg
          exact ⟨fun _ _=>trivial,hK.put hr hd (.dead _) hk⟩
       ·exact h.elim
 | none =>
   simp only [hy] at h
   cases hg:o.guard with
   | none =>
     refine dT (d:=false) hi ?_ hr hK
     unfold aC at h
     unfold bJ
     simpa [hg,bS.oper,tI] using h
   | some gw =>
     obtain ⟨g,want⟩:=gw
     unfold aC at h
     simp only [hg] at h
     cases yC:(ops[g]?).bind (·.dst) with
     | none =>
       simp only [yC] at h
       simp [bS.oper,aK,bV] at h
     | some s =>
       simp only [yC] at h
       split at h
       ·rename_i c hs
        have h':ek P false ⟨o.dst,o.op,some (s,want),false⟩ ((st.sl s).az && (c == want)) K st \/ pP P false ⟨o.dst,o.op,some (s,want),false⟩ ((st.sl s).az && (c == want)) K st:=by
         split at h
         ·exact .inl h
         ·exact h
        rcases h' with h | ⟨_,h1,h2⟩
        ·refine dT (d:=false) hi ?_ hr hK
         unfold bJ
         simp only [hg,dV,yC,hs]
         exact h
        ·unfold wpOpIn
         simp only [hi]
         have hw:=nz (ops:=ops) (o:=o) (wb:=((st.sl s).az && (c == want))) hg (by simp only [dV,yC,hs]) hr
         rw [hw]
         cases mg:((st.sl s).az && (c == want)) with
         | true =>
           simp only [if_true]
           have h3:aK P false o K st:=h1 mg
           exact pE ro n (pF h3) (kp h3 hr hK)
         | false =>
           simp only [Bool.false_eq_true,if_false]
           obtain ⟨hd,hk⟩:=h2 mg
           exact ⟨fun _ _=>trivial,hK.put hr hd (.dead _) hk⟩
       ·exact h.elim
theorem Ba {q:bS} (h:q.fz = false):q.jS = q:=by
 obtain ⟨d,op,g,fz⟩:=q
 simp only at h
 subst h
 rfl
theorem F0 {β:Beta} {w:World} {F:Nat -> Prop} {t:TypeId} {op:BinOp} {x y:V} {ux uy:Value} {d:Option Tmp} {K:St -> Prop} {st:St} (h:tG (bC P t) op x y d K st) (rx:aP β w F x ux) (ry:aP β w F y uy) (ox oy:Operand) :
 aL st d /\ ∃ c,(do eqGuard op t ox oy ux uy; binOp op t ux uy:Sem Value).run P w = .ok (.bool (IL op c)) w /\ K (st.put d (xn op c)):=by
 have main:∀ (A:Option Addr) (l cap:Nat) (e:TypeId),bC P t = .slice e -> (op = .eql \/ op = .neq) -> ux = .slice A l cap -> uy = .slice none 0 0 ->
  (do eqGuard op t ox oy ux uy; binOp op t ux uy:Sem Value).run P w = .ok (.bool (IL op A.isNone)) w:=by
  rintro A l cap e hk c9 rfl rfl
  have h3:(Op.equal t (.slice A l cap) (.slice none 0 0)).run P w = .ok A.isNone w:=by
   unfold Op.equal Op.maxDepth
   rw [Op.equalIn,Sem.run_bind,run_underlying (bA hk),Result.andThen_ok]
   cases A <;> rfl
  have hg:(eqGuard op t ox oy (.slice A l cap) (.slice none 0 0)).run P w = .ok () w:=by rcases c9 with rfl | rfl <;> rfl
  rw [Sem.run_bind,hg]
  rcases c9 with rfl | rfl
  ·show (do pure (.bool (<- Op.equal t (.slice A l cap) (.slice none 0 0))):Sem Value).run P w = _
   rw [Sem.run_bind,h3]; rfl
  ·show (do pure (.bool (!(<- Op.equal t (.slice A l cap) (.slice none 0 0)))):Sem Value).run P w = _
   rw [Sem.run_bind,h3]; rfl
 generalize DM:bC P t = kk at h
 unfold tG at h
 split at h
 ·rename_i e sz es
  have hk:=DM
  obtain ⟨c9,hd,h⟩:=h
  refine ⟨hd,?_⟩
  cases ry
  cases rx with
  | sl _ _ A cap u kP gZ hA bW hc hr =>
    refine ⟨A.isNone,main _ _ _ _ hk c9 rfl rfl,h _ fun wU=>?_⟩
    cases A with
    | none=>exact absurd rfl (hA wU)
    | some a=>rfl
 ·rename_i e b sz o n
  have hk:=DM
  obtain ⟨c9,hd,h⟩:=h
  refine ⟨hd,?_⟩
  cases ry
  cases rx with
  | mi=>exact ⟨true,main _ _ _ _ hk c9 rfl rfl,h _ fun hn=>absurd hn (Nat.lt_irrefl 0)⟩
  | own=>exact ⟨false,main _ _ _ _ hk c9 rfl rfl,h _ fun _=>rfl⟩
 ·rename_i e
  have hk:=DM
  obtain ⟨c9,hd,h⟩:=h
  refine ⟨hd,?_⟩
  cases ry
  cases rx
  exact ⟨true,main _ _ _ _ hk c9 rfl rfl,h⟩
 ·exact h.elim
theorem zl {d:Bool} {ops:Array Oper} {o:Oper} {q:bS} (hq:q.jS = aC ops o) {K:St -> Prop} {st:St} (hd:d = true) (h:dB P d q K st):bJ P d ops o K st:=by
 unfold dB at h
 split at h
 ·rename_i hf
  rw [Ba hf] at hq
  rw [hq] at h
  exact kW hd h
 ·split at h
  ·rw [hd] at h; exact absurd h.1 (by simp)
  ·rw [hd] at h; exact absurd h.1 (by simp)
  ·rw [hd] at h; exact absurd h.1 (by simp)
  ·rw [hd] at h; exact absurd h.1 (by simp)
  ·rw [hd] at h; exact absurd h.1 (by simp)
  ·rw [if_pos hd,hq] at h
   exact kW hd h
  ·rw [hq] at h
   exact kW hd h
theorem vK (st:St):∀ (ps:List (Nat × Operand)) (es:List V),(dS st es ps).length = es.length
 | [],es=>rfl
 | (i,x) :: ps,es=>by simp only [dS]; rw [vK st ps]; simp
theorem xq {ro:Option Nat} {n:Nat} {β:Beta} {M:dR} {w:World} {ops:Array Oper} {o:Oper} {t:TypeId} {len:Nat} {parts:Array (Nat × Operand)} {qd:Option Tmp} {qg:Option (Tmp × Bool)} (h0:aC ops o = ⟨qd,.buildSlice t len parts,qg,false⟩) {i:Nat} {st:St} {a:Act} {K:St -> Prop} {K':Act -> World -> Prop} {Q:Exit -> Act -> World -> Prop} (hi:ops[i]? = some o)
 (h:Ce P t len parts.toList qg qd K st) (hr:Rs P β M st a w) (hK:hH P β M st w K K'):wpOpIn (rf ro) n P ops Q i K' a w:=by
 have plain:∀ K1:St -> Prop,mL P t len parts.toList qd (fun _=>True) st -> (∀ e z b,bC P t = .slice e -> aV P e = some z -> 0 < aF P e -> st.bx b = none -> K1 ((st.box b (some (.row e (aF P e) (dS st (List.replicate len (ofValue z)) parts.toList)))).put qd (.own b (aF P e) 0 len))) ->
  aK P false (bS.oper ⟨qd,.buildSlice t len parts,qg,false⟩) K1 st:=by
  intro K1 h1 h2
  unfold mL at h1
  unfold aK
  simp only [bV,Bool.false_eq_true,if_false,bS.oper]
  cases hk:bC P t with
  | slice e =>
    simp only [hk] at h1 ⊢
    cases hz:aV P e with
    | none=>simp only [hz] at h1
    | some z =>
      simp only [hz] at h1 ⊢
      obtain ⟨⟨g1,g2,g3,g4⟩,g5,g6,_⟩:=h1
      exact ⟨g1,g2,g3,g4,g5,g6,fun b hb=>h2 e z b hk hz g2 hb⟩
  | _=>simp only [hk] at h1
 have DO:∀ K2:St -> Prop,mL P t len parts.toList qd K2 st -> mL P t len parts.toList qd (fun _=>True) st /\ ∀ e z,bC P t = .slice e -> aV P e = some z -> K2 (st.put qd (.sl (aF P e) (dS st (List.replicate len (ofValue z)) parts.toList))):=by
  intro K2 h1
  unfold mL at h1 ⊢
  cases hk:bC P t with
  | slice e =>
    simp only [hk] at h1 ⊢
    cases hz:aV P e with
    | none=>simp only [hz] at h1
    | some z =>
      simp only [hz] at h1 ⊢
      exact ⟨⟨h1.1,h1.2.1,h1.2.2.1,trivial⟩,fun e' z' he ku=>by cases he; rw [hz] at ku; cases ku; exact h1.2.2.2⟩
  | _=>simp only [hk] at h1
 have fin:∀ (e:TypeId) (z:Value) (b:Nat),0 < aF P e -> st.bx b = none -> K (st.put qd (.sl (aF P e) (dS st (List.replicate len (ofValue z)) parts.toList))) ->
  ∀ β' a' w',Rs P β' M ((st.box b (some (.row e (aF P e) (dS st (List.replicate len (ofValue z)) parts.toList)))).put qd (.own b (aF P e) 0 len)) a' w' -> Tr β st.bx w β' ((st.box b (some (.row e (aF P e) (dS st (List.replicate len (ofValue z)) parts.toList)))).put qd (.own b (aF P e) 0 len)).bx w' -> K' a' w':=by
  intro e z b hs hb hk β' a' w' de xr
  generalize wU:dS st (List.replicate len (ofValue z)) parts.toList = es at *
  have hlen:es.length = len:=by rw [<- wU,vK]; simp
  have lZ:jq ((st.box b (some (.row e (aF P e) es))).put qd (.own b (aF P e) 0 len)) (st.put qd (.sl (aF P e) es)):=by
   have jo:bX (aB st.bx b (some (.row e (aF P e) es))) st.bx:=by
    intro b'
    by_cases e:b' = b
    ·subst e; exact .inl hb
    ·exact .inr (.inl (by rw [ae _ _ e]))
   have e0:es.map (cK (aB st.bx b (some (bF.row e (aF P e) es))) st.bx 0) = es:=by
    rw [List.map_congr_left (g:=id) (fun v _=>by cases v <;> rfl)]; simp
   cases qd with
   | none=>exact ⟨Nat.le_refl _,fun t=>.inr (.inl rfl),jo⟩
   | some d =>
     refine ⟨Nat.le_refl _,fun t=>?_,jo⟩
     by_cases ht:t = d
     ·subst ht
      refine .inr (.inr (.inl ⟨1,?_⟩))
      simp only [St.put,St.box,af,cK,hb]
      rw [if_pos ⟨trivial,hs,by omega⟩,List.drop_zero,List.take_of_length_le (by omega)]
      simp
     ·refine .inr (.inl ?_)
      simp only [St.put,St.box]
      rw [ae _ _ ht,ae _ _ ht]
  have pt:(st.put qd (.sl (aF P e) es)).bx = st.bx:=by cases qd <;> rfl
  have mJ:((st.box b (some (.row e (aF P e) es))).put qd (.own b (aF P e) 0 len)).bx = aB st.bx b (some (.row e (aF P e) es)):=by cases qd <;> rfl
  refine hK _ _ _ _ hk (lZ.rs de) ?_
  rw [pt]
  rw [mJ] at xr
  have:=lZ.bx.tr (β:=β') (w:=w')
  rw [pt,mJ] at this
  exact xr.trans this
 cases qg with
 | none =>
   obtain ⟨h1,h2⟩:=DO _ h
   have key:fm P false (aC ops o) (fun s=>∃ e z b,bC P t = .slice e /\ aV P e = some z /\ 0 < aF P e /\ st.bx b = none /\ s = (st.box b (some (.row e (aF P e) (dS st (List.replicate len (ofValue z)) parts.toList)))).put qd (.own b (aF P e) 0 len)) st:=by
    rw [h0]
    unfold fm
    simp only [yieldOf]
    exact plain _ h1 fun e z b g1 g2 g3 g4=>⟨e,z,b,g1,g2,g3,g4,rfl⟩
   refine kr hi key hr ?_
   rintro st' β' a' w' ⟨e,z,b,g1,g2,g3,g4,rfl⟩ de xr
   exact fin e z b g3 g4 (h2 e z g1 g2) β' a' w' de xr
 | some sw =>
   obtain ⟨s,wt⟩:=sw
   simp only [Ce] at h
   split at h
   ·rename_i c hs
    have key:fm P false (aC ops o) (fun st'=>(((st.sl s).az && (c == wt)) = true /\ ∃ e z b,bC P t = .slice e /\ aV P e = some z /\ 0 < aF P e /\ st.bx b = none /\ st' = (st.box b (some (.row e (aF P e) (dS st (List.replicate len (ofValue z)) parts.toList)))).put qd (.own b (aF P e) 0 len)) \/
     (((st.sl s).az && (c == wt)) = false /\ st' = st.put qd (.dead .cU))) st:=by
     rw [h0]
     unfold fm
     simp only [yieldOf,hs,bV,Bool.false_eq_true,if_false]
     exact .inr ⟨rfl,fun hw=>plain _ (DO _ (h.1 hw)).1 fun e z b g1 g2 g3 g4=>.inl ⟨hw,e,z,b,g1,g2,g3,g4,rfl⟩,fun hw=>⟨(h.2 hw).1,.inr ⟨hw,rfl⟩⟩⟩
    refine kr hi key hr ?_
    rintro st' β' a' w' (⟨hw,e,z,b,g1,g2,g3,g4,rfl⟩ | ⟨hw,rfl⟩) de xr
    ·exact fin e z b g3 g4 ((DO _ (h.1 hw)).2 e z g1 g2) β' a' w' de xr
    ·exact hK _ _ _ _ (h.2 hw).2 de xr
   ·exact h.elim
theorem F1 {ro:Option Nat} {n:Nat} {β:Beta} {M:dR} {w:World} {ops:Array Oper} {o:Oper} {q:bS} (hq:q.jS = aC ops o) {i:Nat} {st:St} {a:Act} {K:St -> Prop} {K':Act -> World -> Prop} {Q:Exit -> Act -> World -> Prop} (hi:ops[i]? = some o) (h:dB P false q K st) (hr:Rs P β M st a w) (hK:hH P β M st w K K') :
 wpOpIn (rf ro) n P ops Q i K' a w:=by
 unfold dB at h
 split at h
 ·rename_i hf
  rw [Ba hf] at hq
  rw [hq] at h
  exact kr hi h hr hK
 ·split at h
  ·rename_i e x c9
   obtain ⟨_,hg,iB,hd,Dx,hk⟩:=h
   obtain ⟨qd,qop,qg,qf⟩:=q
   simp only at c9 hg hd hk
   subst c9 hg
   have h0:aC ops o = ⟨qd,.box e x,none,false⟩:=hq.symm
   have key:fm P false (aC ops o) (fun s=>∃ b,st.bx b = none /\ s = (st.box b (some (.row e (aF P e) [st.get x]))).put qd (.ptr b (aF P e) 0 0)) st:=by
    rw [h0]
    unfold fm
    simp only [yieldOf]
    unfold aK
    simp only [bV,Bool.false_eq_true,if_false,bS.oper]
    exact ⟨iB,hd,Dx,fun b hb=>⟨b,hb,rfl⟩⟩
   refine kr hi key hr ?_
   rintro st' β' a' w' ⟨b,hb,rfl⟩ de xr
   have hlen:(st.get x).cells.length = aF P e:=iB.2.2
   have lZ:jq ((st.box b (some (.row e (aF P e) [st.get x]))).put qd (.ptr b (aF P e) 0 0)) (st.put qd (.ep (st.get x) 0)):=by
    have jo:bX (aB st.bx b (some (.row e (aF P e) [st.get x]))) st.bx:=by
     intro b'
     by_cases e:b' = b
     ·subst e; exact .inl hb
     ·exact .inr (.inl (by rw [ae _ _ e]))
    have e0:cK (aB st.bx b (some (bF.row e (aF P e) [st.get x]))) st.bx 0 (st.get x) = st.get x:=by cases st.get x <;> rfl
    cases qd with
    | none=>exact ⟨Nat.le_refl _,fun t=>.inr (.inl rfl),jo⟩
    | some d =>
      refine ⟨Nat.le_refl _,fun t=>?_,jo⟩
      by_cases ht:t = d
      ·subst ht
       refine .inr (.inr (.inl ⟨1,?_⟩))
       simp only [St.put,St.box,af,cK,hb]
       simp [e0]
      ·refine .inr (.inl ?_)
       simp only [St.put,St.box]
       rw [ae _ _ ht,ae _ _ ht]
   have pt:(st.put qd (.ep (st.get x) 0)).bx = st.bx:=by cases qd <;> rfl
   have mJ:((st.box b (some (.row e (aF P e) [st.get x]))).put qd (.ptr b (aF P e) 0 0)).bx = aB st.bx b (some (.row e (aF P e) [st.get x])):=by cases qd <;> rfl
   refine hK _ _ _ _ hk (lZ.rs de) ?_
   rw [pt]
   rw [mJ] at xr
   have:=lZ.bx.tr (β:=β') (w:=w')
   rw [pt,mJ] at this
   exact xr.trans this
  ·rename_i t len parts c9
   obtain ⟨_,hk⟩:=h
   obtain ⟨qd,qop,qg,qf⟩:=q
   simp only at c9 hk
   subst c9
   exact xq hq.symm hi hk hr hK
  ·rename_i bop t x y t' c9
   obtain ⟨_,hg,hk⟩:=h
   obtain ⟨qd,qop,qg,qf⟩:=q
   simp only at c9 hg hk
   subst c9 hg
   have h0:aC ops o = ⟨qd,.binOp bop t x y t',none,false⟩:=hq.symm
   obtain ⟨odst,oop,otype,opos,oafter,oguard⟩:=o
   have h1:odst = qd /\ oop = .binOp bop t x y t' /\ oguard = none:=by
    unfold aC at h0
    cases oguard with
    | none =>
      simp only [bS.mk.injEq] at h0
      exact ⟨h0.1,h0.2.1,rfl⟩
    | some gw =>
      obtain ⟨g,wnt⟩:=gw
      simp only at h0
      split at h0
      ·simp only [bS.mk.injEq] at h0
       exact absurd h0.2.2.1 (by simp)
      ·simp only [bS.mk.injEq] at h0
       exact absurd h0.2.1 (by simp)
   obtain ⟨rfl,rfl,rfl⟩:=h1
   obtain ⟨hd,c,dX,jx⟩:=F0 hk (hr.get x) (hr.get y) x y
   unfold wpOpIn
   simp only [hi]
   rw [if_pos (show Region.wanted _ (yielded ops a.tmps) = true by simp [Region.wanted])]
   refine pE ro n (fun c hc=>by cases hc) ?_
   unfold Oper.wp
   have Sn:(execOp a.eval ⟨odst,.binOp bop t x y t',otype,opos,oafter,none⟩).run P w = .ok (.value (.bool (IL bop c))) w:=by
    show (do pure (Next.value (<- (do eqGuard bop t x y (a.eval x) (a.eval y); binOp bop t (a.eval x) (a.eval y):Sem Value))):Sem Next).run P w = _
    rw [Sem.run_bind,dX]
    simp only [Result.andThen_ok,Sem.run_pure]
   rw [Sn]
   exact hK.put hr hd (.bool _) jx
  ·rename_i s t x c9
   obtain ⟨_,hg,hk⟩:=h
   obtain ⟨qd,qop,qg,qf⟩:=q
   simp only at c9 hg hk
   subst c9 hg
   have h0:aC ops o = ⟨qd,.convert s t x,none,false⟩:=hq.symm
   obtain ⟨odst,oop,otype,opos,oafter,oguard⟩:=o
   have h1:odst = qd /\ oop = .convert s t x /\ oguard = none:=by
    unfold aC at h0
    cases oguard with
    | none =>
      simp only [bS.mk.injEq] at h0
      exact ⟨h0.1,h0.2.1,rfl⟩
    | some gw =>
      obtain ⟨g,wnt⟩:=gw
      simp only at h0
      split at h0
      ·simp only [bS.mk.injEq] at h0
       exact absurd h0.2.2.1 (by simp)
      ·simp only [bS.mk.injEq] at h0
       exact absurd h0.2.1 (by simp)
   obtain ⟨rfl,rfl,rfl⟩:=h1
   unfold wpOpIn
   simp only [hi]
   rw [if_pos (show Region.wanted _ (yielded ops a.tmps) = true by simp [Region.wanted])]
   exact pE ro n (fun c hc=>by cases hc) (IQ hr hk hK)
  ·rename_i t x lo c9
   obtain ⟨_,hg,hk⟩:=h
   obtain ⟨qd,qop,qg,qf⟩:=q
   simp only at c9 hg hk
   subst c9 hg
   have h0:aC ops o = ⟨qd,.slice t x lo none none,none,false⟩:=hq.symm
   obtain ⟨odst,oop,otype,opos,oafter,oguard⟩:=o
   have h1:odst = qd /\ oop = .slice t x lo none none /\ oguard = none:=by
    unfold aC at h0
    cases oguard with
    | none =>
      simp only [bS.mk.injEq] at h0
      exact ⟨h0.1,h0.2.1,rfl⟩
    | some gw =>
      obtain ⟨g,wnt⟩:=gw
      simp only at h0
      split at h0
      ·simp only [bS.mk.injEq] at h0
       exact absurd h0.2.2.1 (by simp)
      ·simp only [bS.mk.injEq] at h0
       exact absurd h0.2.1 (by simp)
   obtain ⟨rfl,rfl,rfl⟩:=h1
   unfold wpOpIn
   simp only [hi]
   rw [if_pos (show Region.wanted _ (yielded ops a.tmps) = true by simp [Region.wanted])]
   exact pE ro n (fun c hc=>by cases hc) (IS hr hk hK)
  ·rw [if_neg (by decide),hq] at h
   obtain ⟨st',lZ,h⟩:=h
   exact kr hi h (lZ.rs hr) (fun st2 β' a' w' hk de ht=>hK _ _ _ _ hk de (lZ.bx.tr.trans ht))
  ·rw [hq] at h
   exact kr hi h hr hK
theorem vL {d:Bool} {q:bS} {K K':St -> Prop} {st:St} (hm:∀ s,K s -> K' s) (h:fm P d q K st):fm P d q K' st:=by
 have hy:∀ b vs,qI P q K st b vs -> qI P q K' st b vs:=fun b vs h=>by
  obtain ⟨h1,h2,h3⟩:=h
  refine ⟨h1,h2,fun n β M w us k g1 g2 g3 g4 g5=>?_⟩
  obtain ⟨fn,tmps,assign,body,e1,e2⟩:=h3 n β M w us k g1 g2 g3 g4 g5
  refine ⟨fn,tmps,assign,body,e1,e2.mono ?_⟩
  rintro e w' ⟨v,r,bx',β',rfl,jZ,h3⟩
  exact ⟨v,r,bx',β',rfl,hm _ jZ,h3⟩
 unfold fm at h ⊢
 split at h
 ·rename_i b vs hyo
  split at h
  ·exact hy _ _ h
  ·split at h
   ·exact ⟨fun hw=>hy _ _ (h.1 hw),fun hw=>⟨(h.2 hw).1,hm _ (h.2 hw).2⟩⟩
   ·exact h.elim
 ·split at h
  ·exact gH hm h
  ·split at h
   ·have hg:∀ wb,ek P d q wb K st -> ek P d q wb K' st:=fun wb h=>by
     unfold ek at h ⊢
     split at h
     ·rename_i he
      rw [if_pos he]
      exact ⟨h.1,h.2.1,hm _ h.2.2⟩
     ·rename_i he
      rw [if_neg he]
      split at h
      ·split at h
       ·obtain ⟨h1,r,h2,h3⟩:=h
        exact ⟨h1,r,h2,hm _ h3⟩
       ·exact h.elim
      ·exact ⟨fun hw=>gH hm (h.1 hw),fun hw=>⟨(h.2 hw).1,hm _ (h.2 hw).2⟩⟩
    split at h
    ·rename_i he; rw [if_pos he]; exact hg _ h
    ·rename_i he
     rw [if_neg he]
     rcases h with h | ⟨h1,h2,h3⟩
     ·exact .inl (hg _ h)
     ·exact .inr ⟨h1,fun hw=>gH hm (h2 hw),fun hw=>⟨(h3 hw).1,hm _ (h3 hw).2⟩⟩
   ·exact h.elim
theorem jq.refl (st:St):jq st st:=⟨Nat.le_refl _,fun _=>.inr (.inl rfl),bX.refl _⟩
theorem DP {d:Bool} {ops:Array Oper} {o:Oper} {q:bS} (hq:q.jS = aC ops o) (hc:rn o = true) {K:St -> Prop} {st:St} (h:dB P d q K st):∃ st',jq st st' /\ fm P d (aC ops o) K st':=by
 have c9:(aC ops o).op = o.op \/ (aC ops o).op = .ready 0:=by
  unfold aC
  split
  ·exact .inl rfl
  ·split
   ·exact .inl rfl
   ·exact .inr rfl
 have So:q.op = (aC ops o).op:=by rw [<- hq]; rfl
 unfold dB at h
 split at h
 ·rename_i hf
  rw [Ba hf] at hq
  rw [hq] at h
  exact ⟨st,jq.refl st,h⟩
 ·split at h
  ·rename_i e1
   rw [So] at e1
   rcases c9 with c9 | c9 <;> rw [c9] at e1
   ·unfold rn at hc; rw [e1] at hc; simp at hc
   ·cases e1
  ·rename_i e1
   rw [So] at e1
   rcases c9 with c9 | c9 <;> rw [c9] at e1
   ·unfold rn at hc; rw [e1] at hc; simp at hc
   ·cases e1
  ·rename_i e1
   rw [So] at e1
   rcases c9 with c9 | c9 <;> rw [c9] at e1
   ·unfold rn at hc; rw [e1] at hc; simp at hc
   ·cases e1
  ·rename_i e1
   rw [So] at e1
   rcases c9 with c9 | c9 <;> rw [c9] at e1
   ·unfold rn at hc; rw [e1] at hc; simp at hc
   ·cases e1
  ·rename_i e1
   rw [So] at e1
   rcases c9 with c9 | c9 <;> rw [c9] at e1
   ·unfold rn at hc; rw [e1] at hc; simp at hc
   ·cases e1
  ·rw [hq] at h
   split at h
   ·exact ⟨st,jq.refl st,h⟩
   ·exact h
  ·rw [hq] at h; exact ⟨st,jq.refl st,h⟩
theorem Bb {ops:Array Oper} {k:Nat} (h:k < ops.size):(kq ops).drop k = lT ops k :: (kq ops).drop (k + 1):=by
 have hl:k < (kq ops).length:=by simp [kq,h]
 rw [List.drop_eq_getElem_cons hl]
 simp [kq]
def zm (P:Program) (ops:Array Oper):Nat -> Oper -> (St -> Prop) -> St -> Prop:=fun _ o K st=>∃ st',jq st st' /\ fm P false (aC ops o) K st'
theorem oS {ops:Array Oper}:Cd (zm P ops):=fun _ _ _ _ _ hm ⟨st',hc,h⟩=>⟨st',hc,vL hm h⟩
theorem M6 {ops:Array Oper} {i:Nat} (h:lT ops i = true) {o:Oper} (ho:ops[i]? = some o):rn o = true:=by
 unfold lT at h
 rw [ho] at h
 simp only [Bool.and_eq_true] at h
 exact h.1
theorem mM {ops:Array Oper} {K:St -> Prop}:∀ (l:List Oper) (ql:List bS) (k:Nat) (st:St),(∀ j,l[j]? = ops[k + j]?) -> k + l.length = ops.size -> ql.map bS.jS = l.map (aC ops) -> l9 P K ((kq ops).drop k) ql st -> jB P ops (zm P ops) K l k st
 | [],[],k,st,_,_,_,h=>by
   have:l9 P K ((kq ops).drop k) [] st = K st:=by cases (kq ops).drop k <;> rfl
   rw [this] at h
   exact h
 | o :: l,q :: ql,k,st,hl,hk,hq,h=>by
   simp only [List.map_cons,List.cons.injEq] at hq
   simp only [List.length_cons] at hk
   have h0:ops[k]? = some o:=by simpa using (hl 0).symm
   rw [Bb (by omega)] at h
   have next:∀ s,l9 P K ((kq ops).drop (k + 1)) ql s -> jB P ops (zm P ops) K l (k + 1) s:=fun s hs=>mM l ql (k + 1) s (fun j=>by have:=hl (j + 1); simpa [Nat.add_assoc,Nat.add_comm 1 j] using this) (by omega) hq.2 hs
   show pO P ops (zm P ops) k o (jB P ops (zm P ops) K l (k + 1)) st
   unfold pO
   cases hs:lT ops k with
   | false =>
     rw [hs] at h
     rw [if_neg (by simp)]
     exact dk next (zl hq.1 rfl h)
   | true =>
     rw [hs] at h
     rw [if_pos rfl]
     obtain ⟨st',hc,h'⟩:=DP hq.1 (M6 hs h0) h
     exact ⟨st',hc,vL next h'⟩
 | [],q :: ql,k,st,_,_,hq,h=>by simp at hq
 | o :: l,[],k,st,_,_,hq,h=>by simp at hq
theorem rp {d:Bool} {ops:Array Oper} {K:St -> Prop} (hd:d = true):∀ (l:List Oper) (ql:List bS) (st:St),ql.map bS.jS = l.map (aC ops) -> xo P d K ql st -> oL P d ops K l st
 | [],[],st,_,h=>h
 | o :: l,q :: ql,st,hq,h=>by
   simp only [List.map_cons,List.cons.injEq] at hq
   exact dk (fun s hs=>rp hd l ql s hq.2 hs) (zl hq.1 hd h)
 | [],q :: ql,st,hq,h=>by simp at hq
 | o :: l,[],st,hq,h=>by simp at hq
theorem Cg {ro:Option Nat} {n:Nat} {M:dR} {ops:Array Oper} {K:St -> Prop} {Q:Exit -> Act -> World -> Prop}:∀ (l:List Oper) (ql:List bS) (k:Nat) (st:St) (a:Act) (w:World) (β:Beta),ql.map bS.jS = l.map (aC ops) -> (∀ j,l[j]? = ops[k + j]?) -> xo P false K ql st -> Rs P β M st a w -> hH P β M st w K (Q .normal) ->
 wpOpsIn (rf ro) n P ops Q (List.range' k l.length) a w
 | [],[],k,st,a,w,β,_,_,h,hr,hK=>by
   simp only [List.length_nil,List.range'_zero,wpOpsIn]
   exact hK st β a w h hr (Tr.refl _ _ _)
 | o :: l,q :: ql,k,st,a,w,β,hq,hl,h,hr,hK=>by
   simp only [List.map_cons,List.cons.injEq] at hq
   have h0:ops[k]? = some o:=by simpa using (hl 0).symm
   simp only [List.length_cons,List.range'_succ,wpOpsIn_cons]
   refine F1 hq.1 h0 h hr (fun st' β' a' w' hk de ht=>?_)
   exact Cg l ql (k + 1) st' a' w' β' hq.2 (fun j=>by have:=hl (j + 1); simpa [Nat.add_assoc,Nat.add_comm 1 j] using this) hk de (hK.trans ht)
 | [],q :: ql,k,st,a,w,β,hq,_,h,hr,hK=>by simp at hq
 | o :: l,[],k,st,a,w,β,hq,_,h,hr,hK=>by simp at hq
end
end Go.Pl
namespace Go.Pl
open Go
theorem zn (sl:Nat -> V) (t:Nat):∀ (ks:List Nat),bR (ks.map fun k=>(k,sl k)) t = .cU \/ bR (ks.map fun k=>(k,sl k)) t = sl t
 | []=>.inl rfl
 | k :: ks=>by
   simp only [List.map,bR]
   by_cases h:t = k
   ·subst h; simp
   ·rw [if_neg h]; exact zn sl t ks
theorem mN (st:St) (ks:List Nat):jq st (st.cw ks):=by
 refine ⟨Nat.le_refl _,fun t=>?_,bX.refl _⟩
 rcases zn st.sl t ks with h | h
 ·exact .inl h
 ·exact .inr (.inl h)
theorem rz {c:Code} {d:Bool} {l:List bS} (h:compile c = .bq d l []):∃ id ops,c = .region id ops d /\ (d = true -> tu ops = true) /\ l = ops.toList.map (aC ops):=by
 cases c with
 | region id ops draw =>
   unfold compile at h
   split at h
   ·split at h <;> cases h
   ·rename_i hd
    split at h
    ·cases h
    ·injection h with h1 h2
     subst h1 h2
     refine ⟨id,ops,rfl,?_,rfl⟩
     intro wR
     subst wR
     simpa using hd
 | _=>simp [compile] at h
theorem xt {c:Code} {un uv:List (Nat × Nat)} {l:List bS} (h:compile c = .gL un uv l []):∃ id ops,c = .region id ops true /\ AX ops = true /\ un = zj ops /\ uv = DN ops /\ l = ops.toList.map (aC ops):=by
 cases c with
 | region id ops draw =>
   unfold compile at h
   split at h
   ·rename_i hd
    simp only [Bool.and_eq_true] at hd
    obtain ⟨rfl,_⟩:=hd
    split at h
    ·rename_i hD
     injection h with h1 h3 h2
     exact ⟨id,ops,rfl,hD,h1.symm,h3.symm,h2.symm⟩
    ·cases h
   ·split at h
    ·cases h
    ·cases h
 | _=>simp [compile] at h
theorem pQ {c:Code} {so:List Bool} {l:List bS} (h:compile c = .ke so l []):∃ id ops,c = .region id ops true /\ tu ops = true /\ so = kq ops /\ l = ops.toList.map (aC ops):=by
 cases c with
 | region id ops draw =>
   unfold compile at h
   split at h
   ·split at h <;> cases h
   ·rename_i hd
    split at h
    ·rename_i hb
     simp only [Bool.and_eq_true] at hb
     obtain ⟨rfl,hb⟩:=hb
     injection h with h1 h2
     exact ⟨id,ops,rfl,by simpa using hd,h1.symm,h2.symm⟩
    ·cases h
 | _=>simp [compile] at h
section
variable {P:Program}
theorem qD.mono {M:dR} {ro:Option Nat} {c:Code} {Q Q':Exit -> St -> Prop} {st:St} (h:qD P M ro c Q st) (hq:∀ e s,Q e s -> Q' e s):qD P M ro c Q' st:=by
 intro n β a w hr
 refine wpIn_mono (h n β a w hr) ?_
 rintro e a' w' ⟨M',st',β',h1,h2⟩
 exact ⟨M',st',β',hq _ _ h1,h2⟩
theorem r5 {d:Bool} {ops:Array Oper} {K K':St -> Prop} (hm:∀ s,K s -> K' s):∀ (l:List Oper) (st:St),oL P d ops K l st -> oL P d ops K' l st
 | [],st,h=>hm st h
 | o :: l,st,h=>dk (fun s hs=>r5 hm l s hs) h
theorem pR {ops:Array Oper} {S:Nat -> Oper -> (St -> Prop) -> St -> Prop} (hS:Cd S) {K K':St -> Prop} (hm:∀ s,K s -> K' s):∀ (l:List Oper) (k:Nat) (st:St),jB P ops S K l k st -> jB P ops S K' l k st
 | [],_,st,h=>hm st h
 | o :: l,k,st,h=>vI hS (fun s hs=>pR hS hm l (k + 1) s hs) h
theorem DQ (hm:P.follows .mixedOrders = true) {M:dR} {ro:Option Nat} {id:Nat} {ops:Array Oper} {Q:Exit -> St -> Prop} {st:St} (hl:tu ops = true) {l:List bS} (iS:l.map bS.jS = ops.toList.map (aC ops)) (h:l9 P (Q .normal) (kq ops) l st):qD P M ro (.region id ops true) (fun e s=>e = .normal /\ Q .normal s) st:=by
 intro n β a w hr
 refine wpIn_region_any hm ?_
 have h:=pR (P:=P) (ops:=ops) oS (K':=fun s=>Exit.normal = .normal /\ Q .normal s) (fun s hs=>⟨rfl,hs⟩) _ 0 _ (mM ops.toList l 0 st (fun j=>by simp) (by simp) iS (by simpa using h))
 have de:Rs P β M st a w.drew:=⟨hr.ok.drew,fun t=>(Tr.drew hr.ok).rep (hr.sl t),hr.sz,hr.df,hr.bs,hr.gl.imp fun _ _ hh=>(Tr.drew hr.ok).rep hh⟩
 have h1:=mK (P:=P) oS hl ops.toList 0 (Array.replicate ops.size false) st (fun j=>by simp) (by simp) (by simp) (fun j hj=>by simp [hj]) h
 have h2:=iT (ro:=ro) (n:=n) (M:=M) (Q:=fun e a' w'=>∃ M' st' β',(e = .normal /\ Q .normal st') /\ ic M M' w /\ Rs P β' M' st' a' w' /\ Tr β st.bx w β' st'.bx w') (fun i o K st a w β K' hi h hr hK=>by
  obtain ⟨st',lZ,h⟩:=h
  exact kr hi h (lZ.rs hr) (fun st2 β' a' w' hk de ht=>hK _ _ _ _ hk de (lZ.bx.tr.trans ht))) _ _ st a w.drew β h1 de (fun st' β' a' w' hk sy ht=>⟨M,st',β',hk,ic.refl _ _,sy,(Tr.drew hr.ok).trans ht⟩)
 simpa using h2
theorem F2 (hm:P.follows .mixedOrders = true) {M:dR} {ro:Option Nat} {id:Nat} {ops:Array Oper} {d:Bool} {Q:Exit -> St -> Prop} {st:St} (hl:d = true -> tu ops = true) {l:List bS} (iS:l.map bS.jS = ops.toList.map (aC ops)) (h:xo P d (Q .normal) l st):qD P M ro (.region id ops d) (fun e s=>e = .normal /\ Q .normal s) st:=by
 cases d with
 | true=>exact ze hm hl (r5 (fun s hs=>⟨rfl,hs⟩) _ _ (rp rfl _ _ _ iS h))
 | false =>
   intro n β a w hr
   refine wpIn_region ?_
   have h1:=Cg (P:=P) (ro:=ro) (n:=n) (M:=M) (Q:=fun e a' w'=>∃ M' st' β',(e = .normal /\ Q .normal st') /\ ic M M' w /\ Rs P β' M' st' a' w' /\ Tr β st.bx w β' st'.bx w') ops.toList l 0 st a w β iS (fun j=>by simp) h hr (fun st' β' a' w' hk de ht=>⟨M,st',β',⟨rfl,hk⟩,ic.refl _ _,de,ht⟩)
   simpa [List.range_eq_range'] using h1
theorem zo {ops:Array Oper} {fl:Nat -> Bool} {i:Nat} {o:Oper} {q:bS} (hq:q.jS = aC ops o) (ho:ops[i]? = some o) (hf:fl i = q.fz) {K:St -> Prop} {st:St} (h:Cf P q K st):iJ P ops fl i K st:=by
 rw [fU ho,hf]
 obtain ⟨qd,qop,qg,qf⟩:=q
 obtain ⟨odst,oop,otype,opos,oafter,oguard⟩:=o
 unfold Cf at h
 simp only [bS.jS] at hq h ⊢
 cases oguard with
 | none =>
   simp only [aC,bS.mk.injEq] at hq
   obtain ⟨rfl,rfl,rfl,_⟩:=hq
   by_cases hb:(qf && mh qop) = true
   ·rw [if_pos hb] at h ⊢
    exact ⟨_,⟨h.1,rfl⟩,h.2.1,h.2.2⟩
   ·rw [if_neg hb] at h ⊢
    have ecb:dO ⟨qd,qop,otype,opos,oafter,none⟩ = jT ⟨qd,qop,none,qf⟩:=rfl
    rw [ecb]
    by_cases cz:(qf && jT ⟨qd,qop,none,qf⟩) = true
    ·rw [if_pos cz] at h ⊢
     exact h
    ·rw [if_neg cz] at h ⊢
     exact kW rfl (by simpa [aC] using h)
 | some gw =>
   obtain ⟨gg,w⟩:=gw
   cases hd:(ops[gg]?).bind (·.dst) with
   | none =>
     simp only [aC,hd,bS.mk.injEq] at hq
     obtain ⟨rfl,rfl,rfl,_⟩:=hq
     have hb:¬ (qf && mh (Op.ready 0)) = true:=by simp [mh]
     rw [if_neg hb,if_neg (by simp [jT])] at h
     unfold fm at h
     simp only [yieldOf] at h
     unfold aK at h
     simp [bV,bS.oper] at h
   | some d =>
     simp only [aC,hd,bS.mk.injEq] at hq
     obtain ⟨rfl,rfl,rfl,_⟩:=hq
     by_cases hb:(qf && mh qop) = true
     ·rw [if_pos hb] at h ⊢
      simp only at h
      split at h
      ·rename_i c hc
       refine ⟨_,?_,h.2.1,h.2.2⟩
       unfold YF
       simp only
       exact ⟨_,by simp only [dV,hd,hc],h.1,rfl⟩
      ·exact h.elim
     ·rw [if_neg hb,if_neg (by simp [jT])] at h
      rw [if_neg hb,if_neg (by simp [dO])]
      exact kW (ops:=ops) rfl (by simpa [aC,hd] using h)
theorem tJ {ops:Array Oper} {fl:Nat -> Bool} {K:St -> Prop}:∀ (l:List Oper) (ql:List bS) (k:Nat) (st:St),ql.map bS.jS = l.map (aC ops) -> (∀ j,l[j]? = ops[k + j]?) -> (∀ j q,ql[j]? = some q -> fl (k + j) = q.fz) -> lA P K ql st -> eu (iJ P ops fl) K k l.length st
 | [],[],k,st,_,_,_,h=>h
 | o :: l,q :: ql,k,st,hq,hl,hf,h=>by
   simp only [List.map_cons,List.cons.injEq] at hq
   have h0:ops[k]? = some o:=by simpa using (hl 0).symm
   exact n8.mono _ _ _ _ (fun s hs=>tJ l ql (k + 1) s hq.2 (fun j=>by have:=hl (j + 1); simpa [Nat.add_assoc,Nat.add_comm 1 j] using this) (fun j q' hj=>by have:=hf (j + 1) q' (by simpa using hj); simpa [Nat.add_assoc,Nat.add_comm 1 j] using this) hs) (zo hq.1 h0 (by simpa using hf 0 q rfl) h)
 | [],q :: ql,k,st,hq,_,_,h=>by simp at hq
 | o :: l,[],k,st,hq,_,_,h=>by simp at hq
theorem r7 (st:St):∀ (ps:List (Nat × Operand)) (es:List V),dS st es ps = jR es (ps.map fun p=>(p.1,st.get p.2))
 | [],es=>rfl
 | (i,x) :: ps,es=>by simp only [dS,List.map_cons,jR]; exact r7 st ps _
theorem Ch {β:Beta} {M:dR} {bx:aa} {w:World} (h:er β M bx w):ba bx:=by
 obtain ⟨n,hn⟩:=h.fin
 refine ⟨n,fun b hb=>?_⟩
 cases hx:bx b with
 | none=>rfl
 | some box =>
   rcases h.live b box hx with ⟨h1,_⟩ | ⟨k,h1,_⟩ <;> (rw [hn b hb] at h1; cases h1)
theorem Ci {t:TypeId} {len:Nat} {parts:List (Nat × Operand)} {d:Option Tmp} {K:St -> Prop} {st:St} (h1:(DL P t len (parts.map fun p=>(p.1,st.get p.2))).1) (h2:aL st d) (h3:ba st.bx) (h4:K (st.put d (DL P t len (parts.map fun p=>(p.1,st.get p.2))).2)):mL P t len parts d K st:=by
 unfold DL at h1 h4
 unfold mL
 split at h1
 ·rename_i e hk
  simp only [hk] at h4 ⊢
  split at h1
  ·rename_i z hz
   simp only [hz] at h4 ⊢
   obtain ⟨g1,g2,g3,g4⟩:=h1
   refine ⟨⟨g1,g2,g3,fun p hp=>g4 (p.1,st.get p.2) (List.mem_map.2 ⟨p,hp,rfl⟩)⟩,h2,h3,?_⟩
   rw [r7]
   exact h4
  ·exact h1.elim
 ·exact h1.elim
theorem qJ {bx:aa} {t:TypeId} {a:V} (h:(dM P (fun _=>none) t a).1):dM P bx t a = dM P (fun _=>none) t a:=by
 unfold dM at h ⊢
 split at h
 ·rename_i e o he; simp only [he]
 ·exact h.elim
 ·exact h.elim
theorem IT {β:Beta} {M:dR} {st:St} {d:Option Tmp} {x:V} (y:V) {a:Act} {w:World} (h:Rs P β M (st.put d (.dead x)) a w):Rs P β M (st.put d (.dead y)) a w:=by
 cases d with
 | none=>exact h
 | some d =>
   refine ⟨h.ok,fun t=>?_,h.sz,h.df,h.bs,h.gl⟩
   have:=h.sl t
   simp only [St.put,aB] at this ⊢
   by_cases e:t = d
   ·rw [if_pos e] at this ⊢
    generalize a.tmps.getD t undef = u at this ⊢
    cases this
    exact .dead _
   ·rw [if_neg e] at this ⊢
    exact this
theorem Cj {ro:Option Nat} {n:Nat} {β:Beta} {M:dR} {w:World} {ops:Array Oper} {fl:Nat -> Bool} {o:Oper} {i:Nat} {st:St} {a:Act} {K:St -> Prop} {K':Act -> World -> Prop} {Q:Exit -> Act -> World -> Prop} (hi:ops[i]? = some o) (h:iJ P ops fl i K st) (hr:Rs P β M st a w) (hK:hH P β M st w K K') :
 wpOpIn (rf ro) n P ops Q i K' a w:=by
 rw [fU hi] at h
 by_cases hf:(fl i && mh o.op) = true
 ·rw [if_pos hf] at h
  obtain ⟨v,hy,hd,hk⟩:=h
  have sb:mh o.op = true:=by simp only [Bool.and_eq_true] at hf; exact hf.2
  obtain ⟨odst,oop,otype,opos,oafter,oguard⟩:=o
  simp only at sb hd hk
  unfold YF at hy
  cases oguard with
  | none =>
    obtain ⟨h1,rfl⟩:=hy
    cases oop <;> try (simp only [mh,Bool.false_eq_true] at sb; done)
    case load t x =>
     refine dT (d:=true) hi ?_ hr hK
     unfold bJ aK
     simp only [bV,if_true,ev]
     simp only [sd] at h1 hk
     rw [qJ h1]
     exact ⟨h1,hd,hk⟩
    case buildSlice t len parts =>
     refine xq (qd:=odst) (qg:=none) (by rfl) hi ?_ hr hK
     exact Ci h1 hd (Ch hr.ok) hk
    case call c =>
     obtain ⟨x,t,rfl⟩:=Cc sb
     refine dT (d:=true) hi ?_ hr hK
     unfold bJ aK
     simp only [bV,if_true,ev,mn]
     have hl:lenOf { callee:=.builtin .len,args:=#[x],argTypes:=#[t] } = some (x,t):=rfl
     simp only [sd,hl] at h1 hk
     rw [qH h1]
     exact ⟨h1,hd,hk⟩
  | some gw =>
    obtain ⟨g,want⟩:=gw
    obtain ⟨wb,mg,h1,rfl⟩:=hy
    have hK2:∀ x,hH P β M st w (fun s=>(wb = true /\ K s) \/ (wb = false /\ s = st.put odst (.dead x))) K':=by
     rintro x st' β' a' w' (⟨rfl,hks⟩ | ⟨rfl,rfl⟩) de xr
     ·exact hK _ _ _ _ hks de xr
     ·exact hK _ _ _ _ hk (IT _ de) (by cases odst <;> exact xr)
    cases oop <;> try (simp only [mh,Bool.false_eq_true] at sb; done)
    case load t x =>
     refine dT (d:=true) (K:=fun s=>(wb = true /\ K s) \/ (wb = false /\ s = st.put odst (.dead (dM P st.bx t (gv P st x)).2.strip))) hi ?_ hr (hK2 _)
     unfold bJ
     simp only [mg,bV,if_true,ev]
     simp only [sd] at h1 hk
     refine ⟨fun hw=>by rw [qJ (h1 hw)]; exact h1 hw,hd,?_⟩
     cases wb
     ·exact .inr ⟨rfl,rfl⟩
     ·refine .inl ⟨rfl,?_⟩
      rw [qJ (h1 rfl)]
      exact hk
    case call c =>
     obtain ⟨x,t,rfl⟩:=Cc sb
     refine dT (d:=true) (K:=fun s=>(wb = true /\ K s) \/ (wb = false /\ s = st.put odst (.dead (nO P st.bx t (st.get x)).2.strip))) hi ?_ hr (hK2 _)
     unfold bJ
     simp only [mg,bV,if_true,ev,mn]
     have hl:lenOf { callee:=.builtin .len,args:=#[x],argTypes:=#[t] } = some (x,t):=rfl
     simp only [sd,hl] at h1 hk
     refine ⟨fun hw=>by rw [qH (h1 hw)]; exact h1 hw,hd,?_⟩
     cases wb
     ·exact .inr ⟨rfl,rfl⟩
     ·refine .inl ⟨rfl,?_⟩
      rw [qH (h1 rfl)]
      exact hk
    case buildSlice t len parts =>
     unfold dV at mg
     cases yC:(ops[g]?).bind (·.dst) with
     | none=>simp [yC] at mg
     | some s =>
       simp only [yC] at mg
       split at mg
       ·rename_i c hc
        injection mg with mg
        refine xq (t:=t) (len:=len) (parts:=parts) (qd:=odst) (qg:=some (s,want)) (K:=fun s=>(wb = true /\ K s) \/ (wb = false /\ s = st.put odst (.dead .cU))) (by simp [aC,yC]) hi ?_ hr (hK2 _)
        simp only [Ce,hc]
        rw [mg]
        refine ⟨fun hw=>Ci (h1 hw) hd (Ch hr.ok) (.inl ⟨hw,?_⟩),fun hw=>⟨hd,.inr ⟨hw,trivial⟩⟩⟩
        subst hw
        exact hk
       ·cases mg
 ·rw [if_neg hf] at h
  by_cases cm:(fl i && dO o) = true
  ·rw [if_pos cm] at h
   exact dT hi h.2 hr hK
  ·rw [if_neg cm] at h
   exact dT hi h hr hK
theorem F3 {ops:Array Oper} {k j:Nat} {ok oj:Oper} (hk:ops[k]? = some ok) (hj:ops[j]? = some oj) (ou:k < j) (hw:¬ fL (dC ops) j k) (ha:((dO ok || dO oj) && !nT ok && !nT oj) = true):(k,j) ∈ DN ops:=by
 have h1:=(Array.getElem?_eq_some_iff.1 hk).1
 have h2:=(Array.getElem?_eq_some_iff.1 hj).1
 have Sp:((dC ops).getD j 0).testBit k = false:=by unfold fL at hw; simpa using hw
 unfold DN
 simp only [List.mem_flatMap,List.mem_range,List.mem_map,List.mem_filter]
 exact ⟨k,h1,j,⟨h2,by simp only [hk,hj,ha,ou,Sp,decide_true,Bool.not_false,Bool.and_self]⟩,rfl⟩
theorem xu {ops:Array Oper} (h:AX ops = true) {k:Nat} {ok:Oper} (hk:ops[k]? = some ok) :
 (∀ e ∈ ok.after,Region.binds .any e = true -> e.on < k) /\ ∀ j oj,ops[j]? = some oj -> k < j -> ¬ fL (dC ops) j k -> ok.apart ops oj = true:=by
 have dr:=(Array.getElem?_eq_some_iff.1 hk).1
 simp only [AX,List.all_eq_true,List.mem_range] at h
 have h1:=h k dr
 simp only [hk,Bool.and_eq_true] at h1
 obtain ⟨h2,h3⟩:=h1
 refine ⟨fun e he hb=>?_,fun j oj hj ou hw=>?_⟩
 ·have:=Array.all_eq_true_iff_forall_mem.1 h2 e he
  simpa [hb] using this
 ·have lX:=(Array.getElem?_eq_some_iff.1 hj).1
  have h4:=List.all_eq_true.1 h3 j (List.mem_range.2 lX)
  simp only [hj,Bool.or_eq_true,decide_eq_true_eq] at h4
  rcases h4 with h4 | h4 | h4
  ·omega
  ·exact absurd h4 hw
  ·exact h4
theorem zp {ops:Array Oper} {k j:Nat} {ok oj:Oper} (hk:ops[k]? = some ok) (hj:ops[j]? = some oj) (ou:k < j) (hw:¬ fL (dC ops) j k) (ha:¬ (gJ ops ok oj || mI ops ok oj) = true):(k,j) ∈ zj ops:=by
 have h1:=(Array.getElem?_eq_some_iff.1 hk).1
 have h2:=(Array.getElem?_eq_some_iff.1 hj).1
 have fI:(gJ ops ok oj || mI ops ok oj) = false:=by
  cases hx:(gJ ops ok oj || mI ops ok oj) with
  | false=>rfl
  | true=>exact absurd hx ha
 have Sp:((dC ops).getD j 0).testBit k = false:=by unfold fL at hw; simpa using hw
 unfold zj
 simp only [List.mem_flatMap,List.mem_range,List.mem_map,List.mem_filter]
 exact ⟨k,h1,j,⟨h2,by simp only [hk,hj,fI,ou,Sp,decide_true,Bool.not_false,Bool.and_self]⟩,rfl⟩
theorem vM (hm:P.follows .mixedOrders = true) {M:dR} {ro:Option Nat} {id:Nat} {ops:Array Oper} {Q:Exit -> St -> Prop} {st:St} (hD:AX ops = true) {l:List bS} (iS:l.map bS.jS = ops.toList.map (aC ops))
 (hU:((zj ops).all fun p=>jd l p.1 || jd l p.2) = true) (hV:((DN ops).all fun p=>!(lB l p.1 || lB l p.2) || jd l p.1 || jd l p.2) = true) (h:lA P (Q .normal) l st):qD P M ro (.region id ops true) (fun e s=>e = .normal /\ Q .normal s) st:=by
 intro n β a w hr
 refine wpIn_region_any hm ?_
 have de:Rs P β M st a w.drew:=⟨hr.ok.drew,fun t=>(Tr.drew hr.ok).rep (hr.sl t),hr.sz,hr.df,hr.bs,hr.gl.imp fun _ _ hh=>(Tr.drew hr.ok).rep hh⟩
 let fl:Nat -> Bool:=fun i=>match l[i]? with | some q=>q.fz | none=>false
 have sb:∀ k ok,ops[k]? = some ok -> jd l k = true -> vH fl k ok = true:=by
  intro k ok hk hz
  unfold jd at hz
  cases hq:l[k]? with
  | none=>simp [hq] at hz
  | some q =>
    simp only [hq,Bool.and_eq_true] at hz
    have e1:(l.map bS.jS)[k]? = some q.jS:=by simp [hq]
    rw [iS] at e1
    have e2:(ops.toList.map (aC ops))[k]? = some (aC ops ok):=by simp [hk]
    rw [e2] at e1
    injection e1 with e1
    have e3:q.op = ok.op:=by
     have h5:(aC ops ok).op = q.op:=by rw [e1]; rfl
     unfold aC at h5
     split at h5
     ·exact h5.symm
     ·split at h5
      ·exact h5.symm
      ·rw [<- h5] at hz; simp [mh] at hz
    simp only [vH,Bool.or_eq_true,Bool.and_eq_true]
    refine .inl ⟨?_,by rw [<- e3]; exact hz.2⟩
    show (match l[k]? with | some q=>q.fz | none=>false) = true
    simp only [hq]
    exact hz.1
 have M7:My ops (iJ P ops fl):=by
  have jj:∀ k ok,ops[k]? = some ok -> (fl k && dO ok) = true -> lB l k = true:=by
   intro k ok hk hz
   simp only [Bool.and_eq_true] at hz
   obtain ⟨Mm,Bc⟩:=hz
   have e2:(ops.toList.map (aC ops))[k]? = some (aC ops ok):=by simp [hk]
   rw [<- iS] at e2
   have M8:(match l[k]? with | some q=>q.fz | none=>false) = true:=Mm
   unfold lB
   cases hq:l[k]? with
   | none=>simp [hq] at M8
   | some q =>
     simp only [hq] at M8 ⊢
     simp only [List.getElem?_map,hq,Option.map_some,Option.some.injEq] at e2
     obtain ⟨hg,f,args,ts,c9⟩:=l6 Bc
     have e3:q.jS = ⟨ok.dst,.call ⟨.value (.func f),args,ts⟩,none,false⟩:=by rw [e2]; unfold aC; rw [hg,c9]
     obtain ⟨qd,qop,qg,qf⟩:=q
     simp only [bS.jS,bS.mk.injEq] at e3
     obtain ⟨_,rfl,rfl,_⟩:=e3
     have hz3:qf = true:=M8
     subst hz3
     rfl
  have hVV:∀ k ok j oj,ops[k]? = some ok -> ops[j]? = some oj -> k < j -> ¬ fL (dC ops) j k -> ((fl k && dO ok) = true \/ (fl j && dO oj) = true) -> vH fl k ok = true \/ vH fl j oj = true:=by
   intro k ok j oj hk hj ou hw uZ
   by_cases h1:nT ok = true
   ·exact .inl (by simp [vH,h1])
   by_cases h2:nT oj = true
   ·exact .inr (by simp [vH,h2])
   have hb:(dO ok || dO oj) = true:=by
    rcases uZ with uZ | uZ <;> (simp only [Bool.and_eq_true] at uZ; simp [uZ.2])
   have:=List.all_eq_true.1 hV _ (F3 hk hj ou hw (by simp [hb,h1,h2]))
   have hq:(lB l k || lB l j) = true:=by
    rcases uZ with uZ | uZ
    ·simp [jj k ok hk uZ]
    ·simp [jj j oj hj uZ]
   simp only [hq,Bool.not_true,Bool.false_or,Bool.or_eq_true] at this
   exact this.imp (sb k ok hk) (sb j oj hj)
  have XQ:∀ k ok,(fl k && dO ok) = true -> ¬ vH fl k ok = true:=by
   intro k ok hc hx
   simp only [Bool.and_eq_true] at hc
   simp only [vH,Bool.or_eq_true,Bool.and_eq_true] at hx
   rcases hx with hx | hx
   ·rw [qG hx.2] at hc; exact absurd hc.2 (by simp)
   ·rw [tD hx] at hc; exact absurd hc.2 (by simp)
  refine ⟨fun k ok hk=>(xu hD hk).1,fun k ok hk j oj hj ou hw K st hh=>Fx hk hj ?_ (fun hc=>(hVV k ok j oj hk hj ou hw (.inl hc)).resolve_left (XQ k ok hc)) (fun hc=>(hVV k ok j oj hk hj ou hw (.inr hc)).resolve_right (XQ j oj hc)) hh⟩
  by_cases ha:(gJ ops ok oj || mI ops ok oj) = true
  ·exact .inl ha
  ·refine .inr ⟨(xu hD hk).2 j oj hj ou hw,?_⟩
   have:=List.all_eq_true.1 hU _ (zp hk hj ou hw ha)
   simp only [Bool.or_eq_true] at this
   exact this.imp (sb k ok hk) (sb j oj hj)
 have F4:=tJ (fl:=fl) ops.toList l 0 st iS (fun j=>by simp) (fun j q hj=>by
  show (match l[0 + j]? with | some q=>q.fz | none=>false) = q.fz
  simp [hj]) h
 have h1:=tB (K:=Q .normal) n8 M7 ops.toList.length 0 (Array.replicate ops.size false) st (by simp) (by simp) (fun j hj=>by simp [hj]) F4
 have h2:=oQ (P:=P) (ro:=ro) (n:=n) (M:=M) (ops:=ops) (Q:=fun e a' w'=>∃ M' st' β',(e = .normal /\ Q .normal st') /\ ic M M' w /\ Rs P β' M' st' a' w' /\ Tr β st.bx w β' st'.bx w') (fun i o K st a w β K' hi h hr hK=>Cj hi h hr hK) _ _ st a w.drew β h1 de (fun st' β' a' w' hk sy ht=>⟨M,st',β',⟨rfl,hk⟩,ic.refl _ _,sy,(Tr.drew hr.ok).trans ht⟩)
 simpa using h2
theorem Bd {M:dR} {g:Operand} {ps:Array Tmp} {x y:PC} {ca cb:Code} {Q:Exit -> St -> Prop} {st:St} (hc:tH x y ca cb) (h:pw P (.rangeFunc g ps x y) Q st):qD P M none (.rangeFunc g ps ca cb) Q st:=by
 intro n β a w hr
 unfold pw at h
 split at h
 rotate_left
 ·exact h.elim
 rename_i gf caps hs
 obtain ⟨pD,iZ⟩:=h
 obtain ⟨b,bQ,hb⟩:=hr.ok.fresh
 specialize iZ b hb
 refine wpIn_rangeFunc ?_
 intro fn hfn
 have rg:=hr.get g
 rw [aG pD hs] at rg
 generalize hgu:a.eval g = u at rg
 cases rg with
 | fn _ _ us hlen mH =>
 obtain ⟨rec,Be⟩:∃ rec:Loop,rec = { state:=.ready,pending:=none,fn,tmps:=a.tmps,params:=ps,assign:=ca,body:=cb,defers:=w.heap.size }:=⟨_,rfl⟩
 obtain ⟨ja,Ik,iH⟩:=DG hr.ok (.deferred (some []))
 obtain ⟨M1,hM1⟩:∃ M1,M.set w.heap.size (some (.deferred (some []))) = M1:=⟨_,rfl⟩
 obtain ⟨w1,M9⟩:∃ w1,w.alloc (.deferred (some [])) = w1:=⟨_,rfl⟩
 rw [hM1] at ja iH
 rw [M9] at ja Ik
 have D8:w1.heap.size = w.heap.size + 1:=by rw [<- M9]; simp
 have Ck:∀ t,aP β w1 (Fz β M1 st.bx w1) (st.sl t) (a.tmps.getD t undef):=fun t=>Ik.Ft iH (hr.sl t)
 have htm:rec.tmps = a.tmps:=by rw [Be]
 have Sq:∀ q x,β q = some x -> aB β b (some (some w1.heap.size)) q = some x:=by
  intro q x hx
  rw [ae _ _ (by rintro rfl; rw [bQ] at hx; cases hx)]; exact hx
 have IU:∀ k x,w1.shape? k = some x -> (w1.alloc (.loop rec)).shape? k = some x:=fun k x hx=>by
  have:k < w1.heap.size:=by
   rcases Nat.lt_or_ge k w1.heap.size with h1 | h1
   ·exact h1
   ·simp [World.shape?,Array.getElem?_eq_none h1] at hx
  rw [bI (Go.RowKit.Below.heap_alloc w1 _ k this)]; exact hx
 obtain ⟨jI,zq⟩:=DF ja bQ hb (.loop rec) (.loop none ps (tH x y) st.n st.sl) (fun _ h=>by cases h) (fun F' Sf =>
  ⟨rec,World.alloc_heap_new w1 _,by rw [Be]; rfl,by rw [Be],by rw [Be],by rw [Be]; exact hc,by rw [Be]; exact hr.sz,fun t=>by rw [htm]; exact (Ck t).mono Sq Sf IU⟩)
 obtain ⟨w2,Sr⟩:∃ w2,w1.alloc (.loop rec) = w2:=⟨_,rfl⟩
 rw [Sr] at jI zq
 rw [D8] at jI zq
 have MA:(Instr.enterLoop fn a.tmps ps ca cb (rf none).round).run P w = .ok (w.heap.size + 1,[{ target:=.collected w.heap.size,args:=#[] }]) w2:=by
  rw [<- Sr,<- M9,Be]; exact run_enterLoop_outer _ _ _ _ _
 refine ⟨w.heap.size + 1,[{ target:=.collected w.heap.size,args:=#[] }],w2,{ target:=.fn (.func gf) us,args:=#[.func (.yield (w.heap.size + 1)) #[] #[]] },w2,gf,#[.func (.yield (w.heap.size + 1)) #[] #[]] ++ us,w2,MA,?_,fun _ _=>trivial,?_,fun hd=>by simp [rf,Fence.wide] at hd,?_⟩
 ·simp only [resolve,hgu]
  simp [go_sem]
 ·simp [invoke,go_sem,iZ.1]
 ·have cz:aB β b (some (some (w.heap.size + 1))) b = some (some (w.heap.size + 1)):=af _ _ _
  have uZ:=iZ.2 (aB β b (some (some (w.heap.size + 1)))) M1 w2 (#[.func (.yield (w.heap.size + 1)) #[] #[]] ++ us) jI (hr.gl.imp (fun _ _ hh=>zq.rep (M:=M1) (Ik.Ft iH hh)) (fun _ _ h=>zq.shape _ _ (Ik.shape _ _ h))) (by simp [hlen]; omega) (fun i c xm=>by
   match i,xm with
   | 0,xm =>
     simp at xm; subst xm
     have e0:(#[Value.func (.yield (w.heap.size + 1)) #[] #[]] ++ us).getD 0 undef = Value.func (.yield (w.heap.size + 1)) #[] #[]:=by
      simp [Array.getElem?_append]
     rw [e0]
     exact aP.yl b (w.heap.size + 1) cz
   | i + 1,xm =>
     simp only [List.getElem?_cons_succ] at xm
     have h3:=zq.rep (M:=M1) (Ik.Ft iH (mH i c xm))
     have e:(#[Value.func (.yield (w.heap.size + 1)) #[] #[]] ++ us).getD (i + 1) undef = us.getD i undef:=by
      simp [Array.getElem?_append]
     rw [e]
     exact h3)
  refine CallsIn.mono (show CallsIn (rf none) (n - 1) P gf _ w2 _ from callsIn_wide.2 uZ) ?_
  rintro e w3 ⟨v,r,bx',β',rfl,en,Ss,PY,_⟩
  have nU:β' b = some (some (w.heap.size + 1)):=PY.ext _ _ cz
  have DR:Tr β st.bx w β' bx' w3:=Ik.trans (zq.trans PY)
  have aan:∀ t,aP β' w3 (Fz β' M1 bx' w3) (st.sl t) (a.tmps.getD t undef):=fun t=>PY.rep (zq.rep (Ck t))
  have hMD:M1 w.heap.size = some (.deferred (some [])):=by rw [<- hM1]; exact dR.AP _ _ _
  have fin:∀ pend:Option Code,bx' b = some (.loop pend ps (tH x y) st.n st.sl) -> ∃ w4,(Instr.endLoop (w.heap.size + 1)).run P w3 = .ok pend w4 /\
   Rs P β' M1 ⟨st.n,st.sl,aB bx' b none⟩ { tmps:=a.tmps,defers:={ target:=.collected w.heap.size,args:=#[] } :: a.defers } w4 /\ Tr β st.bx w β' (aB bx' b none) w4:=by
   intro pend dP
   obtain ⟨dr,hM,rec',Ld,MB,Le,hps,aeq,IV,_⟩:=iG Ss dP nU
   have Su:=run_endLoop (P:=P) Ld (by rw [MB]; split <;> simp)
   rw [Le] at Su
   have hs3:w3.shape? (w.heap.size + 1) = none:=by simp [World.shape?,Ld]
   obtain ⟨Sv,IX⟩:=IK Ss dP nU hs3 (.loop { rec' with state:=.exhausted })
   rw [Le] at Sv IX
   refine ⟨_,Su,⟨Sv,fun t=>IX.rep (aan t),hr.sz,?_,?_,hr.gl.imp (fun _ _ hh=>IX.rep (PY.rep (zq.rep (M:=M1) (Ik.Ft iH hh)))) (fun _ _ h=>(DR.trans IX).shape _ _ h)⟩,DR.trans IX⟩
   ·obtain ⟨ms,uV,BV⟩:=hr.df
    refine ⟨{ target:=.collected w.heap.size,args:=#[] } :: ms,by rw [iH.df,List.cons_append,<- uV],w.heap.size,rfl,by rw [iH.base]; exact hr.bs,hMD,?_⟩
    rw [iH.base]
    refine BV.mono (fun k o hk=>?_)
    have e:k ≠ w.heap.size:=by have:=hr.ok.oE hk; omega
    rw [ae _ _ e]
    exact iH.le k o hk
   ·rw [iH.base]
    exact Nat.le_trans hr.bs (DR.trans IX).size
  rcases en with ⟨dP,hq⟩ | ⟨dP,hq⟩ | ⟨id,dP,hq⟩
  ·obtain ⟨w4,h1,h2,h3⟩:=fin none dP
   exact ⟨none,w4,h1,M1,_,β',hq,iH,h2,h3⟩
  ·obtain ⟨w4,h1,h2,h3⟩:=fin (some .ret) dP
   exact ⟨some .ret,w4,h1,wpIn_ret ⟨M1,_,β',hq,iH,h2,h3⟩⟩
  ·obtain ⟨w4,h1,h2,h3⟩:=fin (some (.exit id)) dP
   exact ⟨some (.exit id),w4,h1,wpIn_exit ⟨M1,_,β',hq,iH,h2,h3⟩⟩
end
end Go.Pl
namespace Go.Pl
open Go
section
variable {P:Program}
theorem eM (hm:P.follows .mixedOrders = true) {ro:Option Nat}:∀ (pc:PC) (c:Code) (M:dR) (Q:Exit -> St -> Prop) (st:St),(ro = none \/ dW pc = true) -> compile c = erase pc -> pw P pc Q st -> qD P M ro c Q st
 | .skip,c,M,Q,st,hn,hc,h=>by
   cases c <;> simp only [compile,erase,reduceCtorEq] at hc
   ·exact fun n β a w hr=>wpIn_skip ⟨M,st,β,h,ic.refl _ _,hr,Tr.refl _ _ _⟩
   ·split at hc <;> first | (cases hc; done) | (split at hc <;> cases hc)
   ·exact fun n β a w hr=>wpIn_label ⟨M,st,β,h,ic.refl _ _,hr,Tr.refl _ _ _⟩
 | .bq d l ks,c,M,Q,st,hn,hc,h=>by
   obtain ⟨id,ops,rfl,hl,iS⟩:=rz hc
   intro n β a w hr
   refine wpIn_mono (F2 (M:=M) (ro:=ro) (Q:=fun e s=>e = .normal -> Q .normal (s.cw ks)) (id:=id) hm hl iS (by
    unfold pw at h
    have e:(fun s:St=>Q .normal (s.cw ks)) = (fun s:St=>Exit.normal = Exit.normal -> Q .normal (s.cw ks)):=by
     funext s; exact propext ⟨fun h _=>h,fun h=>h rfl⟩
    rw [e] at h
    exact h) n β a w hr) ?_
   rintro e a' w' ⟨M',st',β',⟨rfl,hq⟩,hx,de,ht⟩
   exact ⟨M',_,β',hq rfl,hx,(mN st' ks).rs de,ht⟩
 | .ke so l ks,c,M,Q,st,hn,hc,h=>by
   obtain ⟨id,ops,rfl,hl,rfl,iS⟩:=pQ hc
   intro n β a w hr
   refine wpIn_mono (DQ (M:=M) (ro:=ro) (Q:=fun e s=>e = .normal -> Q .normal (s.cw ks)) (id:=id) hm hl iS (by
    unfold pw at h
    have e:(fun s:St=>Q .normal (s.cw ks)) = (fun s:St=>Exit.normal = Exit.normal -> Q .normal (s.cw ks)):=by
     funext s; exact propext ⟨fun h _=>h,fun h=>h rfl⟩
    rw [e] at h
    exact h) n β a w hr) ?_
   rintro e a' w' ⟨M',st',β',⟨rfl,hq⟩,hx,de,ht⟩
   exact ⟨M',_,β',hq rfl,hx,(mN st' ks).rs de,ht⟩
 | .gL un uv l ks,c,M,Q,st,hn,hc,h=>by
   obtain ⟨id,ops,rfl,hD,rfl,rfl,iS⟩:=xt hc
   unfold pw at h
   intro n β a w hr
   refine wpIn_mono (vM (M:=M) (ro:=ro) (Q:=fun e s=>e = .normal -> Q .normal (s.cw ks)) (id:=id) hm hD iS h.1.1 h.1.2 (by
    have e:(fun s:St=>Q .normal (s.cw ks)) = (fun s:St=>Exit.normal = Exit.normal -> Q .normal (s.cw ks)):=by
     funext s; exact propext ⟨fun h _=>h,fun h=>h rfl⟩
    rw [e] at h
    exact h.2) n β a w hr) ?_
   rintro e a' w' ⟨M',st',β',⟨rfl,hq⟩,hx,de,ht⟩
   exact ⟨M',_,β',hq rfl,hx,(mN st' ks).rs de,ht⟩
 | .raw c',c,M,Q,st,hn,hc,h=>by
   cases c <;> simp only [compile,erase,reduceCtorEq] at hc
   ·split at hc <;> first | (cases hc; done) | (split at hc <;> cases hc)
 | .seq x y,c,M,Q,st,hn,hc,h=>by
   cases c <;> simp only [compile,erase,reduceCtorEq] at hc
   ·split at hc <;> first | (cases hc; done) | (split at hc <;> cases hc)
   rename_i a b
   injection hc with h1 h2
   have xv:ro = none \/ dW x = true:=by rcases hn with hn | hn <;> simp_all [dW]
   have F5:ro = none \/ dW y = true:=by rcases hn with hn | hn <;> simp_all [dW]
   intro n β ac w hr
   refine wpIn_seq (wpIn_mono (eM hm x a M _ st xv h1 h n β ac w hr) ?_)
   rintro e a' w' ⟨M',st',β',hq,hx,de,ht⟩
   cases e with
   | normal =>
     refine wpIn_mono (eM hm y b M' Q st' F5 h2 hq n β' a' w' de) ?_
     rintro e2 a2 w2 ⟨M2,st2,β2,Mr,cQ,sy,zq⟩
     exact ⟨M2,st2,β2,Mr,hx.trans cQ ht.size,sy,ht.trans zq⟩
   | _=>exact ⟨M',st',β',hq,hx,de,ht⟩
 | .cond o x y,c,M,Q,st,hn,hc,h=>by
   cases c <;> simp only [compile,erase,reduceCtorEq] at hc
   ·split at hc <;> first | (cases hc; done) | (split at hc <;> cases hc)
   rename_i c' a b
   injection hc with h0 h1 h2
   subst h0
   have xv:ro = none \/ dW x = true:=by rcases hn with hn | hn <;> simp_all [dW]
   have F5:ro = none \/ dW y = true:=by rcases hn with hn | hn <;> simp_all [dW]
   intro n β ac w hr
   unfold pw at h
   split at h
   ·rename_i t ht
    obtain ⟨hl,h3,h4⟩:=h
    have bO:=hr.get c'
    rw [aG hl ht] at bO
    refine wpIn_cond_split (t:=t) bO.fH (fun ht=>?_) (fun ht=>?_)
    ·exact eM hm x a M Q st xv h1 (h3 ht) n β ac w hr
    ·exact eM hm y b M Q st F5 h2 (h4 ht) n β ac w hr
   ·exact h.elim
 | .block id x,c,M,Q,st,hn,hc,h=>by
   cases c <;> simp only [compile,erase,reduceCtorEq] at hc
   ·split at hc <;> first | (cases hc; done) | (split at hc <;> cases hc)
   rename_i id' c
   injection hc with h0 h1
   subst h0
   intro n β a w hr
   refine wpIn_block (wpIn_mono (eM hm x c M _ st hn h1 h n β a w hr) ?_)
   rintro e a' w' ⟨M',st',β',hq,hx,de,ht⟩
   cases e with
   | exit id' =>
     simp only [oP] at hq
     simp only [Exit.inBlock]
     split at hq
     ·rename_i he; rw [if_pos he]; exact ⟨M',st',β',hq,hx,de,ht⟩
     ·rename_i he; rw [if_neg he]; exact ⟨M',st',β',hq,hx,de,ht⟩
   | _=>exact ⟨M',st',β',hq,hx,de,ht⟩
 | .loop x,c,M,Q,st,hn,hc,h=>by
   cases c <;> simp only [compile,erase,reduceCtorEq] at hc
   ·split at hc <;> first | (cases hc; done) | (split at hc <;> cases hc)
   rename_i c
   injection hc with h1
   intro n β a w hr
   obtain ⟨ι,C,μ,i0,lZ,AZ⟩:=h
   refine wpIn_loop_ghost (fun n a' w'=>∃ i M' β',μ i = n /\ ic M M' w /\ Rs P β' M' (C i) a' w' /\ Tr β st.bx w β' (C i).bx w') (μ i0) ⟨i0,M,β,rfl,ic.refl _ _,lZ.rs hr,lZ.bx.tr⟩ ?_
   rintro m a' w' ⟨i,M',β',rfl,hx,de,ht⟩
   refine wpIn_mono (eM hm x c M' _ (C i) hn h1 (AZ i) n β' a' w' de) ?_
   rintro e a2 w2 ⟨M2,st2,β2,hq,cQ,sy,zq⟩
   cases e with
   | normal =>
     obtain ⟨i',Sw,dr⟩:=hq
     exact ⟨μ i',dr,i',M2,β2,rfl,hx.trans cQ ht.size,Sw.rs sy,ht.trans (zq.trans Sw.bx.tr)⟩
   | _=>exact ⟨M2,st2,β2,hq,hx.trans cQ ht.size,sy,ht.trans zq⟩
 | .wk x,c,M,Q,st,hn,hc,h=>by
   obtain ⟨st',lZ,h⟩:=h
   intro n β a w hr
   refine wpIn_mono (eM hm x c M Q st' hn hc h n β a w (lZ.rs hr)) ?_
   rintro e a' w' ⟨M',st2,β',hq,hx,de,ht⟩
   exact ⟨M',st2,β',hq,hx,de,lZ.bx.tr.trans ht⟩
 | .fz t x,c,M,Q,st,hn,hc,h=>by
   unfold pw at h
   split at h
   ·rename_i b sz i o hsl
    split at h
    ·rename_i ty eU es pt
     obtain ⟨rfl,hi,h⟩:=h
     have lZ:jq st ⟨st.n,aB st.sl t (.ep (es.getD i .cU) o),aB st.bx b none⟩:=by
      refine ⟨Nat.le_refl _,fun s=>?_,fun b'=>?_⟩
      ·by_cases e:s = t
       ·subst e
        refine .inr (.inr (.inl ⟨1,?_⟩))
        simp only [af,hsl,cK,pt]
        rw [if_pos ⟨trivial,hi⟩]
       ·exact .inr (.inl (ae _ _ e))
      ·by_cases e:b' = b
       ·subst e; exact .inl (af _ _ _)
       ·exact .inr (.inl (ae _ _ e))
     intro n β a w hr
     refine wpIn_mono (eM hm x c M Q _ hn hc h n β a w (lZ.rs hr)) ?_
     rintro e a' w' ⟨M',st2,β',hq,hx,de,ht⟩
     exact ⟨M',st2,β',hq,hx,de,lZ.bx.tr.trans ht⟩
    ·exact h.elim
   ·exact h.elim
 | .exit id,c,M,Q,st,hn,hc,h=>by
   cases c <;> simp only [compile,erase,reduceCtorEq] at hc
   ·split at hc <;> first | (cases hc; done) | (split at hc <;> cases hc)
   injection hc with h0
   subst h0
   exact fun n β a w hr=>wpIn_exit ⟨M,st,β,h,ic.refl _ _,hr,Tr.refl _ _ _⟩
 | .ret,c,M,Q,st,hn,hc,h=>by
   cases c <;> simp only [compile,erase,reduceCtorEq] at hc
   ·split at hc <;> first | (cases hc; done) | (split at hc <;> cases hc)
   exact fun n β a w hr=>wpIn_ret ⟨M,st,β,h,ic.refl _ _,hr,Tr.refl _ _ _⟩
 | .rangeFunc g ps x y,c,M,Q,st,hn,hc,h=>by
   cases c <;> simp only [compile,erase,reduceCtorEq] at hc
   ·split at hc <;> first | (cases hc; done) | (split at hc <;> cases hc)
   rename_i g' ps' a b
   injection hc with h0 h1 h2 h3
   subst h0 h1
   rcases hn with rfl | hn
   ·exact Bd ⟨h2,h3⟩ h
   ·simp [dW] at hn
 | .bad,c,M,Q,st,hn,hc,h=>h.elim
theorem er.Sx {β:Beta} {M:dR} {bx:aa} {w:World} (h:er β M bx w):ba bx:=by
 obtain ⟨n,hn⟩:=h.fin
 refine ⟨n,fun b hb=>?_⟩
 cases hx:bx b with
 | none=>rfl
 | some box =>
   rcases h.live b box hx with ⟨h1,_⟩ | ⟨k,h1,_⟩ <;> (rw [hn b hb] at h1; cases h1)
theorem qK (hm:P.follows .mixedOrders = true) {f:FuncId} {fn:Func} {pc:PC} {n:Nat} {rs:List ResultVar} (hf:P.funcs[f]? = some fn) (hb:∃ c,fn.body = some c /\ compile c = erase pc) (hent:∀ vs w,(callFunc f vs).run P w = .ok (.enter f vs) w) (hn:fn.ntmps = n) (hrs:fn.results.toList = rs)
 {args:List V} {bx:aa} {Kc:V -> aa -> Prop} (h:ba bx -> pw P pc (fun e st=>(e = .normal \/ e = .ret) /\ Aw P rs Kc st) (bZ n args bx)):aw P f args bx Kc:=by
 obtain ⟨c,h1,h2⟩:=hb
 subst hn hrs
 exact lS hf h1 hent fun M n β a w hr=>eM hm pc c M _ _ (.inl rfl) h2 (h hr.ok.Sx) n β a w hr
end
end Go.Pl
