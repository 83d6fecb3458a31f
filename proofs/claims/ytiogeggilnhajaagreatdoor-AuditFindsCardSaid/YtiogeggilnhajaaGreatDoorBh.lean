/- Texts of the proof, put together: UA, UB, UC, VA, VB, VC, VD, VE, VF, VG, VH, VI, VJ, VK, VL. -/
import Derived.Test.YtiogeggilnhajaaGreatDoorBg
import Derived.Test.YtiogeggilnhajaaGreatDoorBd
import Derived.Test.YtiogeggilnhajaaGreatDoorBe
set_option maxHeartbeats 8000000
set_option linter.unusedSimpArgs false
set_option linter.unusedVariables false
set_option maxRecDepth 100000
namespace Go.Proofs
open Go Go.Pl Tryz
def iI (n : Int) : V:=.int .i64 n
def ck (n : Int) : Int:=IntKind.i64.wrap n
structure Ev where
 kind : Int
 bk : Nat
 t : Int
 call : Int
 conn : Int
 jQ : Int
 n : Int
 yes : Bool
deriving DecidableEq
structure Ex where
 ev : Ev
 b : Int
deriving DecidableEq
structure fb where
 max : Int
 queue : Int
 idle : Int
 xu : Int
deriving DecidableEq
structure RB where
 down : Bool
 gL : Int
 aK : Int
 au : List Int
 waits : List Int
structure RC where
 num : Int
 bk : Int
 st : Int
 call : Int
 born : Int
 since : Int
 fin : Int
 aU : Int
 bK : Int
 read : Int
structure RR where
 call : Int
 idem : Bool
 aM : Int
 at_ : Int
 bK : Int
 ended : Bool
structure RW where
 aL : List fb
 most : Int
 ky : List Ex
 now : Int
 ah : List RB
 ak : List RC
 aD : List RR
 stop : Bool
 ev : Int
 aG : List (Int × Int)
def aX (x : Ev) : V:=.agg [iI x.kind,iI x.bk,iI x.t,iI x.call,iI x.conn,iI x.jQ,iI x.n,.bool x.yes]
def dL (x : Ev) (b : Int) : V:=.agg [iI x.kind,iI b,iI x.t,iI x.call,iI x.conn,iI x.jQ,iI x.n,.bool x.yes]
def fY (x : Ex) : V:=dL x.ev x.b
def bT (x : fb) : V:=.agg [iI x.max,iI x.queue,iI x.idle,iI x.xu]
def iX (c : RC) : V:=.agg [iI c.num,iI c.bk,iI c.st,iI c.call,iI c.born,iI c.since,iI c.fin,iI c.aU,iI c.bK,iI c.read]
def mB (r : RR) : V:=.agg [iI r.call,.bool r.idem,iI r.aM,iI r.at_,iI r.bK,.bool r.ended]
def bH (f : Int × Int) : V:=.agg [iI f.1,iI f.2]
def sb (l : List Int) (n : Int) : Int:=match l.findIdx? (· == n) with | some i=>i | none=>-1
theorem oB (l : List Int) (n : Int) : 0 <= sb l n ↔ n ∈ l:=by
 unfold sb
 cases h : l.findIdx? (· == n) with
 | none =>
   rw [List.findIdx?_eq_none_iff] at h
   simp
   exact fun hm=>by have:=h n hm; simp at this
 | some i =>
   rw [List.findIdx?_eq_some_iff_getElem] at h
   obtain ⟨hi,h1,_⟩:=h
   simp at h1
   simp
   rw [<- h1]
   exact List.getElem_mem hi
def bd (bx : aa) (ty : TypeId) (sz : Nat) (es : List V) (v : V) : Prop:=(es = [] /\ v = .aI) \/ ∃ b,v = .own b sz 0 es.length /\ bx b = some (.row ty sz es)
theorem bd.of {aC bx : aa} {e sz : Nat} {es : List V} {v : V} (h : Acc aC e sz es v bx) : bd bx e sz es v:=by
 rcases h.is with h | ⟨b,_,h1,h2⟩
 ·exact .inl h
 ·exact .inr ⟨b,h1,h2⟩
theorem bd.strip {bx : aa} {e sz : Nat} {es : List V} {v : V} (h : bd bx e sz es v) : v.strip = v:=by
 rcases h with ⟨_,rfl⟩ | ⟨b,rfl,_⟩ <;> rfl
theorem bd.live {bx : aa} {e sz : Nat} {es : List V} {v : V} (h : bd bx e sz es v) : v.ax = true:=by
 rcases h with ⟨_,rfl⟩ | ⟨b,rfl,_⟩ <;> rfl
theorem bd.cells {bx : aa} {e sz : Nat} {es : List V} {v : V} (h : bd bx e sz es v) : v.cells = [v]:=by
 rcases h with ⟨_,rfl⟩ | ⟨b,rfl,_⟩ <;> rfl
theorem bd.okV {bx : aa} {e sz : Nat} {es : List V} {v : V} (h : bd bx e sz es v) : okV v = true:=by
 rcases h with ⟨_,rfl⟩ | ⟨b,rfl,_⟩ <;> rfl
theorem xv {bx : aa} {l : List Int} {v : V} (h : bd bx 2 1 (l.map iI) v) (hl : l.length <= 100000) (n : Int) : ay prog 157 [v,.int .i64 n] bx (.int .i64 (sb l n)):=by
 refine NH fun hf=>?_
 have yD (j : Nat) (hj : j < l.length) (h1 : l[j] = n) (h2 : ∀ i,i < j -> l.getD i 0 ≠ n) : sb l n = j:=by
  have : l.findIdx? (· == n) = some j:=by
   rw [List.findIdx?_eq_some_iff_getElem]
   refine ⟨hj,by simpa using h1,fun i hi=>?_⟩
   have:=h2 i hi
   rw [List.getD_eq_getElem?_getD,List.getElem?_eq_getElem (by omega)] at this
   simpa using this
  unfold sb
  rw [this]
 have j7 (h2 : ∀ i,i < l.length -> l.getD i 0 ≠ n) : sb l n = -1:=by
  have : l.findIdx? (· == n) = none:=by
   rw [List.findIdx?_eq_none_iff]
   intro x hx
   obtain ⟨i,hi,rfl⟩:=List.getElem_of_mem hx
   have:=h2 i hi
   rw [List.getD_eq_getElem?_getD,List.getElem?_eq_getElem hi] at this
   simpa using this
  unfold sb
  rw [this]
 rcases h with ⟨hl,rfl⟩ | ⟨b,rfl,hb⟩
 ·have : l = []:=by simpa using hl
  subst this
  simp [go_sem,NG,hf]
  refine ct 0 (fun k=>⟨19,bR [(0,.aI),(1,.int .i64 n),(5,.int .i64 0)],bx⟩) (al (by simp [go_sem])) (fun k hk N hN=>by omega) (fun N=>?_)
  simp [go_sem,xn,hf]
  exact az (by simp [go_sem]) ⟨by simp [go_sem,sb],rfl⟩
 ·simp [go_sem,NG,hf]
  refine eP l.length (fun j=>l.getD j 0 == n) (fun j=>⟨19,bR [(0,.own b 1 0 l.length),(1,.int .i64 n),(5,.int .i64 j)],bx⟩) (al (by simp [go_sem])) (fun j hj hJ N hN=>?_) (fun hJ N=>?_)
  ·have hw:=bt (k:=j) (by omega)
   have hg : l.getD j 0 = l[j]:=by simp [hj]
   rw [hg] at hN
   simp [go_sem,xn,hj,hf,hw,hb,iI]
   refine ⟨fun h=>az (by simp [go_sem]) ⟨by simp [go_sem,yD j hj h fun i hi=>by simpa using hJ i hi],rfl⟩,fun h=>hN _ (by simpa using h) (al (by simp [go_sem]))⟩
  ·simp [go_sem,xn,hf]
   exact az (by simp [go_sem]) ⟨by simp [go_sem,j7 fun i hi=>by simpa using hJ i hi],rfl⟩
def u7 {α : Type} (l : List α) (p : α -> Bool) (j : Nat) : Bool:=match l[j]? with | some x=>p x | none=>false
theorem ke {α : Type} {l : List α} {p : α -> Bool} {j : Nat} (hj : j < l.length) : u7 l p j = p l[j]:=by unfold u7; rw [List.getElem?_eq_getElem hj]
theorem Cr {α : Type} {l : List α} {p : α -> Bool} {j : Nat} (hj : j < l.length) (h1 : p l[j] = true) (h2 : ∀ i,i < j -> u7 l p i = false) : l.findIdx? p = some j:=by
 rw [List.findIdx?_eq_some_iff_getElem]
 refine ⟨hj,h1,fun i hi=>?_⟩
 have:=h2 i hi
 rw [ke (by omega)] at this
 simpa using this
theorem Cs {α : Type} {l : List α} {p : α -> Bool} (h2 : ∀ i,i < l.length -> u7 l p i = false) : l.findIdx? p = none:=by
 rw [List.findIdx?_eq_none_iff]
 intro x hx
 obtain ⟨i,hi,rfl⟩:=List.getElem_of_mem hx
 have:=h2 i hi
 rwa [ke hi] at this
theorem any_some {α : Type} {l : List α} {p : α -> Bool} {j : Nat} (hj : j < l.length) (h1 : p l[j] = true) : l.any p = true:=List.any_eq_true.2 ⟨_,List.getElem_mem hj,h1⟩
theorem any_none {α : Type} {l : List α} {p : α -> Bool} (h2 : ∀ i,i < l.length -> u7 l p i = false) : l.any p = false:=by
 rw [Bool.eq_false_iff]
 intro h
 obtain ⟨x,hx,h1⟩:=List.any_eq_true.1 h
 obtain ⟨i,hi,rfl⟩:=List.getElem_of_mem hx
 have:=h2 i hi
 rw [ke hi,h1] at this
 cases this
def jD (v : V) (bx : aa) : aa:=match v with | .own b _ _ _=>aA bx b none | _=>bx
theorem bd.acc {bx : aa} {e sz : Nat} {es : List V} {v : V} (h : bd bx e sz es v) (hf : bj bx) : Acc (jD v bx) e sz es v bx:=by
 rcases h with ⟨h1,rfl⟩ | ⟨b,rfl,hb⟩
 ·exact ⟨Ext.refl _,hf,.inl ⟨h1,rfl⟩⟩
 ·refine ⟨fun c hc=>?_,hf,.inr ⟨b,af _ _ _,rfl,hb⟩⟩
  by_cases e1 : c = b
  ·subst e1; exact absurd (af _ _ _) hc
  ·exact (ae _ _ e1).symm
def ll (aC : aa) (v : V) : Prop:=∀ b sz o m,v = .own b sz o m -> aC b = none
structure eE (v v' : V) (bx bx' : aa) : Prop where
 fin : bj bx'
 ext : Ext (jD v bx) bx'
 new : ll (jD v bx) v'
theorem eE.other {v v' : V} {bx bx' : aa} (h : eE v v' bx bx') {b : Nat} (hb : bx b ≠ none) (bp : ∀ sz o m,v ≠ .own b sz o m) : bx' b = bx b:=by
 have : jD v bx b = bx b:=by
  unfold jD
  split
  ·rename_i c _ _ _
   exact ae _ _ (by rintro rfl; exact bp _ _ _ rfl)
  ·rfl
 rw [h.ext b (by rw [this]; exact hb),this]
theorem eE.base {aC : aa} {v v' : V} {bx bx' : aa} (h : eE v v' bx bx') (he : Ext aC bx) (hn : ll aC v) : Ext aC bx' /\ ll aC v':=by
 have hc : ∀ b,aC b ≠ none -> jD v bx b = bx b:=by
  intro b hb
  unfold jD
  split
  ·rename_i c _ _ _
   exact ae _ _ (by rintro rfl; exact hb (hn _ _ _ _ rfl))
  ·rfl
 refine ⟨fun b hb=>?_,fun b sz o m e=>?_⟩
 ·rw [h.ext b (by rw [hc b hb,he b hb]; exact hb),hc b hb,he b hb]
 ·have h1:=h.new b sz o m e
  cases h2 : aC b with
  | none=>rfl
  | some x =>
    rw [hc b (by rw [h2]; simp),he b (by rw [h2]; simp),h2] at h1
    cases h1
theorem bd.ch {v v' : V} {bx bx' : aa} {e sz : Nat} {es : List V} {u : V} (h : bd bx e sz es u) (hm : eE v v' bx bx') (bp : ∀ b sz o m eT o' m',v = .own b sz o m -> u ≠ .own b eT o' m') : bd bx' e sz es u:=by
 rcases h with h | ⟨b,rfl,hb⟩
 ·exact .inl h
 ·exact .inr ⟨b,rfl,by rw [hm.other (by rw [hb]; simp) fun eT o m e1=>bp _ _ _ _ _ _ _ e1 rfl,hb]⟩
theorem ln {bx : aa} {e e' sz eT : Nat} {es es' : List V} {v u : V} (h : bd bx e sz es v) (h' : bd bx e' eT es' u) (bp : e ≠ e') : ∀ b sz o m eT o' m',v = .own b sz o m -> u ≠ .own b eT o' m':=by
 rintro b _ _ _ _ _ _ rfl rfl
 rcases h with ⟨_,h⟩ | ⟨c,h,hc⟩
 ·cases h
 rcases h' with ⟨_,h'⟩ | ⟨d,h',hd⟩
 ·cases h'
 injection h with h; injection h' with h'
 subst h h'
 rw [hc] at hd
 injection hd with hd
 injection hd with hd
 exact bp hd
theorem ey {bx : aa} {e sz : Nat} {es news : List V} {v x : V} {t : TypeId} {dst : Option Tmp} {n : Nat} {sl : Nat -> V} {K : St -> Prop} (z : Value)
 (ha : bd bx e sz es v) (hf : bj bx) (hk : bu prog t = .slice e) (bV : aE prog e = sz) (src : bP ⟨n,sl,bx⟩ sz x = some news) (hz : aT prog e = some z) (iq : storable prog e (ofValue z)) (eK : 0 < sz)
 (rB : (es.length + news.length) * nX prog e <= 140737488355328) (hlen : es.length + news.length <= 9223372036854775807) (hd : aJ ⟨n,sl,bx⟩ dst)
 (hK : ∀ v' bx',bd bx' e sz (es ++ news) v' -> eE v v' bx bx' -> v' ≠ .aI \/ es ++ news = [] -> K (St.put ⟨n,sl,bx'⟩ dst v')) : c8 prog ⟨n,sl,bx⟩ dst t v x K :=
 jH z (ha.acc hf) (Ext.refl _) hf hk bV src hz iq eK rB hlen hd fun v' bx' h=>hK v' bx' (.of h) ⟨h.fin,h.ext,fun b sz o m e1=>by
  rcases h.is with ⟨_,h1⟩ | ⟨b',h1,h2,_⟩
  ·rw [h1] at e1; cases e1
  ·rw [h2] at e1; injection e1 with e1; subst e1; exact h1⟩ (by
  rcases h.is with ⟨h1,_⟩ | ⟨b',h1,h2,_⟩
  ·exact .inr h1
  ·rw [h2]; exact .inl (by simp))
theorem mC {bx : aa} (hf : bj bx) (e sz : Nat) (es : List V) : ∃ r bx',Acc bx e sz es r bx':=by
 obtain ⟨b,hb⟩:=kE hf
 exact ⟨_,_,rU hb hf e sz es es.length rfl⟩
theorem kJ {bx : aa} {l : List Int} {v : V} (h : bd bx 2 1 (l.map iI) v) (hl : l.length <= 100000) (n : Int) : aw prog 159 [v,.int .i64 n] bx fun r bx'=>Acc bx 2 1 ((l.filter (· != n)).map iI) r bx':=by
 refine NK fun hf=>?_
 rcases h with ⟨hl,rfl⟩ | ⟨b,rfl,hb⟩
 ·have : l = []:=by simpa using hl
  subst this
  simp [go_sem,NJ,hf]
  refine ct 0 (fun k=>⟨27,bR [(0,.aI),(1,.int .i64 n),(5,.aI),(6,.int .i64 0)],bx⟩) (al (by simp [go_sem])) (fun k hk N hN=>by omega) (fun N=>?_)
  simp [go_sem,xo,hf]
  exact aj (by simp [go_sem]) (by simpa [go_sem] using wQ hf _ _)
 ·simp [go_sem,NJ,hf]
  refine ji (ι:=V × aa) l.length (fun k p=>Acc bx 2 1 (((l.take k).filter (· != n)).map iI) p.1 p.2) (fun k p=>⟨27,bR [(0,.own b 1 0 l.length),(1,.int .i64 n),(5,p.1),(6,.int .i64 k)],p.2⟩) (.aI,bx) (by simpa using wQ hf _ _) (al (by simp [go_sem])) (fun k p hk hJ N hN=>?_) (fun p hJ N=>?_)
  ·obtain ⟨v,bM⟩:=p
   dsimp only at hJ ⊢
   have hw:=bt (k:=k) (by omega)
   have eU : bM b = some (.row 2 1 (l.map iI)):=by rw [hJ.ext b (by rw [hb]; simp),hb]
   have bg:=hJ.fin
   have Q8 : l.take (k + 1) = l.take k ++ [l[k]]:=by rw [List.take_succ_eq_append_getElem hk]
   simp [go_sem,xo,hk,bg,hw,eU,iI,hJ.strip,hJ.live]
   refine ⟨fun h=>?_,fun h=>?_⟩
   ·intro b2 c9
    refine jH (.int .i64 0) hJ ((Ext.refl _).new c9 _) ((ar _ _ _).2 bg) (news:=[iI l[k]]) mA AQ (by simp [go_sem,bP,af,iI]) tp (by simp [go_sem]) (by decide) ?_ ?_ (by simp [go_sem]) fun v' bx3 ha=>?_
    ·have:=List.length_filter_le (· != n) (l.take k)
     simp [F0] at this ⊢; omega
    ·have:=List.length_filter_le (· != n) (l.take k)
     simp at this ⊢; omega
    have e1 : (((l.take k).filter (· != n)).map iI) ++ [iI l[k]] = ((l.take (k + 1)).filter (· != n)).map iI:=by
     rw [Q8,List.filter_append]
     simp [h]
    rw [e1] at ha
    simp [go_sem,ha.strip,ha.live,ha.fin,hw]
    exact hN _ (v',bx3) ha (al (by simp [go_sem]))
   ·refine hN _ (v,bM) ?_ (al (by simp [go_sem]))
    rw [Q8,List.filter_append]
    simpa [h] using hJ
  ·obtain ⟨v,bM⟩:=p
   dsimp only at hJ ⊢
   rw [List.take_length] at hJ
   have bg:=hJ.fin
   simp [go_sem,xo,bg,hJ.strip,hJ.live]
   exact aj (by simp [go_sem]) (by simpa [go_sem,hJ.strip] using hJ)
theorem fP {bx bx2 : aa} {e t : TypeId} {sz : Nat} {es : List V} {v : V} {P : Program} (ha : bd bx e sz es v) {e' : TypeId} (ht : bu P t = .slice e') : nx P bx2 t v = (True,.int .i64 es.length):=by
 unfold nx
 rw [ht]
 rcases ha with ⟨rfl,rfl⟩ | ⟨b,rfl,g2⟩ <;> simp [V.strip,V.ax]
structure RN where
 p : Nat
 bb : Nat
 cv : V
 rv : V
 fv : V
 dv : Nat -> V
 wv : Nat -> V
def eI (dv wv : Nat -> V) (i : Nat) (b : RB) : V:=.agg [.bool b.down,iI b.gL,iI b.aK,dv i,wv i]
def gu (n : RN) (w : RW) : V:=.agg [.sl 4 (w.aL.map bT),iI w.most,.sl 8 (w.ky.map fY),iI w.now,.own n.bb 5 0 w.ah.length,n.cv,n.rv,.bool w.stop,iI w.ev,n.fv]
structure WR (aC : aa) (n : RN) (w : RW) (bx : aa) : Prop where
 fin : bj bx
 ext : Ext aC bx
 np : aC n.p = none
 nb : aC n.bb = none
 nc : ll aC n.cv
 nr : ll aC n.rv
 nf : ll aC n.fv
 nd : ∀ i,i < w.ah.length -> ll aC (n.dv i)
 nw : ∀ i,i < w.ah.length -> ll aC (n.wv i)
 row : bx n.p = some (.row 103 10 [gu n w])
 ah : bx n.bb = some (.row 209 5 (w.ah.mapIdx (eI n.dv n.wv)))
 ak : bd bx 108 10 (w.ak.map iX) n.cv
 aD : bd bx 205 6 (w.aD.map mB) n.rv
 aG : bd bx 66 2 (w.aG.map bH) n.fv
 ng : ∀ i b,w.ah[i]? = some b -> bd bx 2 1 (b.au.map iI) (n.dv i)
 ik : ∀ i b,w.ah[i]? = some b -> bd bx 2 1 (b.waits.map iI) (n.wv i)
 dd : ∀ i j b s o m s' o' m',i < w.ah.length -> j < w.ah.length -> n.dv i = .own b s o m -> n.dv j = .own b s' o' m' -> i = j
 ww : ∀ i j b s o m s' o' m',i < w.ah.length -> j < w.ah.length -> n.wv i = .own b s o m -> n.wv j = .own b s' o' m' -> i = j
 dw : ∀ i j b s o m s' o' m',i < w.ah.length -> j < w.ah.length -> n.dv i = .own b s o m -> n.wv j ≠ .own b s' o' m'
 sm : w.ah.length <= 1000 /\ w.ak.length <= 100000 /\ w.aD.length <= 100000 /\ w.aG.length <= 100000 /\ ∀ b,b ∈ w.ah -> b.au.length <= 100000 /\ b.waits.length <= 100000
def Ac (v : V) (i : Nat) : V:=match v with | .own b sz o _=>.ptr b sz (o + i) 0 | _=>.eJ
def gh (v : V) (o : Option Nat) : V:=match o with | some i=>Ac v i | none=>.eJ
def dp (w : RW) (call : Int) : Option Nat:=w.aD.findIdx? (fun r=>r.call == call)
def eQ (w : RW) (num : Int) (b : Int) : Option Nat:=w.ak.findIdx? (fun c=>c.num == num && c.bk == b && c.st != 5)
def mD (w : RW) (call : Int) : Bool:=w.ah.any (fun b=>decide (call ∈ b.au) || decide (call ∈ b.waits)) || w.ak.any (fun c=>c.st == 1 && c.call == call)
theorem oC {aC bx : aa} {n : RN} {w : RW} (h : WR aC n w bx) (call : Int) : ay prog 125 [.ptr n.p 10 0 0,.int .i64 call] bx (gh n.rv (dp w call)):=by
 refine Nx fun hf=>?_
 have aq:=h.row
 unfold gu at aq
 have AZ:=h.sm
 unfold dp
 rcases h.aD with ⟨hl,hv⟩ | ⟨b,hv,hb⟩
 ·have : w.aD = []:=by simpa using hl
  rw [this]
  rw [hv] at aq ⊢
  simp [go_sem,Nw,hf]
  refine ct 0 (fun k=>⟨31,bR [(0,.ptr n.p 10 0 0),(1,.int .i64 call),(5,.int .i64 0)],bx⟩) (al (by simp [go_sem])) (fun k hk N hN=>by omega) (fun N=>?_)
  simp [go_sem,wZ,hf,aq]
  exact az (by simp [go_sem]) ⟨by simp [go_sem,gh],rfl⟩
 ·rw [hv] at aq ⊢
  simp at aq
  simp [go_sem,Nw,hf]
  refine eP w.aD.length (u7 w.aD (fun r=>r.call == call)) (fun j=>⟨31,bR [(0,.ptr n.p 10 0 0),(1,.int .i64 call),(5,.int .i64 j)],bx⟩) (al (by simp [go_sem])) (fun j hj hJ N hN=>?_) (fun hJ N=>?_)
  ·have hw:=bt (k:=j) (by omega)
   rw [ke hj] at hN
   simp [go_sem,wZ,hj,hf,hw,aq,hb,mB,iI]
   refine ⟨fun h=>az (by simp [go_sem]) ⟨by simp [go_sem,Cr (p:=fun r : RR=>r.call == call) hj (by simpa using h) hJ,gh,Ac],rfl⟩,fun h=>hN _ (by simpa using h) (al (by simp [go_sem]))⟩
  ·simp [go_sem,wZ,hf,aq]
   exact az (by simp [go_sem]) ⟨by simp [go_sem,Cs hJ,gh],rfl⟩
theorem xw {aC bx : aa} {n : RN} {w : RW} (h : WR aC n w bx) (num : Int) (bk : Int) : ay prog 162 [.ptr n.p 10 0 0,.int .i64 num,.int .i64 bk] bx (gh n.cv (eQ w num bk)):=by
 refine NP fun hf=>?_
 have aq:=h.row
 unfold gu at aq
 have AZ:=h.sm
 unfold eQ
 rcases h.ak with ⟨hl,hv⟩ | ⟨b,hv,hb⟩
 ·have : w.ak = []:=by simpa using hl
  rw [this]
  rw [hv] at aq ⊢
  simp [go_sem,NO,hf]
  refine ct 0 (fun k=>⟨56,bR [(0,.ptr n.p 10 0 0),(1,.int .i64 num),(2,.int .i64 bk),(7,.int .i64 0)],bx⟩) (al (by simp [go_sem])) (fun k hk N hN=>by omega) (fun N=>?_)
  simp [go_sem,xq,hf,aq]
  exact az (by simp [go_sem]) ⟨by simp [go_sem,gh],rfl⟩
 ·rw [hv] at aq ⊢
  simp at aq
  simp [go_sem,NO,hf]
  refine eP w.ak.length (u7 w.ak (fun c=>c.num == num && c.bk == bk && c.st != 5)) (fun j=>⟨56,bR [(0,.ptr n.p 10 0 0),(1,.int .i64 num),(2,.int .i64 bk),(7,.int .i64 j)],bx⟩) (al (by simp [go_sem])) (fun j hj hJ N hN=>?_) (fun hJ N=>?_)
  ·have hw:=bt (k:=j) (by omega)
   rw [ke hj] at hN
   have hs:=fun hh=>Cr (p:=fun c : RC=>c.num == num && c.bk == bk && c.st != 5) hj hh hJ
   by_cases c1 : w.ak[j].num = num <;> by_cases c2 : w.ak[j].bk = bk <;> by_cases c3 : w.ak[j].st = 5 <;> simp [go_sem,xq,hj,hf,hw,aq,hb,iX,iI,c1,c2,c3]
   all_goals first
    | exact hN _ (by simp [c1,c2,c3]) (al (by simp [go_sem]))
    | exact az (by simp [go_sem]) ⟨by simp [go_sem,hs (by simp [c1,c2,c3]),gh,Ac],rfl⟩
  ·simp [go_sem,xq,hf,aq]
   exact az (by simp [go_sem]) ⟨by simp [go_sem,Cs hJ,gh],rfl⟩
theorem NU {aC bx : aa} {n : RN} {w : RW} (h : WR aC n w bx) (call : Int) : ay prog 181 [.ptr n.p 10 0 0,.int .i64 call] bx (.bool (mD w call)):=by
 refine NT fun hf=>?_
 have aq:=h.row
 unfold gu at aq
 have AZ:=h.sm
 have cZ:=h.ah
 simp [go_sem,Wa,hf]
 refine eP w.ah.length (u7 w.ah (fun b=>decide (call ∈ b.au) || decide (call ∈ b.waits))) (fun j=>⟨70,bR [(0,.ptr n.p 10 0 0),(1,.int .i64 call),(5,.int .i64 j)],bx⟩) (al (by simp [go_sem])) (fun j hj hJ N hN=>?_) (fun hJ N=>?_)
 ·have hw:=bt (k:=j) (by omega)
  rw [ke hj] at hN
  have hd:=h.ng j _ (List.getElem?_eq_getElem hj)
  have hq:=h.ik j _ (List.getElem?_eq_getElem hj)
  have Ku:=AZ.2.2.2.2 _ (List.getElem_mem hj)
  have cd:=xv hd Ku.1 call
  have cq:=xv hq Ku.2 call
  have gd:=oB w.ah[j].au call
  have gq:=oB w.ah[j].waits call
  simp [go_sem,AY,hj,hf,hw,aq,cZ,eI,iI,hd.strip,hd.live,hq.strip,hq.live]
  refine ag cd ?_
  by_cases c1 : call ∈ w.ah[j].au
  ·have k1:=gd.2 c1
   simp [go_sem,hf,k1]
   refine jI (.int .i64 0) (by simp [go_sem]) ?_
   simp [go_sem,hf,k1]
   refine az (by simp [go_sem]) ⟨?_,rfl⟩
   have:=any_some (p:=fun b : RB=>decide (call ∈ b.au) || decide (call ∈ b.waits)) hj (by simp [c1])
   simp [go_sem,mD,this]
  ·have k1 : ¬ 0 <= sb w.ah[j].au call:=fun h=>c1 (gd.1 h)
   simp [go_sem,hf,k1,aq,cZ,eI,iI,hj,hq.strip,hq.live]
   refine dn cq (by simp) (by simp [go_sem]) ?_
   by_cases c2 : call ∈ w.ah[j].waits
   ·have k2:=gq.2 c2
    simp [go_sem,hf,k2]
    refine az (by simp [go_sem]) ⟨?_,rfl⟩
    have:=any_some (p:=fun b : RB=>decide (call ∈ b.au) || decide (call ∈ b.waits)) hj (by simp [c2])
    simp [go_sem,mD,this]
   ·have k2 : ¬ 0 <= sb w.ah[j].waits call:=fun h=>c2 (gq.1 h)
    simp [go_sem,hf,k2,hw]
    exact hN _ (by simp [c1,c2]) (al (by simp [go_sem]))
 ·have dD:=any_none hJ
  simp [go_sem,AY,hf,aq]
  rcases h.ak with ⟨hl,hv⟩ | ⟨b,hv,hb⟩
  ·have AL : w.ak = []:=by simpa using hl
   rw [hv] at aq
   refine ct 0 (fun k=>⟨70,bR [(0,.ptr n.p 10 0 0),(1,.int .i64 call),(6,.int .i64 0)],bx⟩) (al (by simp [go_sem])) (fun k hk N hN=>by omega) (fun N=>?_)
   simp [go_sem,xt,hf,aq]
   exact az (by simp [go_sem]) ⟨by simp [go_sem,mD,dD,AL],rfl⟩
  ·rw [hv] at aq
   simp at aq
   refine eP w.ak.length (u7 w.ak (fun c=>c.st == 1 && c.call == call)) (fun j=>⟨70,bR [(0,.ptr n.p 10 0 0),(1,.int .i64 call),(6,.int .i64 j)],bx⟩) (al (by simp [go_sem])) (fun j hj hJ N hN=>?_) (fun hJ N=>?_)
   ·have hw:=bt (k:=j) (by omega)
    rw [ke hj] at hN
    by_cases c1 : w.ak[j].st = 1 <;> by_cases c2 : w.ak[j].call = call <;> simp [go_sem,xt,hj,hf,hw,aq,hb,iX,iI,c1,c2]
    all_goals first
     | exact hN _ (by simp [c1,c2]) (al (by simp [go_sem]))
     | (refine az (by simp [go_sem]) ⟨?_,rfl⟩
        have:=any_some (p:=fun c : RC=>c.st == 1 && c.call == call) hj (by simp [c1,c2])
        simp [go_sem,mD,this])
   ·have AL:=any_none hJ
    simp [go_sem,xt,hf,aq]
    exact az (by simp [go_sem]) ⟨by simp [go_sem,mD,dD,AL],rfl⟩
def dr (w : RW) (call : Int) : Bool:=match dp w call with
 | some i=>(match w.aD[i]? with | some r=>!r.ended | none=>false) && !mD w call
 | none=>false
def jj (w : RW) (call : Int) (b : Int) : Bool:=dr w call && (match (dp w call).bind (w.aD[·]?) with | some r=>decide (0 < r.aM) && decide (r.at_ = b) | none=>false)
theorem nh {w : RW} {call : Int} {i : Nat} (h : dp w call = some i) : i < w.aD.length:=by
 unfold dp at h
 rw [List.findIdx?_eq_some_iff_getElem] at h
 exact h.1
theorem pA {w : RW} {num b : Int} {i : Nat} (h : eQ w num b = some i) : i < w.ak.length:=by
 unfold eQ at h
 rw [List.findIdx?_eq_some_iff_getElem] at h
 exact h.1
theorem bd.at {bx : aa} {e sz : Nat} {es : List V} {v : V} (h : bd bx e sz es v) (hl : 0 < es.length) : ∃ b,v = .own b sz 0 es.length /\ bx b = some (.row e sz es):=by
 rcases h with ⟨h1,_⟩ | h
 ·rw [h1] at hl; cases hl
 ·exact h
theorem xx {aC bx : aa} {n : RN} {w : RW} (h : WR aC n w bx) (call : Int) : ay prog 156 [.ptr n.p 10 0 0,.int .i64 call] bx (.bool (dr w call)):=by
 refine NF fun hf=>?_
 have cF:=oC h call
 have cB:=NU h call
 simp [go_sem,VW,hf]
 unfold dr
 cases iH : dp w call with
 | none =>
   rw [iH] at cF
   unfold gh at cF
   refine ag cF ?_
   simp [go_sem,hf]
   refine jI (.bool false) (by simp [go_sem]) ?_
   simp [go_sem,hf]
   exact az (by simp [go_sem]) ⟨by simp [go_sem],rfl⟩
 | some i =>
   have hi:=nh iH
   rw [iH] at cF
   obtain ⟨b,hv,hb⟩:=h.aD.at (by simpa using by omega)
   unfold gh Ac at cF
   rw [hv] at cF
   simp at cF
   refine ag cF ?_
   cases he : w.aD[i].ended
   ·simp [go_sem,hf,hb,mB,iI,he,hi]
    refine dn cB (by simp) (by simp [go_sem]) ?_
    simp [go_sem,hf]
    exact az (by simp [go_sem]) ⟨by simp [go_sem],rfl⟩
   ·simp [go_sem,hf,hb,mB,iI,he,hi]
    refine jI (.bool false) (by simp [go_sem]) ?_
    simp [go_sem,hf]
    exact az (by simp [go_sem]) ⟨by simp [go_sem],rfl⟩
theorem Gk {aC bx : aa} {n : RN} {w : RW} (h : WR aC n w bx) (call : Int) (bk : Int) : ay prog 158 [.ptr n.p 10 0 0,.int .i64 call,.int .i64 bk] bx (.bool (jj w call bk)):=by
 refine NI fun hf=>?_
 have cF:=oC h call
 have cR:=xx h call
 simp [go_sem,VX,hf]
 unfold jj
 cases iH : dp w call with
 | none =>
   have h0 : dr w call = false:=by unfold dr; rw [iH]
   rw [iH] at cF
   rw [h0] at cR ⊢
   unfold gh at cF
   refine ag cF ?_
   simp [go_sem,hf]
   refine ag cR ?_
   simp [go_sem,hf]
   exact az (by simp [go_sem]) ⟨by simp [go_sem],rfl⟩
 | some i =>
   have hi:=nh iH
   rw [iH] at cF
   obtain ⟨b,hv,hb⟩:=h.aD.at (by simpa using by omega)
   unfold gh Ac at cF
   rw [hv] at cF
   simp at cF
   refine ag cF ?_
   simp [go_sem,hf]
   refine ag cR ?_
   cases dr w call
   ·simp [go_sem,hf]
    exact az (by simp [go_sem]) ⟨by simp [go_sem],rfl⟩
   ·by_cases c1 : 0 < w.aD[i].aM <;> by_cases c2 : w.aD[i].at_ = bk <;> simp [go_sem,hf,hb,mB,iI,c1,c2,hi]
    all_goals exact az (by simp [go_sem]) ⟨by simp [go_sem],rfl⟩
def ku (w : RW) (x : Ev) : Option Nat:=match eQ w x.conn x.bk with
 | some i=>match w.ak[i]? with
   | some c=>if c.st = 1 /\ c.call = x.call then some i else none
   | none=>none
 | none=>none
theorem KX {aC bx : aa} {n : RN} {w : RW} (h : WR aC n w bx) (x : Ev) : ay prog 131 [.ptr n.p 10 0 0,aX x] bx (gh n.cv (ku w x)):=by
 refine N7 fun hf=>?_
 have cT:=xw h x.conn x.bk
 simp [go_sem,VR,hf,aX,iI]
 unfold ku
 cases iH : eQ w x.conn x.bk with
 | none =>
   rw [iH] at cT
   unfold gh at cT
   refine ag cT ?_
   simp [go_sem,hf]
   exact az (by simp [go_sem]) ⟨by simp [go_sem,gh],rfl⟩
 | some i =>
   have hi:=pA iH
   rw [iH] at cT
   obtain ⟨b,hv,hb⟩:=h.ak.at (by simpa using by omega)
   unfold gh Ac at cT
   rw [hv] at cT ⊢
   simp at cT
   refine ag cT ?_
   by_cases c1 : w.ak[i].st = 1 <;> by_cases c2 : w.ak[i].call = x.call <;> simp [go_sem,hf,hb,iX,iI,c1,c2,hi]
   all_goals exact az (by simp [go_sem]) ⟨by simp [go_sem,gh,Ac],rfl⟩
def fj (w : RW) (x : Ev) : Bool:=match w.ah[x.bk]? with
 | some b=>(match b.waits.head? with | some c=>c != x.call | none=>false)
 | none=>false
theorem qL {aC bx : aa} {n : RN} {w : RW} (h : WR aC n w bx) (x : Ev) (hx : x.bk < w.ah.length) : ay prog 160 [.ptr n.p 10 0 0,aX x] bx (.bool (fj w x)):=by
 refine NM fun hf=>?_
 have aq:=h.row
 unfold gu at aq
 have cZ:=h.ah
 have hq:=h.ik _ _ (List.getElem?_eq_getElem hx)
 unfold fj
 rw [List.getElem?_eq_getElem hx]
 dsimp only
 rcases hq with ⟨hl,hv⟩ | ⟨b,hv,hb⟩
 ·have h0 : w.ah[x.bk].waits = []:=by simpa using hl
  rw [h0]
  simp [go_sem,Jp,hf,aX,iI,aq,cZ,eI,hx,hv]
  exact az (by simp [go_sem]) ⟨by simp [go_sem],rfl⟩
 ·cases h0 : w.ah[x.bk].waits with
  | nil =>
    rw [h0] at hv hb
    simp at hv hb
    simp [go_sem,Jp,hf,aX,iI,aq,cZ,eI,hx,hv,hb]
    exact az (by simp [go_sem]) ⟨by simp [go_sem],rfl⟩
  | cons y ys =>
    rw [h0] at hv hb
    simp [iI] at hv hb
    by_cases c1 : y = x.call <;> simp [go_sem,Jp,hf,aX,iI,aq,cZ,eI,hx,hv,hb,c1]
    all_goals exact az (by simp [go_sem]) ⟨by simp [go_sem,c1],rfl⟩
def qM (w : RW) (b : Nat) : Int:=((match w.ah[b]? with | some k=>k.au.length | none=>0) + (w.ak.filter fun c=>c.bk == (b : Int) && c.st != 5).length : Nat)
theorem NV {aC bx : aa} {n : RN} {w : RW} (h : WR aC n w bx) (k : Nat) (hx : k < w.ah.length) : ay prog 161 [.ptr n.p 10 0 0,.int .i64 k] bx (.int .i64 (qM w k)):=by
 refine NN fun hf=>?_
 have aq:=h.row
 unfold gu at aq
 have cZ:=h.ah
 have AZ:=h.sm
 have hd:=h.ng _ _ (List.getElem?_eq_getElem hx)
 have hlen:=fun bx'=>fP (bx2:=bx') (t:=60) hd mA
 simp [go_sem,hd.strip,hd.live] at hlen
 have hdl:=(AZ.2.2.2.2 _ (List.getElem_mem hx)).1
 simp [go_sem,VY,hf,aq,cZ,eI,hx,iI,hd.strip,hd.live,hlen]
 unfold qM
 rw [List.getElem?_eq_getElem hx]
 dsimp only
 rcases h.ak with ⟨hl,hv⟩ | ⟨b,hv,hb⟩
 ·have AL : w.ak = []:=by simpa using hl
  rw [hv] at aq
  refine ct 0 (fun j=>⟨49,bR [(0,.ptr n.p 10 0 0),(1,.int .i64 k),(5,.int .i64 w.ah[k].au.length),(6,.int .i64 0)],bx⟩) (al (by simp [go_sem])) (fun k hk N hN=>by omega) (fun N=>?_)
  simp [go_sem,xp,hf,aq]
  exact az (by simp [go_sem]) ⟨by simp [go_sem,AL],rfl⟩
 ·rw [hv] at aq
  simp at aq
  refine ct w.ak.length (fun j=>⟨49,bR [(0,.ptr n.p 10 0 0),(1,.int .i64 k),(5,.int .i64 ((w.ah[k].au.length + ((w.ak.take j).filter fun c=>c.bk == (k : Int) && c.st != 5).length : Nat) : Int)),(6,.int .i64 j)],bx⟩) (al (by simp [go_sem])) (fun j hj N hN=>?_) (fun N=>?_)
  ·have hw:=bt (k:=j) (by omega)
   have tY:=List.length_filter_le (fun c : RC=>c.bk == (k : Int) && c.st != 5) (w.ak.take j)
   rw [List.length_take] at tY
   have jN:=bt (k:=w.ah[k].au.length + ((w.ak.take j).filter fun c=>c.bk == (k : Int) && c.st != 5).length) (by omega)
   rw [List.take_succ_eq_append_getElem hj,List.filter_append] at hN
   push_cast at jN
   by_cases c1 : w.ak[j].bk = k <;> by_cases c2 : w.ak[j].st = 5 <;> simp [go_sem,xp,hj,hf,hw,aq,hb,iX,iI,c1,c2,jN]
   all_goals exact hN _ (al (by simp [go_sem,c1,c2,Int.add_assoc]))
  ·simp [go_sem,xp,hf,aq]
   exact az (by simp [go_sem]) ⟨by simp [go_sem],rfl⟩
theorem bd.put {bx : aa} {e sz : Nat} {es : List V} {u : V} (h : bd bx e sz es u) {p : Nat} {ty0 sz0 : Nat} {es0 : List V} (hp : bx p = some (.row ty0 sz0 es0)) (bp : e ≠ ty0) (x : Option bI) : bd (aA bx p x) e sz es u:=by
 rcases h with h | ⟨b,rfl,hb⟩
 ·exact .inl h
 ·refine .inr ⟨b,rfl,?_⟩
  rw [ae _ _ (by rintro rfl; rw [hp] at hb; injection hb with hb; injection hb with hb; exact bp hb.symm),hb]
theorem bd.ne {bx : aa} {e sz : Nat} {es : List V} {u : V} (h : bd bx e sz es u) {p : Nat} {ty0 sz0 : Nat} {es0 : List V} (hp : bx p = some (.row ty0 sz0 es0)) (bp : e ≠ ty0) : ∀ sz o m,u ≠ .own p sz o m:=by
 rintro _ _ _ rfl
 rcases h with ⟨_,h⟩ | ⟨b,h,hb⟩
 ·cases h
 ·injection h with h
  subst h
  rw [hp] at hb
  injection hb with hb
  injection hb with hb
  exact bp hb.symm
theorem fm {aC bx : aa} (h : Ext aC bx) {p : Nat} (hp : aC p = none) (x : Option bI) : Ext aC (aA bx p x):=fun b hb=>by
 rw [ae _ _ (by rintro rfl; exact hb hp),h b hb]
theorem eE.ne {v v' : V} {bx bx' : aa} (h : eE v v' bx bx') {p : Nat} (hp : bx p ≠ none) (bp : ∀ sz o m,v ≠ .own p sz o m) : ∀ sz o m,v' ≠ .own p sz o m:=fun sz o m e=>by
 have h1:=h.new p sz o m e
 have : jD v bx p = bx p:=by
  unfold jD
  split
  ·rename_i c _ _ _
   exact ae _ _ (by rintro rfl; exact bp _ _ _ rfl)
  ·rfl
 rw [this] at h1
 exact hp h1
abbrev sc : TypeId:=103
abbrev xy : TypeId:=209
abbrev Ct : TypeId:=108
abbrev KY : TypeId:=205
abbrev ni : TypeId:=66
theorem WR.world {aC bx : aa} {n : RN} {w : RW} (h : WR aC n w bx) (w' : RW) (hb : w'.ah = w.ah) (hc : w'.ak = w.ak) (hr : w'.aD = w.aD) (hf : w'.aG = w.aG) : WR aC n w' (aA bx n.p (some (.row sc 10 [gu n w']))):=by
 have bp : n.bb ≠ n.p:=fun e=>by have h1:=h.ah; rw [e,h.row] at h1; injection h1 with h1; injection h1 with h1; revert h1; decide
 exact ⟨(ar _ _ _).2 h.fin,fm h.ext h.np _,h.np,h.nb,h.nc,h.nr,h.nf,by rw [hb]; exact h.nd,by rw [hb]; exact h.nw,af _ _ _,by rw [ae _ _ bp,hb]; exact h.ah,
  by rw [hc]; exact h.ak.put h.row (by decide) _,by rw [hr]; exact h.aD.put h.row (by decide) _,by rw [hf]; exact h.aG.put h.row (by decide) _,
  fun i b hi=>(h.ng i b (by rw [<- hb]; exact hi)).put h.row (by decide) _,fun i b hi=>(h.ik i b (by rw [<- hb]; exact hi)).put h.row (by decide) _,by rw [hb]; exact h.dd,by rw [hb]; exact h.ww,by rw [hb]; exact h.dw,by rw [hb,hc,hr,hf]; exact h.sm⟩
theorem WR.fault {aC bx bx' : aa} {n : RN} {w : RW} (h : WR aC n w bx) {f : Int × Int} {v' : V} (hl : w.aG.length < 100000) (ha : bd bx' ni 2 (w.aG.map bH ++ [bH f]) v') (hm : eE n.fv v' bx bx') :
 WR aC { n with fv:=v' } { w with aG:=w.aG ++ [f] } (aA bx' n.p (some (.row sc 10 [gu { n with fv:=v' } { w with aG:=w.aG ++ [f] }]))):=by
 have hp : bx' n.p = some (.row sc 10 [gu n w]):=by rw [hm.other (by rw [h.row]; simp) (h.aG.ne h.row (by decide)),h.row]
 have eV : bx' n.bb = some (.row xy 5 (w.ah.mapIdx (eI n.dv n.wv))):=by rw [hm.other (by rw [h.ah]; simp) (h.aG.ne h.ah (by decide)),h.ah]
 have bp : n.bb ≠ n.p:=fun e=>by rw [e,hp] at eV; injection eV with h1; injection h1 with h1; revert h1; decide
 obtain ⟨e1,e2⟩:=hm.base h.ext h.nf
 have k {e sz : Nat} {es : List V} {u : V} (hu : bd bx e sz es u) (h1 : e ≠ ni) (h2 : e ≠ sc) : bd (aA bx' n.p (some (.row sc 10 [gu { n with fv:=v' } { w with aG:=w.aG ++ [f] }]))) e sz es u :=
  (hu.ch hm (ln h.aG hu (Ne.symm h1))).put hp h2 _
 exact ⟨(ar _ _ _).2 hm.fin,fm e1 h.np _,h.np,h.nb,h.nc,h.nr,e2,h.nd,h.nw,af _ _ _,by rw [ae _ _ bp]; exact eV,k h.ak (by decide) (by decide),k h.aD (by decide) (by decide),by simpa using ha.put hp (by decide) _,
  fun i b hi=>k (h.ng i b hi) (by decide) (by decide),fun i b hi=>k (h.ik i b hi) (by decide) (by decide),h.dd,h.ww,h.dw,by
   have:=h.sm
   simp only [List.length_append,List.length_singleton]
   exact ⟨this.1,this.2.1,this.2.2.1,by omega,this.2.2.2.2⟩⟩
theorem cH {aC bx : aa} {n : RN} {w : RW} (h : WR aC n w bx) (kind : Int) (hl : w.aG.length < 100000) : aw prog 90 [.ptr n.p 10 0 0,.int .i64 kind] bx fun r bx'=>r = .dh [] /\ ∃ v',WR aC { n with fv:=v' } { w with aG:=w.aG ++ [(kind,w.ev)] } bx':=by
 refine V3 fun hf=>?_
 have aq:=h.row
 unfold gu at aq
 have tY:=h.aG
 simp [go_sem,C90,hf,aq,iI]
 refine ey (.agg #[.int .i64 0,.int .i64 0]) tY hf (news:=[bH (kind,w.ev)]) vh KQ (by simp [go_sem,bP,bH,iI]) Ca (by simp [go_sem]) (by decide) (by simp [KS]; omega) (by simp; omega) (by simp [go_sem]) fun v' bx' ha hm _=>?_
 have hn:=h.fault (f:=(kind,w.ev)) hl ha hm
 have hp : bx' n.p = some (.row sc 10 [gu n w]):=by rw [hm.other (by rw [h.row]; simp) (tY.ne h.row (by decide)),h.row]
 unfold gu at hp
 simp [go_sem,hp,ha.strip,ha.live,ha.cells,ha.okV,hm.fin,iI]
 exact aj (by simp [go_sem]) ⟨by simp [go_sem],v',hn⟩
theorem bd.set {bx : aa} {e sz : Nat} {es es' : List V} {u : V} {b : Nat} (hu : u = .own b sz 0 es.length) (hl : es'.length = es.length) : bd (aA bx b (some (.row e sz es'))) e sz es' u :=
 .inr ⟨b,by rw [hu,hl],af _ _ _⟩
theorem WR.Ba {aC bx : aa} {n : RN} {w : RW} (h : WR aC n w bx) {b : Nat} (hv : n.rv = .own b 6 0 w.aD.length) (hb : bx b = some (.row KY 6 (w.aD.map mB))) (i : Nat) (r : RR) :
 WR aC n { w with aD:=w.aD.set i r } (aA bx b (some (.row KY 6 ((w.aD.map mB).set i (mB r))))):=by
 have u9 : n.p ≠ b:=fun e=>by rw [<- e,h.row] at hb; injection hb with h1; injection h1 with h1; revert h1; decide
 have bp : n.bb ≠ b:=fun e=>by rw [<- e,h.ah] at hb; injection hb with h1; injection h1 with h1; revert h1; decide
 have k {e sz : Nat} {es : List V} {u : V} (hu : bd bx e sz es u) (h1 : e ≠ KY):=hu.put hb h1 (some (.row KY 6 ((w.aD.map mB).set i (mB r))))
 have e1 : (w.aD.map mB).set i (mB r) = (w.aD.set i r).map mB:=by rw [List.map_set]
 rw [e1] at k ⊢
 exact ⟨(ar _ _ _).2 h.fin,fm h.ext (h.nr _ _ _ _ hv) _,h.np,h.nb,h.nc,h.nr,h.nf,h.nd,h.nw,by rw [ae _ _ u9]; exact h.row,by rw [ae _ _ bp]; exact h.ah,
  k h.ak (by decide),bd.set (es:=w.aD.map mB) (by simpa using hv) (by simp),k h.aG (by decide),fun i b hi=>k (h.ng i b hi) (by decide),fun i b hi=>k (h.ik i b hi) (by decide),h.dd,h.ww,h.dw,by
   have:=h.sm
   simpa using this⟩
theorem WR.lp {aC bx : aa} {n : RN} {w : RW} (h : WR aC n w bx) {b : Nat} (hv : n.cv = .own b 10 0 w.ak.length) (hb : bx b = some (.row Ct 10 (w.ak.map iX))) (i : Nat) (r : RC) :
 WR aC n { w with ak:=w.ak.set i r } (aA bx b (some (.row Ct 10 ((w.ak.map iX).set i (iX r))))):=by
 have u9 : n.p ≠ b:=fun e=>by rw [<- e,h.row] at hb; injection hb with h1; injection h1 with h1; revert h1; decide
 have bp : n.bb ≠ b:=fun e=>by rw [<- e,h.ah] at hb; injection hb with h1; injection h1 with h1; revert h1; decide
 have k {e sz : Nat} {es : List V} {u : V} (hu : bd bx e sz es u) (h1 : e ≠ Ct):=hu.put hb h1 (some (.row Ct 10 ((w.ak.map iX).set i (iX r))))
 have e1 : (w.ak.map iX).set i (iX r) = (w.ak.set i r).map iX:=by rw [List.map_set]
 rw [e1] at k ⊢
 exact ⟨(ar _ _ _).2 h.fin,fm h.ext (h.nc _ _ _ _ hv) _,h.np,h.nb,h.nc,h.nr,h.nf,h.nd,h.nw,by rw [ae _ _ u9]; exact h.row,by rw [ae _ _ bp]; exact h.ah,
  bd.set (es:=w.ak.map iX) (by simpa using hv) (by simp),k h.aD (by decide),k h.aG (by decide),fun i b hi=>k (h.ng i b hi) (by decide),fun i b hi=>k (h.ik i b hi) (by decide),h.dd,h.ww,h.dw,by
   have:=h.sm
   simpa using this⟩
theorem mapIdx_set {l : List RB} {i : Nat} {dv wv : Nat -> V} (x : RB) : (l.mapIdx (eI dv wv)).set i (eI dv wv i x) = (l.set i x).mapIdx (eI dv wv):=by
 apply List.ext_getElem?
 intro j
 rw [List.getElem?_set,List.getElem?_mapIdx,List.getElem?_mapIdx,List.getElem?_set]
 by_cases e : i = j
 ·subst e
  simp
 ·simp [e]
theorem WR.oD {aC bx : aa} {n : RN} {w : RW} (h : WR aC n w bx) (i : Nat) (x : RB) (hx : ∀ b,w.ah[i]? = some b -> x.au = b.au /\ x.waits = b.waits) :
 WR aC n { w with ah:=w.ah.set i x } (aA bx n.bb (some (.row xy 5 ((w.ah.mapIdx (eI n.dv n.wv)).set i (eI n.dv n.wv i x))))):=by
 have u9 : n.p ≠ n.bb:=fun e=>by have hb:=h.ah; rw [<- e,h.row] at hb; injection hb with h1; injection h1 with h1; revert h1; decide
 have k {e sz : Nat} {es : List V} {u : V} (hu : bd bx e sz es u) (h1 : e ≠ xy):=hu.put h.ah h1 (some (.row xy 5 ((w.ah.mapIdx (eI n.dv n.wv)).set i (eI n.dv n.wv i x))))
 have hs (j : Nat) (b : RB) (hj : (w.ah.set i x)[j]? = some b) : ∃ b',w.ah[j]? = some b' /\ b.au = b'.au /\ b.waits = b'.waits:=by
  rw [List.getElem?_set] at hj
  split at hj
  ·rename_i e
   subst e
   split at hj
   ·rename_i hi
    injection hj with hj
    subst hj
    exact ⟨_,List.getElem?_eq_getElem hi,hx _ (List.getElem?_eq_getElem hi)⟩
   ·cases hj
  ·exact ⟨b,hj,rfl,rfl⟩
 refine ⟨(ar _ _ _).2 h.fin,fm h.ext h.nb _,h.np,h.nb,h.nc,h.nr,h.nf,by simpa using h.nd,by simpa using h.nw,by rw [ae _ _ u9,h.row]; simp [gu],by rw [af,mapIdx_set],
  k h.ak (by decide),k h.aD (by decide),k h.aG (by decide),fun j b hi=>?_,fun j b hi=>?_,by simpa using h.dd,by simpa using h.ww,by simpa using h.dw,?_⟩
 ·obtain ⟨b',h1,h2,_⟩:=hs j b hi
  rw [h2]
  exact k (h.ng j b' h1) (by decide)
 ·obtain ⟨b',h1,_,h2⟩:=hs j b hi
  rw [h2]
  exact k (h.ik j b' h1) (by decide)
 ·have:=h.sm
  refine ⟨by simpa using this.1,this.2.1,this.2.2.1,this.2.2.2.1,fun b hb=>?_⟩
  obtain ⟨j,hj,rfl⟩:=List.getElem_of_mem hb
  obtain ⟨b',h1,h2,h3⟩:=hs j _ (List.getElem?_eq_getElem hj)
  rw [h2,h3]
  exact this.2.2.2.2 _ (List.mem_of_getElem? h1)
theorem WR.NW {aC bx bx' : aa} {n : RN} {w : RW} (h : WR aC n w bx) {f : RR} {v' : V} (hl : w.aD.length < 100000) (ha : bd bx' KY 6 (w.aD.map mB ++ [mB f]) v') (hm : eE n.rv v' bx bx') :
 WR aC { n with rv:=v' } { w with aD:=w.aD ++ [f] } (aA bx' n.p (some (.row sc 10 [gu { n with rv:=v' } { w with aD:=w.aD ++ [f] }]))):=by
 have hp : bx' n.p = some (.row sc 10 [gu n w]):=by rw [hm.other (by rw [h.row]; simp) (h.aD.ne h.row (by decide)),h.row]
 have eV : bx' n.bb = some (.row xy 5 (w.ah.mapIdx (eI n.dv n.wv))):=by rw [hm.other (by rw [h.ah]; simp) (h.aD.ne h.ah (by decide)),h.ah]
 have bp : n.bb ≠ n.p:=fun e=>by rw [e,hp] at eV; injection eV with h1; injection h1 with h1; revert h1; decide
 obtain ⟨e1,e2⟩:=hm.base h.ext h.nr
 have k {e sz : Nat} {es : List V} {u : V} (hu : bd bx e sz es u) (h1 : e ≠ KY) (h2 : e ≠ sc) : bd (aA bx' n.p (some (.row sc 10 [gu { n with rv:=v' } { w with aD:=w.aD ++ [f] }]))) e sz es u :=
  (hu.ch hm (ln h.aD hu (Ne.symm h1))).put hp h2 _
 exact ⟨(ar _ _ _).2 hm.fin,fm e1 h.np _,h.np,h.nb,h.nc,e2,h.nf,h.nd,h.nw,af _ _ _,by rw [ae _ _ bp]; exact eV,k h.ak (by decide) (by decide),by simpa using ha.put hp (by decide) _,k h.aG (by decide) (by decide),
  fun i b hi=>k (h.ng i b hi) (by decide) (by decide),fun i b hi=>k (h.ik i b hi) (by decide) (by decide),h.dd,h.ww,h.dw,by
   have:=h.sm
   simp only [List.length_append,List.length_singleton]
   exact ⟨this.1,this.2.1,by omega,this.2.2.2.1,this.2.2.2.2⟩⟩
theorem WR.Gl {aC bx bx' : aa} {n : RN} {w : RW} (h : WR aC n w bx) {f : RC} {v' : V} (hl : w.ak.length < 100000) (ha : bd bx' Ct 10 (w.ak.map iX ++ [iX f]) v') (hm : eE n.cv v' bx bx') :
 WR aC { n with cv:=v' } { w with ak:=w.ak ++ [f] } (aA bx' n.p (some (.row sc 10 [gu { n with cv:=v' } { w with ak:=w.ak ++ [f] }]))):=by
 have hp : bx' n.p = some (.row sc 10 [gu n w]):=by rw [hm.other (by rw [h.row]; simp) (h.ak.ne h.row (by decide)),h.row]
 have eV : bx' n.bb = some (.row xy 5 (w.ah.mapIdx (eI n.dv n.wv))):=by rw [hm.other (by rw [h.ah]; simp) (h.ak.ne h.ah (by decide)),h.ah]
 have bp : n.bb ≠ n.p:=fun e=>by rw [e,hp] at eV; injection eV with h1; injection h1 with h1; revert h1; decide
 obtain ⟨e1,e2⟩:=hm.base h.ext h.nc
 have k {e sz : Nat} {es : List V} {u : V} (hu : bd bx e sz es u) (h1 : e ≠ Ct) (h2 : e ≠ sc) : bd (aA bx' n.p (some (.row sc 10 [gu { n with cv:=v' } { w with ak:=w.ak ++ [f] }]))) e sz es u :=
  (hu.ch hm (ln h.ak hu (Ne.symm h1))).put hp h2 _
 exact ⟨(ar _ _ _).2 hm.fin,fm e1 h.np _,h.np,h.nb,e2,h.nr,h.nf,h.nd,h.nw,af _ _ _,by rw [ae _ _ bp]; exact eV,by simpa using ha.put hp (by decide) _,k h.aD (by decide) (by decide),k h.aG (by decide) (by decide),
  fun i b hi=>k (h.ng i b hi) (by decide) (by decide),fun i b hi=>k (h.ik i b hi) (by decide) (by decide),h.dd,h.ww,h.dw,by
   have:=h.sm
   simp only [List.length_append,List.length_singleton]
   exact ⟨this.1,by omega,this.2.2.1,this.2.2.2.1,this.2.2.2.2⟩⟩
theorem zk {l : List RB} {i : Nat} {dv wv : Nat -> V} (x : RB) (v : V) : (l.mapIdx (eI dv wv)).set i (eI dv (aA wv i v) i x) = (l.set i x).mapIdx (eI dv (aA wv i v)):=by
 apply List.ext_getElem?
 intro j
 rw [List.getElem?_set,List.getElem?_mapIdx,List.getElem?_mapIdx,List.getElem?_set]
 by_cases e : i = j
 ·subst e
  simp
 ·simp only [e,if_false]
  cases l[j]? with
  | none=>rfl
  | some y=>simp [eI,ae _ _ (Ne.symm e)]
theorem zl {l : List RB} {i : Nat} {dv wv : Nat -> V} (x : RB) (v : V) : (l.mapIdx (eI dv wv)).set i (eI (aA dv i v) wv i x) = (l.set i x).mapIdx (eI (aA dv i v) wv):=by
 apply List.ext_getElem?
 intro j
 rw [List.getElem?_set,List.getElem?_mapIdx,List.getElem?_mapIdx,List.getElem?_set]
 by_cases e : i = j
 ·subst e
  simp
 ·simp only [e,if_false]
  cases l[j]? with
  | none=>rfl
  | some y=>simp [eI,ae _ _ (Ne.symm e)]
theorem WR.waits {aC bx bx' : aa} {n : RN} {w : RW} (h : WR aC n w bx) {i : Nat} (hi : i < w.ah.length) {l : List Int} {v' : V} (hl : l.length <= 100000) (ha : bd bx' 2 1 (l.map iI) v') (hm : eE (n.wv i) v' bx bx') :
 WR aC { n with wv:=aA n.wv i v' } { w with ah:=w.ah.set i { w.ah[i] with waits:=l } } (aA bx' n.bb (some (.row xy 5 ((w.ah.mapIdx (eI n.dv n.wv)).set i (eI n.dv (aA n.wv i v') i { w.ah[i] with waits:=l }))))):=by
 have DL:=h.ik i _ (List.getElem?_eq_getElem hi)
 have hp : bx' n.p = some (.row sc 10 [gu n w]):=by rw [hm.other (by rw [h.row]; simp) (DL.ne h.row (by decide)),h.row]
 have eV : bx' n.bb = some (.row xy 5 (w.ah.mapIdx (eI n.dv n.wv))):=by rw [hm.other (by rw [h.ah]; simp) (DL.ne h.ah (by decide)),h.ah]
 have bp : n.p ≠ n.bb:=fun e=>by rw [<- e,hp] at eV; injection eV with h1; injection h1 with h1; revert h1; decide
 obtain ⟨e1,e2⟩:=hm.base h.ext (h.nw i hi)
 have k {e sz : Nat} {es : List V} {u : V} (hu : bd bx e sz es u) (h1 : ∀ b sz o m eT o' m',n.wv i = .own b sz o m -> u ≠ .own b eT o' m') (h2 : e ≠ xy) (x : Option bI) : bd (aA bx' n.bb x) e sz es u :=
  (hu.ch hm h1).put eV h2 _
 have w7 (u : V) (es : List V) (hu : bd bx 2 1 es u) (bp : ∀ b s o m s' o' m',n.wv i = .own b s o m -> u ≠ .own b s' o' m') : ∀ b s o m s' o' m',v' = .own b s o m -> u ≠ .own b s' o' m':=by
  rintro b s o m s' o' m' e1 rfl
  rcases hu with ⟨_,h1⟩ | ⟨b',h1,h2⟩
  ·cases h1
  ·injection h1 with h1
   subst h1
   have h3 : ∀ sz o m,n.wv i ≠ .own b sz o m:=fun sz o m e=>bp _ _ _ _ _ _ _ e rfl
   exact hm.ne (p:=b) (by rw [h2]; simp) h3 s o m e1
 refine ⟨(ar _ _ _).2 hm.fin,fm e1 h.nb _,h.np,h.nb,h.nc,h.nr,h.nf,by simpa using h.nd,fun j hj=>?_,by rw [ae _ _ bp,hp]; simp [gu],by rw [af,zk],
  k h.ak (ln DL h.ak (by decide)) (by decide) _,k h.aD (ln DL h.aD (by decide)) (by decide) _,k h.aG (ln DL h.aG (by decide)) (by decide) _,fun j b hj=>?_,fun j b hj=>?_,by simpa using h.dd,?_,?_,?_⟩
 ·by_cases e : j = i
  ·subst e; simp only [af]; exact e2
  ·simp only [ae _ _ e]; exact h.nw j (by simpa using hj)
 ·have B6 : ∃ b',w.ah[j]? = some b' /\ b.au = b'.au:=by
   by_cases e : i = j
   ·subst e
    rw [List.getElem?_set_self hi] at hj
    injection hj with hj
    subst hj
    exact ⟨_,List.getElem?_eq_getElem hi,rfl⟩
   ·rw [List.getElem?_set_ne e] at hj
    exact ⟨b,hj,rfl⟩
  obtain ⟨b',h1,h2⟩:=B6
  have lB : j < w.ah.length:=(List.getElem?_eq_some_iff.1 h1).1
  rw [h2]
  exact k (h.ng j b' h1) (fun b sz o m eT o' m' e1 e2=>h.dw j i _ _ _ _ _ _ _ lB hi e2 e1) (by decide) _
 ·by_cases e : j = i
  ·subst e
   rw [List.getElem?_set_self hi] at hj
   injection hj with hj
   subst hj
   simp only [af]
   exact ha.put eV (by decide) _
  ·rw [List.getElem?_set_ne (Ne.symm e)] at hj
   have lB : j < w.ah.length:=(List.getElem?_eq_some_iff.1 hj).1
   simp only [ae _ _ e]
   exact k (h.ik j b hj) (fun b sz o m eT o' m' e1 e2=>e (h.ww i j _ _ _ _ _ _ _ hi lB e1 e2).symm) (by decide) _
 ·intro a b c s o m s' o' m' fA aQ h1 h2
  simp only [List.length_set] at fA aQ
  by_cases ea : a = i <;> by_cases eb : b = i
  ·rw [ea,eb]
  ·subst ea
   simp only [af,ae _ _ eb] at h1 h2
   exact absurd h2 (w7 _ _ (h.ik b _ (List.getElem?_eq_getElem aQ)) (fun b2 s o m s' o' m' e1 e2=>eb (h.ww a b _ _ _ _ _ _ _ fA aQ e1 e2).symm) _ _ _ _ _ _ _ h1)
  ·subst eb
   simp only [af,ae _ _ ea] at h1 h2
   exact absurd h1 (w7 _ _ (h.ik a _ (List.getElem?_eq_getElem fA)) (fun b2 s o m s' o' m' e1 e2=>ea (h.ww b a _ _ _ _ _ _ _ aQ fA e1 e2).symm) _ _ _ _ _ _ _ h2)
  ·simp only [ae _ _ ea,ae _ _ eb] at h1 h2
   exact h.ww a b _ _ _ _ _ _ _ fA aQ h1 h2
 ·intro a b c s o m s' o' m' fA aQ h1 h2
  simp only [List.length_set] at fA aQ
  by_cases eb : b = i
  ·subst eb
   simp only [af] at h2
   exact absurd h1 (w7 _ _ (h.ng a _ (List.getElem?_eq_getElem fA)) (fun b2 s o m s' o' m' e1 e2=>h.dw a b _ _ _ _ _ _ _ fA aQ e2 e1) _ _ _ _ _ _ _ h2)
  ·simp only [ae _ _ eb] at h2
   exact h.dw a b _ _ _ _ _ _ _ fA aQ h1 h2
 ·have:=h.sm
  refine ⟨by simpa using this.1,this.2.1,this.2.2.1,this.2.2.2.1,fun b hb=>?_⟩
  rcases List.mem_or_eq_of_mem_set hb with hb | rfl
  ·exact this.2.2.2.2 b hb
  ·exact ⟨(this.2.2.2.2 _ (List.getElem_mem hi)).1,hl⟩
theorem WR.au {aC bx bx' : aa} {n : RN} {w : RW} (h : WR aC n w bx) {i : Nat} (hi : i < w.ah.length) {l : List Int} {v' : V} (hl : l.length <= 100000) (ha : bd bx' 2 1 (l.map iI) v') (hm : eE (n.dv i) v' bx bx') :
 WR aC { n with dv:=aA n.dv i v' } { w with ah:=w.ah.set i { w.ah[i] with au:=l } } (aA bx' n.bb (some (.row xy 5 ((w.ah.mapIdx (eI n.dv n.wv)).set i (eI (aA n.dv i v') n.wv i { w.ah[i] with au:=l }))))):=by
 have DL:=h.ng i _ (List.getElem?_eq_getElem hi)
 have hp : bx' n.p = some (.row sc 10 [gu n w]):=by rw [hm.other (by rw [h.row]; simp) (DL.ne h.row (by decide)),h.row]
 have eV : bx' n.bb = some (.row xy 5 (w.ah.mapIdx (eI n.dv n.wv))):=by rw [hm.other (by rw [h.ah]; simp) (DL.ne h.ah (by decide)),h.ah]
 have bp : n.p ≠ n.bb:=fun e=>by rw [<- e,hp] at eV; injection eV with h1; injection h1 with h1; revert h1; decide
 obtain ⟨e1,e2⟩:=hm.base h.ext (h.nd i hi)
 have k {e sz : Nat} {es : List V} {u : V} (hu : bd bx e sz es u) (h1 : ∀ b sz o m eT o' m',n.dv i = .own b sz o m -> u ≠ .own b eT o' m') (h2 : e ≠ xy) (x : Option bI) : bd (aA bx' n.bb x) e sz es u :=
  (hu.ch hm h1).put eV h2 _
 have w7 (u : V) (es : List V) (hu : bd bx 2 1 es u) (bp : ∀ b s o m s' o' m',n.dv i = .own b s o m -> u ≠ .own b s' o' m') : ∀ b s o m s' o' m',v' = .own b s o m -> u ≠ .own b s' o' m':=by
  rintro b s o m s' o' m' e1 rfl
  rcases hu with ⟨_,h1⟩ | ⟨b',h1,h2⟩
  ·cases h1
  ·injection h1 with h1
   subst h1
   have h3 : ∀ sz o m,n.dv i ≠ .own b sz o m:=fun sz o m e=>bp _ _ _ _ _ _ _ e rfl
   exact hm.ne (p:=b) (by rw [h2]; simp) h3 s o m e1
 refine ⟨(ar _ _ _).2 hm.fin,fm e1 h.nb _,h.np,h.nb,h.nc,h.nr,h.nf,fun j hj=>?_,by simpa using h.nw,by rw [ae _ _ bp,hp]; simp [gu],by rw [af,zl],
  k h.ak (ln DL h.ak (by decide)) (by decide) _,k h.aD (ln DL h.aD (by decide)) (by decide) _,k h.aG (ln DL h.aG (by decide)) (by decide) _,fun j b hj=>?_,fun j b hj=>?_,?_,by simpa using h.ww,?_,?_⟩
 ·by_cases e : j = i
  ·subst e; simp only [af]; exact e2
  ·simp only [ae _ _ e]; exact h.nd j (by simpa using hj)
 ·by_cases e : j = i
  ·subst e
   rw [List.getElem?_set_self hi] at hj
   injection hj with hj
   subst hj
   simp only [af]
   exact ha.put eV (by decide) _
  ·rw [List.getElem?_set_ne (Ne.symm e)] at hj
   have lB : j < w.ah.length:=(List.getElem?_eq_some_iff.1 hj).1
   simp only [ae _ _ e]
   exact k (h.ng j b hj) (fun b sz o m eT o' m' e1 e2=>e (h.dd i j _ _ _ _ _ _ _ hi lB e1 e2).symm) (by decide) _
 ·have B6 : ∃ b',w.ah[j]? = some b' /\ b.waits = b'.waits:=by
   by_cases e : i = j
   ·subst e
    rw [List.getElem?_set_self hi] at hj
    injection hj with hj
    subst hj
    exact ⟨_,List.getElem?_eq_getElem hi,rfl⟩
   ·rw [List.getElem?_set_ne e] at hj
    exact ⟨b,hj,rfl⟩
  obtain ⟨b',h1,h2⟩:=B6
  have lB : j < w.ah.length:=(List.getElem?_eq_some_iff.1 h1).1
  rw [h2]
  exact k (h.ik j b' h1) (fun b sz o m eT o' m' e1 e2=>h.dw i j _ _ _ _ _ _ _ hi lB e1 e2) (by decide) _
 ·intro a b c s o m s' o' m' fA aQ h1 h2
  simp only [List.length_set] at fA aQ
  by_cases ea : a = i <;> by_cases eb : b = i
  ·rw [ea,eb]
  ·subst ea
   simp only [af,ae _ _ eb] at h1 h2
   exact absurd h2 (w7 _ _ (h.ng b _ (List.getElem?_eq_getElem aQ)) (fun b2 s o m s' o' m' e1 e2=>eb (h.dd a b _ _ _ _ _ _ _ fA aQ e1 e2).symm) _ _ _ _ _ _ _ h1)
  ·subst eb
   simp only [af,ae _ _ ea] at h1 h2
   exact absurd h1 (w7 _ _ (h.ng a _ (List.getElem?_eq_getElem fA)) (fun b2 s o m s' o' m' e1 e2=>ea (h.dd b a _ _ _ _ _ _ _ aQ fA e1 e2).symm) _ _ _ _ _ _ _ h2)
  ·simp only [ae _ _ ea,ae _ _ eb] at h1 h2
   exact h.dd a b _ _ _ _ _ _ _ fA aQ h1 h2
 ·intro a b c s o m s' o' m' fA aQ h1 h2
  simp only [List.length_set] at fA aQ
  by_cases ea : a = i
  ·subst ea
   simp only [af] at h1
   exact absurd h2 (w7 _ _ (h.ik b _ (List.getElem?_eq_getElem aQ)) (fun b2 s o m s' o' m' e1 e2=>h.dw a b _ _ _ _ _ _ _ fA aQ e1 e2) _ _ _ _ _ _ _ h1)
  ·simp only [ae _ _ ea] at h1
   exact h.dw a b _ _ _ _ _ _ _ fA aQ h1 h2
 ·have:=h.sm
  refine ⟨by simpa using this.1,this.2.1,this.2.2.1,this.2.2.2.1,fun b hb=>?_⟩
  rcases List.mem_or_eq_of_mem_set hb with hb | rfl
  ·exact this.2.2.2.2 b hb
  ·exact ⟨hl,(this.2.2.2.2 _ (List.getElem_mem hi)).2⟩
theorem pB {bx : aa} {b : Nat} (hb : bx b = none) (x : Option bI) : Ext bx (aA bx b x):=fun c hc=>ae _ _ (by rintro rfl; exact hc hb)
structure IC where
 num : Int
 bk : Int
 aU : Int
 born : Int
 gone : Int
 bK : Int
 read : Int
 st : Int
 call : Int
 since : Int
structure IR where
 idem : Bool
 ended : Bool
 aM : Int
 at_ : Int
 bK : Int
structure IP where
 au : Bool
 waits : Bool
 aU : Bool
deriving DecidableEq
structure IB where
 down : Bool
 gL : Int
 aK : Int
 au : Int
 cp : Int
 waits : List Int
structure IW where
 aL : List fb
 most : Int
 ky : List Ex
 now : Int
 at_ : Int
 ah : List IB
 ak : List IC
 ord : List Int
 aD : List (Int × IR)
 busy : List (Int × IP)
 nj : List (Int × Int)
 stop : Bool
 aG : List (Int × Int)
def pS (c : IC) : V:=.agg [iI c.num,iI c.bk,iI c.aU,iI c.born,iI c.gone,iI c.bK,iI c.read,iI c.st,iI c.call,iI c.since]
def sd (r : IR) : V:=.agg [.bool r.idem,.bool r.ended,iI r.aM,iI r.at_,iI r.bK]
def nN (p : IP) : V:=.agg [.bool p.au,.bool p.waits,.bool p.aU]
def kK (v : V) (b : IB) : V:=.agg [.bool b.down,iI b.gL,iI b.aK,iI b.au,iI b.cp,v]
def kv : IC:=⟨0,0,0,0,0,0,0,0,0,0⟩
def nO : IR:=⟨false,false,0,0,0⟩
def dB : IP:=⟨false,false,false⟩
def fZ : IB:=⟨false,0,0,0,0,[]⟩
def jR (ks : List Int) (v : Nat -> V) : List (V × V):=ks.mapIdx fun i k=>(iI k,v i)
theorem DM (k : Int) (ks : List Int) (v : Nat -> V) : jR (k :: ks) v = (iI k,v 0) :: jR ks (fun i=>v (i + 1)):=by
 unfold jR
 rw [List.mapIdx_cons]
theorem qo (k : Int) : ∀ (ks : List Int) (v : Nat -> V) (n : Nat),fg (.int .i64 k) (jR ks v) n = some ((ks.findIdx? (· == k)).map fun j=>(n + j,v j))
 | [],v,n=>rfl
 | y :: ks,v,n=>by
   rw [DM]
   unfold fg
   have hs : l7 (.int .i64 k) (iI y) = some (k == y):=by simp [l7,iI]
   rw [hs,List.findIdx?_cons]
   by_cases e : y = k
   ·subst e
    simp
   ·have e1 : (k == y) = false:=by simpa using fun h=>e h.symm
    have e2 : (y == k) = false:=by simpa using e
    rw [e1,e2]
    dsimp only
    rw [qo k ks _ (n + 1)]
    simp only [Bool.false_eq_true,if_false,Option.map_map]
    congr 2
    funext j
    simp only [Function.comp]
    congr 1
    omega
theorem Gm (ks : List Int) (v : Nat -> V) : (jR ks v).length = ks.length:=by simp [jR]
theorem zm (ks : List Int) (v : Nat -> V) (k : Int) (x : V) : jR ks v ++ [(iI k,x)] = jR (ks ++ [k]) (aA v ks.length x):=by
 unfold jR
 rw [List.mapIdx_append]
 congr 1
 ·apply List.ext_getElem?
  intro i
  rw [List.getElem?_mapIdx,List.getElem?_mapIdx]
  cases hk : ks[i]? with
  | none=>rfl
  | some y =>
    have:=(List.getElem?_eq_some_iff.1 hk).1
    simp [ae _ _ (show i ≠ ks.length by omega)]
 ·simp [af]
def fU {α : Type} (l : List (Int × α)) (f : α -> V) : List (V × V):=l.map fun p=>(iI p.1,f p.2)
def jS {α : Type} (l : List (Int × α)) (k : Int) : Option Nat:=l.findIdx? (fun p=>p.1 == k)
theorem iD {α : Type} (k : Int) (f : α -> V) (d : Int × α) : ∀ (l : List (Int × α)) (n : Nat),fg (.int .i64 k) (fU l f) n = some ((jS l k).map fun j=>(n + j,f (l.getD j d).2))
 | [],n=>rfl
 | y :: l,n=>by
   show fg _ ((iI y.1,f y.2) :: fU l f) n = _
   unfold fg jS
   have hs : l7 (.int .i64 k) (iI y.1) = some (k == y.1):=by simp [l7,iI]
   rw [hs,List.findIdx?_cons]
   by_cases e : y.1 = k
   ·subst e
    simp
   ·have e1 : (k == y.1) = false:=by simpa using fun h=>e h.symm
    have e2 : (y.1 == k) = false:=by simpa using e
    rw [e1,e2]
    dsimp only
    rw [iD k f d l (n + 1)]
    unfold jS
    simp only [Bool.false_eq_true,if_false,Option.map_map]
    congr 2
    funext j
    simp only [Function.comp]
    congr 1
    omega
theorem oE {α : Type} {l : List (Int × α)} {k : Int} {j : Nat} (h : jS l k = some j) : ∃ hj : j < l.length,l[j].1 = k:=by
 unfold jS at h
 rw [List.findIdx?_eq_some_iff_getElem] at h
 obtain ⟨hj,h1,_⟩:=h
 exact ⟨hj,by simpa using h1⟩
def jk {α : Type} (l : List (Int × α)) (k : Int) (x : α) : List (Int × α):=match jS l k with
 | some j=>l.set j (k,x)
 | none=>l ++ [(k,x)]
def nC {α : Type} (l : List (Int × α)) (k : Int) : List (Int × α):=match jS l k with
 | some j=>l.eraseIdx j
 | none=>l
inductive nP where
 | w | ah | mc | mr | mb | mw | ord | aG
 | ik (i : Nat) | cn (i : Nat) | rq (i : Nat)
deriving DecidableEq
abbrev cQ:=nP -> Option Nat
def eL (ad : cQ) (c : nP) (o : Option Nat) : cQ:=fun x=>if x = c then o else ad x
theorem hY (ad : cQ) (c : nP) (o : Option Nat) : eL ad c o c = o:=by simp [eL]
theorem eA (ad : cQ) {c c' : nP} (o : Option Nat) (h : c' ≠ c) : eL ad c o c' = ad c':=by simp [eL,h]
def j3 (o : Option Nat) (sz n : Nat) : V:=match o with | some b=>.own b sz 0 n | none=>.aI
def ib (ad : cQ) (i : Nat) (b : IB) : V:=kK (j3 (ad (.ik i)) 1 b.waits.length) b
def nD (ad : cQ) (c : nP) : Nat:=(ad c).getD 0
def il (pb pc pr pm pw : Nat) (vo vf : V) (s : IW) : V:=.agg [.sl 4 (s.aL.map bT),iI s.most,.sl 8 (s.ky.map fY),iI s.now,iI s.at_,.own pb 6 0 s.ah.length,.mp pc,vo,.mp pr,.mp pm,.mp pw,.bool s.stop,vf]
def HN (ad : cQ) (s : IW) : V:=il (nD ad .ah) (nD ad .mc) (nD ad .mr) (nD ad .mb) (nD ad .mw) (j3 (ad .ord) 1 s.ord.length) (j3 (ad .aG) 2 s.aG.length) s
def cont (ad : cQ) (s : IW) : nP -> bI
 | .w=>.row 94 13 [HN ad s]
 | .ah=>.row 194 6 (s.ah.mapIdx (ib ad))
 | .mc=>.map (jR (s.ak.map (·.num)) fun i=>.ptr (nD ad (.cn i)) 10 0 0)
 | .mr=>.map (jR (s.aD.map (·.1)) fun i=>.ptr (nD ad (.rq i)) 5 0 0)
 | .mb=>.map (fU s.busy nN)
 | .mw=>.map (fU s.nj iI)
 | .ord=>.row 2 1 (s.ord.map iI)
 | .aG=>.row 66 2 (s.aG.map bH)
 | .ik i=>.row 2 1 ((s.ah.getD i fZ).waits.map iI)
 | .cn i=>.row 105 10 [pS (s.ak.getD i kv)]
 | .rq i=>.row 190 5 [sd (s.aD.getD i (0,nO)).2]
def qN (s : IW) : nP -> Prop
 | .ik i=>i < s.ah.length
 | .cn i=>i < s.ak.length
 | .rq i=>i < s.aD.length
 | _=>True
def nE (s : IW) : nP -> Prop
 | .ord=>s.ord = []
 | .aG=>s.aG = []
 | .ik i=>(s.ah.getD i fZ).waits = []
 | _=>False
def NX : nP -> Bool
 | .ord | .aG | .ik _=>true
 | _=>false
structure WI (aC : aa) (ad : cQ) (s : IW) (bx : aa) : Prop where
 fin : bj bx
 ext : Ext aC bx
 at_ : ∀ c b,ad c = some b -> aC b = none /\ bx b = some (cont ad s c) /\ qN s c
 none_ : ∀ c,ad c = none -> qN s c -> nE s c
 inj : ∀ c c' b,ad c = some b -> ad c' = some b -> c = c'
def bQ (ad ad' : cQ) : Prop:=∀ c b,ad c = some b -> NX c = false -> ad' c = some b
theorem bQ.refl (ad : cQ) : bQ ad ad:=fun _ _ h _=>h
theorem bQ.trans {a b c : cQ} (h : bQ a b) (h' : bQ b c) : bQ a c:=fun x y e hs=>h' x y (h x y e hs) hs
theorem WI.put {aC bx : aa} {ad : cQ} {s : IW} (h : WI aC ad s bx) {c : nP} {b : Nat} (hc : ad c = some b) (s' : IW) (h1 : ∀ c' b',c' ≠ c -> ad c' = some b' -> cont ad s' c' = cont ad s c') (h2 : ∀ c',qN s' c' ↔ qN s c') (h3 : ∀ c',nE s c' -> ad c' = none -> nE s' c') :
 WI aC ad s' (aA bx b (some (cont ad s' c))):=by
 obtain ⟨g1,g2,g3⟩:=h.at_ c b hc
 refine ⟨(ar _ _ _).2 h.fin,fm h.ext g1 _,fun c' b' e=>?_,fun c' e o=>h3 c' (h.none_ c' e ((h2 c').1 o)) e,h.inj⟩
 obtain ⟨k1,k2,k3⟩:=h.at_ c' b' e
 by_cases u4 : c' = c
 ·subst u4
  rw [hc] at e
  injection e with e
  subst e
  exact ⟨g1,af _ _ _,(h2 _).2 g3⟩
 ·have eV : b' ≠ b:=fun e2=>u4 (h.inj c' c b (by rw [e,e2]) hc)
  exact ⟨k1,by rw [ae _ _ eV,k2,h1 c' b' u4 e],(h2 _).2 k3⟩
def qp (v : V) : Option Nat:=match v with | .own b _ _ _=>some b | _=>none
theorem bd.j3 {bx : aa} {e sz : Nat} {es : List V} {v : V} (h : bd bx e sz es v) : v = Go.Proofs.j3 (qp v) sz es.length:=by
 rcases h with ⟨_,rfl⟩ | ⟨b,rfl,_⟩ <;> rfl
theorem WI.sl {aC bx : aa} {ad : cQ} {s : IW} (h : WI aC ad s bx) {c : nP} (hs : NX c = true) (ho : qN s c) {ty sz : Nat} {es : List V} (hc : cont ad s c = .row ty sz es) (h0 : nE s c -> es = []) : bd bx ty sz es (Go.Proofs.j3 (ad c) sz es.length):=by
 cases tW : ad c with
 | none=>exact .inl ⟨h0 (h.none_ c tW ho),rfl⟩
 | some b=>exact .inr ⟨b,rfl,by rw [<- hc]; exact (h.at_ c b tW).2.1⟩
theorem WI.slice {aC bx bx' : aa} {ad : cQ} {s : IW} (h : WI aC ad s bx) {c hd : nP} {hb : Nat} (hh : ad hd = some hb) (bp : hd ≠ c) (s' : IW) {v' : V} {ty sz : Nat} {es : List V} {n : Nat} (hm : eE (Go.Proofs.j3 (ad c) sz n) v' bx bx') (hv : bd bx' ty sz es v')
 (u4 : cont (eL ad c (qp v')) s' c = .row ty sz es) (cY : qN s' c) (hopt : es = [] -> nE s' c)
 (h1 : ∀ c' b',c' ≠ c -> c' ≠ hd -> ad c' = some b' -> cont (eL ad c (qp v')) s' c' = cont ad s c') (h2 : ∀ c',qN s' c' ↔ qN s c') (h3 : ∀ c',c' ≠ c -> nE s c' -> ad c' = none -> nE s' c') :
 WI aC (eL ad c (qp v')) s' (aA bx' hb (some (cont (eL ad c (qp v')) s' hd))):=by
 obtain ⟨g1,g2,g3⟩:=h.at_ hd hb hh
 have nK : ∀ c' b',c' ≠ c -> ad c' = some b' -> ∀ eT o m,Go.Proofs.j3 (ad c) sz n ≠ .own b' eT o m:=by
  intro c' b' Gn e eT o m e2
  cases tW : ad c with
  | none=>rw [tW] at e2; cases e2
  | some b =>
    rw [tW] at e2
    injection e2 with e2
    subst e2
    exact Gn (h.inj c' c b e tW)
 have pd : ∀ c' b',c' ≠ c -> ad c' = some b' -> bx' b' = bx b':=fun c' b' Gn e=>hm.other (by rw [(h.at_ c' b' e).2.1]; simp) (nK c' b' Gn e)
 have xz : ll aC (Go.Proofs.j3 (ad c) sz n):=by
  intro b eT o m e
  cases tW : ad c with
  | none=>rw [tW] at e; cases e
  | some b2 =>
    rw [tW] at e
    injection e with e
    subst e
    exact (h.at_ c b2 tW).1
 obtain ⟨e1,e2⟩:=hm.base h.ext xz
 have sN : ∀ b',qp v' = some b' -> aC b' = none /\ bx' b' = some (.row ty sz es) /\ ∀ c',c' ≠ c -> ad c' ≠ some b':=by
  intro b' e
  rcases hv with ⟨_,rfl⟩ | ⟨b2,rfl,c9⟩
  ·cases e
  ·injection e with e
   subst e
   refine ⟨e2 _ _ _ _ rfl,c9,fun c' Gn e3=>?_⟩
   exact hm.ne (p:=b2) (by rw [(h.at_ c' b2 e3).2.1]; simp) (nK c' b2 Gn e3) _ _ _ rfl
 refine ⟨(ar _ _ _).2 hm.fin,fm e1 g1 _,fun c' b' e=>?_,fun c' e o=>?_,fun c1 c2 b' q1 q2=>?_⟩
 ·by_cases k1 : c' = c
  ·subst k1
   rw [hY] at e
   obtain ⟨n1,n2,n3⟩:=sN b' e
   have : b' ≠ hb:=fun e4=>n3 hd bp (by rw [hh,e4])
   exact ⟨n1,by rw [ae _ _ this,n2,u4],cY⟩
  ·rw [eA _ _ k1] at e
   obtain ⟨m1,m2,m3⟩:=h.at_ c' b' e
   refine ⟨m1,?_,(h2 c').2 m3⟩
   by_cases k2 : c' = hd
   ·subst k2
    rw [hh] at e
    injection e with e
    subst e
    exact af _ _ _
   ·have : b' ≠ hb:=fun e4=>k2 (h.inj c' hd hb (by rw [e,e4]) hh)
    rw [ae _ _ this,pd c' b' k1 e,m2,h1 c' b' k1 k2 e]
 ·by_cases k1 : c' = c
  ·subst k1
   rw [hY] at e
   rcases hv with ⟨h0,_⟩ | ⟨b2,rfl,_⟩
   ·exact hopt h0
   ·cases e
  ·rw [eA _ _ k1] at e
   exact h3 c' k1 (h.none_ c' e ((h2 c').1 o)) e
 ·by_cases k1 : c1 = c <;> by_cases k2 : c2 = c
  ·rw [k1,k2]
  ·subst k1
   rw [hY] at q1
   rw [eA _ _ k2] at q2
   exact absurd q2 ((sN b' q1).2.2 c2 k2)
  ·subst k2
   rw [hY] at q2
   rw [eA _ _ k1] at q1
   exact absurd q1 ((sN b' q2).2.2 c1 k1)
  ·rw [eA _ _ k1] at q1
   rw [eA _ _ k2] at q2
   exact h.inj c1 c2 b' q1 q2
theorem WI.ch {ad : cQ} {c : nP} (hs : NX c = true) (o : Option Nat) : bQ ad (eL ad c o):=fun c' b e h=>by
 rw [eA _ _ (by rintro rfl; rw [hs] at h; cases h)]
 exact e
theorem WI.grow {aC bx : aa} {ad : cQ} {s : IW} (h : WI aC ad s bx) {c hd : nP} {hb b : Nat} (hh : ad hd = some hb) (bp : hd ≠ c) (hn : ad c = none) (dD : bx b = none) (s' : IW) (cY : qN s' c)
 (h1 : ∀ c' b',c' ≠ c -> c' ≠ hd -> ad c' = some b' -> cont (eL ad c (some b)) s' c' = cont ad s c') (h2 : ∀ c',c' ≠ c -> (qN s' c' ↔ qN s c')) (h3 : ∀ c',c' ≠ c -> nE s c' -> ad c' = none -> nE s' c') :
 WI aC (eL ad c (some b)) s' (aA (aA bx b (some (cont (eL ad c (some b)) s' c))) hb (some (cont (eL ad c (some b)) s' hd))):=by
 obtain ⟨g1,g2,g3⟩:=h.at_ hd hb hh
 have eV : b ≠ hb:=fun e=>by rw [e,g2] at dD; cases dD
 have Wb : aC b = none:=by
  cases e : aC b with
  | none=>rfl
  | some x=>have:=h.ext b (by rw [e]; simp); rw [dD,e] at this; cases this
 have nK : ∀ c' b',ad c' = some b' -> b' ≠ b:=fun c' b' e e2=>by rw [e2] at e; rw [(h.at_ c' b e).2.1] at dD; cases dD
 refine ⟨(ar _ _ _).2 ((ar _ _ _).2 h.fin),fm (fm h.ext Wb _) g1 _,fun c' b' e=>?_,fun c' e o=>?_,fun c1 c2 b' q1 q2=>?_⟩
 ·by_cases k1 : c' = c
  ·subst k1
   rw [hY] at e
   injection e with e
   subst e
   exact ⟨Wb,by rw [ae _ _ eV,af],cY⟩
  ·rw [eA _ _ k1] at e
   obtain ⟨m1,m2,m3⟩:=h.at_ c' b' e
   refine ⟨m1,?_,(h2 c' k1).2 m3⟩
   by_cases k2 : c' = hd
   ·subst k2
    rw [hh] at e
    injection e with e
    subst e
    exact af _ _ _
   ·have : b' ≠ hb:=fun e4=>k2 (h.inj c' hd hb (by rw [e,e4]) hh)
    rw [ae _ _ this,ae _ _ (nK c' b' e),m2,h1 c' b' k1 k2 e]
 ·have k1 : c' ≠ c:=fun k1=>by subst k1; rw [hY] at e; cases e
  rw [eA _ _ k1] at e
  exact h3 c' k1 (h.none_ c' e ((h2 c' k1).1 o)) e
 ·by_cases k1 : c1 = c <;> by_cases k2 : c2 = c
  ·rw [k1,k2]
  ·subst k1
   rw [hY] at q1
   injection q1 with q1
   rw [eA _ _ k2] at q2
   exact absurd q1.symm (nK c2 b' q2)
  ·subst k2
   rw [hY] at q2
   injection q2 with q2
   rw [eA _ _ k1] at q1
   exact absurd q2.symm (nK c1 b' q1)
  ·rw [eA _ _ k1] at q1
   rw [eA _ _ k2] at q2
   exact h.inj c1 c2 b' q1 q2
theorem bQ.grow {ad : cQ} {c : nP} (hn : ad c = none) (o : Option Nat) : bQ ad (eL ad c o):=fun c' b e _=>by
 rw [eA _ _ (by rintro rfl; rw [hn] at e; cases e)]
 exact e
abbrev KZ : TypeId:=94
abbrev zn : TypeId:=194
abbrev uA : TypeId:=105
abbrev uB : TypeId:=190
structure Nm (ad : cQ) (p pb pc pr pm pw : Nat) : Prop where
 w : ad .w = some p
 b : ad .ah = some pb
 c : ad .mc = some pc
 r : ad .mr = some pr
 m : ad .mb = some pm
 h : ad .mw = some pw
theorem WI.has {aC bx : aa} {ad : cQ} {s : IW} (h : WI aC ad s bx) (c : nP) (h1 : qN s c) (h2 : ¬ nE s c) : ∃ b,ad c = some b:=by
 cases hc : ad c with
 | some b=>exact ⟨b,rfl⟩
 | none=>exact absurd (h.none_ c hc h1) h2
theorem WI.names {aC bx : aa} {ad : cQ} {s : IW} (h : WI aC ad s bx) {p : Nat} (hp : ad .w = some p) : ∃ pb pc pr pm pw,Nm ad p pb pc pr pm pw:=by
 obtain ⟨pb,h1⟩:=h.has .ah trivial id
 obtain ⟨pc,h2⟩:=h.has .mc trivial id
 obtain ⟨pr,h3⟩:=h.has .mr trivial id
 obtain ⟨pm,h4⟩:=h.has .mb trivial id
 obtain ⟨pw,h5⟩:=h.has .mw trivial id
 exact ⟨pb,pc,pr,pm,pw,hp,h1,h2,h3,h4,h5⟩
theorem Nm.ch {ad ad' : cQ} {p pb pc pr pm pw : Nat} (h : Nm ad p pb pc pr pm pw) (hk : bQ ad ad') : Nm ad' p pb pc pr pm pw :=
 ⟨hk _ _ h.w rfl,hk _ _ h.b rfl,hk _ _ h.c rfl,hk _ _ h.r rfl,hk _ _ h.m rfl,hk _ _ h.h rfl⟩
theorem dE {ad : cQ} {c : nP} {b : Nat} (h : ad c = some b) : nD ad c = b:=by unfold nD; rw [h]; rfl
theorem Nm.iw {ad : cQ} {p pb pc pr pm pw : Nat} (h : Nm ad p pb pc pr pm pw) (s : IW) : cont ad s .w = .row KZ 13 [il pb pc pr pm pw (j3 (ad .ord) 1 s.ord.length) (j3 (ad .aG) 2 s.aG.length) s]:=by
 unfold cont HN
 rw [dE h.b,dE h.c,dE h.r,dE h.m,dE h.h]
theorem WI.row {aC bx : aa} {ad : cQ} {s : IW} (h : WI aC ad s bx) {p pb pc pr pm pw : Nat} (hn : Nm ad p pb pc pr pm pw) : bx p = some (.row KZ 13 [il pb pc pr pm pw (j3 (ad .ord) 1 s.ord.length) (j3 (ad .aG) 2 s.aG.length) s]):=by
 rw [(h.at_ .w p hn.w).2.1,hn.iw]
theorem WI.mE {aC bx : aa} {ad : cQ} {s : IW} (h : WI aC ad s bx) {p pb pc pr pm pw : Nat} (hn : Nm ad p pb pc pr pm pw) : bx pb = some (.row zn 6 (s.ah.mapIdx (ib ad))):=(h.at_ .ah pb hn.b).2.1
theorem WI.Zm {aC bx : aa} {ad : cQ} {s : IW} (h : WI aC ad s bx) {p pb pc pr pm pw : Nat} (hn : Nm ad p pb pc pr pm pw) : bx pc = some (.map (jR (s.ak.map (·.num)) fun i=>.ptr (nD ad (.cn i)) 10 0 0)):=(h.at_ .mc pc hn.c).2.1
theorem WI.Wc {aC bx : aa} {ad : cQ} {s : IW} (h : WI aC ad s bx) {p pb pc pr pm pw : Nat} (hn : Nm ad p pb pc pr pm pw) : bx pr = some (.map (jR (s.aD.map (·.1)) fun i=>.ptr (nD ad (.rq i)) 5 0 0)):=(h.at_ .mr pr hn.r).2.1
theorem WI.Q9 {aC bx : aa} {ad : cQ} {s : IW} (h : WI aC ad s bx) {p pb pc pr pm pw : Nat} (hn : Nm ad p pb pc pr pm pw) : bx pm = some (.map (fU s.busy nN)):=(h.at_ .mb pm hn.m).2.1
theorem WI.mwR {aC bx : aa} {ad : cQ} {s : IW} (h : WI aC ad s bx) {p pb pc pr pm pw : Nat} (hn : Nm ad p pb pc pr pm pw) : bx pw = some (.map (fU s.nj iI)):=(h.at_ .mw pw hn.h).2.1
theorem WI.E2 {aC bx : aa} {ad : cQ} {s : IW} (h : WI aC ad s bx) {i : Nat} (hi : i < s.ak.length) : ∃ b,ad (.cn i) = some b /\ bx b = some (.row uA 10 [pS s.ak[i]]):=by
 obtain ⟨b,hb⟩:=h.has (.cn i) hi id
 refine ⟨b,hb,?_⟩
 rw [(h.at_ _ b hb).2.1]
 simp [cont,hi]
theorem WI.La {aC bx : aa} {ad : cQ} {s : IW} (h : WI aC ad s bx) {i : Nat} (hi : i < s.aD.length) : ∃ b,ad (.rq i) = some b /\ bx b = some (.row uB 5 [sd s.aD[i].2]):=by
 obtain ⟨b,hb⟩:=h.has (.rq i) hi id
 refine ⟨b,hb,?_⟩
 rw [(h.at_ _ b hb).2.1]
 simp [cont,hi]
theorem WI.Gp {aC bx : aa} {ad : cQ} {s : IW} (h : WI aC ad s bx) : bd bx ni 2 (s.aG.map bH) (j3 (ad .aG) 2 s.aG.length):=by
 simpa using h.sl (c:=.aG) rfl trivial rfl (fun h=>by simpa [nE] using h)
theorem WI.Wd {aC bx : aa} {ad : cQ} {s : IW} (h : WI aC ad s bx) : bd bx 2 1 (s.ord.map iI) (j3 (ad .ord) 1 s.ord.length):=by
 simpa using h.sl (c:=.ord) rfl trivial rfl (fun h=>by simpa [nE] using h)
theorem WI.Jr {aC bx : aa} {ad : cQ} {s : IW} (h : WI aC ad s bx) {i : Nat} (hi : i < s.ah.length) : bd bx 2 1 (s.ah[i].waits.map iI) (j3 (ad (.ik i)) 1 s.ah[i].waits.length):=by
 have:=h.sl (c:=.ik i) rfl hi rfl (fun h=>by simpa [nE] using h)
 simpa [hi] using this
theorem WI.world {aC bx : aa} {ad : cQ} {s : IW} (h : WI aC ad s bx) {p pb pc pr pm pw : Nat} (hn : Nm ad p pb pc pr pm pw) (now at_ : Int) (stop : Bool) :
 WI aC ad { s with now:=now,at_:=at_,stop:=stop } (aA bx p (some (.row KZ 13 [il pb pc pr pm pw (j3 (ad .ord) 1 s.ord.length) (j3 (ad .aG) 2 s.aG.length) { s with now:=now,at_:=at_,stop:=stop }]))):=by
 have:=h.put hn.w { s with now:=now,at_:=at_,stop:=stop } (fun c' b' hc _=>by cases c' <;> first | rfl | exact absurd rfl hc) (fun c'=>by cases c' <;> exact Iff.rfl) (fun c' o _=>by cases c' <;> exact o)
 rwa [hn.iw] at this
theorem WI.fault {aC bx bx' : aa} {ad : cQ} {s : IW} (h : WI aC ad s bx) {p pb pc pr pm pw : Nat} (hn : Nm ad p pb pc pr pm pw) (f : Int × Int) {v' : V} (hm : eE (j3 (ad .aG) 2 s.aG.length) v' bx bx') (hv : bd bx' ni 2 ((s.aG ++ [f]).map bH) v') :
 WI aC (eL ad .aG (qp v')) { s with aG:=s.aG ++ [f] } (aA bx' p (some (.row KZ 13 [il pb pc pr pm pw (j3 (ad .ord) 1 s.ord.length) v' { s with aG:=s.aG ++ [f] }]))):=by
 have:=h.slice (c:=.aG) (hd:=.w) hn.w (by decide) { s with aG:=s.aG ++ [f] } hm hv rfl trivial (fun e=>by simp at e) (fun c' b' h1 h2 _=>by cases c' <;> first | rfl | exact absurd rfl h1 | exact absurd rfl h2 | (simp [cont,nD,eL,ib])) (fun c'=>by cases c' <;> exact Iff.rfl) (fun c' hc o _=>by cases c' <;> first | exact o | exact absurd rfl hc)
 rw [(hn.ch (WI.ch rfl _)).iw] at this
 have e:=hv.j3
 rw [List.length_map] at e
 rw [eA _ _ (show nP.ord ≠ nP.aG by decide),hY,<- e] at this
 exact this
theorem WI.NY {aC bx bx' : aa} {ad : cQ} {s : IW} (h : WI aC ad s bx) {p pb pc pr pm pw : Nat} (hn : Nm ad p pb pc pr pm pw) (k : Int) {v' : V} (hm : eE (j3 (ad .ord) 1 s.ord.length) v' bx bx') (hv : bd bx' 2 1 ((s.ord ++ [k]).map iI) v') :
 WI aC (eL ad .ord (qp v')) { s with ord:=s.ord ++ [k] } (aA bx' p (some (.row KZ 13 [il pb pc pr pm pw v' (j3 (ad .aG) 2 s.aG.length) { s with ord:=s.ord ++ [k] }]))):=by
 have:=h.slice (c:=.ord) (hd:=.w) hn.w (by decide) { s with ord:=s.ord ++ [k] } hm hv rfl trivial (fun e=>by simp at e) (fun c' b' h1 h2 _=>by cases c' <;> first | rfl | exact absurd rfl h1 | exact absurd rfl h2 | (simp [cont,nD,eL,ib])) (fun c'=>by cases c' <;> exact Iff.rfl) (fun c' hc o _=>by cases c' <;> first | exact o | exact absurd rfl hc)
 rw [(hn.ch (WI.ch rfl _)).iw] at this
 have e:=hv.j3
 rw [List.length_map] at e
 rw [eA _ _ (show nP.aG ≠ nP.ord by decide),hY,<- e] at this
 exact this
theorem Js {l : List IB} {ad : cQ} {i : Nat} (x : IB) : (l.mapIdx (ib ad)).set i (ib ad i x) = (l.set i x).mapIdx (ib ad):=by
 apply List.ext_getElem?
 intro j
 rw [List.getElem?_set,List.getElem?_mapIdx,List.getElem?_mapIdx,List.getElem?_set]
 by_cases e : i = j
 ·subst e; simp
 ·simp [e]
theorem Gq {l : List IB} {ad : cQ} {i : Nat} (x : IB) {v : V} (hv : v = j3 (qp v) 1 x.waits.length) : (l.mapIdx (ib ad)).set i (kK v x) = (l.set i x).mapIdx (ib (eL ad (.ik i) (qp v))):=by
 apply List.ext_getElem?
 intro j
 rw [List.getElem?_set,List.getElem?_mapIdx,List.getElem?_mapIdx,List.getElem?_set]
 by_cases e : i = j
 ·subst e
  simp [ib,eL,<- hv]
 ·simp only [e,if_false]
  cases l[j]? with
  | none=>rfl
  | some y =>
    have : nP.ik j ≠ nP.ik i:=fun h=>e (by injection h with h; exact h.symm)
    simp [ib,eL,this]
theorem WI.aO {aC bx : aa} {ad : cQ} {s : IW} (h : WI aC ad s bx) {p pb pc pr pm pw : Nat} (hn : Nm ad p pb pc pr pm pw) (i : Nat) (x : IB) (hx : ∀ b,s.ah[i]? = some b -> x.waits = b.waits) :
 WI aC ad { s with ah:=s.ah.set i x } (aA bx pb (some (.row zn 6 ((s.ah.mapIdx (ib ad)).set i (ib ad i x))))):=by
 have hw : ∀ j,((s.ah.set i x).getD j fZ).waits = (s.ah.getD j fZ).waits:=by
  intro j
  rw [List.getD_eq_getElem?_getD,List.getD_eq_getElem?_getD,List.getElem?_set]
  by_cases e : i = j
  ·subst e
   cases hb : s.ah[i]? with
   | none =>
     have : ¬ i < s.ah.length:=fun hi=>by rw [List.getElem?_eq_getElem hi] at hb; cases hb
     simp [this]
   | some b =>
     have:=(List.getElem?_eq_some_iff.1 hb).1
     simp [this,hx b hb]
  ·simp [e]
 have:=h.put hn.b { s with ah:=s.ah.set i x } (fun c' b' hc _=>by
  cases c' <;> first | rfl | exact absurd rfl hc | (simp [cont,HN,il]; done) | (simp only [cont,hw])) (fun c'=>by cases c' <;> simp [qN]) (fun c' o _=>by
  cases c' <;> first | exact o | (simp only [nE,hw] at o ⊢; exact o))
 rw [Js]
 exact this
theorem WI.setW {aC bx bx' : aa} {ad : cQ} {s : IW} (h : WI aC ad s bx) {p pb pc pr pm pw : Nat} (hn : Nm ad p pb pc pr pm pw) {i : Nat} (hi : i < s.ah.length) (l : List Int) {v' : V} (hm : eE (j3 (ad (.ik i)) 1 s.ah[i].waits.length) v' bx bx') (hv : bd bx' 2 1 (l.map iI) v') :
 WI aC (eL ad (.ik i) (qp v')) { s with ah:=s.ah.set i { s.ah[i] with waits:=l } } (aA bx' pb (some (.row zn 6 ((s.ah.mapIdx (ib ad)).set i (kK v' { s.ah[i] with waits:=l }))))):=by
 have hw : ∀ j,j ≠ i -> (s.ah.set i { s.ah[i] with waits:=l }).getD j fZ = s.ah.getD j fZ:=by
  intro j hj
  rw [List.getD_eq_getElem?_getD,List.getD_eq_getElem?_getD,List.getElem?_set,if_neg (Ne.symm hj)]
 have e:=hv.j3
 simp only [List.length_map] at e
 have:=h.slice (c:=.ik i) (hd:=.ah) hn.b (by simp) { s with ah:=s.ah.set i { s.ah[i] with waits:=l } } hm hv (by simp [cont,hi]) (by simpa [qN] using hi) (fun e=>by simpa [nE,hi] using e) (fun c' b' h1 h2 _=>by
  cases c' with
  | ik j=>have hj : j ≠ i:=fun e=>h1 (by rw [e]); simp only [cont,hw j hj]
  | ah=>exact absurd rfl h2
  | _=>first | rfl | (simp [cont,HN,il,nD,eL])) (fun c'=>by cases c' <;> simp [qN]) (fun c' hc o _=>by
  cases c' with
  | ik j=>have hj : j ≠ i:=fun e=>hc (by rw [e]); simp only [nE,hw j hj] at o ⊢; exact o
  | _=>exact o)
 rw [Gq _ (by exact e)]
 exact this
theorem WI.ba {aC bx : aa} {ad : cQ} {s : IW} (h : WI aC ad s bx) {i b : Nat} (hi : i < s.ak.length) (hb : ad (.cn i) = some b) (c : IC) (hc : c.num = s.ak[i].num) :
 WI aC ad { s with ak:=s.ak.set i c } (aA bx b (some (.row uA 10 [pS c]))):=by
 have hm : (s.ak.set i c).map (·.num) = s.ak.map (·.num):=by
  apply List.ext_getElem?
  intro j
  rw [List.getElem?_map,List.getElem?_map,List.getElem?_set]
  by_cases e : i = j
  ·subst e; simp [hi,hc]
  ·simp [e]
 have hw : ∀ j,j ≠ i -> (s.ak.set i c).getD j kv = s.ak.getD j kv:=by
  intro j hj
  rw [List.getD_eq_getElem?_getD,List.getD_eq_getElem?_getD,List.getElem?_set,if_neg (Ne.symm hj)]
 have:=h.put hb { s with ak:=s.ak.set i c } (fun c' b' gP _=>by
  cases c' with
  | cn j=>have hj : j ≠ i:=fun e=>gP (by rw [e]); simp only [cont,hw j hj]
  | mc=>simp only [cont,hm]
  | _=>first | rfl | (simp [cont,HN,il])) (fun c'=>by cases c' <;> simp [qN]) (fun c' o _=>by cases c' <;> exact o)
 have e : cont ad { s with ak:=s.ak.set i c } (.cn i) = .row uA 10 [pS c]:=by simp [cont,hi]
 rwa [e] at this
theorem WI.dO {aC bx : aa} {ad : cQ} {s : IW} (h : WI aC ad s bx) {i b : Nat} (hi : i < s.aD.length) (hb : ad (.rq i) = some b) (r : IR) :
 WI aC ad { s with aD:=s.aD.set i (s.aD[i].1,r) } (aA bx b (some (.row uB 5 [sd r]))):=by
 have hm : (s.aD.set i (s.aD[i].1,r)).map (·.1) = s.aD.map (·.1):=by
  apply List.ext_getElem?
  intro j
  rw [List.getElem?_map,List.getElem?_map,List.getElem?_set]
  by_cases e : i = j
  ·subst e; simp [hi]
  ·simp [e]
 have hw : ∀ j,j ≠ i -> (s.aD.set i (s.aD[i].1,r)).getD j (0,nO) = s.aD.getD j (0,nO):=by
  intro j hj
  rw [List.getD_eq_getElem?_getD,List.getD_eq_getElem?_getD,List.getElem?_set,if_neg (Ne.symm hj)]
 have:=h.put hb { s with aD:=s.aD.set i (s.aD[i].1,r) } (fun c' b' gP _=>by
  cases c' with
  | rq j=>have hj : j ≠ i:=fun e=>gP (by rw [e]); simp only [cont,hw j hj]
  | mr=>simp only [cont,hm]
  | _=>first | rfl | (simp [cont,HN,il])) (fun c'=>by cases c' <;> simp [qN]) (fun c' o _=>by cases c' <;> exact o)
 have e : cont ad { s with aD:=s.aD.set i (s.aD[i].1,r) } (.rq i) = .row uB 5 [sd r]:=by simp [cont,hi]
 rwa [e] at this
theorem WI.x8 {aC bx : aa} {ad : cQ} {s : IW} (h : WI aC ad s bx) {p pb pc pr pm pw : Nat} (hn : Nm ad p pb pc pr pm pw) (l : List (Int × IP)) :
 WI aC ad { s with busy:=l } (aA bx pm (some (.map (fU l nN)))) :=
 h.put hn.m { s with busy:=l } (fun c' b' gP _=>by cases c' <;> first | rfl | exact absurd rfl gP) (fun c'=>by cases c' <;> exact Iff.rfl) (fun c' o _=>by cases c' <;> exact o)
theorem WI.NZ {aC bx : aa} {ad : cQ} {s : IW} (h : WI aC ad s bx) {p pb pc pr pm pw : Nat} (hn : Nm ad p pb pc pr pm pw) (l : List (Int × Int)) :
 WI aC ad { s with nj:=l } (aA bx pw (some (.map (fU l iI)))) :=
 h.put hn.h { s with nj:=l } (fun c' b' gP _=>by cases c' <;> first | rfl | exact absurd rfl gP) (fun c'=>by cases c' <;> exact Iff.rfl) (fun c' o _=>by cases c' <;> exact o)
theorem WI.beyond {aC bx : aa} {ad : cQ} {s : IW} (h : WI aC ad s bx) (c : nP) (hc : ¬ qN s c) : ad c = none:=by
 cases e : ad c with
 | none=>rfl
 | some b=>exact absurd (h.at_ c b e).2.2 hc
theorem WI.Oa {aC bx : aa} {ad : cQ} {s : IW} (h : WI aC ad s bx) {p pb pc pr pm pw : Nat} (hn : Nm ad p pb pc pr pm pw) (c : IC) {b : Nat} (hb : bx b = none) :
 WI aC (eL ad (.cn s.ak.length) (some b)) { s with ak:=s.ak ++ [c] } (aA (aA bx b (some (.row uA 10 [pS c]))) pc (some (.map (jR (s.ak.map (·.num)) (fun i=>.ptr (nD ad (.cn i)) 10 0 0) ++ [(iI c.num,.ptr b 10 0 0)])))) /\ bQ ad (eL ad (.cn s.ak.length) (some b)):=by
 have j7 : ad (.cn s.ak.length) = none:=h.beyond _ (by simp [qN])
 have hw : ∀ j,j < s.ak.length -> (s.ak ++ [c]).getD j kv = s.ak.getD j kv:=by
  intro j hj
  rw [List.getD_eq_getElem?_getD,List.getD_eq_getElem?_getD,List.getElem?_append_left hj]
 have:=h.grow (c:=.cn s.ak.length) (hd:=.mc) (hb:=pc) (b:=b) hn.c (by simp) j7 hb { s with ak:=s.ak ++ [c] } (by simp [qN]) (fun c' b' h1 h2 e=>by
  cases c' with
  | cn j=>have hj:=(h.at_ _ _ e).2.2; simp only [cont,hw j hj]
  | mc=>exact absurd rfl h2
  | _=>first | rfl | (simp [cont,HN,il,nD,eL,ib])) (fun c' h1=>by
  cases c' with
  | cn j=>have hj : j ≠ s.ak.length:=fun e=>h1 (by rw [e]); simp [qN]; omega
  | _=>simp [qN]) (fun c' _ o _=>by cases c' <;> exact o)
 refine ⟨?_,bQ.grow j7 _⟩
 have e1 : cont (eL ad (.cn s.ak.length) (some b)) { s with ak:=s.ak ++ [c] } (.cn s.ak.length) = .row uA 10 [pS c]:=by simp [cont]
 have e2 : cont (eL ad (.cn s.ak.length) (some b)) { s with ak:=s.ak ++ [c] } .mc = .map (jR (s.ak.map (·.num)) (fun i=>.ptr (nD ad (.cn i)) 10 0 0) ++ [(iI c.num,.ptr b 10 0 0)]):=by
  rw [zm]
  simp only [cont,List.map_append,List.map_cons,List.map_nil,List.length_map]
  congr 2
  funext i
  by_cases e : i = s.ak.length
  ·subst e; simp [af,nD,eL]
  ·have : nP.cn i ≠ nP.cn s.ak.length:=fun h=>e (by injection h)
   simp [ae _ _ e,nD,eL,e]
 rwa [e1,e2] at this
theorem WI.ac5 {aC bx : aa} {ad : cQ} {s : IW} (h : WI aC ad s bx) {p pb pc pr pm pw : Nat} (hn : Nm ad p pb pc pr pm pw) (k : Int) (r : IR) {b : Nat} (hb : bx b = none) :
 WI aC (eL ad (.rq s.aD.length) (some b)) { s with aD:=s.aD ++ [(k,r)] } (aA (aA bx b (some (.row uB 5 [sd r]))) pr (some (.map (jR (s.aD.map (·.1)) (fun i=>.ptr (nD ad (.rq i)) 5 0 0) ++ [(iI k,.ptr b 5 0 0)])))) /\ bQ ad (eL ad (.rq s.aD.length) (some b)):=by
 have j7 : ad (.rq s.aD.length) = none:=h.beyond _ (by simp [qN])
 have hw : ∀ j,j < s.aD.length -> (s.aD ++ [(k,r)]).getD j (0,nO) = s.aD.getD j (0,nO):=by
  intro j hj
  rw [List.getD_eq_getElem?_getD,List.getD_eq_getElem?_getD,List.getElem?_append_left hj]
 have:=h.grow (c:=.rq s.aD.length) (hd:=.mr) (hb:=pr) (b:=b) hn.r (by simp) j7 hb { s with aD:=s.aD ++ [(k,r)] } (by simp [qN]) (fun c' b' h1 h2 e=>by
  cases c' with
  | rq j=>have hj:=(h.at_ _ _ e).2.2; simp only [cont,hw j hj]
  | mr=>exact absurd rfl h2
  | _=>first | rfl | (simp [cont,HN,il,nD,eL,ib])) (fun c' h1=>by
  cases c' with
  | rq j=>have hj : j ≠ s.aD.length:=fun e=>h1 (by rw [e]); simp [qN]; omega
  | _=>simp [qN]) (fun c' _ o _=>by cases c' <;> exact o)
 refine ⟨?_,bQ.grow j7 _⟩
 have e1 : cont (eL ad (.rq s.aD.length) (some b)) { s with aD:=s.aD ++ [(k,r)] } (.rq s.aD.length) = .row uB 5 [sd r]:=by simp [cont]
 have e2 : cont (eL ad (.rq s.aD.length) (some b)) { s with aD:=s.aD ++ [(k,r)] } .mr = .map (jR (s.aD.map (·.1)) (fun i=>.ptr (nD ad (.rq i)) 5 0 0) ++ [(iI k,.ptr b 5 0 0)]):=by
  rw [zm]
  simp only [cont,List.map_append,List.map_cons,List.map_nil,List.length_map]
  congr 2
  funext i
  by_cases e : i = s.aD.length
  ·subst e; simp [af,nD,eL]
  ·have : nP.rq i ≠ nP.rq s.aD.length:=fun h=>e (by injection h)
   simp [ae _ _ e,nD,eL,e]
 rwa [e1,e2] at this
def de (aC : aa) (ad : cQ) (z : IW × Bool) (r : V) (bx' : aa) : Prop:=r = .bool z.2 /\ ∃ ad',bQ ad ad' /\ WI aC ad' z.1 bx'
def nQ (aC : aa) (ad : cQ) (z : IW) (r : V) (bx' : aa) : Prop:=r = .dh [] /\ ∃ ad',bQ ad ad' /\ WI aC ad' z bx'
theorem de.of {aC bx' : aa} {ad : cQ} {z z' : IW × Bool} {r : V} (hz : z = z') (h : de aC ad z' r bx') : de aC ad z r bx':=hz ▸ h
theorem nQ.of {aC bx' : aa} {ad : cQ} {z z' : IW} {r : V} (hz : z = z') (h : nQ aC ad z' r bx') : nQ aC ad z r bx':=hz ▸ h
def IW.fault (s : IW) (k : Int) : IW:={ s with aG:=s.aG ++ [(k,s.at_)] }
def IW.ai (s : IW) (c : Bool) (k : Int) : IW:=if c then s.fault k else s
def iE (s : IW) (call : Int) : IP:=match jS s.busy call with | some j=>(s.busy.getD j (0,dB)).2 | none=>dB
def jx (s : IW) (call : Int) : Int:=match jS s.nj call with | some j=>(s.nj.getD j (0,0)).2 | none=>0
def gE (s : IW) (x : Ev) : Bool:=(iE s x.call).waits && decide (jx s x.call = x.bk)
def fF (s : IW) (call : Int) : Option Nat:=match jS s.aD call with
 | some i=>if (s.aD.getD i (0,nO)).2.ended || (jS s.busy call).isSome then none else some i
 | none=>none
def uC (ad : cQ) (o : Option Nat) : V:=match o with | some i=>.ptr (nD ad (.rq i)) 5 0 0 | none=>.eJ
def kL (ad : cQ) (o : Option Nat) : V:=match o with | some i=>.ptr (nD ad (.cn i)) 10 0 0 | none=>.eJ
def oF (s : IW) (x : Ev) : Bool:=gE s x || (match fF s x.call with | some i=>decide ((s.aD.getD i (0,nO)).2.at_ = x.bk) | none=>false)
def fV (s : IW) (x : Ev) : Option Nat:=match (s.ak.map (·.num)).findIdx? (· == x.conn) with
 | some i=>if (s.ak.getD i kv).st = 5 \/ (s.ak.getD i kv).bk ≠ x.bk then none else some i
 | none=>none
def lq (s : IW) (x : Ev) : Option Nat:=match fV s x with
 | some i=>if (s.ak.getD i kv).st = 1 /\ (s.ak.getD i kv).call = x.call then some i else none
 | none=>none
theorem vm (s : IW) (call : Int) : (fg (.int .i64 call) (fU s.busy nN) 0 = some none /\ iE s call = dB) \/ ∃ j,fg (.int .i64 call) (fU s.busy nN) 0 = some (some (j,nN (iE s call))):=by
 rw [iD call nN (0,dB)]
 unfold iE
 cases jS s.busy call with
 | none=>exact .inl ⟨rfl,rfl⟩
 | some j=>exact .inr ⟨0 + j,rfl⟩
theorem zo (s : IW) (call : Int) : (fg (.int .i64 call) (fU s.nj iI) 0 = some none /\ jx s call = 0) \/ ∃ j,fg (.int .i64 call) (fU s.nj iI) 0 = some (some (j,iI (jx s call))):=by
 rw [iD call iI (0,0)]
 unfold jx
 cases jS s.nj call with
 | none=>exact .inl ⟨rfl,rfl⟩
 | some j=>exact .inr ⟨0 + j,rfl⟩
theorem se (s : IW) (call : Int) (ad : cQ) : fg (.int .i64 call) (jR (s.aD.map (·.1)) fun i=>.ptr (nD ad (.rq i)) 5 0 0) 0 = some ((jS s.aD call).map fun j=>(j,.ptr (nD ad (.rq j)) 5 0 0)):=by
 rw [qo]
 unfold jS
 rw [List.findIdx?_map]
 simp only [Nat.zero_add]
 rfl
theorem sf (s : IW) (n : Int) (ad : cQ) : fg (.int .i64 n) (jR (s.ak.map (·.num)) fun i=>.ptr (nD ad (.cn i)) 10 0 0) 0 = some (((s.ak.map (·.num)).findIdx? (· == n)).map fun j=>(j,.ptr (nD ad (.cn j)) 10 0 0)):=by
 rw [qo]
 simp only [Nat.zero_add]
theorem Lb {s : IW} {n : Int} {i : Nat} (h : (s.ak.map (·.num)).findIdx? (· == n) = some i) : ∃ hi : i < s.ak.length,s.ak[i].num = n:=by
 rw [List.findIdx?_eq_some_iff_getElem] at h
 obtain ⟨hi,h1,_⟩:=h
 have yh : i < s.ak.length:=by simpa using hi
 exact ⟨yh,by simpa using h1⟩
theorem mF {s : IW} {x : Ev} {i : Nat} (h : fV s x = some i) : ∃ hi : i < s.ak.length,s.ak[i].num = x.conn /\ s.ak[i].st ≠ 5 /\ s.ak[i].bk = x.bk:=by
 unfold fV at h
 split at h
 ·rename_i j hj
  obtain ⟨hi,h1⟩:=Lb hj
  split at h
  ·cases h
  ·rename_i hc
   injection h with h
   subst h
   obtain ⟨c1,c2⟩:=not_or.1 hc
   simp only [List.getD_eq_getElem?_getD,List.getElem?_eq_getElem hi,Option.getD_some] at c1 c2
   exact ⟨hi,h1,c1,Decidable.byContradiction c2⟩
 ·cases h
theorem dq {aC bx : aa} {ad : cQ} {s : IW} (h : WI aC ad s bx) {p : Nat} (hp : ad .w = some p) (kind : Int) (hl : s.aG.length <= 100000) :
 aw prog 112 [.ptr p 13 0 0,.int .i64 kind] bx (nQ aC ad (s.fault kind)):=by
 refine Nj fun hf=>?_
 obtain ⟨pb,pc,pr,pm,pw,hn⟩:=h.names hp
 have aq:=h.row hn
 unfold il at aq
 have tY:=h.Gp
 simp [go_sem,V8,hf,aq,iI]
 refine ey (.agg #[.int .i64 0,.int .i64 0]) tY hf (news:=[bH (kind,s.at_)]) vh KQ (by simp [go_sem,bP,bH,iI]) Ca (by simp [go_sem]) (by decide) (by simp [KS]; omega) (by simp; omega) (by simp [go_sem]) fun v' bx' ha hm _=>?_
 have fA : bd bx' ni 2 ((s.aG ++ [(kind,s.at_)]).map bH) v':=by simpa using ha
 have hw:=h.fault hn (kind,s.at_) hm fA
 have qA : bx' p = _:=(hm.other (by rw [aq]; simp) (tY.ne aq (by decide))).trans aq
 simp [go_sem,qA,ha.strip,ha.live,ha.cells,ha.okV,hm.fin,iI]
 exact aj (by simp [go_sem]) ⟨by simp [go_sem],_,WI.ch rfl _,hw⟩
theorem x9 {aC bx : aa} {ad : cQ} {s : IW} (h : WI aC ad s bx) {p : Nat} (hp : ad .w = some p) (x : Ev) :
 ay prog 113 [.ptr p 13 0 0,aX x] bx (.bool (gE s x)):=by
 refine Nk fun hf=>?_
 obtain ⟨pb,pc,pr,pm,pw,hn⟩:=h.names hp
 have aq:=h.row hn
 unfold il at aq
 have tZ:=h.Q9 hn
 have Jt:=h.mwR hn
 unfold gE
 rcases vm s x.call with ⟨f1,e1⟩ | ⟨j1,f1⟩
 ·rw [e1]
  simp [go_sem,FW,hf,aq,aX,iI,tZ,f1]
  exact az (by simp [go_sem]) ⟨by simp [go_sem,dB],rfl⟩
 ·cases DN : (iE s x.call).waits
  ·simp [go_sem,FW,hf,aq,aX,iI,tZ,f1,nN,DN]
   exact az (by simp [go_sem]) ⟨by simp [go_sem],rfl⟩
  ·rcases zo s x.call with ⟨f2,e2⟩ | ⟨j2,f2⟩
   ·rw [e2]
    simp [go_sem,FW,hf,aq,aX,iI,tZ,f1,nN,DN,Jt,f2]
    exact az (by simp [go_sem]) ⟨by simp [go_sem],rfl⟩
   ·simp [go_sem,FW,hf,aq,aX,iI,tZ,f1,nN,DN,Jt,f2]
    exact az (by simp [go_sem]) ⟨by simp [go_sem],rfl⟩
theorem xA {aC bx : aa} {ad : cQ} {s : IW} (h : WI aC ad s bx) {p : Nat} (hp : ad .w = some p) (call : Int) :
 ay prog 111 [.ptr p 13 0 0,.int .i64 call] bx (uC ad (fF s call)):=by
 refine Ni fun hf=>?_
 obtain ⟨pb,pc,pr,pm,pw,hn⟩:=h.names hp
 have aq:=h.row hn
 unfold il at aq
 have uD:=h.Wc hn
 have tZ:=h.Q9 hn
 have f1:=se s call ad
 have f2:=iD call nN (0,dB) s.busy 0
 unfold fF
 cases h1 : jS s.aD call with
 | none =>
   rw [h1] at f1
   simp only [Option.map_none] at f1
   cases h2 : jS s.busy call <;> rw [h2] at f2 <;> simp only [Option.map_none,Option.map_some] at f2
   ·simp [go_sem,Jf,hf,aq,uD,tZ,f1,f2]
    intro b hb
    exact bC (bx:=bx) (by simp [go_sem]) (pB hb _) ⟨by simp [go_sem,uC],rfl⟩
   ·simp [go_sem,Jf,hf,aq,uD,tZ,f1,f2,nN]
    intro b hb
    exact bC (bx:=bx) (by simp [go_sem]) (pB hb _) ⟨by simp [go_sem,uC],rfl⟩
 | some i =>
   rw [h1] at f1
   simp only [Option.map_some] at f1
   obtain ⟨hi,_⟩:=oE h1
   obtain ⟨b0,dD,lK⟩:=h.La hi
   rw [dE dD] at f1
   have e1 : s.aD.getD i (0,nO) = s.aD[i]:=by simp [hi]
   simp only [e1]
   cases h2 : jS s.busy call <;> rw [h2] at f2 <;> simp only [Option.map_none,Option.map_some] at f2
   all_goals (
    simp [go_sem,Jf,hf,aq,uD,tZ,f1,f2,nN]
    intro b hb
    have bp : b0 ≠ b:=by rintro rfl; rw [lK] at hb; cases hb
    have lJ : ∀ z,aA bx b z b0 = some (.row uB 5 [sd s.aD[i].2]):=fun z=>by rw [ae _ _ bp,lK]
    cases he : s.aD[i].2.ended
    all_goals (
     simp [go_sem,lJ,sd,iI,he]
     exact bC (bx:=bx) (by simp [go_sem]) (pB hb _) ⟨by simp [go_sem,uC,dE dD],rfl⟩))
theorem Gr {aC bx : aa} {ad : cQ} {s : IW} (h : WI aC ad s bx) {p : Nat} (hp : ad .w = some p) (x : Ev) :
 ay prog 114 [.ptr p 13 0 0,aX x] bx (.bool (oF s x)):=by
 refine Nl fun hf=>?_
 have cR:=xA h hp x.call
 have cW:=x9 h hp x
 have evg : V.agg [V.int .i64 x.kind,V.int .i64 x.bk,V.int .i64 x.t,V.int .i64 x.call,V.int .i64 x.conn,V.int .i64 x.jQ,V.int .i64 x.n,V.bool x.yes] = aX x:=by simp [aX,iI]
 simp [go_sem,V9,hf,aX,iI]
 unfold oF
 cases hr : fF s x.call with
 | none =>
   rw [hr] at cR
   unfold uC at cR
   refine ag cR ?_
   simp [go_sem,hf]
   rw [evg]
   refine ag cW ?_
   cases gE s x
   all_goals (
    simp [go_sem,hf]
    exact az (by simp [go_sem]) ⟨by simp [go_sem],rfl⟩)
 | some i =>
   rw [hr] at cR
   unfold uC at cR
   have hi : i < s.aD.length:=by
    unfold fF at hr
    split at hr
    ·rename_i j hj
     split at hr
     ·cases hr
     ·injection hr with hr
      subst hr
      exact (oE hj).1
    ·cases hr
   obtain ⟨b0,dD,lK⟩:=h.La hi
   have e1 : s.aD.getD i (0,nO) = s.aD[i]:=by simp [hi]
   simp only [dE dD] at cR
   refine ag cR ?_
   simp [go_sem,hf]
   rw [evg]
   refine ag cW ?_
   cases gE s x
   ·by_cases c1 : s.aD[i].2.at_ = x.bk
    all_goals (
     simp [go_sem,hf,lK,sd,iI,c1,hi,aX]
     exact az (by simp [go_sem]) ⟨by simp [go_sem],rfl⟩)
   ·simp [go_sem,hf]
    exact az (by simp [go_sem]) ⟨by simp [go_sem],rfl⟩
theorem sg {aC bx : aa} {ad : cQ} {s : IW} (h : WI aC ad s bx) {p : Nat} (hp : ad .w = some p) (x : Ev) :
 ay prog 120 [.ptr p 13 0 0,aX x] bx (kL ad (fV s x)):=by
 refine Ns fun hf=>?_
 obtain ⟨pb,pc,pr,pm,pw,hn⟩:=h.names hp
 have aq:=h.row hn
 unfold il at aq
 have Lc:=h.Zm hn
 have f1:=sf s x.conn ad
 unfold fV
 cases h1 : (s.ak.map (·.num)).findIdx? (· == x.conn) with
 | none =>
   rw [h1] at f1
   simp only [Option.map_none] at f1
   simp [go_sem,Nr,hf,aq,Lc,f1,aX,iI]
   exact az (by simp [go_sem]) ⟨by simp [go_sem,kL],rfl⟩
 | some i =>
   rw [h1] at f1
   simp only [Option.map_some] at f1
   obtain ⟨hi,_⟩:=Lb h1
   obtain ⟨b0,dD,lK⟩:=h.E2 hi
   rw [dE dD] at f1
   have e1 : s.ak.getD i kv = s.ak[i]:=by simp [hi]
   simp only [e1]
   by_cases c1 : s.ak[i].st = 5 <;> by_cases c2 : s.ak[i].bk = x.bk <;> simp [go_sem,Nr,hf,aq,Lc,f1,aX,iI,lK,pS,c1,c2]
   all_goals exact az (by simp [go_sem]) ⟨by simp [go_sem,kL,dE dD,c1,c2],rfl⟩
theorem Gs {aC bx : aa} {ad : cQ} {s : IW} (h : WI aC ad s bx) {p : Nat} (hp : ad .w = some p) (x : Ev) :
 ay prog 121 [.ptr p 13 0 0,aX x] bx (kL ad (lq s x)):=by
 refine Nt fun hf=>?_
 have cT:=sg h hp x
 have evg : V.agg [V.int .i64 x.kind,V.int .i64 x.bk,V.int .i64 x.t,V.int .i64 x.call,V.int .i64 x.conn,V.int .i64 x.jQ,V.int .i64 x.n,V.bool x.yes] = aX x:=by simp [aX,iI]
 simp [go_sem,VC,hf,aX,iI]
 rw [evg]
 unfold lq
 cases hr : fV s x with
 | none =>
   rw [hr] at cT
   unfold kL at cT
   refine ag cT ?_
   simp [go_sem,hf]
   exact az (by simp [go_sem]) ⟨by simp [go_sem,kL],rfl⟩
 | some i =>
   rw [hr] at cT
   unfold kL at cT
   obtain ⟨hi,_⟩:=mF hr
   obtain ⟨b0,dD,lK⟩:=h.E2 hi
   have e1 : s.ak.getD i kv = s.ak[i]:=by simp [hi]
   simp only [dE dD] at cT
   simp only [e1]
   refine ag cT ?_
   by_cases c1 : s.ak[i].st = 1 <;> by_cases c2 : s.ak[i].call = x.call <;> simp [go_sem,hf,lK,pS,iI,c1,c2,aX]
   all_goals exact az (by simp [go_sem]) ⟨by simp [go_sem,kL,dE dD,c1,c2],rfl⟩
theorem tu {α : Type} (f : α -> V) : ∀ (l : List (Int × α)) (j : Nat),(fU l f).eraseIdx j = fU (l.eraseIdx j) f
 | [],j=>by simp [fU]
 | y :: l,0=>by simp [fU]
 | y :: l,j + 1=>by
   have:=tu f l j
   unfold fU at this ⊢
   simpa using this
theorem Gt {α : Type} (f : α -> V) (l : List (Int × α)) (j : Nat) (k : Int) (x : α) : (fU l f).set j (iI k,f x) = fU (l.set j (k,x)) f:=by
 unfold fU
 rw [List.map_set]
theorem Gu {α : Type} (f : α -> V) (l : List (Int × α)) (k : Int) (x : α) : fU l f ++ [(iI k,f x)] = fU (l ++ [(k,x)]) f:=by
 unfold fU
 rw [List.map_append]
 rfl
theorem Cu {α : Type} (l : List (Int × α)) (k : Int) (f : α -> V) (z : V) (x : α) : ∃ wo j v a c,kn (.int .i64 k) z (fU l f) = some (wo,j,v) /\ wo[j]? = some (a,c) /\ wo.set j (a,f x) = fU (jk l k x) f:=by
 cases hl : jS l k with
 | none =>
   refine ⟨fU l f ++ [(.int .i64 k,z)],(fU l f).length,z,.int .i64 k,z,?_,by simp,?_⟩
   ·unfold kn
    have : fg (.int .i64 k) (fU l f) 0 = some none:=by
     cases l with
     | nil=>rfl
     | cons y l'=>rw [iD k f y (y :: l') 0,hl]; rfl
    rw [this]
   ·unfold jk
    rw [hl]
    dsimp only
    rw [<- Gu]
    rw [List.set_append_right _ _ (Nat.le_refl _)]
    simp [iI]
 | some j =>
   obtain ⟨hj,hk⟩:=oE hl
   refine ⟨fU l f,j,f l[j].2,.int .i64 k,f l[j].2,?_,?_,?_⟩
   ·unfold kn
    have : fg (.int .i64 k) (fU l f) 0 = some (some (j,f l[j].2)):=by
     rw [iD k f l[j] l 0,hl]
     simp [hj]
    rw [this]
   ·unfold fU
    rw [List.getElem?_map,List.getElem?_eq_getElem hj,Option.map_some,hk]
    rfl
   ·unfold jk
    rw [hl]
    exact Gt f l j k x
def aW (s : IW) (x : Ev) (q : IP) : IW:=if q = dB then { s with busy:=nC s.busy x.call } else { s with busy:=jk s.busy x.call q,nj:=jk s.nj x.call x.bk }
theorem lr {aC bx : aa} {ad : cQ} {s : IW} (h : WI aC ad s bx) {p : Nat} (hp : ad .w = some p) (x : Ev) :
 aw prog 115 [.ptr p 13 0 0,aX x,nN dB] bx (nQ aC ad (aW s x dB)):=by
 refine FX fun hf=>?_
 obtain ⟨pb,pc,pr,pm,pw,hn⟩:=h.names hp
 have aq:=h.row hn
 unfold il at aq
 have tZ:=h.Q9 hn
 have f2:=iD x.call nN (0,dB) s.busy 0
 have hw:=h.x8 hn (nC s.busy x.call)
 unfold aW
 rw [if_pos rfl]
 unfold nC at hw ⊢
 cases h2 : jS s.busy x.call <;> rw [h2] at f2 hw <;> simp only [Option.map_none,Option.map_some] at f2 hw
 ·simp [go_sem,Jg,hf,aq,tZ,f2,aX,iI,nN,dB]
  exact aj (by simp [go_sem]) ⟨by simp [go_sem],ad,bQ.refl _,hw⟩
 ·simp [go_sem,Jg,hf,aq,tZ,f2,aX,iI,nN,dB]
  rw [tu]
  exact aj (by simp [go_sem]) ⟨by simp [go_sem],ad,bQ.refl _,hw⟩
theorem oG {aC bx : aa} {ad : cQ} {s : IW} (h : WI aC ad s bx) {p : Nat} (hp : ad .w = some p) (x : Ev) (q : IP) (hq : q = ⟨true,false,false⟩ \/ q = ⟨false,true,false⟩ \/ q = ⟨false,false,true⟩) :
 aw prog 115 [.ptr p 13 0 0,aX x,nN q] bx (nQ aC ad (aW s x q)):=by
 refine FX fun hf=>?_
 obtain ⟨pb,pc,pr,pm,pw,hn⟩:=h.names hp
 have aq:=h.row hn
 unfold il at aq
 have tZ:=h.Q9 hn
 have Jt:=h.mwR hn
 have bp : pw ≠ pm:=fun e=>by have:=h.inj .mw .mb pw hn.h (by rw [e]; exact hn.m); cases this
 obtain ⟨wo,j1,v1,a1,c1,We,hA1,hS1⟩:=Cu s.busy x.call nN (.agg [.bool false,.bool false,.bool false]) q
 obtain ⟨es2,j2,v2,a2,c2,Ld,hA2,hS2⟩:=Cu s.nj x.call iI (.int .i64 0) (x.bk : Int)
 have jd:=h.x8 hn (jk s.busy x.call q)
 have jN:=jd.NZ hn (jk s.nj x.call x.bk)
 have hz : aW s x q = { s with busy:=jk s.busy x.call q,nj:=jk s.nj x.call x.bk }:=by
  unfold aW
  rw [if_neg (by rcases hq with rfl | rfl | rfl <;> decide)]
 rw [hz]
 rcases hq with rfl | rfl | rfl
 all_goals (
  simp only [nN,iI] at hS1 hS2
  simp [go_sem,Jg,hf,aq,tZ,Jt,bp,ae,We,Ld,aX,iI,nN]
  refine ⟨by simp [jh,lj,mi,jE],?_⟩
  unfold kn at We Ld
  rw [We]
  dsimp only
  intro bs q1 g1 g2 g3
  refine ⟨j1,q1,rfl,g3,a1,⟨c1,hA1⟩,?_⟩
  rw [Ld]
  dsimp only
  intro bs2 q2 k1 k2 k3
  refine ⟨j2,q2,rfl,k3,a2,⟨c2,hA2⟩,?_⟩
  rw [hS1,hS2]
  exact aj (by simp [go_sem]) ⟨by simp [go_sem],ad,bQ.refl _,jN⟩)
def uE {α : Type} (p : α -> Bool) (l : List α) : Int:=match l.findIdx? p with
 | some i=>i
 | none=>-1
theorem zp {α : Type} {p : α -> Bool} {l : List α} {d : α} {i : Nat} (hi : i < l.length) (hJ : ∀ j,j < i -> p (l.getD j d) = false) (h : p l[i] = true) : uE p l = i:=by
 unfold uE
 have : l.findIdx? p = some i:=by
  rw [List.findIdx?_eq_some_iff_getElem]
  refine ⟨hi,h,fun j hj=>?_⟩
  have h1:=hJ j hj
  have h2 : j < l.length:=by omega
  simp [h2] at h1
  simp [h1]
 rw [this]
theorem vn {α : Type} {p : α -> Bool} {l : List α} {d : α} (hJ : ∀ j,j < l.length -> p (l.getD j d) = false) : uE p l = -1:=by
 unfold uE
 have : l.findIdx? p = none:=by
  rw [List.findIdx?_eq_none_iff]
  intro x hx
  obtain ⟨j,hj,rfl⟩:=List.getElem_of_mem hx
  have:=hJ j hj
  simpa [hj] using this
 rw [this]
theorem Cv {α : Type} (p : α -> Bool) (l : List α) : (uE p l = -1 /\ ∀ x,x ∈ l -> p x = false) \/ ∃ (i : Nat) (hi : i < l.length),uE p l = i /\ p l[i] = true /\ ∀ x,x ∈ l.take i -> p x = false:=by
 unfold uE
 cases h : l.findIdx? p with
 | none =>
   left
   rw [List.findIdx?_eq_none_iff] at h
   exact ⟨rfl,fun x hx=>by simpa using h x hx⟩
 | some i =>
   right
   rw [List.findIdx?_eq_some_iff_getElem] at h
   obtain ⟨hi,h1,h2⟩:=h
   refine ⟨i,hi,rfl,h1,fun x hx=>?_⟩
   obtain ⟨j,hj,rfl⟩:=List.getElem_of_mem hx
   rw [List.length_take] at hj
   rw [List.getElem_take]
   simpa using h2 j (by omega)
theorem filter_all {α : Type} {p : α -> Bool} {l : List α} (h : ∀ x,x ∈ l -> p x = false) : (l.filter fun x=>!p x) = l:=by
 rw [List.filter_eq_self]
 intro x hx
 simp [h x hx]
theorem zq (p : Int -> Bool) (g : FuncId) (caps : List V) (L : List Int) (hl : L.length <= 1000000) {b : Nat} {bx : aa} (hb : bx b = some (.row 2 1 (L.map (V.int .i64)))) (hp : ∀ x,x ∈ L -> ay prog g ((V.int .i64) x :: caps) bx (.bool (p x))) :
 ay prog 170 [.own b 1 0 L.length,.fn (.func g) caps] bx (.int .i64 (uE p L)):=by
 refine Gi fun hf=>?_
 simp [go_sem,NQ,hf]
 refine eP L.length (fun i=>p (L.getD i 0)) (fun i=>⟨19,bR [(0,.own b 1 0 L.length),(1,.fn (.func g) caps),(7,.int .i64 L.length),(8,.int .i64 i)],bx⟩) (al (by simp [go_sem])) (fun i hi hJ N hN=>?_) (fun hJ N=>?_)
 ·have hw:=bt (k:=i) (by omega)
  have hg : L.getD i 0 = L[i]:=by simp [hi]
  have hR : (L.map (V.int .i64))[i]? = some ((V.int .i64) L[i]):=by rw [List.getElem?_map,List.getElem?_eq_getElem hi]; rfl
  have hp1:=hp L[i] (List.getElem_mem hi)
  rw [hg] at hN
  simp [go_sem,xr,hi,hf,hw,hb,hR,List.length_map]
  refine ag hp1 ?_
  cases hpi : p L[i]
  ·simp [go_sem,hf,hw]
   exact hN _ hpi (al (by simp [go_sem]))
  ·simp [go_sem,hf,hw]
   refine az (by simp [go_sem]) ⟨?_,rfl⟩
   simp [go_sem,zp hi hJ hpi]
 ·simp [go_sem,xr,hf]
  refine az (by simp [go_sem]) ⟨?_,rfl⟩
  simp [go_sem,vn hJ]
theorem xB (p : Int -> Bool) (g : FuncId) (caps : List V) (L : List Int) (hl : L.length <= 1000000) {b : Nat} {bx : aa} (hb : bx b = some (.row 2 1 (L.map (V.int .i64)))) (hp : ∀ x,x ∈ L -> ∀ row,ay prog g ((V.int .i64) x :: caps) (aA bx b (some (.row 2 1 row))) (.bool (p x))) :
 aw prog 152 [.own b 1 0 L.length,.fn (.func g) caps] bx fun r bx'=>r = .own b 1 0 (L.filter fun x=>!p x).length /\ ∃ row,bx' = aA bx b (some (.row 2 1 row)) /\ row.length = L.length /\ row.take (L.filter fun x=>!p x).length = (L.filter fun x=>!p x).map (V.int .i64):=by
 have eV : aA bx b (some (.row 2 1 (L.map (V.int .i64)))) = bx:=by
  funext c
  by_cases e : c = b
  ·subst e; rw [af,hb]
  ·rw [ae _ _ e]
 refine Gg fun hf=>?_
 simp [go_sem,NB,hf]
 refine ag (zq p g caps L hl hb (fun x hx=>by have:=hp x hx (L.map (V.int .i64)); rwa [eV] at this)) ?_
 rcases Cv p L with ⟨h1,h2⟩ | ⟨i,hi,h1,h2,h3⟩
 ·simp [go_sem,h1,hf]
  refine az (by simp [go_sem]) ⟨?_,L.map (V.int .i64),eV.symm,by simp,?_⟩
  ·simp [go_sem,filter_all h2]
  ·rw [filter_all h2,List.take_of_length_le (by simp)]
 ·have DL:=bt (k:=i) (by omega)
  have afi : IntKind.i64.wrap (i : Int) = (i : Int):=ij (by omega)
  have bp : ¬ (i : Int) = -1:=by omega
  simp [go_sem,h1,hf,bp,DL]
  have LG : (L.take i).filter (fun x=>!p x) = L.take i:=filter_all h3
  have Zn : ∀ j (hj : j < L.length),(L.take (j + 1)).filter (fun x=>!p x) = if p L[j] = true then (L.take j).filter (fun x=>!p x) else (L.take j).filter (fun x=>!p x) ++ [L[j]]:=by
   intro j hj
   rw [List.take_succ_eq_append_getElem hj,List.filter_append]
   cases h : p L[j] <;> simp [h]
  have hKl : ∀ j,((L.take j).filter (fun x=>!p x)).length <= L.length:=fun j=>Nat.le_trans (List.length_filter_le _ _) (by simp; omega)
  refine rS (ι:=Nat × List Int × aa) (fun q=>q.1 <= L.length /\ q.2.1 ≠ [] /\ q.2.1.length + ((L.take q.1).filter fun x=>!p x).length = q.1 /\ q.2.2 = aA bx b (some (.row 2 1 (((L.take q.1).filter fun x=>!p x).map (V.int .i64) ++ q.2.1.map (V.int .i64) ++ (L.drop q.1).map (V.int .i64))))) (fun q=>⟨42,bR [(0,.own b 1 0 L.length),(1,.fn (.func g) caps),(5,.int .i64 ((L.take q.1).filter fun x=>!p x).length),(6,.int .i64 q.1)],q.2.2⟩) (fun q=>L.length - q.1) (i + 1,[L[i]],bx) ⟨hi,by simp,?_,?_⟩ (al ?_) ?_
  ·dsimp only
   rw [Zn i hi,if_pos h2,LG]; simp; omega
  ·dsimp only
   rw [Zn i hi,if_pos h2,LG]
   have Kv : L = L.take i ++ [L[i]] ++ L.drop (i + 1):=by rw [<- List.take_succ_eq_append_getElem hi,List.take_append_drop]
   have Wf:=congrArg (List.map (V.int .i64)) Kv
   rw [List.map_append,List.map_append,List.map_cons,List.map_nil] at Wf
   rw [List.map_cons,List.map_nil,<- Wf,eV]
  ·dsimp only
   rw [Zn i hi,if_pos h2,LG]
   simp [go_sem]; omega
  ·rintro ⟨j,junk,bM⟩ ⟨g1,g2,g3,g4⟩
   dsimp only at g1 g2 g3 g4 ⊢
   have hKj:=hKl j
   by_cases hj : j < L.length
   ·have zr:=Zn j hj
    generalize (L.take j).filter (fun x=>!p x) = K at *
    have hwj:=bt (k:=j) (by omega)
    obtain ⟨y0,junk2,rfl⟩ : ∃ y0 junk2,junk = y0 :: junk2:=by
     cases junk with
     | nil=>exact absurd rfl g2
     | cons y0 j2=>exact ⟨y0,j2,rfl⟩
    simp at g3
    rw [List.map_cons] at g4
    have HO : (K.map (V.int .i64) ++ ((V.int .i64) y0 :: junk2.map (V.int .i64)) ++ (L.drop j).map (V.int .i64)).length = L.length:=by simp; omega
    have hRj : (K.map (V.int .i64) ++ ((V.int .i64) y0 :: junk2.map (V.int .i64)) ++ (L.drop j).map (V.int .i64))[j]? = some ((V.int .i64) L[j]):=by
     rw [List.getElem?_append_right (by simp; omega),List.getElem?_map,show j - (K.map (V.int .i64) ++ ((V.int .i64) y0 :: junk2.map (V.int .i64))).length = 0 by simp; omega,List.drop_eq_getElem_cons hj]
     rfl
    have gW : ∀ y,(K.map (V.int .i64) ++ ((V.int .i64) y0 :: junk2.map (V.int .i64)) ++ (L.drop j).map (V.int .i64)).set K.length y = K.map (V.int .i64) ++ (y :: junk2.map (V.int .i64)) ++ (L.drop j).map (V.int .i64):=by
     intro y
     rw [List.append_assoc,List.set_append_right _ _ (by simp),List.length_map,Nat.sub_self,List.append_assoc]
     rfl
    have wm : (L.drop j).map (V.int .i64) = (V.int .i64) L[j] :: (L.drop (j + 1)).map (V.int .i64):=by rw [List.drop_eq_getElem_cons hj]; rfl
    have hRK : (K.map (V.int .i64) ++ ((V.int .i64) y0 :: junk2.map (V.int .i64)) ++ (L.drop j).map (V.int .i64))[K.length]? = some ((V.int .i64) y0):=by
     rw [List.append_assoc,List.getElem?_append_right (by simp),List.length_map,Nat.sub_self]
     rfl
    have hpj:=hp L[j] (List.getElem_mem hj)
    have hwK:=bt (k:=K.length) (by omega)
    have Wg : bj bM:=by rw [g4]; exact (ar _ _ _).2 hf
    have Bb : bM b = some (.row 2 1 (K.map (V.int .i64) ++ ((V.int .i64) y0 :: junk2.map (V.int .i64)) ++ (L.drop j).map (V.int .i64))):=by rw [g4,af]
    have Wh:=hpj (K.map (V.int .i64) ++ ((V.int .i64) y0 :: junk2.map (V.int .i64)) ++ (L.drop j).map (V.int .i64))
    rw [<- g4] at Wh
    generalize hR : K.map (V.int .i64) ++ ((V.int .i64) y0 :: junk2.map (V.int .i64)) ++ (L.drop j).map (V.int .i64) = R at *
    have hRe:=(List.getElem?_eq_some_iff.1 hRj).2
    have ac6:=(List.getElem?_eq_some_iff.1 hRK).2
    have ac7 : K.length < L.length:=by omega
    simp [go_sem,AW,hj,Wg,Bb,hRj,HO,hRe,List.length_map]
    refine ag Wh ?_
    cases Ky : p L[j]
    ·rw [Ky,if_neg (by simp)] at zr
     simp [go_sem,Wg,Bb,HO,hwK,hwj,ac7,-List.map_set,gW,ac6,hRe]
     refine ⟨(j + 1,junk2 ++ [L[j]],aA bM b _),⟨hj,by simp,by dsimp only; rw [zr]; simp; omega,?_⟩,al (by simp [go_sem,zr]),by dsimp only; omega⟩
     dsimp only
     rw [zr,g4,wq]
     congr 3
     rw [<- List.map_drop,wm]
     simp
    ·rw [Ky,if_pos rfl] at zr
     simp [go_sem,Wg,hwj]
     refine ⟨(j + 1,y0 :: (junk2 ++ [L[j]]),bM),⟨hj,by simp,by dsimp only; rw [zr]; simp; omega,?_⟩,al (by simp [go_sem,zr]),by dsimp only; omega⟩
     dsimp only
     rw [zr,g4,<- hR,wm]
     simp
   ·have : j = L.length:=by omega
    subst this
    rw [List.take_length] at g3 g4 ⊢
    rw [List.drop_length,List.map_nil,List.append_nil] at g4
    have Wg : bj bM:=by rw [g4]; exact (ar _ _ _).2 hf
    generalize (L.filter fun x=>!p x) = K at *
    have Bb : bM b = some (.row 2 1 (K.map (V.int .i64) ++ junk.map (V.int .i64))):=by rw [g4,af]
    have lB : junk.length ≠ 0:=fun e=>g2 (List.length_eq_zero_iff.1 e)
    have hKL : K.length < L.length:=by omega
    simp [go_sem,AW,Wg,Bb,List.length_map,sJ,hKL]
    refine ⟨by omega,by omega,by omega,az (by simp [go_sem]) ⟨by simp [go_sem],_,by rw [g4,wq],?_,?_⟩⟩
    ·simp; omega
    ·simp
end Go.Proofs
namespace Go.Pl
open Go
theorem aw.sub {P : Program} {f : FuncId} {args : List V} {bx : aa} {Kc K2 : V -> aa -> Prop} (h : aw P f args bx Kc) (hs : ∀ r bx',Kc r bx' -> ∃ bx2,cj bx' bx2 /\ K2 r bx2) : aw P f args bx K2:=by
 refine ⟨h.1,fun β M w vs h1 h2 h3 h4=>(h.2 β M w vs h1 h2 h3 h4).mono ?_⟩
 rintro e w' ⟨v,r,bx',β',rfl,hk,cY,ht,bN⟩
 obtain ⟨bx2,na,fJ⟩:=hs r bx' hk
 exact ⟨v,r,bx2,β',rfl,fJ,cY.sub na,ht.trans na.tr,na.rep bN⟩
end Go.Pl
namespace Go.Proofs
open Go Go.Pl Tryz
theorem zt (g : FuncId) (caps : List V) (bx : aa) : ay prog 170 [.aI,.fn (.func g) caps] bx (.int .i64 (-1)):=by
 refine Gi fun hf=>?_
 simp [go_sem,NQ,hf]
 refine ct 0 (fun j=>⟨19,bR [(0,.aI),(1,.fn (.func g) caps),(7,.int .i64 0),(8,.int .i64 j)],bx⟩) (al (by simp [go_sem])) (fun j hj N hN=>by omega) (fun N=>?_)
 simp [go_sem,xr,hf]
 exact az (by simp [go_sem]) ⟨by simp [go_sem],rfl⟩
theorem xC (g : FuncId) (caps : List V) (bx : aa) : ay prog 152 [.aI,.fn (.func g) caps] bx .aI:=by
 refine Gg fun hf=>?_
 simp [go_sem,NB,hf]
 refine ag (zt g caps bx) ?_
 simp [go_sem]
 exact az (by simp [go_sem]) ⟨by simp [go_sem],rfl⟩
theorem xD (p : Int -> Bool) (g : FuncId) (caps : List V) (L : List Int) (hl : L.length <= 1000000) {bx : aa} {v : V} (hf : bj bx) (ha : bd bx 2 1 (L.map iI) v) (hp : ∀ x,x ∈ L -> ∀ bx',ay prog g (.int .i64 x :: caps) bx' (.bool (p x))) :
 aw prog 152 [v,.fn (.func g) caps] bx fun r bx'=>bd bx' 2 1 ((L.filter fun x=>!p x).map iI) r /\ eE v r bx bx':=by
 rcases ha with ⟨h1,rfl⟩ | ⟨b,rfl,hb⟩
 ·have h3 : L = []:=by simpa using h1
  subst h3
  refine (xC g caps bx).mono ?_
  rintro r bx' ⟨rfl,rfl⟩
  exact ⟨.inl ⟨rfl,rfl⟩,hf,Ext.refl _,fun b sz o m e=>by cases e⟩
 ·rw [List.length_map]
  refine (xB p g caps L hl hb (fun x hx row=>hp x hx _)).sub ?_
  rintro r bx' ⟨rfl,row,rfl,h5,h6⟩
  refine ⟨aA bx b (some (.row 2 1 (row.take (L.filter fun x=>!p x).length))),fun c=>?_,.inr ⟨b,by simp,?_⟩,(ar _ _ _).2 hf,fun c hc=>?_,fun c sz o m e=>?_⟩
  ·by_cases e : c = b
   ·subst e
    exact .inr (.inr (.inr ⟨_,1,row,_,by decide,af _ _ _,af _ _ _⟩))
   ·exact .inr (.inl (by rw [ae _ _ e,ae _ _ e]))
  ·rw [af,h6]; rfl
  ·show aA bx b _ c = aA bx b none c
   have hc : aA bx b none c ≠ none:=hc
   by_cases e : c = b
   ·subst e; exact absurd (af _ _ _) hc
   ·rw [ae _ _ e,ae _ _ e]
  ·injection e with e
   subst e
   exact af _ _ _
theorem DO (x : Ev) (n : Int) (bx : aa) : ay prog 153 [.int .i64 n,.ep (aX x) 0] bx (.bool (n == x.call)):=by
 refine NC fun hf=>?_
 by_cases e : n = x.call
 all_goals (
  simp [go_sem,VU,hf,aX,iI,e]
  exact az (by simp [go_sem]) ⟨by simp [go_sem,e],rfl⟩)
def vp (l : List Int) (n : Int) : List Int:=l.filter (· != n)
def bG (s : IW) (x : Ev) : IW:={ s with ah:=s.ah.set x.bk { s.ah.getD x.bk fZ with waits:=vp (s.ah.getD x.bk fZ).waits x.call } }
theorem tv {aC bx : aa} {ad : cQ} {s : IW} (h : WI aC ad s bx) {p : Nat} (hp : ad .w = some p) (x : Ev) (hx : x.bk < s.ah.length) (hl : s.ah[x.bk].waits.length <= 100000) :
 aw prog 116 [.ptr p 13 0 0,aX x] bx (nQ aC ad (bG s x)):=by
 refine Nn fun hf=>?_
 obtain ⟨pb,pc,pr,pm,pw,hn⟩:=h.names hp
 have aq:=h.row hn
 unfold il at aq
 have cZ:=h.mE hn
 have hw:=h.Jr hx
 have e2 : s.ah.getD x.bk fZ = s.ah[x.bk]:=by simp [hx]
 unfold bG
 rw [e2]
 simp [go_sem,VA,hf,aq,cZ,hx,aX,iI,ib,kK,hw.strip,hw.live]
 refine an (xD (fun n=>n == x.call) _ _ s.ah[x.bk].waits (by omega) hf hw (fun n _ bx'=>DO x n bx')) ?_
 rintro r bx' ⟨ha,hm⟩
 have hm : eE (j3 (ad (.ik x.bk)) 1 s.ah[x.bk].waits.length) r bx bx':=hm
 have fA : bd bx' 2 1 ((vp s.ah[x.bk].waits x.call).map iI) r:=ha
 have jN:=h.setW hn hx (vp s.ah[x.bk].waits x.call) hm fA
 have eU : bx' pb = some (.row zn 6 (s.ah.mapIdx (ib ad))):=by rw [hm.other (by rw [cZ]; simp) (hw.ne cZ (by decide)),cZ]
 have bg:=hm.fin
 simp [go_sem,eU,hx,ib,kK,iI,ha.strip,ha.live,ha.cells,ha.okV,bg]
 exact aj (by simp [go_sem]) ⟨by simp [go_sem],_,WI.ch rfl _,jN⟩
def fW (s : IW) (x : Ev) : Bool:=match s.ah[x.bk]? with
 | some b=>(match b.waits.head? with | some c=>c != x.call | none=>false)
 | none=>false
theorem Cw {aC bx : aa} {ad : cQ} {s : IW} (h : WI aC ad s bx) {p : Nat} (hp : ad .w = some p) (x : Ev) (hx : x.bk < s.ah.length) (hl : s.aG.length <= 90000) :
 aw prog 117 [.ptr p 13 0 0,aX x] bx (nQ aC ad (s.ai (fW s x) 9)):=by
 refine No fun hf=>?_
 obtain ⟨pb,pc,pr,pm,pw,hn⟩:=h.names hp
 have aq:=h.row hn
 unfold il at aq
 have cZ:=h.mE hn
 have hq:=h.Jr hx
 unfold fW
 rw [List.getElem?_eq_getElem hx]
 dsimp only
 have cF:=dq h hp 9 (by omega)
 obtain ⟨vq,Wi⟩ : ∃ v,j3 (ad (.ik x.bk)) 1 s.ah[x.bk].waits.length = v:=⟨_,rfl⟩
 rw [Wi] at hq
 rcases hq with ⟨hl,hv⟩ | ⟨b,hv,hb⟩
 ·have h0 : s.ah[x.bk].waits = []:=by simpa using hl
  rw [h0]
  simp [go_sem,FY,hf,aX,iI,aq,cZ,ib,kK,hx,Wi,hv]
  exact aj (by simp [go_sem]) ⟨by simp [go_sem],ad,bQ.refl _,by simpa [IW.ai] using h⟩
 ·cases h0 : s.ah[x.bk].waits with
  | nil =>
    rw [h0] at hv hb
    simp at hv hb
    simp [go_sem,FY,hf,aX,iI,aq,cZ,ib,kK,hx,Wi,hv,hb]
    exact aj (by simp [go_sem]) ⟨by simp [go_sem],ad,bQ.refl _,by simpa [IW.ai] using h⟩
  | cons y ys =>
    rw [h0] at hv hb
    simp [iI] at hv hb
    by_cases c1 : y = x.call
    ·simp [go_sem,FY,hf,aX,iI,aq,cZ,ib,kK,hx,Wi,hv,hb,c1]
     exact aj (by simp [go_sem]) ⟨by simp [go_sem],ad,bQ.refl _,by simpa [IW.ai,c1] using h⟩
    ·simp [go_sem,FY,hf,aX,iI,aq,cZ,ib,kK,hx,Wi,hv,hb,c1]
     refine an cF ?_
     rintro r bM ⟨rfl,ad1,dV,h1⟩
     have bg:=h1.fin
     simp [go_sem,bg]
     exact aj (by simp [go_sem]) ⟨by simp [go_sem],ad1,dV,by simpa [IW.ai,c1] using h1⟩
def aZ (s : IW) (x : Ev) : IW × Bool :=
 if (iE s x.call).au = true /\ jx s x.call = x.bk then
  let b:=s.ah.getD x.bk fZ
  (aW { s with ah:=s.ah.set x.bk { b with au:=ck (b.au - 1) } } x dB,true)
 else (s,false)
theorem vr {aC bx : aa} {ad : cQ} {s : IW} (h : WI aC ad s bx) {p : Nat} (hp : ad .w = some p) (x : Ev) (hx : x.bk < s.ah.length) :
 aw prog 118 [.ptr p 13 0 0,aX x] bx (de aC ad (aZ s x)):=by
 refine Np fun hf=>?_
 obtain ⟨pb,pc,pr,pm,pw,hn⟩:=h.names hp
 have aq:=h.row hn
 unfold il at aq
 have cZ:=h.mE hn
 have tZ:=h.Q9 hn
 have Jt:=h.mwR hn
 have e2 : s.ah.getD x.bk fZ = s.ah[x.bk]:=by simp [hx]
 obtain ⟨z,hz⟩ : ∃ z,aZ s x = z:=⟨_,rfl⟩
 rw [hz]
 unfold aZ at hz
 rw [e2] at hz
 dsimp only at hz
 have h2:=h.aO hn x.bk { s.ah[x.bk] with au:=ck (s.ah[x.bk].au - 1) } (fun b hb=>by rw [List.getElem?_eq_getElem hx] at hb; injection hb with hb; rw [<- hb])
 have evg : V.agg [V.int .i64 x.kind,V.int .i64 x.bk,V.int .i64 x.t,V.int .i64 x.call,V.int .i64 x.conn,V.int .i64 x.jQ,V.int .i64 x.n,V.bool x.yes] = aX x:=by simp [aX,iI]
 have ipg : V.agg [V.bool false,V.bool false,V.bool false] = nN dB:=rfl
 rcases vm s x.call with ⟨f1,e1⟩ | ⟨j1,f1⟩
 ·rw [if_neg (by rw [e1]; simp [dB])] at hz
  simp [go_sem,AT,hf,aq,aX,iI,tZ,f1]
  exact aj (by simp [go_sem]) (.of hz.symm ⟨by simp [go_sem],ad,bQ.refl _,h⟩)
 ·cases Ad : (iE s x.call).au
  ·rw [if_neg (by rw [Ad]; simp)] at hz
   simp [go_sem,AT,hf,aq,aX,iI,tZ,f1,nN,Ad]
   exact aj (by simp [go_sem]) (.of hz.symm ⟨by simp [go_sem],ad,bQ.refl _,h⟩)
  ·rcases zo s x.call with ⟨f2,e2⟩ | ⟨j2,f2⟩
   ·by_cases c1 : (0 : Int) = x.bk
    ·rw [if_pos ⟨Ad,by rw [e2,c1]⟩] at hz
     obtain ⟨kind,bk,t,call,conn,jQ,n,yes⟩:=x
     have dD : bk = 0:=by simpa using c1.symm
     subst dD
     dsimp only at *
     simp [go_sem,AT,hf,aq,aX,iI,tZ,f1,nN,Ad,Jt,f2,cZ,hx,ib,kK]
     have evh : V.agg [V.int .i64 kind,V.int .i64 0,V.int .i64 t,V.int .i64 call,V.int .i64 conn,V.int .i64 jQ,V.int .i64 n,V.bool yes] = aX ⟨kind,0,t,call,conn,jQ,n,yes⟩:=by simp [aX,iI]
     rw [evh,ipg]
     refine an (lr h2 hp ⟨kind,0,t,call,conn,jQ,n,yes⟩) ?_
     rintro r bM ⟨rfl,ad1,dV,h3⟩
     have bg:=h3.fin
     simp [go_sem,bg]
     exact aj (by simp [go_sem]) (.of hz.symm ⟨by simp [go_sem],ad1,dV,h3⟩)
    ·rw [if_neg (by rw [e2]; simpa using fun _=>c1)] at hz
     simp [go_sem,AT,hf,aq,aX,iI,tZ,f1,nN,Ad,Jt,f2,c1]
     exact aj (by simp [go_sem]) (.of hz.symm ⟨by simp [go_sem],ad,bQ.refl _,h⟩)
   ·by_cases c1 : jx s x.call = x.bk
    ·rw [if_pos ⟨Ad,c1⟩] at hz
     simp [go_sem,AT,hf,aq,aX,iI,tZ,f1,nN,Ad,Jt,f2,c1,cZ,hx,ib,kK]
     rw [evg,ipg]
     refine an (lr h2 hp x) ?_
     rintro r bM ⟨rfl,ad1,dV,h3⟩
     have bg:=h3.fin
     simp [go_sem,bg]
     exact aj (by simp [go_sem]) (.of hz.symm ⟨by simp [go_sem],ad1,dV,h3⟩)
    ·rw [if_neg (by simpa using fun _=>c1)] at hz
     simp [go_sem,AT,hf,aq,aX,iI,tZ,f1,nN,Ad,Jt,f2,c1]
     exact aj (by simp [go_sem]) (.of hz.symm ⟨by simp [go_sem],ad,bQ.refl _,h⟩)
def jr (s : IW) (i : Nat) (x : Ev) : IW :=
 let c:=s.ak.getD i kv
 aW { s with ak:=s.ak.set i { c with st:=1,call:=x.call,aU:=ck (c.aU + 1) } } x ⟨false,false,true⟩
theorem Gv {aC bx : aa} {ad : cQ} {s : IW} (h : WI aC ad s bx) {p : Nat} (hp : ad .w = some p) (x : Ev) {i b : Nat} (hi : i < s.ak.length) (hb : ad (.cn i) = some b) :
 aw prog 119 [.ptr p 13 0 0,.ptr b 10 0 0,aX x] bx (nQ aC ad (jr s i x)):=by
 refine Nq fun hf=>?_
 have hr : bx b = some (.row uA 10 [pS s.ak[i]]):=by
  obtain ⟨b',h1,h2⟩:=h.E2 hi
  rw [hb] at h1
  injection h1 with h1
  rw [h1]; exact h2
 have e1 : s.ak.getD i kv = s.ak[i]:=by simp [hi]
 unfold jr
 rw [e1]
 dsimp only
 have h2:=h.ba hi hb { s.ak[i] with st:=1,call:=x.call,aU:=ck (s.ak[i].aU + 1) } rfl
 have evg : V.agg [V.int .i64 x.kind,V.int .i64 x.bk,V.int .i64 x.t,V.int .i64 x.call,V.int .i64 x.conn,V.int .i64 x.jQ,V.int .i64 x.n,V.bool x.yes] = aX x:=by simp [aX,iI]
 have ipg : V.agg [V.bool false,V.bool false,V.bool true] = nN ⟨false,false,true⟩:=rfl
 simp [go_sem,VB,hf,hr,aX,iI,pS]
 refine ⟨by simp [jh,lj,mi,jE],?_⟩
 rw [evg,ipg]
 refine an (oG h2 hp x _ (by simp)) ?_
 rintro r bM ⟨rfl,ad1,dV,h3⟩
 have bg:=h3.fin
 simp [go_sem,bg]
 exact aj (by simp [go_sem]) ⟨by simp [go_sem],ad1,dV,h3⟩
end Go.Proofs
namespace Go.Proofs
open Go Go.Pl Tryz
def IW.aO (s : IW) (i : Nat) (b : IB) : IW:={ s with ah:=s.ah.set i b }
def IW.dO (s : IW) (i : Nat) (r : IR) : IW:={ s with aD:=s.aD.set i ((s.aD.getD i (0,nO)).1,r) }
def IW.ba (s : IW) (i : Nat) (c : IC) : IW:={ s with ak:=s.ak.set i c }
theorem WI.kM {aC bx : aa} {ad : cQ} {s : IW} (h : WI aC ad s bx) {p pb pc pr pm pw : Nat} (hn : Nm ad p pb pc pr pm pw) {i : Nat} (hi : i < s.ah.length) (x : IB) (hx : x.waits = s.ah[i].waits) :
 WI aC ad (s.aO i x) (aA bx pb (some (.row zn 6 ((s.ah.mapIdx (ib ad)).set i (ib ad i x))))) :=
 h.aO hn i x fun b hb=>by rw [List.getElem?_eq_getElem hi] at hb; injection hb with hb; rw [<- hb]; exact hx
theorem WI.vt {aC bx : aa} {ad : cQ} {s : IW} (h : WI aC ad s bx) {i b : Nat} (hi : i < s.aD.length) (hb : ad (.rq i) = some b) (r : IR) : WI aC ad (s.dO i r) (aA bx b (some (.row uB 5 [sd r]))):=by
 have:=h.dO hi hb r
 have e : s.aD.getD i (0,nO) = s.aD[i]:=by simp [hi]
 unfold IW.dO
 rw [e]
 exact this
def zu (s : IW) (x : Ev) : IW × Bool:=(s.aO x.bk { s.ah.getD x.bk fZ with down:=!x.yes },true)
theorem Ob {aC bx : aa} {ad : cQ} {s : IW} (h : WI aC ad s bx) {p : Nat} (hp : ad .w = some p) (x : Ev) (hx : x.bk < s.ah.length) :
 aw prog 82 [.ptr p 13 0 0,aX x] bx (de aC ad (zu s x)):=by
 refine Vw fun hf=>?_
 obtain ⟨pb,pc,pr,pm,pw,hn⟩:=h.names hp
 have aq:=h.row hn
 unfold il at aq
 have cZ:=h.mE hn
 have e2 : s.ah.getD x.bk fZ = s.ah[x.bk]:=by simp [hx]
 unfold zu
 rw [e2]
 simp [go_sem,C82,hf,aq,aX,iI,cZ,hx,ib,kK]
 exact aj (by simp [go_sem]) ⟨by simp [go_sem],ad,bQ.refl _,h.kM hn hx { s.ah[x.bk] with down:=!x.yes } rfl⟩
def zv (s : IW) (x : Ev) : IW × Bool:=(s.aO x.bk { s.ah.getD x.bk fZ with gL:=x.n,aK:=0 },true)
theorem Oc {aC bx : aa} {ad : cQ} {s : IW} (h : WI aC ad s bx) {p : Nat} (hp : ad .w = some p) (x : Ev) (hx : x.bk < s.ah.length) :
 aw prog 83 [.ptr p 13 0 0,aX x] bx (de aC ad (zv s x)):=by
 refine Vx fun hf=>?_
 obtain ⟨pb,pc,pr,pm,pw,hn⟩:=h.names hp
 have aq:=h.row hn
 unfold il at aq
 have cZ:=h.mE hn
 have e2 : s.ah.getD x.bk fZ = s.ah[x.bk]:=by simp [hx]
 unfold zv
 rw [e2]
 simp [go_sem,C83,hf,aq,aX,iI,cZ,hx,ib,kK]
 exact aj (by simp [go_sem]) ⟨by simp [go_sem],ad,bQ.refl _,h.kM hn hx { s.ah[x.bk] with gL:=x.n,aK:=0 } rfl⟩
def tw (s : IW) : IW × Bool:=({ s with stop:=true },!s.stop)
theorem Od {aC bx : aa} {ad : cQ} {s : IW} (h : WI aC ad s bx) {p : Nat} (hp : ad .w = some p) (x : Ev) (bi : Int) :
 aw prog 86 [.ptr p 13 0 0,dL x bi] bx (de aC ad (tw s)):=by
 refine V0 fun hf=>?_
 obtain ⟨pb,pc,pr,pm,pw,hn⟩:=h.names hp
 have aq:=h.row hn
 unfold il at aq
 have h2:=h.world hn s.now s.at_ true
 unfold tw
 simp [go_sem,C86,hf,aq,dL,iI]
 exact aj (by simp [go_sem]) ⟨by simp [go_sem],ad,bQ.refl _,h2⟩
theorem zw {s : IW} {call : Int} {i : Nat} (h : fF s call = some i) : i < s.aD.length /\ jS s.aD call = some i:=by
 unfold fF at h
 split at h
 ·rename_i j hj
  split at h
  ·cases h
  ·injection h with h
   subst h
   exact ⟨(oE hj).1,hj⟩
 ·cases h
def xE (s : IW) (x : Ev) : IW × Bool:=match fF s x.call with
 | some i=>(s.dO i { (s.aD.getD i (0,nO)).2 with ended:=true },true)
 | none=>(s,false)
theorem Wj {aC bx : aa} {ad : cQ} {s : IW} (h : WI aC ad s bx) {p : Nat} (hp : ad .w = some p) (x : Ev) (bi : Int) :
 aw prog 85 [.ptr p 13 0 0,dL x bi] bx (de aC ad (xE s x)):=by
 refine Vz fun hf=>?_
 have cR:=xA h hp x.call
 obtain ⟨z,hz⟩ : ∃ z,xE s x = z:=⟨_,rfl⟩
 rw [hz]
 unfold xE at hz
 simp [go_sem,C85,hf,dL,iI]
 cases hr : fF s x.call with
 | none =>
   rw [hr] at cR hz
   unfold uC at cR
   refine ag cR ?_
   simp [go_sem,hf]
   exact aj (by simp [go_sem]) (.of hz.symm ⟨by simp [go_sem],ad,bQ.refl _,h⟩)
 | some i =>
   rw [hr] at cR hz
   unfold uC at cR
   obtain ⟨hi,_⟩:=zw hr
   obtain ⟨b0,dD,lK⟩:=h.La hi
   have e1 : s.aD.getD i (0,nO) = s.aD[i]:=by simp [hi]
   simp only [dE dD] at cR
   refine ag cR ?_
   simp only [e1] at hz
   simp [go_sem,hf,lK,sd,iI]
   exact aj (by simp [go_sem]) (.of hz.symm ⟨by simp [go_sem],ad,bQ.refl _,h.vt hi dD { s.aD[i].2 with ended:=true }⟩)
def oH (s : IW) (x : Ev) : IW × Bool:=if (jS s.aD x.call).isSome || s.stop then (s,false) else ({ s with aD:=s.aD ++ [(x.call,⟨x.yes,false,0,-1,0⟩)] },true)
theorem Ju {aC bx : aa} {ad : cQ} {s : IW} (h : WI aC ad s bx) {p : Nat} (hp : ad .w = some p) (x : Ev) (bi : Int) :
 aw prog 69 [.ptr p 13 0 0,dL x bi] bx (de aC ad (oH s x)):=by
 refine Vj fun hf=>?_
 obtain ⟨pb,pc,pr,pm,pw,hn⟩:=h.names hp
 have aq:=h.row hn
 unfold il at aq
 have uD:=h.Wc hn
 have f1:=se s x.call ad
 unfold oH
 cases h1 : jS s.aD x.call with
 | some i =>
   rw [h1] at f1
   simp only [Option.map_some] at f1
   simp [go_sem,Zl,hf,aq,dL,iI,uD,f1]
   exact aj (by simp [go_sem]) ⟨by simp [go_sem],ad,bQ.refl _,h⟩
 | none =>
   rw [h1] at f1
   simp only [Option.map_none] at f1
   cases iq : s.stop
   ·rw [iq] at aq
    simp [go_sem,Zl,hf,aq,dL,iI,uD,f1]
    intro b hb
    have bp : pr ≠ b:=by rintro rfl; rw [uD] at hb; cases hb
    obtain ⟨h2,fJ⟩:=h.ac5 hn x.call ⟨x.yes,false,0,-1,0⟩ hb
    have ac8 : ({ s with aD:=s.aD ++ [(x.call,⟨x.yes,false,0,-1,0⟩)] } : IW) = { s with aD:=s.aD ++ [(x.call,⟨x.yes,false,0,-1,0⟩)],stop:=false }:=by rw [<- iq]
    rw [ac8] at h2
    simp [go_sem,ae,bp,uD,f1]
    exact aj (by simp [go_sem]) ⟨by simp [go_sem],_,fJ,h2⟩
   ·rw [iq] at aq
    simp [go_sem,Zl,hf,aq,dL,iI,uD,f1]
    exact aj (by simp [go_sem]) ⟨by simp [go_sem],ad,bQ.refl _,h⟩
def kf (s : IW) (x : Ev) : IW × Bool:=match jS s.aD x.call with
 | none=>(s,false)
 | some i =>
   let r:=(s.aD.getD i (0,nO)).2
   let b:=s.ah.getD x.bk fZ
   if r.at_ ≠ x.bk then (s,false)
   else if b.aK = x.call then (s.aO x.bk { b with aK:=0,gL:=if x.yes then 0 else 1 },true)
   else (s,true)
theorem Gw {aC bx : aa} {ad : cQ} {s : IW} (h : WI aC ad s bx) {p : Nat} (hp : ad .w = some p) (x : Ev) (hx : x.bk < s.ah.length) :
 aw prog 84 [.ptr p 13 0 0,aX x] bx (de aC ad (kf s x)):=by
 refine Vy fun hf=>?_
 obtain ⟨pb,pc,pr,pm,pw,hn⟩:=h.names hp
 have aq:=h.row hn
 unfold il at aq
 have uD:=h.Wc hn
 have cZ:=h.mE hn
 have f1:=se s x.call ad
 have e2 : s.ah.getD x.bk fZ = s.ah[x.bk]:=by simp [hx]
 obtain ⟨z,hz⟩ : ∃ z,kf s x = z:=⟨_,rfl⟩
 rw [hz]
 unfold kf at hz
 rw [e2] at hz
 cases h1 : jS s.aD x.call with
 | none =>
   rw [h1] at f1 hz
   simp only [Option.map_none] at f1
   simp [go_sem,Q7,hf,aq,aX,iI,uD,f1,cZ,hx]
   exact aj (by simp [go_sem]) (.of hz.symm ⟨by simp [go_sem],ad,bQ.refl _,h⟩)
 | some i =>
   rw [h1] at f1 hz
   simp only [Option.map_some] at f1
   obtain ⟨hi,_⟩:=oE h1
   obtain ⟨b0,dD,lK⟩:=h.La hi
   rw [dE dD] at f1
   have e1 : s.aD.getD i (0,nO) = s.aD[i]:=by simp [hi]
   simp only [e1] at hz
   by_cases c2 : s.aD[i].2.at_ = x.bk
   ·rw [if_neg (by simpa using c2)] at hz
    by_cases c3 : s.ah[x.bk].aK = x.call
    ·rw [if_pos c3] at hz
     cases c4 : x.yes <;> rw [c4] at hz
     ·simp [go_sem,Q7,hf,aq,aX,iI,uD,f1,cZ,hx,lK,sd,c2,ib,kK,c3,c4]
      exact aj (by simp [go_sem]) (.of hz.symm ⟨by simp [go_sem],ad,bQ.refl _,h.kM hn hx { s.ah[x.bk] with aK:=0,gL:=1 } rfl⟩)
     ·simp [go_sem,Q7,hf,aq,aX,iI,uD,f1,cZ,hx,lK,sd,c2,ib,kK,c3,c4]
      exact aj (by simp [go_sem]) (.of hz.symm ⟨by simp [go_sem],ad,bQ.refl _,h.kM hn hx { s.ah[x.bk] with aK:=0,gL:=0 } rfl⟩)
    ·rw [if_neg c3] at hz
     simp [go_sem,Q7,hf,aq,aX,iI,uD,f1,cZ,hx,lK,sd,c2,ib,kK,c3]
     exact aj (by simp [go_sem]) (.of hz.symm ⟨by simp [go_sem],ad,bQ.refl _,h⟩)
   ·rw [if_pos c2] at hz
    simp [go_sem,Q7,hf,aq,aX,iI,uD,f1,cZ,hx,lK,sd,c2]
    exact aj (by simp [go_sem]) (.of hz.symm ⟨by simp [go_sem],ad,bQ.refl _,h⟩)
theorem jy (x : Ev) : V.agg [V.int .i64 x.kind,V.int .i64 x.bk,V.int .i64 x.t,V.int .i64 x.call,V.int .i64 x.conn,V.int .i64 x.jQ,V.int .i64 x.n,V.bool x.yes] = aX x:=by simp [aX,iI]
theorem Wl : V.agg [V.bool false,V.bool false,V.bool false] = nN dB:=rfl
theorem ac9 : V.agg [V.bool true,V.bool false,V.bool false] = nN ⟨true,false,false⟩:=rfl
theorem ada : V.agg [V.bool false,V.bool true,V.bool false] = nN ⟨false,true,false⟩:=rfl
def mG (s : IW) (x : Ev) : IW × Bool:=if gE s x then (aW (bG s x) x dB,true) else (s,false)
theorem Jv {aC bx : aa} {ad : cQ} {s : IW} (h : WI aC ad s bx) {p : Nat} (hp : ad .w = some p) (x : Ev) (hx : x.bk < s.ah.length) (hl : s.ah[x.bk].waits.length <= 100000) :
 aw prog 72 [.ptr p 13 0 0,aX x] bx (de aC ad (mG s x)):=by
 refine Vm fun hf=>?_
 have cW:=x9 h hp x
 have cS:=tv h hp x hx hl
 simp [go_sem,C72,hf,aX,iI]
 rw [jy]
 unfold mG
 cases hw : gE s x
 ·rw [hw] at cW
  refine ag cW ?_
  simp [go_sem,hf]
  exact aj (by simp [go_sem]) ⟨by simp [go_sem],ad,bQ.refl _,h⟩
 ·rw [hw] at cW
  refine ag cW ?_
  simp [go_sem,hf,aX,iI]
  rw [jy]
  refine an cS ?_
  rintro r bM ⟨rfl,ad1,dV,h1⟩
  have bg:=h1.fin
  simp [go_sem,bg,aX,iI]
  rw [jy,Wl]
  refine an (lr h1 (dV _ _ hp rfl) x) ?_
  rintro r bx2 ⟨rfl,ad2,fJ,h2⟩
  have da:=h2.fin
  simp [go_sem,da]
  exact aj (by simp [go_sem]) ⟨by simp [go_sem],ad2,dV.trans fJ,h2⟩
theorem DP {aC bx : aa} {ad : cQ} {s : IW} (h : WI aC ad s bx) {p : Nat} (hp : ad .w = some p) (x : Ev) (hx : x.bk < s.ah.length) :
 aw prog 74 [.ptr p 13 0 0,aX x] bx (de aC ad (aZ s x)):=by
 refine Vo fun hf=>?_
 simp [go_sem,C74,hf,aX,iI]
 rw [jy]
 refine an (vr h hp x hx) ?_
 rintro r bM ⟨rfl,ad1,dV,h1⟩
 have bg:=h1.fin
 simp [go_sem,bg]
 exact aj (by simp [go_sem]) ⟨by simp [go_sem],ad1,dV,h1⟩
theorem sh {s : IW} {x : Ev} {i : Nat} (h : lq s x = some i) : i < s.ak.length:=by
 unfold lq at h
 split at h
 ·rename_i j hj
  split at h
  ·injection h with h; subst h; exact (mF hj).1
  ·cases h
 ·cases h
def qO (s : IW) (x : Ev) : IW × Bool:=match lq s x with
 | none=>(s,false)
 | some i=>(aW (s.ba i { s.ak.getD i kv with st:=if x.yes then 3 else 4,call:=0 }) x dB,true)
theorem Oe {aC bx : aa} {ad : cQ} {s : IW} (h : WI aC ad s bx) {p : Nat} (hp : ad .w = some p) (x : Ev) :
 aw prog 79 [.ptr p 13 0 0,aX x] bx (de aC ad (qO s x)):=by
 refine Vt fun hf=>?_
 have cO:=Gs h hp x
 obtain ⟨z,hz⟩ : ∃ z,qO s x = z:=⟨_,rfl⟩
 rw [hz]
 unfold qO at hz
 simp [go_sem,C79,hf,aX,iI]
 rw [jy]
 cases ho : lq s x with
 | none =>
   rw [ho] at cO hz
   unfold kL at cO
   refine ag cO ?_
   simp [go_sem,hf]
   exact aj (by simp [go_sem]) (.of hz.symm ⟨by simp [go_sem],ad,bQ.refl _,h⟩)
 | some i =>
   rw [ho] at cO hz
   unfold kL at cO
   have hi:=sh ho
   obtain ⟨b0,dD,lK⟩:=h.E2 hi
   have e1 : s.ak.getD i kv = s.ak[i]:=by simp [hi]
   simp only [dE dD] at cO
   simp only [e1] at hz
   refine ag cO ?_
   cases hy : x.yes
   all_goals (
    rw [hy] at hz
    simp [go_sem,hf,lK,pS,iI,aX,hy]
    have h1:=h.ba hi dD { s.ak[i] with st:=if x.yes then 3 else 4,call:=0 } rfl
    rw [hy] at h1
    have evh : V.agg [V.int .i64 x.kind,V.int .i64 x.bk,V.int .i64 x.t,V.int .i64 x.call,V.int .i64 x.conn,V.int .i64 x.jQ,V.int .i64 x.n,V.bool _] = aX x:=(by rw [<- jy x,hy])
    rw [evh,Wl]
    refine an (lr h1 hp x) ?_
    rintro r bx2 ⟨rfl,ad2,fJ,h2⟩
    have da:=h2.fin
    simp [go_sem,da]
    exact aj (by simp [go_sem]) (.of hz.symm ⟨by simp [go_sem],ad2,fJ,h2⟩))
def qP (s : IW) (x : Ev) : IW × Bool:=match fV s x with
 | none=>(s.fault 4,true)
 | some i =>
   let c:=s.ak.getD i kv
   if c.st = 4 then (s.fault 4,true) else if c.st = 1 then (s.fault 1,true) else if c.st = 2 then (s,false)
   else (s.ba i { c with st:=2,since:=s.now },true)
theorem Of {aC bx : aa} {ad : cQ} {s : IW} (h : WI aC ad s bx) {p : Nat} (hp : ad .w = some p) (x : Ev) (hl : s.aG.length <= 90000) :
 aw prog 80 [.ptr p 13 0 0,aX x] bx (de aC ad (qP s x)):=by
 refine Vu fun hf=>?_
 obtain ⟨pb,pc,pr,pm,pw,hn⟩:=h.names hp
 have aq:=h.row hn
 unfold il at aq
 have cT:=sg h hp x
 have c4:=dq h hp 4 (by omega)
 have c1:=dq h hp 1 (by omega)
 obtain ⟨z,hz⟩ : ∃ z,qP s x = z:=⟨_,rfl⟩
 rw [hz]
 unfold qP at hz
 simp [go_sem,C80,hf,aX,iI]
 rw [jy]
 cases ho : fV s x with
 | none =>
   rw [ho] at cT hz
   unfold kL at cT
   refine ag cT ?_
   simp [go_sem,hf]
   refine an c4 ?_
   rintro r bM ⟨rfl,ad1,dV,h1⟩
   have bg:=h1.fin
   simp [go_sem,bg]
   exact aj (by simp [go_sem]) (.of hz.symm ⟨by simp [go_sem],ad1,dV,h1⟩)
 | some i =>
   rw [ho] at cT hz
   unfold kL at cT
   have hi:=(mF ho).1
   obtain ⟨b0,dD,lK⟩:=h.E2 hi
   have e1 : s.ak.getD i kv = s.ak[i]:=by simp [hi]
   simp only [dE dD] at cT
   simp only [e1] at hz
   refine ag cT ?_
   by_cases s4 : s.ak[i].st = 4
   ·rw [if_pos s4] at hz
    simp [go_sem,hf,lK,pS,iI,s4]
    refine an c4 ?_
    rintro r bM ⟨rfl,ad1,dV,h1⟩
    have bg:=h1.fin
    simp [go_sem,bg]
    exact aj (by simp [go_sem]) (.of hz.symm ⟨by simp [go_sem],ad1,dV,h1⟩)
   rw [if_neg s4] at hz
   by_cases s1 : s.ak[i].st = 1
   ·rw [if_pos s1] at hz
    simp [go_sem,hf,lK,pS,iI,s1]
    refine an c1 ?_
    rintro r bM ⟨rfl,ad1,dV,h1⟩
    have bg:=h1.fin
    simp [go_sem,bg]
    exact aj (by simp [go_sem]) (.of hz.symm ⟨by simp [go_sem],ad1,dV,h1⟩)
   rw [if_neg s1] at hz
   by_cases s2 : s.ak[i].st = 2
   ·rw [if_pos s2] at hz
    simp [go_sem,hf,lK,pS,iI,s2]
    exact aj (by simp [go_sem]) (.of hz.symm ⟨by simp [go_sem],ad,bQ.refl _,h⟩)
   ·rw [if_neg s2] at hz
    simp [go_sem,hf,lK,pS,iI,s4,s1,s2,aq]
    exact aj (by simp [go_sem]) (.of hz.symm ⟨by simp [go_sem],ad,bQ.refl _,h.ba hi dD { s.ak[i] with st:=2,since:=s.now } rfl⟩)
def mH (s : IW) (x : Ev) : IW × Bool:=match fV s x with
 | none=>(s.fault 4,true)
 | some i =>
   let c:=s.ak.getD i kv
   let b:=s.ah.getD x.bk fZ
   if c.st = 1 then (s,false) else ((s.ba i { c with st:=5,gone:=s.now }).aO x.bk { b with cp:=ck (b.cp - 1) },true)
theorem Jw {aC bx : aa} {ad : cQ} {s : IW} (h : WI aC ad s bx) {p : Nat} (hp : ad .w = some p) (x : Ev) (hx : x.bk < s.ah.length) (hl : s.aG.length <= 90000) :
 aw prog 81 [.ptr p 13 0 0,aX x] bx (de aC ad (mH s x)):=by
 refine Vv fun hf=>?_
 obtain ⟨pb,pc,pr,pm,pw,hn⟩:=h.names hp
 have aq:=h.row hn
 unfold il at aq
 have cZ:=h.mE hn
 have cT:=sg h hp x
 have c4:=dq h hp 4 (by omega)
 have e2 : s.ah.getD x.bk fZ = s.ah[x.bk]:=by simp [hx]
 obtain ⟨z,hz⟩ : ∃ z,mH s x = z:=⟨_,rfl⟩
 rw [hz]
 unfold mH at hz
 rw [e2] at hz
 simp [go_sem,C81,hf,aX,iI]
 rw [jy]
 cases ho : fV s x with
 | none =>
   rw [ho] at cT hz
   unfold kL at cT
   refine ag cT ?_
   simp [go_sem,hf]
   refine an c4 ?_
   rintro r bM ⟨rfl,ad1,dV,h1⟩
   have bg:=h1.fin
   simp [go_sem,bg]
   exact aj (by simp [go_sem]) (.of hz.symm ⟨by simp [go_sem],ad1,dV,h1⟩)
 | some i =>
   rw [ho] at cT hz
   unfold kL at cT
   have hi:=(mF ho).1
   obtain ⟨b0,dD,lK⟩:=h.E2 hi
   have e1 : s.ak.getD i kv = s.ak[i]:=by simp [hi]
   simp only [dE dD] at cT
   simp only [e1] at hz
   refine ag cT ?_
   by_cases s1 : s.ak[i].st = 1
   ·rw [if_pos s1] at hz
    simp [go_sem,hf,lK,pS,iI,s1]
    exact aj (by simp [go_sem]) (.of hz.symm ⟨by simp [go_sem],ad,bQ.refl _,h⟩)
   ·rw [if_neg s1] at hz
    have h1:=h.ba hi dD { s.ak[i] with st:=5,gone:=s.now } rfl
    have fG:=h1.row hn
    have Bc:=h1.mE hn
    unfold il at fG
    simp only [pS,iI] at h1 fG Bc
    have bg:=h1.fin
    simp [go_sem,hf,lK,pS,iI,s1,aq]
    generalize aA bx b0 (some (bI.row uA 10 [V.agg [V.int .i64 s.ak[i].num,V.int .i64 s.ak[i].bk,V.int .i64 s.ak[i].aU,V.int .i64 s.ak[i].born,V.int .i64 s.now,V.int .i64 s.ak[i].bK,V.int .i64 s.ak[i].read,V.int .i64 5,V.int .i64 s.ak[i].call,V.int .i64 s.ak[i].since]])) = bM at *
    simp [go_sem,bg,fG,Bc,hx,aX,iI,ib,kK]
    exact aj (by simp [go_sem]) (.of hz.symm ⟨by simp [go_sem],ad,bQ.refl _,h1.kM hn hx { s.ah[x.bk] with cp:=ck (s.ah[x.bk].cp - 1) } rfl⟩)
def qQ (s : IW) (x : Ev) : IW × Bool:=match lq s x with
 | none=>(s.fault 4,true)
 | some i =>
   let c:=s.ak.getD i kv
   ((s.ai (decide (x.jQ ≠ x.call)) 6).ba i { c with read:=ck (c.read + x.n) },true)
theorem Gx {aC bx : aa} {ad0 ad : cQ} (hk : bQ ad0 ad) {s : IW} (h : WI aC ad s bx) (x : Ev) {i b0 : Nat} (hi : i < s.ak.length) (dD : ad (.cn i) = some b0) {z : IW × Bool} (hz : z = (s.ba i { s.ak[i] with read:=ck (s.ak[i].read + x.n) },true)) (st : St) (hs : je st ⟨31,bR [(3,.ep (aX x) 0),(5,.ptr b0 10 0 0)],bx⟩) :
 pw prog FV (fN prog [.tmp 4] (de aC ad0 z)) st:=by
 have hf:=h.fin
 have lK : bx b0 = some (.row uA 10 [pS s.ak[i]]):=by
  obtain ⟨b',h1,h2⟩:=h.E2 hi
  rw [dD] at h1; injection h1 with h1; rw [h1]; exact h2
 refine jq hs ?_
 simp [go_sem,hf,lK,pS,iI,aX]
 exact aj (by simp [go_sem]) (.of hz ⟨by simp [go_sem],ad,hk,h.ba hi dD { s.ak[i] with read:=ck (s.ak[i].read + x.n) } rfl⟩)
theorem Og {aC bx : aa} {ad : cQ} {s : IW} (h : WI aC ad s bx) {p : Nat} (hp : ad .w = some p) (x : Ev) (hl : s.aG.length <= 90000) :
 aw prog 78 [.ptr p 13 0 0,aX x] bx (de aC ad (qQ s x)):=by
 refine Vs fun hf=>?_
 have cO:=Gs h hp x
 have c4:=dq h hp 4 (by omega)
 have c6:=dq h hp 6 (by omega)
 obtain ⟨z,hz⟩ : ∃ z,qQ s x = z:=⟨_,rfl⟩
 rw [hz]
 unfold qQ at hz
 simp [go_sem,C78,hf,aX,iI]
 rw [jy]
 cases ho : lq s x with
 | none =>
   rw [ho] at cO hz
   unfold kL at cO
   refine ag cO ?_
   simp [go_sem,hf]
   refine an c4 ?_
   rintro r bM ⟨rfl,ad1,dV,h1⟩
   have bg:=h1.fin
   simp [go_sem,bg]
   exact aj (by simp [go_sem]) (.of hz.symm ⟨by simp [go_sem],ad1,dV,h1⟩)
 | some i =>
   rw [ho] at cO hz
   unfold kL at cO
   have hi:=sh ho
   obtain ⟨b0,dD,lK⟩:=h.E2 hi
   have e1 : s.ak.getD i kv = s.ak[i]:=by simp [hi]
   simp only [dE dD] at cO
   simp only [e1] at hz
   refine ag cO ?_
   by_cases c1 : x.jQ = x.call
   ·simp [go_sem,hf,aX,iI,c1]
    exact Gx (bQ.refl _) h x hi dD (by rw [<- hz]; simp [c1,IW.ai]) _ (al (by simp [go_sem,aX,iI,c1]))
   ·simp [go_sem,hf,aX,iI,c1]
    refine an c6 ?_
    rintro r bM ⟨rfl,ad1,dV,h1⟩
    have bg:=h1.fin
    simp [go_sem,bg]
    exact Gx dV h1 x hi (dV _ _ dD rfl) (by rw [<- hz]; simp [c1,IW.ai,IW.fault]) _ (al (by simp [go_sem,aX,iI,c1]))
theorem WI.cnB {aC bx : aa} {ad : cQ} {s : IW} (h : WI aC ad s bx) {i b : Nat} (hi : i < s.ak.length) (hb : ad (.cn i) = some b) : bx b = some (.row uA 10 [pS s.ak[i]]):=by
 obtain ⟨b',h1,h2⟩:=h.E2 hi
 rw [hb] at h1; injection h1 with h1; rw [h1]; exact h2
theorem WI.rqB {aC bx : aa} {ad : cQ} {s : IW} (h : WI aC ad s bx) {i b : Nat} (hi : i < s.aD.length) (hb : ad (.rq i) = some b) : bx b = some (.row uB 5 [sd s.aD[i].2]):=by
 obtain ⟨b',h1,h2⟩:=h.La hi
 rw [hb] at h1; injection h1 with h1; rw [h1]; exact h2
def qR (s : IW) (x : Ev) : IW × Bool:=match lq s x with
 | none=>(s.fault 4,true)
 | some i=>match jS s.aD x.call with
   | none=>(s,true)
   | some j =>
     let c:=s.ak.getD i kv
     let r:=(s.aD.getD j (0,nO)).2
     (((s.ai (!r.idem && decide (0 < r.bK) && decide (r.bK < r.aM)) 10).dO j { r with bK:=r.aM }).ba i { c with bK:=ck (c.bK + x.n) },true)
theorem Gy {aC bx : aa} {ad0 ad : cQ} (hk : bQ ad0 ad) {s : IW} (h : WI aC ad s bx) (x : Ev) {i b0 : Nat} (hi : i < s.ak.length) (dD : ad (.cn i) = some b0) {j b1 : Nat} (hj : j < s.aD.length) (eU : ad (.rq j) = some b1)
 {z : IW × Bool} (hz : z = ((s.dO j { s.aD[j].2 with bK:=s.aD[j].2.aM }).ba i { s.ak[i] with bK:=ck (s.ak[i].bK + x.n) },true)) (st : St) (hs : je st ⟨64,bR [(3,.ep (aX x) 0),(5,.ptr b0 10 0 0),(6,.ptr b1 5 0 0)],bx⟩) :
 pw prog FU (fN prog [.tmp 4] (de aC ad0 z)) st:=by
 have hf:=h.fin
 have lJ:=h.rqB hj eU
 have h1:=h.vt hj eU { s.aD[j].2 with bK:=s.aD[j].2.aM }
 have lK:=h1.cnB (i:=i) hi dD
 have bg:=h1.fin
 simp only [sd,iI] at h1 lK bg
 refine jq hs ?_
 simp [go_sem,hf,lJ,sd,iI]
 generalize aA bx b1 (some (bI.row uB 5 [V.agg [V.bool s.aD[j].2.idem,V.bool s.aD[j].2.ended,V.int .i64 s.aD[j].2.aM,V.int .i64 s.aD[j].2.at_,V.int .i64 s.aD[j].2.aM]])) = bM at *
 simp [go_sem,bg,lK,pS,iI,aX]
 exact aj (by simp [go_sem]) (.of hz ⟨by simp [go_sem],ad,hk,h1.ba (i:=i) hi dD { s.ak[i] with bK:=ck (s.ak[i].bK + x.n) } rfl⟩)
theorem Oh {aC bx : aa} {ad : cQ} {s : IW} (h : WI aC ad s bx) {p : Nat} (hp : ad .w = some p) (x : Ev) (hl : s.aG.length <= 90000) (Fx : ∀ i,lq s x = some i -> ∃ j,jS s.aD x.call = some j) :
 aw prog 77 [.ptr p 13 0 0,aX x] bx (de aC ad (qR s x)):=by
 refine Vr fun hf=>?_
 obtain ⟨pb,pc,pr,pm,pw,hn⟩:=h.names hp
 have aq:=h.row hn
 unfold il at aq
 have uD:=h.Wc hn
 have f1:=se s x.call ad
 have cO:=Gs h hp x
 have c4:=dq h hp 4 (by omega)
 have c10:=dq h hp 10 (by omega)
 obtain ⟨z,hz⟩ : ∃ z,qR s x = z:=⟨_,rfl⟩
 rw [hz]
 unfold qR at hz
 simp [go_sem,C77,hf,aX,iI]
 rw [jy]
 cases ho : lq s x with
 | none =>
   rw [ho] at cO hz
   unfold kL at cO
   refine ag cO ?_
   cases h1 : jS s.aD x.call <;> rw [h1] at f1 <;> simp only [Option.map_none,Option.map_some] at f1
   all_goals (
    simp [go_sem,hf,aq,uD,f1,aX,iI]
    refine an c4 ?_
    rintro r bM ⟨rfl,ad1,dV,h1⟩
    have bg:=h1.fin
    simp [go_sem,bg]
    exact aj (by simp [go_sem]) (.of hz.symm ⟨by simp [go_sem],ad1,dV,h1⟩))
 | some i =>
   obtain ⟨j,hj⟩:=Fx i ho
   rw [ho] at cO hz
   rw [hj] at f1 hz
   simp only [Option.map_some] at f1
   unfold kL at cO
   have hi:=sh ho
   obtain ⟨lB,_⟩:=oE hj
   obtain ⟨b0,dD,lK⟩:=h.E2 hi
   obtain ⟨b1,eU,lJ⟩:=h.La lB
   rw [dE eU] at f1
   have e1 : s.ak.getD i kv = s.ak[i]:=by simp [hi]
   have e2 : s.aD.getD j (0,nO) = s.aD[j]:=by simp [lB]
   simp only [dE dD] at cO
   simp only [e1,e2] at hz
   refine ag cO ?_
   cases s1 : s.aD[j].2.idem <;> by_cases s2 : 0 < s.aD[j].2.bK <;> by_cases s3 : s.aD[j].2.bK < s.aD[j].2.aM <;> simp [go_sem,hf,aq,uD,f1,aX,iI,lJ,sd,s1,s2,s3]
   all_goals first
    | exact Gy (bQ.refl _) h x hi dD lB eU (by rw [<- hz]; simp [s1,s2,s3,IW.ai]) _ (al (by simp [go_sem,aX,iI]))
    | (refine an c10 ?_
       rintro r bM ⟨rfl,ad1,dV,h1⟩
       have bg:=h1.fin
       simp [go_sem,bg]
       exact Gy dV h1 x hi (dV _ _ dD rfl) lB (dV _ _ eU rfl) (by rw [<- hz]; simp [s1,s2,s3,IW.ai,IW.fault]) _ (al (by simp [go_sem,aX,iI])))
def pC (s : IW) (x : Ev) : IW × Bool :=
 if gE s x || !oF s x then (s,false)
 else
  let b:=s.ah.getD x.bk fZ
  let s1:=s.aO x.bk { b with waits:=b.waits ++ [x.call] }
  ((aW s1 x ⟨false,true,false⟩).ai (decide ((s.aL.getD x.bk ⟨0,0,0,0⟩).queue < (b.waits.length + 1 : Nat))) 3,true)
theorem mI (s : IW) (x : Ev) (q : IP) : (aW s x q).ah = s.ah /\ (aW s x q).aL = s.aL /\ (aW s x q).aG = s.aG /\ (aW s x q).at_ = s.at_ /\ (aW s x q).ak = s.ak:=by
 unfold aW
 split <;> exact ⟨rfl,rfl,rfl,rfl,rfl⟩
theorem Oi {aC bx : aa} {ad : cQ} {s : IW} (h : WI aC ad s bx) {p : Nat} (hp : ad .w = some p) (x : Ev) (hx : x.bk < s.ah.length) (di : x.bk < s.aL.length) (hl : s.aG.length <= 90000) (qS : s.ah[x.bk].waits.length <= 90000) :
 aw prog 71 [.ptr p 13 0 0,aX x] bx (de aC ad (pC s x)):=by
 refine Vl fun hf=>?_
 obtain ⟨pb,pc,pr,pm,pw,hn⟩:=h.names hp
 have aq:=h.row hn
 unfold il at aq
 have cZ:=h.mE hn
 have hw:=h.Jr hx
 have cW:=x9 h hp x
 have cM:=Gr h hp x
 have e2 : s.ah.getD x.bk fZ = s.ah[x.bk]:=by simp [hx]
 have e3 : s.aL.getD x.bk ⟨0,0,0,0⟩ = s.aL[x.bk]:=by simp [di]
 obtain ⟨z,hz⟩ : ∃ z,pC s x = z:=⟨_,rfl⟩
 rw [hz]
 unfold pC at hz
 rw [e2,e3] at hz
 dsimp only at hz
 simp [go_sem,C71,hf,aX,iI]
 rw [jy]
 cases hwt : gE s x
 ·rw [hwt] at cW hz
  refine ag cW ?_
  simp [go_sem,hf,aX,iI]
  rw [jy]
  cases Ae : oF s x
  ·rw [Ae] at cM hz
   refine dn cM (by simp) (by simp [go_sem]) ?_
   simp [go_sem,hf]
   exact aj (by simp [go_sem]) (.of hz.symm ⟨by simp [go_sem],ad,bQ.refl _,h⟩)
  ·rw [Ae] at cM hz
   refine dn cM (by simp) (by simp [go_sem]) ?_
   simp [go_sem,hf,aq,cZ,hx,aX,iI,ib,kK,hw.strip,hw.live]
   refine ey (.int .i64 0) hw hf (news:=[iI x.call]) mA AQ (by simp [go_sem,bP,iI]) tp (by simp [go_sem]) (by decide) (by simp [F0]; omega) (by simp; omega) (by simp [go_sem]) fun v' bx' ha hm _=>?_
   have fA : bd bx' 2 1 ((s.ah[x.bk].waits ++ [x.call]).map iI) v':=by simpa using ha
   have h1:=h.setW hn hx (s.ah[x.bk].waits ++ [x.call]) hm fA
   have eU : bx' pb = some (.row zn 6 (s.ah.mapIdx (ib ad))):=by rw [hm.other (by rw [cZ]; simp) (hw.ne cZ (by decide)),cZ]
   have bg:=hm.fin
   simp only [kK,iI] at h1
   simp [go_sem,eU,hx,ib,kK,iI,ha.strip,ha.live,ha.cells,ha.okV,bg]
   have da:=h1.fin
   generalize (aA bx' pb (some (bI.row zn 6 ((s.ah.mapIdx (ib ad)).set x.bk (V.agg [V.bool s.ah[x.bk].down,V.int .i64 s.ah[x.bk].gL,V.int .i64 s.ah[x.bk].aK,V.int .i64 s.ah[x.bk].au,V.int .i64 s.ah[x.bk].cp,v']))))) = bx2 at *
   obtain ⟨ad1,Wm⟩ : ∃ ad1,eL ad (.ik x.bk) (qp v') = ad1:=⟨_,rfl⟩
   have dV : bQ ad ad1:=by rw [<- Wm]; exact WI.ch rfl _
   rw [Wm] at h1
   rw [jy,ada]
   refine an (oG h1 (dV _ _ hp rfl) x _ (by simp)) ?_
   have hbe:=mI { s with ah:=s.ah.set x.bk { s.ah[x.bk] with waits:=s.ah[x.bk].waits ++ [x.call] } } x ⟨false,true,false⟩
   have AB : z = ((aW { s with ah:=s.ah.set x.bk { s.ah[x.bk] with waits:=s.ah[x.bk].waits ++ [x.call] } } x ⟨false,true,false⟩).ai (decide (s.aL[x.bk].queue < (s.ah[x.bk].waits.length + 1 : Nat))) 3,true):=by rw [<- hz]; rfl
   generalize aW { s with ah:=s.ah.set x.bk { s.ah[x.bk] with waits:=s.ah[x.bk].waits ++ [x.call] } } x ⟨false,true,false⟩ = s2 at *
   obtain ⟨e4,e5,e6,e7,e8⟩:=hbe
   dsimp only at e4 e5 e6
   rintro r bx3 ⟨rfl,ad3,Cx,h3⟩
   have lu:=h3.fin
   have xF:=(hn.ch dV).ch Cx
   have qT:=h3.row xF
   unfold il at qT
   rw [e5] at qT
   have Bd:=h3.mE xF
   have pD : x.bk < s2.ah.length:=by rw [e4]; simpa using hx
   have Oj : s2.ah[x.bk].waits = s.ah[x.bk].waits ++ [x.call]:=by simp [e4]
   have HD:=h3.Jr pD
   simp only [Oj,List.length_append,List.length_singleton] at HD
   have hlen:=fun bx2=>fP (bx2:=bx2) (t:=60) HD mA
   simp [go_sem,HD.strip,HD.live] at hlen
   by_cases c1 : s.aL[x.bk].queue < (s.ah[x.bk].waits.length : Int) + 1
   ·simp [go_sem,lu,qT,Bd,pD,ib,kK,iI,di,bT,hlen,HD.strip,HD.live,Oj,c1,aX]
    refine an (dq h3 xF.w 3 (by rw [e6]; omega)) ?_
    rintro r bx4 ⟨rfl,ad4,DQ,h4⟩
    have nR:=h4.fin
    simp [go_sem,nR]
    exact aj (by simp [go_sem]) (.of (z':=(s2.fault 3,true)) (by rw [AB]; simp [IW.ai,c1]) ⟨by simp [go_sem],ad4,(dV.trans Cx).trans DQ,h4⟩)
   ·simp [go_sem,lu,qT,Bd,pD,ib,kK,iI,di,bT,hlen,HD.strip,HD.live,Oj,c1,aX]
    exact aj (by simp [go_sem]) (.of (z':=(s2,true)) (by rw [AB]; simp [IW.ai,c1]) ⟨by simp [go_sem],ad3,dV.trans Cx,h3⟩)
 ·rw [hwt] at cW hz
  refine ag cW ?_
  simp [go_sem,hf]
  refine jI (.bool false) (by simp [go_sem]) ?_
  simp [go_sem,hf]
  exact aj (by simp [go_sem]) (.of hz.symm ⟨by simp [go_sem],ad,bQ.refl _,h⟩)
theorem Le (s : IW) (c : Bool) (k : Int) : (s.ai c k).ah = s.ah /\ (s.ai c k).aL = s.aL /\ (s.ai c k).at_ = s.at_ /\ (s.ai c k).ak = s.ak /\ (s.ai c k).aD = s.aD /\ (s.ai c k).most = s.most /\ (s.ai c k).now = s.now /\ (s.ai c k).aG.length <= s.aG.length + 1:=by
 unfold IW.ai
 split
 ·exact ⟨rfl,rfl,rfl,rfl,rfl,rfl,rfl,by simp [IW.fault]⟩
 ·exact ⟨rfl,rfl,rfl,rfl,rfl,rfl,rfl,by omega⟩
theorem zx (s : IW) (x : Ev) : (bG s x).ah.length = s.ah.length /\ (bG s x).aL = s.aL /\ (bG s x).aG = s.aG /\ (bG s x).at_ = s.at_ /\ (bG s x).ak = s.ak /\ (bG s x).now = s.now:=by
 unfold bG
 exact ⟨by simp,rfl,rfl,rfl,rfl,rfl⟩
def qU (s : IW) (x : Ev) : IW × Bool :=
 if oF s x then
  let s3:=aW (bG (s.ai (fW s x) 9) x) x ⟨true,false,false⟩
  let b:=s3.ah.getD x.bk fZ
  ((s3.aO x.bk { b with au:=ck (b.au + 1) }).ai (decide ((s.aL.getD x.bk ⟨0,0,0,0⟩).max < ck (ck (b.au + 1) + b.cp))) 2,true)
 else (s,false)
theorem Ok {aC bx : aa} {ad : cQ} {s : IW} (h : WI aC ad s bx) {p : Nat} (hp : ad .w = some p) (x : Ev) (hx : x.bk < s.ah.length) (di : x.bk < s.aL.length) (hl : s.aG.length <= 80000) (qS : s.ah[x.bk].waits.length <= 90000) :
 aw prog 73 [.ptr p 13 0 0,aX x] bx (de aC ad (qU s x)):=by
 refine Vn fun hf=>?_
 obtain ⟨pb,pc,pr,pm,pw,hn⟩:=h.names hp
 have cM:=Gr h hp x
 have e3 : s.aL.getD x.bk ⟨0,0,0,0⟩ = s.aL[x.bk]:=by simp [di]
 obtain ⟨z,hz⟩ : ∃ z,qU s x = z:=⟨_,rfl⟩
 rw [hz]
 unfold qU at hz
 rw [e3] at hz
 simp [go_sem,C73,hf,aX,iI]
 rw [jy]
 cases Ae : oF s x
 ·rw [Ae] at cM hz
  refine ag cM ?_
  simp [go_sem,hf]
  exact aj (by simp [go_sem]) (.of hz.symm ⟨by simp [go_sem],ad,bQ.refl _,h⟩)
 ·rw [Ae] at cM hz
  simp only [if_true] at hz
  refine ag cM ?_
  simp [go_sem,hf,aX,iI]
  rw [jy]
  refine an (Cw h hp x hx (by omega)) ?_
  have q1:=Le s (fW s x) 9
  generalize s.ai (fW s x) 9 = s1 at *
  obtain ⟨a1,a2,a3,a4,a5,a6,a7,a8⟩:=q1
  rintro r bM ⟨rfl,ad1,dV,h1⟩
  have bg:=h1.fin
  have jg : x.bk < s1.ah.length:=by rw [a1]; exact hx
  simp [go_sem,bg,aX,iI]
  rw [jy]
  refine an (tv h1 (dV _ _ hp rfl) x jg (by simp only [a1]; omega)) ?_
  have q2:=zx s1 x
  generalize bG s1 x = s2 at *
  obtain ⟨b1,b2,b3,b4,b5,b6⟩:=q2
  rintro r bx2 ⟨rfl,ad2,fJ,h2⟩
  have da:=h2.fin
  simp [go_sem,da,aX,iI]
  rw [jy,ac9]
  refine an (oG h2 (fJ _ _ (dV _ _ hp rfl) rfl) x _ (by simp)) ?_
  have q3:=mI s2 x ⟨true,false,false⟩
  generalize aW s2 x ⟨true,false,false⟩ = s3 at *
  obtain ⟨c1,c2,c3,c4,c5⟩:=q3
  rintro r bx3 ⟨rfl,ad3,Cx,h3⟩
  have lu:=h3.fin
  have xF:=((hn.ch dV).ch fJ).ch Cx
  have qT:=h3.row xF
  unfold il at qT
  rw [c2,b2,a2] at qT
  have Bd:=h3.mE xF
  have pD : x.bk < s3.ah.length:=by rw [c1,b1]; exact jg
  have e2 : s3.ah.getD x.bk fZ = s3.ah[x.bk]:=by simp [pD]
  rw [e2] at hz
  have h4:=h3.kM xF pD { s3.ah[x.bk] with au:=ck (s3.ah[x.bk].au + 1) } rfl
  have nS:=h4.row xF
  unfold il at nS
  have el : (s3.aO x.bk { s3.ah[x.bk] with au:=ck (s3.ah[x.bk].au + 1) }).aL = s.aL:=by rw [<- a2,<- b2,<- c2]; rfl
  rw [el] at nS
  have Ol:=h4.mE xF
  have nR:=h4.fin
  have ef : (s3.aO x.bk { s3.ah[x.bk] with au:=ck (s3.ah[x.bk].au + 1) }).aG.length <= 80001:=by show s3.aG.length <= _; rw [c3,b3]; omega
  simp only [ib,kK,iI] at h4 nS Ol nR
  simp [go_sem,lu,qT,Bd,pD,ib,kK,iI,aX]
  have jd : ∀ a : Int,IntKind.i64.wrap a = ck a:=fun a=>rfl
  simp only [jd] at *
  generalize (aA bx3 pb (some (bI.row zn 6 ((s3.ah.mapIdx (ib ad3)).set x.bk (V.agg [V.bool s3.ah[x.bk].down,V.int .i64 s3.ah[x.bk].gL,V.int .i64 s3.ah[x.bk].aK,V.int .i64 (ck (s3.ah[x.bk].au + 1)),V.int .i64 s3.ah[x.bk].cp,j3 (ad3 (.ik x.bk)) 1 s3.ah[x.bk].waits.length]))))) = bx4 at *
  have BY : x.bk < (s3.aO x.bk { s3.ah[x.bk] with au:=ck (s3.ah[x.bk].au + 1) }).ah.length:=by simpa [IW.aO] using pD
  have eb : (s3.aO x.bk { s3.ah[x.bk] with au:=ck (s3.ah[x.bk].au + 1) }).ah[x.bk] = { s3.ah[x.bk] with au:=ck (s3.ah[x.bk].au + 1) }:=by simp [IW.aO]
  by_cases g1 : s.aL[x.bk].max < ck (ck (s3.ah[x.bk].au + 1) + s3.ah[x.bk].cp)
  ·simp [go_sem,nR,nS,Ol,BY,eb,ib,kK,iI,aX,di,bT,jd,g1]
   refine an (dq h4 xF.w 2 (by omega)) ?_
   rintro r kd ⟨rfl,ad5,E3,h5⟩
   have pE:=h5.fin
   simp [go_sem,pE]
   exact aj (by simp [go_sem]) (.of (z':=((s3.aO x.bk { s3.ah[x.bk] with au:=ck (s3.ah[x.bk].au + 1) }).fault 2,true)) (by rw [<- hz]; simp [IW.ai,g1]) ⟨by simp [go_sem],ad5,((dV.trans fJ).trans Cx).trans E3,h5⟩)
  ·simp [go_sem,nR,nS,Ol,BY,eb,ib,kK,iI,aX,di,bT,jd,g1]
   exact aj (by simp [go_sem]) (.of (z':=(s3.aO x.bk { s3.ah[x.bk] with au:=ck (s3.ah[x.bk].au + 1) },true)) (by rw [<- hz]; simp [IW.ai,g1]) ⟨by simp [go_sem],ad3,(dV.trans fJ).trans Cx,h4⟩)
def qV (s : IW) (x : Ev) : IW × Bool:=match fF s x.call with
 | none=>(s,false)
 | some i =>
   let r:=(s.aD.getD i (0,nO)).2
   let b:=s.ah.getD x.bk fZ
   let s1:=s.ai (b.down || decide (b.gL = 1)) 7
   let s2:=if b.gL = 2 then (s1.ai (decide (0 < b.aK) && decide (b.aK ≠ x.call)) 8).aO x.bk { b with aK:=x.call } else s1
   let s3:=s2.ai (decide (s.most < r.aM)) 10
   (s3.dO i { r with aM:=ck (r.aM + 1),at_:=x.bk },true)
theorem zy {aC bx : aa} {ad0 ad : cQ} (hk : bQ ad0 ad) {s : IW} (h : WI aC ad s bx) (x : Ev) {i b : Nat} (hi : i < s.aD.length) (hb : ad (.rq i) = some b)
 {z : IW × Bool} (hz : z = (s.dO i { s.aD[i].2 with aM:=ck (s.aD[i].2.aM + 1),at_:=x.bk },true)) (st : St) (hs : je st ⟨83,bR [(3,.ep (aX x) 0),(5,.ptr b 5 0 0)],bx⟩) :
 pw prog FO (fN prog [.tmp 4] (de aC ad0 z)) st:=by
 have hf:=h.fin
 have hr:=h.rqB hi hb
 refine jq hs ?_
 simp [go_sem,hf,hr,sd,iI,aX]
 exact aj (by simp [go_sem]) (.of hz ⟨by simp [go_sem],ad,hk,h.vt hi hb { s.aD[i].2 with aM:=ck (s.aD[i].2.aM + 1),at_:=x.bk }⟩)
theorem pF {aC bx : aa} {ad0 ad : cQ} (hk : bQ ad0 ad) {s : IW} (h : WI aC ad s bx) {p : Nat} (hp : ad .w = some p) (x : Ev) (hl : s.aG.length <= 90000) {i b : Nat} (hi : i < s.aD.length) (hb : ad (.rq i) = some b)
 {z : IW × Bool} (hz : z = ((s.ai (decide (s.most < s.aD[i].2.aM)) 10).dO i { s.aD[i].2 with aM:=ck (s.aD[i].2.aM + 1),at_:=x.bk },true)) (st : St) (hs : je st ⟨83,bR [(0,.ptr p 13 0 0),(3,.ep (aX x) 0),(5,.ptr b 5 0 0)],bx⟩) :
 pw prog FP (fN prog [.tmp 4] (de aC ad0 z)) st:=by
 have hf:=h.fin
 obtain ⟨pb,pc,pr,pm,pw,hn⟩:=h.names hp
 have aq:=h.row hn
 unfold il at aq
 have hr:=h.rqB hi hb
 refine jq hs ?_
 by_cases c1 : s.most < s.aD[i].2.aM
 ·simp [go_sem,hf,hr,sd,iI,aX,aq,c1]
  refine an (dq h hp 10 (by omega)) ?_
  rintro r bM ⟨rfl,ad1,dV,h1⟩
  have bg:=h1.fin
  simp [go_sem,bg]
  exact zy (hk.trans dV) h1 x (i:=i) hi (dV _ _ hb rfl) (by rw [hz]; simp [IW.ai,c1,IW.fault]) _ (al (by simp [go_sem,aX,iI]))
 ·simp [go_sem,hf,hr,sd,iI,aX,aq,c1]
  exact zy hk h x (i:=i) hi hb (by rw [hz]; simp [IW.ai,c1]) _ (al (by simp [go_sem,aX,iI]))
theorem tx {aC bx : aa} {ad0 ad : cQ} (hk : bQ ad0 ad) {s : IW} (h : WI aC ad s bx) {p pb : Nat} (hp : ad .w = some p) (Ky : ad .ah = some pb) (x : Ev) (hl : s.aG.length <= 80000) (hx : x.bk < s.ah.length) {i b : Nat} (hi : i < s.aD.length) (hb : ad (.rq i) = some b)
 {z : IW × Bool} (hz : z = (((if s.ah[x.bk].gL = 2 then (s.ai (decide (0 < s.ah[x.bk].aK) && decide (s.ah[x.bk].aK ≠ x.call)) 8).aO x.bk { s.ah[x.bk] with aK:=x.call } else s).ai (decide (s.most < s.aD[i].2.aM)) 10).dO i { s.aD[i].2 with aM:=ck (s.aD[i].2.aM + 1),at_:=x.bk },true)) (st : St) (hs : je st ⟨83,bR [(0,.ptr p 13 0 0),(3,.ep (aX x) 0),(5,.ptr b 5 0 0),(6,.ptr pb 6 x.bk 0)],bx⟩) :
 pw prog FQ (fN prog [.tmp 4] (de aC ad0 z)) st:=by
 have hf:=h.fin
 obtain ⟨pb',pc,pr,pm,pw,hn⟩:=h.names hp
 have : pb' = pb:=by have:=hn.b; rw [Ky] at this; injection this with this; exact this.symm
 subst this
 have aq:=h.row hn
 unfold il at aq
 have cZ:=h.mE hn
 refine jq hs ?_
 by_cases c1 : s.ah[x.bk].gL = 2
 ·rw [if_pos c1] at hz
  have gW:=h.kM hn hx ⟨s.ah[x.bk].down,2,x.call,s.ah[x.bk].au,s.ah[x.bk].cp,s.ah[x.bk].waits⟩ rfl
  have Zo (hc : (decide (0 < s.ah[x.bk].aK) && decide (s.ah[x.bk].aK ≠ x.call)) = false) : z = (((s.aO x.bk ⟨s.ah[x.bk].down,2,x.call,s.ah[x.bk].au,s.ah[x.bk].cp,s.ah[x.bk].waits⟩).ai (decide (s.most < s.aD[i].2.aM)) 10).dO i { s.aD[i].2 with aM:=ck (s.aD[i].2.aM + 1),at_:=x.bk },true):=by
   rw [hz,hc,<- c1]; rfl
  by_cases c2 : 0 < s.ah[x.bk].aK
  ·by_cases c3 : s.ah[x.bk].aK = x.call
   ·simp [go_sem,hf,cZ,hx,aX,ib,kK,iI,aq,c1,c2,c3]
    exact pF hk gW hp x (by show s.aG.length <= _; omega) (i:=i) hi hb (Zo (by simp [c3])) _ (al (by simp [go_sem,aX,iI]))
   ·simp [go_sem,hf,cZ,hx,aX,ib,kK,iI,aq,c1,c2,c3]
    refine an (dq h hp 8 (by omega)) ?_
    rintro r bM ⟨rfl,ad1,dV,h1⟩
    have bg:=h1.fin
    have wP:=hn.ch dV
    have Bc:=h1.mE wP
    have Wn:=h1.kM wP (i:=x.bk) hx ⟨s.ah[x.bk].down,2,x.call,s.ah[x.bk].au,s.ah[x.bk].cp,s.ah[x.bk].waits⟩ rfl
    have eb : (s.fault 8).ah = s.ah:=rfl
    rw [eb] at Bc
    simp [go_sem,bg,Bc,hx,aX,ib,kK,iI,c1]
    exact pF (hk.trans dV) Wn wP.w x (by show (s.aG ++ [_]).length <= _; simp; omega) (i:=i) hi (dV _ _ hb rfl) (by rw [hz]; simp [c2,c3,IW.ai,<- c1]; rfl) _ (al (by simp [go_sem,aX,iI]))
  ·simp [go_sem,hf,cZ,hx,aX,ib,kK,iI,aq,c1,c2]
   exact pF hk gW hp x (by show s.aG.length <= _; omega) (i:=i) hi hb (Zo (by simp [c2])) _ (al (by simp [go_sem,aX,iI]))
 ·rw [if_neg c1] at hz
  simp [go_sem,hf,cZ,hx,aX,ib,kK,iI,aq,c1]
  exact pF hk h hp x (by omega) (i:=i) hi hb hz _ (al (by simp [go_sem,aX,iI]))
theorem Om {aC bx : aa} {ad : cQ} {s : IW} (h : WI aC ad s bx) {p : Nat} (hp : ad .w = some p) (x : Ev) (hx : x.bk < s.ah.length) (hl : s.aG.length <= 70000) :
 aw prog 70 [.ptr p 13 0 0,aX x] bx (de aC ad (qV s x)):=by
 refine Vk fun hf=>?_
 obtain ⟨pb,pc,pr,pm,pw,hn⟩:=h.names hp
 have aq:=h.row hn
 unfold il at aq
 have cZ:=h.mE hn
 have cR:=xA h hp x.call
 have e2 : s.ah.getD x.bk fZ = s.ah[x.bk]:=by simp [hx]
 obtain ⟨z,hz⟩ : ∃ z,qV s x = z:=⟨_,rfl⟩
 rw [hz]
 unfold qV at hz
 rw [e2] at hz
 simp [go_sem,C70,hf,aX,iI]
 cases hr : fF s x.call with
 | none =>
   rw [hr] at cR hz
   unfold uC at cR
   refine ag cR ?_
   simp [go_sem,hf,aq,cZ,hx]
   exact aj (by simp [go_sem]) (.of hz.symm ⟨by simp [go_sem],ad,bQ.refl _,h⟩)
 | some i =>
   rw [hr] at cR hz
   unfold uC at cR
   obtain ⟨hi,_⟩:=zw hr
   obtain ⟨b0,dD,lK⟩:=h.La hi
   have e1 : s.aD.getD i (0,nO) = s.aD[i]:=by simp [hi]
   simp only [dE dD] at cR
   simp only [e1] at hz
   refine ag cR ?_
   have c7:=dq h hp 7 (by omega)
   by_cases d1 : s.ah[x.bk].down = true
   ·simp [go_sem,hf,aq,cZ,hx,ib,kK,iI,d1]
    refine an c7 ?_
    rintro r bM ⟨rfl,ad1,dV,h1⟩
    have bg:=h1.fin
    simp [go_sem,bg]
    exact tx dV h1 (dV _ _ hp rfl) (dV _ _ hn.b rfl) x (by simp [IW.fault]; omega) hx (i:=i) hi (dV _ _ dD rfl) (by rw [show (s.ah[x.bk].down || decide (s.ah[x.bk].gL = 1)) = true by simp [d1]] at hz; exact hz.symm) _ (al (by simp [go_sem,aX,iI]))
   ·by_cases d2 : s.ah[x.bk].gL = 1
    ·simp [go_sem,hf,aq,cZ,hx,ib,kK,iI,d1,d2]
     refine an c7 ?_
     rintro r bM ⟨rfl,ad1,dV,h1⟩
     have bg:=h1.fin
     simp [go_sem,bg]
     exact tx dV h1 (dV _ _ hp rfl) (dV _ _ hn.b rfl) x (by simp [IW.fault]; omega) hx (i:=i) hi (dV _ _ dD rfl) (by rw [show (s.ah[x.bk].down || decide (s.ah[x.bk].gL = 1)) = true by simp [d2]] at hz; exact hz.symm) _ (al (by simp [go_sem,aX,iI]))
    ·simp [go_sem,hf,aq,cZ,hx,ib,kK,iI,d1,d2]
     exact tx (bQ.refl _) h hp hn.b x (by omega) hx (i:=i) hi dD (by rw [show (s.ah[x.bk].down || decide (s.ah[x.bk].gL = 1)) = false by simp [d1,d2]] at hz; exact hz.symm) _ (al (by simp [go_sem,aX,iI]))
theorem WI.mono {aC bx bx' : aa} {ad : cQ} {s : IW} (h : WI aC ad s bx) (he : Ext bx bx') (hf : bj bx') : WI aC ad s bx' :=
 ⟨hf,fun b hb=>by rw [he b (by rw [h.ext b hb]; exact hb),h.ext b hb],fun c b e=>by
  obtain ⟨h1,h2,h3⟩:=h.at_ c b e
  exact ⟨h1,by rw [he b (by rw [h2]; simp),h2],h3⟩,h.none_,h.inj⟩
def mJ (s : IW) (x : Ev) : IW × Bool :=
 if oF s x then match fV s x with
  | none=>(s.fault 4,true)
  | some i =>
    let c:=s.ak.getD i kv
    if c.st = 4 then (s.fault 4,true) else if c.st = 1 then (s.fault 1,true)
    else
     let m:=s.aL.getD x.bk ⟨0,0,0,0⟩
     let s1:=s.ai (fW s x) 9
     let s2:=s1.ai (decide (m.xu <= ck (s.now - c.born)) || (decide (c.st = 2) && decide (m.idle <= ck (s.now - c.since)))) 5
     (jr (bG s2 x) i x,true)
 else (s,false)
theorem vu {aC bx : aa} {ad0 ad : cQ} (hk : bQ ad0 ad) {s : IW} (h : WI aC ad s bx) {p : Nat} (hp : ad .w = some p) (x : Ev) (hx : x.bk < s.ah.length) (qS : s.ah[x.bk].waits.length <= 90000) {i b : Nat} (hi : i < s.ak.length) (hb : ad (.cn i) = some b)
 {z : IW × Bool} (hz : z = (jr (bG s x) i x,true)) (st : St) (hs : je st ⟨89,bR [(0,.ptr p 13 0 0),(3,.ep (aX x) 0),(5,.ptr b 10 0 0)],bx⟩) :
 pw prog FR (fN prog [.tmp 4] (de aC ad0 z)) st:=by
 have hf:=h.fin
 refine jq hs ?_
 simp [go_sem,hf,aX,iI]
 rw [jy]
 refine an (tv h hp x hx (by omega)) ?_
 have q2:=zx s x
 generalize bG s x = s2 at *
 obtain ⟨b1,b2,b3,b4,b5,b6⟩:=q2
 rintro r bM ⟨rfl,ad1,dV,h1⟩
 have bg:=h1.fin
 simp [go_sem,bg,aX,iI]
 rw [jy]
 refine an (Gv h1 (dV _ _ hp rfl) x (i:=i) (by rw [b5]; exact hi) (dV _ _ hb rfl)) ?_
 rintro r bx2 ⟨rfl,ad2,fJ,h2⟩
 have da:=h2.fin
 simp [go_sem,da]
 exact aj (by simp [go_sem]) (.of hz ⟨by simp [go_sem],ad2,(hk.trans dV).trans fJ,h2⟩)
theorem DR {aC bx : aa} {ad0 ad : cQ} (hk : bQ ad0 ad) {s : IW} (h : WI aC ad s bx) {p : Nat} (hp : ad .w = some p) (x : Ev) (hx : x.bk < s.ah.length) (di : x.bk < s.aL.length) (hl : s.aG.length <= 90000) (qS : s.ah[x.bk].waits.length <= 90000) {i b : Nat} (hi : i < s.ak.length) (hb : ad (.cn i) = some b)
 {z : IW × Bool} (hz : z = (jr (bG (s.ai (decide (s.aL[x.bk].xu <= ck (s.now - s.ak[i].born)) || (decide (s.ak[i].st = 2) && decide (s.aL[x.bk].idle <= ck (s.now - s.ak[i].since)))) 5) x) i x,true)) (st : St) (hs : je st ⟨89,bR [(0,.ptr p 13 0 0),(3,.ep (aX x) 0),(5,.ptr b 10 0 0)],bx⟩) :
 pw prog FT (fN prog [.tmp 4] (de aC ad0 z)) st:=by
 have hf:=h.fin
 obtain ⟨pb,pc,pr,pm,pw',hn⟩:=h.names hp
 have aq:=h.row hn
 unfold il at aq
 refine jq hs ?_
 simp [go_sem,hf,aq,di,bT,aX,iI]
 intro b2 c9
 have h1 : WI aC ad s (aA bx b2 (some (.row 111 4 [bT s.aL[x.bk]]))):=h.mono (pB c9 _) ((ar _ _ _).2 hf)
 have BW:=af bx b2 (some (bI.row 111 4 [bT s.aL[x.bk]]))
 simp only [bT,iI] at h1 BW
 generalize aA bx b2 (some (bI.row 111 4 [V.agg [V.int .i64 s.aL[x.bk].max,V.int .i64 s.aL[x.bk].queue,V.int .i64 s.aL[x.bk].idle,V.int .i64 s.aL[x.bk].xu]])) = bM at *
 have bg:=h1.fin
 have fG:=h1.row hn
 unfold il at fG
 have eU:=h1.cnB hi hb
 have jd : ∀ a : Int,IntKind.i64.wrap a = ck a:=fun a=>rfl
 by_cases c1 : s.aL[x.bk].xu <= ck (s.now - s.ak[i].born) <;> by_cases c2 : s.ak[i].st = 2 <;> by_cases c3 : s.aL[x.bk].idle <= ck (s.now - s.ak[i].since) <;> simp [go_sem,bg,fG,eU,BW,pS,iI,jd,c1,c2,c3]
 all_goals first
  | (refine an (dq h1 hp 5 (by omega)) ?_
     rintro r bx2 ⟨rfl,ad2,fJ,h2⟩
     have da:=h2.fin
     simp [go_sem,da]
     refine vu (hk.trans fJ) h2 (fJ _ _ hp rfl) x hx qS (i:=i) hi (fJ _ _ hb rfl) ?_ _ (al (by simp [go_sem,aX,iI]))
     rw [hz]
     simp only [c1,c2,c3,decide_true,decide_false,Bool.true_or,Bool.or_true,Bool.and_true,Bool.true_and,Bool.or_self,IW.ai,if_true,Bool.false_or])
  | (refine vu hk h1 hp x hx qS (i:=i) hi hb ?_ _ (al (by simp [go_sem,aX,iI]))
     rw [hz]
     simp only [c1,c2,c3,decide_true,decide_false,Bool.false_or,Bool.and_false,Bool.false_and,Bool.or_self,IW.ai,Bool.false_eq_true,if_false])
theorem Jx {aC bx : aa} {ad : cQ} {s : IW} (h : WI aC ad s bx) {p : Nat} (hp : ad .w = some p) (x : Ev) (hx : x.bk < s.ah.length) (di : x.bk < s.aL.length) (hl : s.aG.length <= 80000) (qS : s.ah[x.bk].waits.length <= 90000) :
 aw prog 76 [.ptr p 13 0 0,aX x] bx (de aC ad (mJ s x)):=by
 refine Vq fun hf=>?_
 have cM:=Gr h hp x
 have cT:=sg h hp x
 have c4:=dq h hp 4 (by omega)
 have c1:=dq h hp 1 (by omega)
 have e3 : s.aL.getD x.bk ⟨0,0,0,0⟩ = s.aL[x.bk]:=by simp [di]
 obtain ⟨z,hz⟩ : ∃ z,mJ s x = z:=⟨_,rfl⟩
 rw [hz]
 unfold mJ at hz
 rw [e3] at hz
 simp [go_sem,C76,hf,aX,iI]
 rw [jy]
 cases Ae : oF s x
 ·rw [Ae] at cM hz
  refine ag cM ?_
  simp [go_sem,hf]
  exact aj (by simp [go_sem]) (.of hz.symm ⟨by simp [go_sem],ad,bQ.refl _,h⟩)
 rw [Ae] at cM hz
 simp only [if_true] at hz
 refine ag cM ?_
 simp [go_sem,hf,aX,iI]
 rw [jy]
 cases ho : fV s x with
 | none =>
   rw [ho] at cT hz
   unfold kL at cT
   refine ag cT ?_
   simp [go_sem,hf]
   refine an c4 ?_
   rintro r bM ⟨rfl,ad1,dV,h1⟩
   have bg:=h1.fin
   simp [go_sem,bg]
   exact aj (by simp [go_sem]) (.of hz.symm ⟨by simp [go_sem],ad1,dV,h1⟩)
 | some i =>
   rw [ho] at cT hz
   unfold kL at cT
   have hi:=(mF ho).1
   obtain ⟨b0,dD,lK⟩:=h.E2 hi
   have e1 : s.ak.getD i kv = s.ak[i]:=by simp [hi]
   simp only [dE dD] at cT
   simp only [e1] at hz
   refine ag cT ?_
   by_cases s4 : s.ak[i].st = 4
   ·rw [if_pos s4] at hz
    simp [go_sem,hf,lK,pS,iI,s4]
    refine an c4 ?_
    rintro r bM ⟨rfl,ad1,dV,h1⟩
    have bg:=h1.fin
    simp [go_sem,bg]
    exact aj (by simp [go_sem]) (.of hz.symm ⟨by simp [go_sem],ad1,dV,h1⟩)
   rw [if_neg s4] at hz
   by_cases s1 : s.ak[i].st = 1
   ·rw [if_pos s1] at hz
    simp [go_sem,hf,lK,pS,iI,s1]
    refine an c1 ?_
    rintro r bM ⟨rfl,ad1,dV,h1⟩
    have bg:=h1.fin
    simp [go_sem,bg]
    exact aj (by simp [go_sem]) (.of hz.symm ⟨by simp [go_sem],ad1,dV,h1⟩)
   rw [if_neg s1] at hz
   simp [go_sem,hf,lK,pS,iI,s4,s1,aX]
   rw [jy]
   refine an (Cw h hp x hx (by omega)) ?_
   have q1:=Le s (fW s x) 9
   generalize s.ai (fW s x) 9 = s1' at *
   obtain ⟨a1,a2,a3,a4,a5,a6,a7,a8⟩:=q1
   rintro r bM ⟨rfl,ad1,dV,h1⟩
   have bg:=h1.fin
   simp [go_sem,bg]
   refine DR dV h1 (dV _ _ hp rfl) x (by rw [a1]; exact hx) (by rw [a2]; exact di) (by omega) (by simp only [a1]; omega) (i:=i) (by rw [a4]; exact hi) (dV _ _ dD rfl) ?_ _ (al (by simp [go_sem,aX,iI]))
   rw [<- hz]
   simp only [a2,a4,a7]
theorem Jy : AO (dz f75 1) (vl.take 11) (⟨some 17,.call { callee:=.value (.func 118),args:=#[.tmp 15,.tmp 16],argTypes:=#[95,69] },some (14,false),false⟩ : bO) (vl.drop 12):=by
 have e : dz f75 1 = .region 1 (oA (dz f75 1)) true:=by kernel_rfl
 rw [e]
 exact ⟨by kernel_rfl,by kernel_rfl,by kernel_rfl,by kernel_rfl,by kernel_rfl⟩
def qW (s : IW) (x : Ev) : IW × Bool :=
 match (s.ak.map (·.num)).findIdx? (· == x.conn) with
 | some _=>(s,false)
 | none =>
   let d:=aZ s x
   if d.2 then
    let s1 : IW:=d.1
    let s2 : IW:={ s1 with ak:=s1.ak ++ [(⟨x.conn,x.bk,0,s1.now,-1,0,0,3,0,0⟩ : IC)],ord:=s1.ord ++ [x.conn] }
    let b:=s2.ah.getD x.bk fZ
    let s3:=s2.aO x.bk { b with cp:=ck (b.cp + 1) }
    (if x.yes then jr s3 s1.ak.length x else s3,true)
   else (d.1,false)
theorem Be {aC bx : aa} {ad : cQ} {s : IW} (h : WI aC ad s bx) {p : Nat} (hp : ad .w = some p) (x : Ev) : ∃ r bx',de aC ad (aZ s x) r bx':=by
 obtain ⟨pb,pc,pr,pm,pw',hn⟩:=h.names hp
 unfold aZ
 split
 ·dsimp only
  have h2:=h.aO hn x.bk { s.ah.getD x.bk fZ with au:=ck ((s.ah.getD x.bk fZ).au - 1) } (fun b hb=>by rw [List.getD_eq_getElem?_getD,hb]; rfl)
  have h3:=h2.x8 hn (nC s.busy x.call)
  unfold aW
  rw [if_pos rfl]
  exact ⟨_,_,rfl,ad,bQ.refl _,h3⟩
 ·exact ⟨_,_,rfl,ad,bQ.refl _,h⟩
theorem On {aC bx : aa} {ad : cQ} {s : IW} (h : WI aC ad s bx) {p : Nat} (hp : ad .w = some p) (x : Ev) (hx : x.bk < s.ah.length) (Oo : s.ord.length <= 90000) :
 aw prog 75 [.ptr p 13 0 0,aX x] bx (de aC ad (qW s x)):=by
 refine Vp fun hf=>?_
 obtain ⟨pb,pc,pr,pm,pw',hn⟩:=h.names hp
 have aq:=h.row hn
 unfold il at aq
 have Lc:=h.Zm hn
 have f1:=sf s x.conn ad
 obtain ⟨z,hz⟩ : ∃ z,qW s x = z:=⟨_,rfl⟩
 rw [hz]
 unfold qW at hz
 simp [go_sem,C75,hf,aX,iI]
 cases h1 : (s.ak.map (·.num)).findIdx? (· == x.conn) with
 | some i =>
   rw [h1] at f1 hz
   simp only [Option.map_some] at f1
   refine Je ?_
   simp [go_sem,vl,hf,aq,Lc,f1,aX,iI]
   refine jI (.bool false) (by simp [go_sem]) ?_
   simp [go_sem,hf]
   exact aj (by simp [go_sem]) (.of hz.symm ⟨by simp [go_sem],ad,bQ.refl _,h⟩)
 | none =>
   have h1x:=h1
   rw [h1] at f1 hz
   simp only [Option.map_none] at f1
   refine II (by kernel_rfl) [0,3,19] Jy ?_
   simp [go_sem,vl,hf,aq,Lc,f1,aX,iI]
   rw [jy]
   refine iC (vr h hp x hx) (Be h hp x) ?_
   dsimp only at hz
   have hlen : (aZ s x).1.ah.length = s.ah.length /\ (aZ s x).1.ak = s.ak /\ (aZ s x).1.ord = s.ord:=by
    unfold aZ
    split
    ·obtain ⟨b1,_,_,_,b5⟩:=mI { s with ah:=s.ah.set x.bk { s.ah.getD x.bk fZ with au:=ck ((s.ah.getD x.bk fZ).au - 1) } } x dB
     exact ⟨by dsimp only; rw [b1]; simp,by dsimp only; rw [b5],by dsimp only; unfold aW; split <;> rfl⟩
    ·exact ⟨rfl,rfl,rfl⟩
   generalize aZ s x = d at *
   rintro r bM ⟨rfl,ad1,dV,h1⟩
   have bg:=h1.fin
   cases hd : d.2
   ·rw [hd] at hz
    simp [go_sem,bg]
    exact aj (by simp [go_sem]) (.of hz.symm ⟨by simp [go_sem],ad1,dV,h1⟩)
   ·rw [hd] at hz
    simp only [if_true] at hz
    generalize d.1 = s1 at *
    have wP:=hn.ch dV
    have fG:=h1.row wP
    unfold il at fG
    simp [go_sem,bg,fG,aX,iI]
    intro b hb
    have Wo:=h1.Zm wP
    have f2:=sf s1 x.conn ad1
    rw [hlen.2.1,h1x] at f2
    simp only [Option.map_none] at f2
    have hnp : p ≠ b:=by rintro rfl; rw [fG] at hb; cases hb
    have rM : pc ≠ b:=by rintro rfl; rw [Wo] at hb; cases hb
    rw [<- hlen.2.1] at f2
    obtain ⟨h2,fJ⟩:=h1.Oa wP ⟨x.conn,x.bk,0,s1.now,-1,0,0,3,0,0⟩ hb
    simp only [pS,iI] at h2
    simp [go_sem,bg,ae,hnp,rM,fG,Wo,f2]
    generalize (aA (aA bM b (some (bI.row uA 10 [V.agg [V.int .i64 x.conn,V.int .i64 x.bk,V.int .i64 0,V.int .i64 s1.now,V.int .i64 (-1),V.int .i64 0,V.int .i64 0,V.int .i64 3,V.int .i64 0,V.int .i64 0]]))) pc (some (bI.map ((jR (s1.ak.map (fun x=>x.num)) fun i=>V.ptr (nD ad1 (.cn i)) 10 0 0) ++ [(V.int .i64 x.conn,V.ptr b 10 0 0)])))) = bx2 at *
    obtain ⟨ad2,Wp⟩ : ∃ ad2,eL ad1 (.cn s1.ak.length) (some b) = ad2:=⟨_,rfl⟩
    have Aa : ad2 (.cn s1.ak.length) = some b:=by rw [<- Wp]; exact hY _ _ _
    rw [Wp] at h2 fJ
    obtain ⟨s2,na⟩ : ∃ s2 : IW,({ s1 with ak:=s1.ak ++ [(⟨x.conn,x.bk,0,s1.now,-1,0,0,3,0,0⟩ : IC)] } : IW) = s2:=⟨_,rfl⟩
    have h2 : WI aC ad2 s2 bx2:=by rw [<- na]; exact h2
    have Fg:=wP.ch fJ
    have fH:=h2.row Fg
    unfold il at fH
    have da:=h2.fin
    have ho2:=h2.Wd
    simp [go_sem,da,fH,aX,iI]
    refine ey (.int .i64 0) ho2 da (news:=[iI x.conn]) mA AQ (by simp [go_sem,bP,iI]) tp (by simp [go_sem]) (by decide) (by have:=hlen.2.2; simp [F0,<- na,this]; omega) (by have:=hlen.2.2; simp [<- na,this]; omega) (by simp [go_sem]) fun v' bx' ha hm _=>?_
    have fA : bd bx' 2 1 ((s2.ord ++ [x.conn]).map iI) v':=by simpa using ha
    have h3:=h2.NY Fg x.conn hm fA
    have Oq : bx' p = _:=(hm.other (by rw [fH]; simp) (ho2.ne fH (by decide))).trans fH
    have lu:=hm.fin
    unfold il at h3
    simp only [iI] at h3
    simp [go_sem,Oq,ha.strip,ha.live,ha.cells,ha.okV,lu,iI]
    generalize (aA bx' p (some (bI.row KZ 13 [V.agg [V.sl 4 (s2.aL.map bT),V.int .i64 s2.most,V.sl 8 (s2.ky.map fY),V.int .i64 s2.now,V.int .i64 s2.at_,V.own pb 6 0 s2.ah.length,V.mp pc,v',V.mp pr,V.mp pm,V.mp pw',V.bool s2.stop,j3 (ad2 .aG) 2 s2.aG.length]]))) = bx3 at *
    obtain ⟨ad3,Wq⟩ : ∃ ad3,eL ad2 .ord (qp v') = ad3:=⟨_,rfl⟩
    have Cx : bQ ad2 ad3:=by rw [<- Wq]; exact WI.ch rfl _
    rw [Wq] at h3
    have xF:=Fg.ch Cx
    have lu:=h3.fin
    have Bd:=h3.mE xF
    have di : x.bk < s2.ah.length:=by rw [<- na]; show x.bk < s1.ah.length; rw [hlen.1]; exact hx
    have h4:=h3.kM xF (i:=x.bk) di { s2.ah[x.bk] with cp:=ck (s2.ah[x.bk].cp + 1) } rfl
    have c9 : s2.ah.getD x.bk fZ = s2.ah[x.bk]:=by simp [di]
    have jn : s2.ak.length = s1.ak.length + 1:=by rw [<- na]; simp
    have AB : z = (if x.yes then jr (IW.aO { s2 with ord:=s2.ord ++ [x.conn] } x.bk { s2.ah[x.bk] with cp:=ck (s2.ah[x.bk].cp + 1) }) s1.ak.length x else IW.aO { s2 with ord:=s2.ord ++ [x.conn] } x.bk { s2.ah[x.bk] with cp:=ck (s2.ah[x.bk].cp + 1) },true):=by
     rw [<- hz,<- c9,<- na]
    have jd : ∀ a : Int,IntKind.i64.wrap a = ck a:=fun a=>rfl
    simp only [ib,kK,iI] at h4
    have nR:=h4.fin
    cases hy : x.yes
    ·simp [go_sem,lu,Bd,di,ib,kK,iI,jd,hy]
     exact aj (by simp [go_sem]) (.of (z':=(IW.aO { s2 with ord:=s2.ord ++ [x.conn] } x.bk { s2.ah[x.bk] with cp:=ck (s2.ah[x.bk].cp + 1) },true)) (by rw [AB,hy]; rfl) ⟨by simp [go_sem],ad3,(dV.trans fJ).trans Cx,h4⟩)
    ·simp [go_sem,lu,Bd,di,ib,kK,iI,jd,hy]
     have evh : V.agg [V.int .i64 x.kind,V.int .i64 x.bk,V.int .i64 x.t,V.int .i64 x.call,V.int .i64 x.conn,V.int .i64 x.jQ,V.int .i64 x.n,V.bool true] = aX x:=by rw [<- jy x,hy]
     rw [evh]
     refine an (Gv h4 xF.w x (i:=s1.ak.length) (by show s1.ak.length < s2.ak.length; omega) (Cx _ _ Aa rfl)) ?_
     rintro r kd ⟨rfl,ad5,E3,h5⟩
     have pE:=h5.fin
     simp [go_sem,pE]
     exact aj (by simp [go_sem]) (.of (z':=(jr (IW.aO { s2 with ord:=s2.ord ++ [x.conn] } x.bk { s2.ah[x.bk] with cp:=ck (s2.ah[x.bk].cp + 1) }) s1.ak.length x,true)) (by rw [AB,hy]; rfl) ⟨by simp [go_sem],ad5,((dV.trans fJ).trans Cx).trans E3,h5⟩)
end Go.Proofs
