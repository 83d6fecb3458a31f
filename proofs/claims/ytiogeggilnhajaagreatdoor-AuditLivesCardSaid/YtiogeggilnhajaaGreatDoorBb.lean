/- Texts of the proof, put together: PlMa, PlMb, PlM, PlN, PlO, PlQ, PlR, PlS, PlFr, PlX, PlRa. -/
import Derived.Test.YtiogeggilnhajaaGreatDoorBa
import Derived.Maps.RangeRun
import Derived.Orders
import Derived.Still
import Derived.OrdersIn
import Derived.TacticsIn
import Derived.Sort.LoopGhostIn
import Derived.RangeFuncLeaves
import Derived.RangeFuncRecord
import Derived.RangeFuncIn
import Derived.RangeFuncSeq
set_option linter.unusedSimpArgs false
set_option linter.unusedVariables false
namespace Go.Pl
open Go
section
variable {P : Program} {β : Beta} {M : dP} {bx : aa} {w : World}
def kV (β : Beta) (w : World) (F : Nat -> Prop) (es : List (V × V)) (ms : Array MapEntry) (clock : Nat) : Prop :=
 ms.size = es.length /\
  (∀ (i : Nat) (m : MapEntry),ms[i]? = some m -> m.born < clock /\ ∀ j m',ms[j]? = some m' -> m'.born = m.born -> j = i) /\
  ∀ (i : Nat) (x : V × V) (m : MapEntry),es[i]? = some x -> ms[i]? = some m -> aP β w F x.1 m.key /\ aP β w F x.2 m.val
theorem y9 {β β' : Beta} {w w' : World} {F F' : Nat -> Prop} {es : List (V × V)} {ms : Array MapEntry} {c : Nat} (h : kV β w F es ms c) (bL : ∀ b x,β b = some x -> β' b = some x) (hF : ∀ k,F k -> F' k /\ w'.heap[k]? = w.heap[k]?) (hs : ∀ k x,w.shape? k = some x -> w'.shape? k = some x) : kV β' w' F' es ms c :=
 ⟨h.1,h.2.1,fun i x m h1 h2=>⟨(h.2.2 i x m h1 h2).1.mono bL hF hs,(h.2.2 i x m h1 h2).2.mono bL hF hs⟩⟩
def gV (w : World) (k : Nat) (ms : Array MapEntry) (c : Nat) : World:={ w with heap:=w.heap.setIfInBounds k (.map ms c) }
theorem ou (w : World) (k k' : Nat) (ms : Array MapEntry) (c : Nat) (h : k' ≠ k) : (gV w k ms c).heap[k']? = w.heap[k']?:=by
 simp [gV,Array.getElem?_setIfInBounds_ne (Ne.symm h)]
theorem w8 {w : World} {k : Nat} {o : Obj} (ms : Array MapEntry) (c : Nat) (h : w.heap[k]? = some o) : (gV w k ms c).heap[k]? = some (.map ms c):=by
 have hk : k < w.heap.size:=(Array.getElem?_eq_some_iff.1 h).1
 simp [gV,hk]
theorem uR (h : eu β M bx w) {b k : Nat} {es : List (V × V)} (hb : bx b = some (.map es)) (bL : β b = some (some k)) {ms : Array MapEntry} {c : Nat} (aV : w.heap[k]? = some (.map ms c))
 (mV : Array MapEntry) (c' : Nat) (es' : List (V × V)) (hr : kV β w (Fz β M bx w) es' mV c') :
 eu β M (aA bx b (some (.map es'))) (gV w k mV c') /\ Tr β bx w β (aA bx b (some (.map es'))) (gV w k mV c'):=by
 have hk : ∀ k',k' ≠ k -> (gV w k mV c').heap[k']? = w.heap[k']?:=fun k' bp=>ou w k k' mV c' bp
 have jm:=w8 mV c' aV
 have bV : (gV w k mV c').heap.size = w.heap.size:=by simp [gV]
 have hs : ∀ k' x,w.shape? k' = some x -> (gV w k mV c').shape? k' = some x:=fun k' x hx=>by
  by_cases e : k' = k
  ·subst e
   simp [World.shape?,aV] at hx
  ·rw [bD (hk k' e)]; exact hx
 have eS : ∀ b',aA bx b (some (.map es')) b' ≠ none ↔ bx b' ≠ none:=by
  intro b'
  by_cases e : b' = b
  ·subst e; simp [af,hb]
  ·rw [ae _ _ e]
 have hF : ∀ k',Fz β M bx w k' -> Fz β M (aA bx b (some (.map es'))) (gV w k mV c') k' /\ (gV w k mV c').heap[k']? = w.heap[k']?:=by
  rintro k' ⟨h1,h2,h3⟩
  refine ⟨⟨by rw [bV]; exact h1,h2,fun b' aQ he=>h3 b' ((eS b').1 aQ) he⟩,hk k' ?_⟩
  rintro rfl
  exact h3 b (by simp [hb]) bL
 constructor
 ·refine ⟨h.fin,fun k' o hM=>(hk k' (fun e=>by
   subst e
   rcases h.live b _ hb with ⟨h1,_⟩ | ⟨k2,h1,_,h3,_⟩
   ·rw [bL] at h1; cases h1
   ·rw [bL] at h1; injection h1 with h1; injection h1 with h1; subst h1
    rw [h3] at hM; cases hM)).trans (h.mlt k' o hM),fun b' box aQ=>?_,fun b1 b2 k' h1 h2 h3 h4=>h.inj b1 b2 k' ((eS _).1 h1) ((eS _).1 h2) h3 h4⟩
  by_cases e : b' = b
  ·subst e
   rw [af] at aQ
   injection aQ with aQ
   subst aQ
   rcases h.live b' _ hb with ⟨h1,_⟩ | ⟨k',h1,h2,h3,_⟩
   ·rw [bL] at h1; cases h1
   ·rw [bL] at h1; injection h1 with h1; injection h1 with h1; subst h1
    exact .inr ⟨k,bL,by rw [bV]; exact h2,h3,mV,c',jm,y9 hr (fun _ _ h=>h) hF hs⟩
  ·rw [ae _ _ e] at aQ
   rcases h.live b' box aQ with ⟨h1,h2⟩ | ⟨k',h1,h2,h3,h4⟩
   ·exact .inl ⟨h1,h2⟩
   ·refine .inr ⟨k',h1,by rw [bV]; exact h2,h3,bh h4 (hk k' ?_) (fun _ _ h=>h) hF hs⟩
    rintro rfl
    exact e (h.inj b' b k' (by simp [aQ]) (by simp [hb]) h1 bL)
 ·refine ⟨rfl,rfl,rfl,fun _=>Nat.le_refl _,fun ⟨b',oO,hm⟩=>?_,by rw [bV]; exact Nat.le_refl _,fun k' h1 h2=>hk k' ?_,hs,fun _ _ h=>h,fun b' k' h1 h2=>.inl ⟨b',(eS b').1 h1,h2⟩⟩
  ·by_cases e : b' = b
   ·subst e
    rw [af] at hm
    injection hm with hm
    cases hm
   ·exact ⟨b',oO,by rwa [ae _ _ e] at hm⟩
  rintro rfl
  exact h2 b (by simp [hb]) bL
theorem Dl (h : eu β M bx w) {b : Nat} (bL : β b = none) (hb : bx b = none) :
 eu (aA β b (some (some w.heap.size))) M (aA bx b (some (.map []))) (w.alloc (.map #[] 0)) /\
 Tr β bx w (aA β b (some (some w.heap.size))) (aA bx b (some (.map []))) (w.alloc (.map #[] 0)):=by
 have iO : ∀ b' x,β b' = some x -> aA β b (some (some w.heap.size)) b' = some x:=by
  intro b' x hx
  rw [ae _ _ (by rintro rfl; rw [bL] at hx; cases hx)]; exact hx
 have hk : ∀ k,k < w.heap.size -> (w.alloc (.map #[] 0)).heap[k]? = w.heap[k]?:=fun k hk=>Go.RowKit.Below.heap_alloc w _ k hk
 have hs : ∀ k x,w.shape? k = some x -> (w.alloc (.map #[] 0)).shape? k = some x:=fun k x hx=>by
  have:=iP hx
  rw [bD (hk k this)]; exact hx
 have hF : ∀ k,Fz β M bx w k -> Fz (aA β b (some (some w.heap.size))) M (aA bx b (some (.map []))) (w.alloc (.map #[] 0)) k /\ (w.alloc (.map #[] 0)).heap[k]? = w.heap[k]?:=by
  rintro k ⟨h1,h2,h3⟩
  refine ⟨⟨by simp; omega,h2,fun b' aQ he=>?_⟩,hk k h1⟩
  by_cases e : b' = b
  ·subst e; rw [af] at he; injection he with he; injection he with he; omega
  ·rw [ae _ _ e] at he aQ
   exact h3 b' aQ he
 constructor
 ·refine ⟨?_,fun k o hM=>(hk k (h.nW hM)).trans (h.mlt k o hM),fun b' box aQ=>?_,fun b1 b2 k h1 h2 h3 h4=>?_⟩
  ·obtain ⟨n,hn⟩:=h.fin
   refine ⟨max n (b + 1),fun b' aQ=>?_⟩
   rw [ae _ _ (by omega)]
   exact hn b' (by omega)
  ·by_cases e : b' = b
   ·subst e
    rw [af] at aQ
    injection aQ with aQ
    subst aQ
    exact .inr ⟨w.heap.size,af _ _ _,by simp,h.sy (Nat.le_refl _),#[],0,heap_alloc_new w _,rfl,fun i m hi=>by simp at hi,fun i x m hi=>by simp at hi⟩
   ·rw [ae _ _ e] at aQ
    rcases h.live b' box aQ with ⟨h1,h2⟩ | ⟨k,h1,h2,h3,h4⟩
    ·exact .inl ⟨iO _ _ h1,h2⟩
    ·exact .inr ⟨k,iO _ _ h1,by simp; omega,h3,bh h4 (hk k h2) iO hF hs⟩
  ·have old : ∀ b',b' ≠ b -> aA bx b (some (.map [])) b' ≠ none -> aA β b (some (some w.heap.size)) b' = some (some k) -> β b' = some (some k) /\ bx b' ≠ none /\ k < w.heap.size:=by
    intro b' bp aQ he
    rw [ae _ _ bp] at aQ he
    refine ⟨he,aQ,?_⟩
    obtain ⟨box,dK⟩:=Option.ne_none_iff_exists'.1 aQ
    rcases h.live b' box dK with ⟨h5,_⟩ | ⟨k',h5,h6,_⟩
    ·rw [h5] at he; cases he
    ·rw [h5] at he; injection he with he; injection he with he; omega
   by_cases e1 : b1 = b <;> by_cases e2 : b2 = b
   ·rw [e1,e2]
   ·obtain ⟨_,_,h5⟩:=old b2 e2 h2 h4
    rw [e1,af] at h3; injection h3 with h3; injection h3 with h3; omega
   ·obtain ⟨_,_,h5⟩:=old b1 e1 h1 h3
    rw [e2,af] at h4; injection h4 with h4; injection h4 with h4; omega
   ·obtain ⟨h5,h6,_⟩:=old b1 e1 h1 h3
    obtain ⟨h7,h8,_⟩:=old b2 e2 h2 h4
    exact h.inj b1 b2 k h6 h8 h5 h7
 ·refine ⟨rfl,rfl,rfl,fun _=>Nat.le_refl _,fun hm=>Mk.kh hm (fun ty e=>by cases e),by simp,fun k h1 _=>hk k h1,hs,iO,fun b' k h1 h2=>?_⟩
  by_cases e : b' = b
  ·subst e
   rw [af] at h2
   injection h2 with h2; injection h2 with h2
   exact .inr (by omega)
  ·rw [ae _ _ e] at h1 h2
   exact .inl ⟨b',h1,h2⟩
theorem Rs.L8 {st : St} {a : Act} (h : Rs P β M st a w) {K : St -> Prop} {K' : Act -> World -> Prop} (hK : ∀ st' β' a' w',K st' -> Rs P β' M st' a' w' -> Tr β st.bx w β' st'.bx w' -> K' a' w')
 {dst : Option Tmp} (hd : aJ st dst) (hk : ∀ b,st.bx b = none -> K ((st.box b (some (.map []))).put dst (.mp b))) :
 K' (a.put dst (.map (some w.heap.size))) (w.alloc (.map #[] 0)):=by
 obtain ⟨b,h1,h2⟩:=h.ok.fresh
 obtain ⟨h3,h4⟩:=Dl h.ok h1 h2
 refine hK _ _ _ _ (hk b h2) (((h.step h3 h4)).put (st:={ st with bx:=_ }) ?_ (.mp b _ (af _ _ _))) ?_
 ·cases dst <;> exact hd
 ·cases dst <;> exact h4
theorem j9 {a : V} : ∀ {es : List (V × V)} {i j : Nat} {v : V},fg a es i = some (some (j,v)) -> i <= j /\ ∃ e,es[j - i]? = some e /\ e.2 = v /\ l7 a e.1 = some true
 | [],i,j,v,h=>by simp [fg] at h
 | e :: es,i,j,v,h=>by
   rw [fg] at h
   cases hs : l7 a e.1 with
   | none=>rw [hs] at h; cases h
   | some c =>
     rw [hs] at h
     cases c with
     | true =>
       simp only [Option.some.injEq,Prod.mk.injEq] at h
       obtain ⟨rfl,rfl⟩:=h
       exact ⟨Nat.le_refl _,e,by simp,rfl,hs⟩
     | false =>
       obtain ⟨h1,e',h2,h3⟩:=j9 h
       refine ⟨by omega,e',?_,h3⟩
       rw [show j - i = (j - (i + 1)) + 1 from by omega,List.getElem?_cons_succ]
       exact h2
theorem yA {F : Nat -> Prop} {a b : V} {ua ub : Value} (h : l7 a b = some true) (ra : aP β w F a ua) (rb : aP β w F b ub) : ub = ua /\ Instr.sameBits 10000 ub ua = true:=by
 unfold l7 at h
 split at h
 ·split at h
  ·rename_i hk
   subst hk
   have he:=Option.some.inj h
   rw [beq_iff_eq] at he
   subst he
   rw [ra.bB,rb.bB]
   exact ⟨rfl,by simp [Instr.sameBits]⟩
  ·cases h
 ·obtain ⟨x,rfl,rfl⟩:=ra.dW
  obtain ⟨y,rfl,rfl⟩:=rb.dW
  have he:=Option.some.inj h
  rw [beq_iff_eq] at he
  have hxy : y = x:=by
   obtain ⟨⟨x⟩⟩:=x
   obtain ⟨⟨y⟩⟩:=y
   simp at he
   rw [he]
  subst hxy
  exact ⟨rfl,by unfold Instr.sameBits; exact (Go.MapKept.bytes_beq _ _).2 rfl⟩
 ·have he:=Option.some.inj h
  rw [beq_iff_eq] at he
  subst he
  cases ra; cases rb
  exact ⟨rfl,by simp [Instr.sameBits]⟩
 ·cases h
theorem Ar {F : Nat -> Prop} {t kt et : TypeId} {a v : V} {k u : Value} {r c : Nat} {ms : Array MapEntry} {es es' : List (V × V)} (ht : bu P t = .map kt et) (hk : oa (bu P kt) a = true) (ra : aP β w F a k) (rv : aP β w F v u)
 (hb : w.heap[r]? = some (.map ms c)) (hm : kV β w F es ms c) (hp : vV a v es = some es') :
 ∃ mV c',(Instr.mapUpdate t (.map (some r)) k u).run P w = .ok () (gV w r mV c') /\ kV β w F es' mV c':=by
 obtain ⟨d,hd,_⟩:=jU hk
 obtain ⟨h1,h2,h3⟩:=hm
 have hf:=fun r h=>kC hk hd ra es ms.toList 0 r (by simp [h1]) (fun j x m g1 g2=>h3 j x m g1 (by simpa using g2)) h
 unfold vV at hp
 split at hp
 ·rename_i i x iH
  injection hp with hp
  subst hp
  rcases hf _ iH with ⟨h4,_⟩ | ⟨j,v',u',h4,h5,_⟩
  ·cases h4
  ·injection h4 with h4
   injection h4 with h4 h4'
   subst h4 h4'
   obtain ⟨_,e,Dk,_,Pn⟩:=j9 iH
   rw [Nat.sub_zero] at Dk
   have n7 : i < es.length:=(List.getElem?_eq_some_iff.1 Dk).1
   have zY : i < ms.size:=by omega
   obtain ⟨r1,_⟩:=h3 i e ms[i] Dk (Array.getElem?_eq_getElem zY)
   obtain ⟨g1,g2⟩:=yA Pn ra r1
   refine ⟨ms.modify i fun e=>{ e with key:=k,val:=u },c,?_,by simp [h1],?_,?_⟩
   ·unfold Instr.mapUpdate Instr.findKey Instr.keyThatStays
    simp [run_underlying (fK ht),Go.MapKept.run_getObj_map hb,run_checkKey hk,run_underlying hd,h5,Go.MapKept.run_setObj_map _ hb,zY,g2,gV]
   ·have qB : ∀ (q : Nat) (m : MapEntry),(ms.modify i fun e=>{ e with key:=k,val:=u })[q]? = some m -> ∃ m0,ms[q]? = some m0 /\ m.born = m0.born:=by
     intro q m hq
     rw [Array.getElem?_modify] at hq
     split at hq
     ·cases uq : ms[q]? with
      | none=>rw [uq] at hq; cases hq
      | some m0=>rw [uq] at hq; exact ⟨m0,rfl,by rw [<- Option.some.inj hq]⟩
     ·exact ⟨m,hq,rfl⟩
    intro q m hq
    obtain ⟨m0,QZ,dD⟩:=qB q m hq
    obtain ⟨g3,g4⟩:=h2 q m0 QZ
    refine ⟨by rw [dD]; exact g3,fun q' m' uU eV=>?_⟩
    obtain ⟨m1,Ib,eU⟩:=qB q' m' uU
    exact g4 q' m1 Ib (by rw [<- eU,eV,dD])
   ·intro q x m hx hq
    rw [Array.getElem?_modify] at hq
    by_cases e : i = q
    ·subst e
     rw [List.getElem?_set_self n7] at hx
     rw [if_pos rfl,Array.getElem?_eq_getElem zY] at hq
     obtain rfl:=Option.some.inj hx
     obtain rfl:=Option.some.inj hq
     exact ⟨ra,rv⟩
    ·rw [if_neg e] at hq
     rw [List.getElem?_set_ne e] at hx
     exact h3 q x m hx hq
 ·rename_i iH
  injection hp with hp
  subst hp
  rcases hf _ iH with ⟨_,h5⟩ | ⟨j,v',u',h4,_⟩
  ·refine ⟨ms.push { key:=k,val:=u,born:=c },c + 1,?_,by simp [h1],?_,?_⟩
   ·unfold Instr.mapUpdate Instr.findKey
    simp [run_underlying (fK ht),Go.MapKept.run_getObj_map hb,run_checkKey hk,run_underlying hd,h5,Go.MapKept.run_setObj_map _ hb,gV]
   ·have L9 : ∀ (q : Nat) (m : MapEntry),(ms.push { key:=k,val:=u,born:=c })[q]? = some m -> (ms[q]? = some m /\ m.born < c) \/ (q = ms.size /\ m.born = c):=by
     intro q m hq
     rw [Array.getElem?_push] at hq
     split at hq
     ·rename_i e; exact .inr ⟨e,by rw [<- Option.some.inj hq]⟩
     ·exact .inl ⟨hq,(h2 q m hq).1⟩
    intro q m hq
    rcases L9 q m hq with ⟨g1,g2⟩ | ⟨g1,g2⟩
    ·refine ⟨by omega,fun q' m' uU eV=>?_⟩
     rcases L9 q' m' uU with ⟨g3,_⟩ | ⟨_,g4⟩
     ·exact (h2 q m g1).2 q' m' g3 eV
     ·omega
    ·refine ⟨by omega,fun q' m' uU eV=>?_⟩
     rcases L9 q' m' uU with ⟨_,g4⟩ | ⟨g3,_⟩
     ·omega
     ·omega
   ·intro q x m hx hq
    rw [Array.getElem?_push] at hq
    split at hq
    ·rename_i e
     subst e
     obtain rfl:=Option.some.inj hq
     rw [h1,List.getElem?_append_right (Nat.le_refl _)] at hx
     simp at hx
     subst hx
     exact ⟨ra,rv⟩
    ·rename_i e
     have hql:=(Array.getElem?_eq_some_iff.1 hq).1
     rw [List.getElem?_append_left (by omega)] at hx
     exact h3 q x m hx hq
  ·cases h4
 ·cases hp
theorem As {F : Nat -> Prop} {t t2 ty kt et : TypeId} {a : V} {k : Value} {r c : Nat} {ms : Array MapEntry} {es es' : List (V × V)} (ht : bu P t = .map kt et) (hk : oa (bu P kt) a = true) (ra : aP β w F a k)
 (hb : w.heap[r]? = some (.map ms c)) (hm : kV β w F es ms c) (hp : vW a es = some es') :
 ∃ mV c',(Builtin.delete_ #[t,t2] ty #[.map (some r),k]).run P w = .ok (.tuple #[]) (gV w r mV c') /\ kV β w F es' mV c':=by
 obtain ⟨d,hd,_⟩:=jU hk
 obtain ⟨h1,h2,h3⟩:=hm
 have hf:=fun r h=>kC hk hd ra es ms.toList 0 r (by simp [h1]) (fun j x m g1 g2=>h3 j x m g1 (by simpa using g2)) h
 unfold vW at hp
 split at hp
 ·rename_i i x iH
  injection hp with hp
  subst hp
  rcases hf _ iH with ⟨h4,_⟩ | ⟨j,v',u',h4,h5,_⟩
  ·cases h4
  ·injection h4 with h4
   injection h4 with h4 h4'
   subst h4 h4'
   obtain ⟨_,e,Dk,_,Pn⟩:=j9 iH
   rw [Nat.sub_zero] at Dk
   have n7 : i < es.length:=(List.getElem?_eq_some_iff.1 Dk).1
   have zY : i < ms.size:=by omega
   have eX : ∀ q : Nat,(ms.eraseIdxIfInBounds i)[q]? = ms[if q < i then q else q + 1]?:=by
    intro q
    rw [<- Array.getElem?_toList,Array.eraseIdxIfInBounds_eq,dif_pos zY,Array.toList_eraseIdx,List.getElem?_eraseIdx]
    split <;> simp
   refine ⟨ms.eraseIdxIfInBounds i,c,?_,?_,?_,?_⟩
   ·unfold Builtin.delete_ Instr.findKey
    simp [run_underlying (fK ht),Go.MapKept.run_getObj_map hb,run_checkKey hk,run_underlying hd,h5,Go.MapKept.run_setObj_map _ hb,gV]
   ·rw [Array.eraseIdxIfInBounds_eq,dif_pos zY,Array.size_eraseIdx,List.length_eraseIdx_of_lt n7,h1]
   ·intro q m hq
    rw [eX] at hq
    refine ⟨(h2 _ m hq).1,fun q' m' uU eV=>?_⟩
    rw [eX] at uU
    have:=(h2 _ m hq).2 _ m' uU eV
    split at this <;> split at this <;> omega
   ·intro q x m hx hq
    rw [eX] at hq
    rw [List.getElem?_eraseIdx] at hx
    split at hx
    ·rename_i dt
     rw [if_pos dt] at hq
     exact h3 _ x m hx hq
    ·rename_i dt
     rw [if_neg dt] at hq
     exact h3 _ x m hx hq
 ·rename_i iH
  injection hp with hp
  subst hp
  rcases hf _ iH with ⟨_,h5⟩ | ⟨j,v',u',h4,_⟩
  ·refine ⟨ms,c,?_,h1,h2,h3⟩
   unfold Builtin.delete_ Instr.findKey
   simp [run_underlying (fK ht),Go.MapKept.run_getObj_map hb,run_checkKey hk,run_underlying hd,h5,Go.MapKept.run_setObj_map _ hb,gV]
  ·cases h4
 ·cases hp
theorem Dm {F : Nat -> Prop} {t kt et : TypeId} {a : V} {k z : Value} {r c : Nat} {ms : Array MapEntry} {es wo : List (V × V)} {j : Nat} {v : V} (ht : bu P t = .map kt et) (hz : aT P et = some z) (hk : oa (bu P kt) a = true) (ra : aP β w F a k)
 (hb : w.heap[r]? = some (.map ms c)) (hm : kV β w F es ms c) (hp : kn a (ofValue z) es = some (wo,j,v)) :
 ∃ mV c' m u,(Instr.mapEntry t (.map (some r)) k).run P w = .ok (.tuple #[u,.int .i64 (m.born : Int)]) (gV w r mV c') /\ kV β w F wo mV c' /\ mV[j]? = some m /\ aP β w F v u:=by
 obtain ⟨d,hd,_⟩:=jU hk
 obtain ⟨h1,h2,h3⟩:=hm
 have hf:=fun r h=>kC hk hd ra es ms.toList 0 r (by simp [h1]) (fun j x m g1 g2=>h3 j x m g1 (by simpa using g2)) h
 unfold kn at hp
 split at hp
 ·rename_i i x iH
  injection hp with hp
  injection hp with e1 e2
  injection e2 with e2 e3
  subst e1 e2 e3
  rcases hf _ iH with ⟨h4,_⟩ | ⟨j,v',u',h4,h5,h6⟩
  ·cases h4
  ·injection h4 with h4
   injection h4 with h4 h4'
   subst h4 h4'
   obtain ⟨_,e,Dk,he3,Pn⟩:=j9 iH
   rw [Nat.sub_zero] at Dk
   have n7 : i < es.length:=(List.getElem?_eq_some_iff.1 Dk).1
   have zY : i < ms.size:=by omega
   obtain ⟨r1,r2⟩:=h3 i e ms[i] Dk (Array.getElem?_eq_getElem zY)
   obtain ⟨g1,g2⟩:=yA Pn ra r1
   refine ⟨ms.modify i fun e=>{ e with key:=k },c,{ ms[i] with key:=k },u',?_,⟨by simp [h1],?_,?_⟩,?_,h6.1⟩
   ·unfold Instr.mapEntry Instr.findKey Instr.keyThatStays
    simp [run_underlying (fK ht),Go.MapKept.run_getObj_map hb,run_checkKey hk,run_underlying hd,h5,Go.MapKept.run_setObj_map _ hb,zY,g2,gV,goInt]
   ·have qB : ∀ (q : Nat) (m : MapEntry),(ms.modify i fun e=>{ e with key:=k })[q]? = some m -> ∃ m0,ms[q]? = some m0 /\ m.born = m0.born:=by
     intro q m hq
     rw [Array.getElem?_modify] at hq
     split at hq
     ·cases uq : ms[q]? with
      | none=>rw [uq] at hq; cases hq
      | some m0=>rw [uq] at hq; exact ⟨m0,rfl,by rw [<- Option.some.inj hq]⟩
     ·exact ⟨m,hq,rfl⟩
    intro q m hq
    obtain ⟨m0,QZ,dD⟩:=qB q m hq
    obtain ⟨g3,g4⟩:=h2 q m0 QZ
    refine ⟨by rw [dD]; exact g3,fun q' m' uU eV=>?_⟩
    obtain ⟨m1,Ib,eU⟩:=qB q' m' uU
    exact g4 q' m1 Ib (by rw [<- eU,eV,dD])
   ·intro q x m hx hq
    rw [Array.getElem?_modify] at hq
    by_cases e : i = q
    ·subst e
     rw [if_pos rfl,Array.getElem?_eq_getElem zY] at hq
     obtain rfl:=Option.some.inj hq
     rw [Dk] at hx
     obtain rfl:=Option.some.inj hx
     exact ⟨by rw [<- g1]; exact r1,r2⟩
    ·rw [if_neg e] at hq
     exact h3 q x m hx hq
   ·rw [Array.getElem?_modify,if_pos rfl,Array.getElem?_eq_getElem zY]
    rfl
 ·rename_i iH
  injection hp with hp
  injection hp with e1 e2
  injection e2 with e2 e3
  subst e1 e2 e3
  rcases hf _ iH with ⟨_,h5⟩ | ⟨j,v',u',h4,_⟩
  ·refine ⟨ms.push { key:=k,val:=z,born:=c },c + 1,{ key:=k,val:=z,born:=c },z,?_,⟨by simp [h1],?_,?_⟩,?_,dc z⟩
   ·unfold Instr.mapEntry Instr.findKey
    simp [run_underlying (fK ht),Go.MapKept.run_getObj_map hb,run_checkKey hk,run_underlying hd,h5,Go.MapKept.run_setObj_map _ hb,gV,goInt,iN hz]
   ·have L9 : ∀ (q : Nat) (m : MapEntry),(ms.push { key:=k,val:=z,born:=c })[q]? = some m -> (ms[q]? = some m /\ m.born < c) \/ (q = ms.size /\ m.born = c):=by
     intro q m hq
     rw [Array.getElem?_push] at hq
     split at hq
     ·rename_i e; exact .inr ⟨e,by rw [<- Option.some.inj hq]⟩
     ·exact .inl ⟨hq,(h2 q m hq).1⟩
    intro q m hq
    rcases L9 q m hq with ⟨g1,g2⟩ | ⟨g1,g2⟩
    ·refine ⟨by omega,fun q' m' uU eV=>?_⟩
     rcases L9 q' m' uU with ⟨g3,_⟩ | ⟨_,g4⟩
     ·exact (h2 q m g1).2 q' m' g3 eV
     ·omega
    ·refine ⟨by omega,fun q' m' uU eV=>?_⟩
     rcases L9 q' m' uU with ⟨_,g4⟩ | ⟨g3,_⟩
     ·omega
     ·omega
   ·intro q x m hx hq
    rw [Array.getElem?_push] at hq
    split at hq
    ·rename_i e
     subst e
     obtain rfl:=Option.some.inj hq
     rw [h1,List.getElem?_append_right (Nat.le_refl _)] at hx
     simp at hx
     subst hx
     exact ⟨ra,dc z⟩
    ·rename_i e
     have hql:=(Array.getElem?_eq_some_iff.1 hq).1
     rw [List.getElem?_append_left (by omega)] at hx
     exact h3 q x m hx hq
   ·rw [<- h1,Array.getElem?_push,if_pos rfl]
  ·cases h4
 ·cases hp
end
end Go.Pl
namespace Go.Pl
open Go
section
variable {P : Program} {β : Beta} {M : dP} {bx : aa} {w : World}
theorem eB (h : eu β M bx w) {b k : Nat} {box : bI} (hb : bx b = some box) (bL : β b = some (some k)) : k < w.heap.size /\ M k = none /\ nG β w (Fz β M bx w) k box:=by
 rcases h.live b box hb with ⟨h1,_⟩ | ⟨k',h1,h2,h3,h4⟩
 ·rw [bL] at h1; cases h1
 ·rw [bL] at h1; injection h1 with h1; injection h1 with h1; subst h1
  exact ⟨h2,h3,h4⟩
theorem w9 (h : eu β M bx w) {b k : Nat} {box box' : bI} (hb : bx b = some box) (bL : β b = some (some k)) {w' : World} (uN : w'.os = w.os) (htp : w'.tape = w.tape) (hou : w'.output = w.output) (wm : w.drawn <= w'.drawn) (bV : w'.heap.size = w.heap.size)
 (wA : ∀ k',k' ≠ k -> w'.heap[k']? = w.heap[k']?) (vS : w.shape? k = none) (Ra : ∀ ty,some box' ≠ some (.row ty 0 []))
 (dK : ∀ F',(∀ k',Fz β M bx w k' -> F' k' /\ w'.heap[k']? = w.heap[k']?) -> (∀ k x,w.shape? k = some x -> w'.shape? k = some x) -> nG β w' F' k box') :
 eu β M (aA bx b (some box')) w' /\ Tr β bx w β (aA bx b (some box')) w':=by
 have hs : ∀ k' x,w.shape? k' = some x -> w'.shape? k' = some x:=fun k' x hx=>by
  by_cases e : k' = k
  ·subst e; rw [vS] at hx; cases hx
  ·rw [bD (wA k' e)]; exact hx
 have eS : ∀ b',aA bx b (some box') b' ≠ none ↔ bx b' ≠ none:=by
  intro b'
  by_cases e : b' = b
  ·subst e; simp [af,hb]
  ·rw [ae _ _ e]
 obtain ⟨dt,ED,_⟩:=eB h hb bL
 have hF : ∀ k',Fz β M bx w k' -> Fz β M (aA bx b (some box')) w' k' /\ w'.heap[k']? = w.heap[k']?:=by
  rintro k' ⟨h1,h2,h3⟩
  refine ⟨⟨by rw [bV]; exact h1,h2,fun b' aQ he=>h3 b' ((eS b').1 aQ) he⟩,wA k' ?_⟩
  rintro rfl
  exact h3 b (by simp [hb]) bL
 constructor
 ·refine ⟨h.fin,fun k' o hM=>(wA k' (fun e=>by subst e; rw [ED] at hM; cases hM)).trans (h.mlt k' o hM),fun b' bx2 aQ=>?_,fun b1 b2 k' h1 h2 h3 h4=>h.inj b1 b2 k' ((eS _).1 h1) ((eS _).1 h2) h3 h4⟩
  by_cases e : b' = b
  ·subst e
   rw [af] at aQ
   injection aQ with aQ
   subst aQ
   exact .inr ⟨k,bL,by rw [bV]; exact dt,ED,dK _ hF hs⟩
  ·rw [ae _ _ e] at aQ
   rcases h.live b' bx2 aQ with ⟨h1,h2⟩ | ⟨k',h1,h2,h3,h4⟩
   ·exact .inl ⟨h1,h2⟩
   ·refine .inr ⟨k',h1,by rw [bV]; exact h2,h3,bh h4 (wA k' ?_) (fun _ _ h=>h) hF hs⟩
    rintro rfl
    exact e (h.inj b' b k' (by simp [aQ]) (by simp [hb]) h1 bL)
 ·exact ⟨uN,htp,hou,fun _=>wm,fun hm=>Mk.kh hm Ra,by rw [bV]; exact Nat.le_refl _,fun k' h1 h2=>wA k' (fun e=>by subst e; exact h2 b (by simp [hb]) bL),hs,fun _ _ h=>h,fun b' k' h1 h2=>.inl ⟨b',(eS b').1 h1,h2⟩⟩
theorem Ic (h : eu β M bx w) {b : Nat} (bL : β b = none) (hb : bx b = none) (o : Obj) (box : bI) (Ra : ∀ ty,some box ≠ some (.row ty 0 []))
 (dK : ∀ F',(∀ k,Fz β M bx w k -> F' k /\ (w.alloc o).heap[k]? = w.heap[k]?) -> nG (aA β b (some (some w.heap.size))) (w.alloc o) F' w.heap.size box) :
 eu (aA β b (some (some w.heap.size))) M (aA bx b (some box)) (w.alloc o) /\
 Tr β bx w (aA β b (some (some w.heap.size))) (aA bx b (some box)) (w.alloc o):=by
 have iO : ∀ b' x,β b' = some x -> aA β b (some (some w.heap.size)) b' = some x:=by
  intro b' x hx
  rw [ae _ _ (by rintro rfl; rw [bL] at hx; cases hx)]; exact hx
 have hk : ∀ k,k < w.heap.size -> (w.alloc o).heap[k]? = w.heap[k]?:=fun k hk=>Go.RowKit.Below.heap_alloc w _ k hk
 have hs : ∀ k x,w.shape? k = some x -> (w.alloc o).shape? k = some x:=fun k x hx=>by
  have:=iP hx
  rw [bD (hk k this)]; exact hx
 have hF : ∀ k,Fz β M bx w k -> Fz (aA β b (some (some w.heap.size))) M (aA bx b (some box)) (w.alloc o) k /\ (w.alloc o).heap[k]? = w.heap[k]?:=by
  rintro k ⟨h1,h2,h3⟩
  refine ⟨⟨by simp; omega,h2,fun b' aQ he=>?_⟩,hk k h1⟩
  by_cases e : b' = b
  ·subst e
   rw [af] at he
   injection he with he; injection he with he
   omega
  ·rw [ae _ _ e] at he aQ
   exact h3 b' aQ he
 constructor
 ·refine ⟨?_,fun k o' hM=>(Go.RowKit.Below.heap_alloc w _ k (h.nW hM)).trans (h.mlt k o' hM),fun b' box' aQ=>?_,fun b1 b2 k h1 h2 h3 h4=>?_⟩
  ·obtain ⟨n,hn⟩:=h.fin
   refine ⟨max n (b + 1),fun b' aQ=>?_⟩
   rw [ae _ _ (by omega)]
   exact hn b' (by omega)
  ·by_cases e : b' = b
   ·subst e
    rw [af] at aQ
    injection aQ with aQ
    subst aQ
    exact .inr ⟨w.heap.size,af _ _ _,by simp,h.sy (Nat.le_refl _),dK _ hF⟩
   ·rw [ae _ _ e] at aQ
    rcases h.live b' box' aQ with ⟨h1,h2⟩ | ⟨k,h1,h2,h3,h4⟩
    ·exact .inl ⟨iO _ _ h1,h2⟩
    ·exact .inr ⟨k,iO _ _ h1,by simp; omega,h3,bh h4 (hk k h2) iO hF hs⟩
  ·have old : ∀ b',b' ≠ b -> aA bx b (some box) b' ≠ none -> aA β b (some (some w.heap.size)) b' = some (some k) -> β b' = some (some k) /\ bx b' ≠ none /\ k < w.heap.size:=by
    intro b' bp aQ he
    rw [ae _ _ bp] at aQ he
    refine ⟨he,aQ,?_⟩
    obtain ⟨box,dK⟩:=Option.ne_none_iff_exists'.1 aQ
    exact (eB h dK he).1
   by_cases e1 : b1 = b <;> by_cases e2 : b2 = b
   ·rw [e1,e2]
   ·obtain ⟨_,_,h5⟩:=old b2 e2 h2 h4
    rw [e1,af] at h3; injection h3 with h3; injection h3 with h3; omega
   ·obtain ⟨_,_,h5⟩:=old b1 e1 h1 h3
    rw [e2,af] at h4; injection h4 with h4; injection h4 with h4; omega
   ·obtain ⟨h5,h6,_⟩:=old b1 e1 h1 h3
    obtain ⟨h7,h8,_⟩:=old b2 e2 h2 h4
    exact h.inj b1 b2 k h6 h8 h5 h7
 ·refine ⟨rfl,rfl,rfl,fun _=>Nat.le_refl _,fun hm=>Mk.kh hm Ra,by simp,fun k h1 _=>hk k h1,hs,iO,fun b' k h1 h2=>?_⟩
  by_cases e : b' = b
  ·subst e
   rw [af] at h2
   injection h2 with h2; injection h2 with h2
   exact .inr (by omega)
  ·rw [ae _ _ e] at h1 h2
   exact .inl ⟨b',h1,h2⟩
end
end Go.Pl
namespace Go.Pl
open Go
section
variable {P : Program} {β : Beta} {M : dP} {w : World}
abbrev gQ (P : Program) (β : Beta) (M : dP) (st : St) (w : World) (K : St -> Prop) (K' : Act -> World -> Prop) : Prop :=
 ∀ st' β' a' w',K st' -> Rs P β' M st' a' w' -> Tr β st.bx w β' st'.bx w' -> K' a' w'
theorem gQ.put {st : St} {a : Act} {K : St -> Prop} {K' : Act -> World -> Prop} (hK : gQ P β M st w K K') (hr : Rs P β M st a w) {dst : Option Tmp} (hd : aJ st dst) {v : V} {u : Value} (hv : aP β w (Fz β M st.bx w) v u) (h : K (st.put dst v)) : K' (a.put dst u) w :=
 hK _ _ _ _ h (hr.put hd hv) (by cases dst <;> exact Tr.refl _ _ _)
theorem gQ.trans {st st' : St} {β' : Beta} {w' : World} {K : St -> Prop} {K' : Act -> World -> Prop} (hK : gQ P β M st w K K') (h : Tr β st.bx w β' st'.bx w') : gQ P β' M st' w' K K' :=
 fun st2 β2 a2 w2 hk hr ht=>hK st2 β2 a2 w2 hk hr (h.trans ht)
theorem Dn {st : St} {a : Act} (hr : Rs P β M st a w) {s d e : TypeId} {x : V} {u : Value} (h1 : bu P s = .str) (h2 : bu P d = .slice e) (hc : (jT P s d x).1) (rx : aP β w (Fz β M st.bx w) x u) :
 ∃ v w',(convert s d u).run P w = .ok v w' /\ eu β M st.bx w' /\ Tr β st.bx w β st.bx w' /\ aP β w' (Fz β M st.bx w') (jT P s d x).2 v:=by
 unfold jT at hc ⊢
 cases hx : x.strip with
 | str b =>
   simp only [h1,h2,hx] at hc ⊢
   obtain ⟨hl,hu,hn⟩:=hc
   obtain rfl:=aF hl hx
   obtain ⟨q,rfl,rfl⟩:=rx.dW
   have hq : q.size = q.data.toList.length:=by show q.data.size = _; simp
   have hk : ∀ k,k < w.heap.size -> (Lib.bytesWorld w e q).heap[k]? = w.heap[k]?:=fun k hk=>Lib.bytesWorld_at_old w e q k hk
   have bV : w.heap.size <= (Lib.bytesWorld w e q).heap.size:=by rw [Lib.bytesWorld_size]; omega
   have cY : eu β M st.bx (Lib.bytesWorld w e q):=hr.ok.grown bV hr.ok.fin (fun _ _ h=>h) hk
   have ja : Tr β st.bx w β st.bx (Lib.bytesWorld w e q):=Tr.grown hr.ok rfl rfl rfl (Nat.le_succ w.drawn) bV (fun _ _ h=>h) hk
   refine ⟨_,_,Lib.run_convert_string_bytes w s d e q (fh h1) (bq h2) (iF hu),cY,ja,?_⟩
   have kz : q.size <= grownCap w q.size 0 e /\ grownCap w q.size 0 e <= maxLen:=⟨grownCap_ge w q.size 0 e,grownCap_le_maxLen w q.size 0 e (by rw [hq]; simpa [maxLen] using hn)⟩
   have rC : Fz β M st.bx (Lib.bytesWorld w e q) w.heap.size:=by
    refine ⟨by rw [Lib.bytesWorld_size]; omega,hr.ok.sy (Nat.le_refl _),fun b hb he=>?_⟩
    obtain ⟨box,dK⟩:=Option.ne_none_iff_exists'.1 hb
    rcases hr.ok.live b box dK with ⟨h3,_⟩ | ⟨k',h3,h4,_⟩
    ·rw [h3] at he; cases he
    ·rw [h3] at he; injection he with he; injection he with he; omega
   have key:=aP.sl (β:=β) (w:=Lib.bytesWorld w e q) (F:=Fz β M st.bx (Lib.bytesWorld w e q)) 1 (q.data.toList.map dI) (some ⟨w.heap.size,0,none⟩) (grownCap w q.size 0 e) (fun j=>.int .u8 (q.data.toList.getD j 0).toNat)
    (by simpa [<- hq] using kz.1) kz.2 (by simp) (by simp [dI,V.cells]) ?_ ?_
   ·simpa [<- hq] using key
   ·intro i c j c' hi hj
    simp only [List.getElem?_map,Option.map_eq_some_iff] at hi
    obtain ⟨y,hy,rfl⟩:=hi
    have EE : j = 0:=by
     have:=(List.getElem?_eq_some_iff.1 hj).1
     simp [dI,V.cells] at this
     exact this
    subst EE
    have ZA : i < q.size:=by rw [hq]; exact (List.getElem?_eq_some_iff.1 hy).1
    refine ⟨⟨w.heap.size,0,none⟩,rfl,rC,?_,rfl⟩
    have:=Lib.bytesWorld_cell w e q i ZA
    simp only [Nat.mul_one,Nat.add_zero]
    rw [show (⟨w.heap.size,0,none⟩ : Addr).add i = ⟨w.heap.size,i,none⟩ by unfold Addr.add; by_cases h0 : i = 0 <;> simp [h0]]
    exact this
   ·intro i c j c' hi hj
    simp only [List.getElem?_map,Option.map_eq_some_iff] at hi
    obtain ⟨y,hy,rfl⟩:=hi
    have EE : j = 0:=by
     have:=(List.getElem?_eq_some_iff.1 hj).1
     simp [dI,V.cells] at this
     exact this
    subst EE
    obtain rfl : dI y = c':=by simpa [dI,V.cells] using hj
    have e1 : q.data.toList.getD i 0 = y:=by simp only [List.getD,hy,Option.getD_some]
    simp only [Nat.mul_one,Nat.add_zero,e1]
    exact .int _ _
 | _=>simp [h1,h2,hx,dk] at hc
theorem Ks {st : St} {a : Act} {o : Oper} {K' : Act -> World -> Prop} {Q : Exit -> Act -> World -> Prop} (hr : Rs P β M st a w) (hc : (ev P st o).1)
 (h : ∀ u w',Rs P β M st a w' -> Tr β st.bx w β st.bx w' -> aP β w' (Fz β M st.bx w') (ev P st o).2 u -> K' (a.put o.dst u) w') : o.wp P a w K' Q:=by
 have stay : ∀ v,(execOp a.eval o).run P w = .ok (.value v) w -> aP β w (Fz β M st.bx w) (ev P st o).2 v -> o.wp P a w K' Q:=by
  intro v h1 h2
  unfold Oper.wp
  rw [h1]
  exact h v w hr (Tr.refl _ _ _) h2
 by_cases rA : vT P o = false
 ·obtain ⟨v,h1,h2⟩:=EB (P:=P) hr.Kp hr.ok.QR hr.gl rA hc
  exact stay v h1 h2
 ·obtain ⟨dst,op,type,pos,after,guard⟩:=o
  unfold vT at rA
  simp only at rA
  split at rA
  ·rename_i s d x
   split at rA
   ·rename_i e h1 h2
    obtain ⟨v,w',h3,h4,h5,h6⟩:=Dn hr h1 h2 hc (hr.get x)
    have cJ : Rs P β M st a w':=⟨h4,fun t=>h5.rep (hr.sl t),hr.sz,hr.df,Nat.le_trans hr.bs h5.size,hr.gl.imp (fun _ _ hh=>h5.rep hh) h5.shape⟩
    unfold Oper.wp
    have : (execOp a.eval ⟨dst,.convert s d x,type,pos,after,guard⟩).run P w = .ok (.value v) w':=by
     show (do pure (Next.value (<- convert s d (a.eval x))) : Sem Next).run P w = _
     rw [Sem.run_bind,h3]; rfl
    rw [this]
    exact h v w' cJ h5 h6
   ·exact absurd rfl rA
  ·exact absurd rfl rA
theorem EF {a : Act} {dst : Option Tmp} {type : TypeId} {pos : String} {after : Array Edge} {guard : Option (Nat × Bool)} {c : Call} {f : Operand} (hc : c.callee = .value f) {g : FuncId} {fs us : Array Value}
 (hf : a.eval f = .func (.func g) fs us) (he : ∀ vs w,(callFunc g vs).run P w = .ok (.enter g vs) w) : (execOp a.eval ⟨dst,.call c,type,pos,after,guard⟩).run P w = .ok (.enter g (fs ++ c.args.map a.eval ++ us)) w:=by
 obtain ⟨callee,args,ts⟩:=c
 subst hc
 simp [execOp,resolve,Deferred.ofValue,invoke,hf,he]
theorem EG {st : St} {a : Act} {F : Nat -> Prop} {f : Operand} {args : Array Operand} {g : FuncId} {vs : List V} (h : callee st f args.toList = some (g,vs)) (hl : eN st f args.toList)
 (hg : ∀ x,aP β w F (st.get x) (a.eval x)) : ∃ fs us,a.eval f = .func (.func g) fs us /\ (fs ++ args.map a.eval ++ us).size = vs.length /\ ∀ (i : Nat) (c : V),vs[i]? = some c -> aP β w F c ((fs ++ args.map a.eval ++ us).getD i undef):=by
 unfold callee at h
 split at h
 ·rename_i g' caps hf
  simp only [Option.some.injEq,Prod.mk.injEq] at h
  obtain ⟨rfl,rfl⟩:=h
  obtain ⟨h1,h2⟩:=hl
  have ZB:=aF h1 hf
  have rf:=hg f
  rw [ZB] at rf
  generalize a.eval f = uf at rf
  cases rf with
  | fn _ _ us hl hr =>
    refine ⟨#[],us,rfl,by simp [hl],fun i c hc=>?_⟩
    rw [Array.empty_append]
    by_cases hi : i < args.size
    ·rw [List.getElem?_append_left (by simpa using hi)] at hc
     simp only [List.getElem?_map,Array.getElem?_toList,Option.map_eq_some_iff] at hc
     obtain ⟨x,hx,rfl⟩:=hc
     rw [aR (h2 x (by simpa using Array.mem_of_getElem? hx))]
     have : (args.map a.eval ++ us).getD i undef = a.eval x:=by
      have:=(Array.getElem?_eq_some_iff.1 hx).2
      simp [Array.getElem?_append,hi,this]
     rw [this]
     exact hg x
    ·rw [List.getElem?_append_right (by simpa using hi)] at hc
     have:=hr _ c hc
     simp only [List.length_map,Array.length_toList] at this
     have e : (args.map a.eval ++ us).getD i undef = us.getD (i - args.size) undef:=by
      simp [Array.getElem?_append,hi]
     rw [e]
     exact this
 ·rename_i g' r hf
  simp only [Option.some.injEq,Prod.mk.injEq] at h
  obtain ⟨rfl,rfl⟩:=h
  obtain ⟨h1,h2⟩:=hl
  have ZB:=aF h1 hf
  have rf:=hg f
  rw [ZB] at rf
  generalize a.eval f = uf at rf
  cases rf with
  | fn _ _ us hl hr hy=>exact absurd rfl (hy _ _ rfl)
  | bm _ _ u hu =>
    refine ⟨#[u],#[],rfl,by simp; omega,fun i c hc=>?_⟩
    rw [Array.append_empty]
    rcases i with _ | i
    ·simp at hc
     subst hc
     have : (#[u] ++ args.map a.eval).getD 0 undef = u:=by simp [Array.getElem?_append]
     rw [this]; exact hu
    ·simp only [List.getElem?_cons_succ,List.getElem?_map,Array.getElem?_toList,Option.map_eq_some_iff] at hc
     obtain ⟨x,hx,rfl⟩:=hc
     rw [aR (h2 x (by simpa using Array.mem_of_getElem? hx))]
     have hi : i < args.size:=(Array.getElem?_eq_some_iff.1 hx).1
     have : (#[u] ++ args.map a.eval).getD (i + 1) undef = a.eval x:=by
      have:=(Array.getElem?_eq_some_iff.1 hx).2
      simp [Array.getElem?_append,hi,this]
     rw [this]
     exact hg x
 ·cases h
theorem wB {st : St} {a : Act} {o : Oper} {c : Call} (ho : o.op = .call c) {f : Operand} (hf : c.callee = .value f) {K' : Act -> World -> Prop} {Q : Exit -> Act -> World -> Prop} (hr : Rs P β M st a w) {g : FuncId} {vs : List V} (jA : callee st f c.args.toList = some (g,vs))
 (hl : eN st f c.args.toList) {Kc : V -> aa -> Prop} (iR : aw P g vs st.bx Kc)
 (h : ∀ u r bx' β' w',Kc r bx' -> eu β' M bx' w' -> Tr β st.bx w β' bx' w' -> aP β' w' (Fz β' M bx' w') r u -> K' (a.put o.dst u) w') : o.wp P a w K' Q:=by
 obtain ⟨dst,op,type,pos,after,guard⟩:=o
 simp only at ho
 subst ho
 obtain ⟨fs,us,h1,h2,h3⟩:=EG jA hl (fun x=>hr.get x)
 unfold Oper.wp
 rw [EF hf h1 iR.1]
 refine (iR.2 β M w _ hr.ok hr.gl h2 h3).mono ?_
 rintro e w' ⟨v,r,bx',β',rfl,hk,cY,ja,bN⟩
 exact h v r bx' β' w' hk cY ja bN
theorem yB {t ty : TypeId} {u : Value} {k o : Nat} {cur : Array Value} {fr : Nat × Nat} (ga : cw P t = true) (bV : u.cells.size = aE P t) (aV : w.heap[k]? = some (.cells cur ty fr)) (iG : oT cur.size fr) (fp : o + u.cells.size <= cur.size) (h1 : ∀ v,v ∈ u.cells.toList -> v.oneCell' = true) :
 (Instr.storeAt t (.pointer (some ⟨k,o,none⟩)) u).run P w = .ok () (w.setRow k (cur.toList.take o ++ u.cells.toList ++ cur.toList.drop (o + u.cells.size)).toArray):=by
 obtain ⟨inf,yf,lM⟩:=fL ga
 have h2:=dm (P:=P) k o ty fr u.cells.toList 0 cur w aV iG (by simpa using fp) h1
 simp only [Nat.add_zero,Array.length_toList] at h2
 unfold Instr.storeAt storeVar sizeOf typeInfo Instr.sureAddr
 simp [yf,bV,lM,h2]
theorem At {F : Nat -> Prop} {c : V} {u : Value} (h : aP β w F c u) (h1 : u.oneCell' = true) : c.cells = [c]:=by
 cases h <;> first | rfl | (simp [Value.oneCell'] at h1)
theorem Au {F : Nat -> Prop} {e v : V} {u : Value} {sz o : Nat} (hl : e.cells.length = sz) (ho : okV v = true) (fp : o + v.cells.length <= sz) (eK : 0 < v.cells.length) (hr : aP β w F v u) (cur cur' : Array Value) (base : Nat)
 (he : ∀ (j : Nat) (c : V),e.cells[j]? = some c -> (cur.getD (base + j) undef).oneCell' = true /\ aP β w F c (cur.getD (base + j) undef))
 (aV : ∀ m,base <= m -> m < base + sz -> cur'.getD m undef = if base + o <= m /\ m < base + o + v.cells.length then u.cells.getD (m - (base + o)) undef else cur.getD m undef) :
 (ba e o v.cells).cells.length = sz /\ ∀ (j : Nat) (c : V),(ba e o v.cells).cells[j]? = some c -> (cur'.getD (base + j) undef).oneCell' = true /\ aP β w F c (cur'.getD (base + j) undef):=by
 have hu:=gU ho hr
 have main : ∀ ds : List V,ds.length = sz -> (∀ (j : Nat) (c : V),ds[j]? = some c -> (o <= j /\ j < o + v.cells.length /\ v.cells[j - o]? = some c) \/ (¬ (o <= j /\ j < o + v.cells.length) /\ e.cells[j]? = some c)) ->
  ∀ (j : Nat) (c : V),ds[j]? = some c -> (cur'.getD (base + j) undef).oneCell' = true /\ aP β w F c (cur'.getD (base + j) undef):=by
  intro ds HB hd j c hc
  have hj:=(List.getElem?_eq_some_iff.1 hc).1
  rw [aV _ (by omega) (by omega)]
  rcases hd j c hc with ⟨h1,h2,h3⟩ | ⟨h1,h2⟩
  ·rw [if_pos (by omega)]
   have e2 : base + j - (base + o) = j - o:=by omega
   rw [e2]
   exact hu.2 _ c h3
  ·rw [if_neg (by omega)]
   exact he j c h2
 have Ie : ∀ cs : List V,cs = e.cells -> (cs.take o ++ v.cells ++ cs.drop (o + v.cells.length)).length = sz /\ (∀ (j : Nat) (c : V),(cs.take o ++ v.cells ++ cs.drop (o + v.cells.length))[j]? = some c -> (o <= j /\ j < o + v.cells.length /\ v.cells[j - o]? = some c) \/ (¬ (o <= j /\ j < o + v.cells.length) /\ e.cells[j]? = some c)):=by
  rintro cs rfl
  refine ⟨by simp; omega,fun j c hc=>?_⟩
  have Rb : (e.cells.take o).length = o:=by simp; omega
  by_cases h1 : j < o
  ·rw [List.append_assoc,List.getElem?_append_left (by omega),List.getElem?_take,if_pos h1] at hc
   exact .inr ⟨by omega,hc⟩
  ·by_cases h2 : j < o + v.cells.length
   ·rw [List.append_assoc,List.getElem?_append_right (by omega),Rb,List.getElem?_append_left (by omega)] at hc
    exact .inl ⟨by omega,h2,hc⟩
   ·rw [List.getElem?_append_right (by simp; omega),List.getElem?_drop] at hc
    have e3 : o + v.cells.length + (j - (e.cells.take o ++ v.cells).length) = j:=by simp; omega
    rw [e3] at hc
    exact .inr ⟨by omega,hc⟩
 have gW : ∀ (cs : List V) (v' : V),cs = e.cells -> v.cells = [v'] -> (cs.set o v').length = sz /\ (∀ (j : Nat) (c : V),(cs.set o v')[j]? = some c -> (o <= j /\ j < o + v.cells.length /\ v.cells[j - o]? = some c) \/ (¬ (o <= j /\ j < o + v.cells.length) /\ e.cells[j]? = some c)):=by
  rintro cs v' rfl w7
  refine ⟨by simpa using hl,fun j c hc=>?_⟩
  rw [w7] at fp
  simp only [w7,List.length_singleton] at fp ⊢
  by_cases h1 : j = o
  ·subst h1
   rw [List.getElem?_set_self (by omega)] at hc
   exact .inl ⟨Nat.le_refl _,by omega,by simpa using hc⟩
  ·rw [List.getElem?_set_ne (Ne.symm h1)] at hc
   exact .inr ⟨by omega,hc⟩
 cases e with
 | agg cs =>
   cases hvc : v.cells with
   | nil=>simp [hvc] at eK
   | cons v' vs =>
     cases vs with
     | nil =>
       obtain ⟨h1,h2⟩:=gW cs v' rfl hvc
       have e1 : ba (.agg cs) o [v'] = .agg (cs.set o v'):=rfl
       rw [e1]
       exact ⟨h1,main _ h1 h2⟩
     | cons v2 vs =>
       obtain ⟨h1,h2⟩:=Ie cs rfl
       rw [hvc] at h1 h2
       have e1 : ba (.agg cs) o (v' :: v2 :: vs) = .agg (cs.take o ++ (v' :: v2 :: vs) ++ cs.drop (o + (v' :: v2 :: vs).length)):=rfl
       rw [e1]
       rw [<- hvc] at h1 h2 ⊢
       exact ⟨h1,main _ h1 h2⟩
 | _ =>
   simp only [V.cells,List.length_singleton] at hl
   obtain ⟨v',w7⟩ : ∃ v',v.cells = [v']:=by
    cases hvc : v.cells with
    | nil=>simp [hvc] at eK
    | cons v' vs =>
      cases vs with
      | nil=>exact ⟨v',rfl⟩
      | cons v2 vs=>simp [hvc] at fp; omega
   have ho0 : o = 0:=by simp [w7] at fp; omega
   subst ho0
   have h3:=hu.2 0 v' (by rw [w7]; rfl)
   have h4:=At h3.2 h3.1
   have e1 : ∀ x : V,ba x 0 v.cells = v' \/ ∃ cs,x = .agg cs:=by
    intro x
    rw [w7]
    cases x <;> first | exact .inl rfl | exact .inr ⟨_,rfl⟩
   rcases e1 _ with h5 | ⟨cs,h5⟩
   ·rw [h5,h4]
    refine ⟨by simpa using hl,fun j c hc=>?_⟩
    match j,hc with
    | 0,hc =>
      simp at hc
      subst hc
      rw [aV _ (by omega) (by omega),if_pos (by rw [w7]; simp)]
      simpa using h3
    | j + 1,hc=>simp at hc
   ·cases h5
theorem qC {cur us : Array Value} {p : Nat} (fp : p + us.size <= cur.size) (m : Nat) : (cur.toList.take p ++ us.toList ++ cur.toList.drop (p + us.size)).toArray.getD m undef = if p <= m /\ m < p + us.size then us.getD (m - p) undef else cur.getD m undef:=by
 simp only [Array.getD_eq_getD_getElem?,List.getElem?_toArray]
 have Rb : (cur.toList.take p).length = p:=by simp; omega
 by_cases h1 : m < p
 ·rw [if_neg (by omega),List.append_assoc,List.getElem?_append_left (by omega),List.getElem?_take,if_pos h1,Array.getElem?_toList]
 ·by_cases h2 : m < p + us.size
  ·rw [if_pos (by omega),List.append_assoc,List.getElem?_append_right (by omega),Rb,List.getElem?_append_left (by simp; omega),Array.getElem?_toList]
  ·rw [if_neg (by omega),List.getElem?_append_right (by simp; omega),List.getElem?_drop]
   have e3 : p + us.size + (m - (cur.toList.take p ++ us.toList).length) = m:=by simp; omega
   rw [e3,Array.getElem?_toList]
theorem yC {w : World} {k : Nat} {cur : Array Value} {ty : TypeId} {fr : Nat × Nat} (aV : w.heap[k]? = some (.cells cur ty fr)) {m : Nat} (iG : oT m fr) :
 (w.freeze ⟨k,m,none⟩ 1).heap[k]? = some (.cells cur ty (m,m + 1)) /\ (∀ q,q ≠ k -> (w.freeze ⟨k,m,none⟩ 1).heap[q]? = w.heap[q]?) /\ (w.freeze ⟨k,m,none⟩ 1).heap.size = w.heap.size:=by
 unfold World.freeze
 rw [if_neg (by decide)]
 refine ⟨?_,fun q hq=>?_,by simp⟩
 ·simp only [Array.getElem?_modify,if_pos,aV,Option.map_some]
  rcases iG with rfl | rfl
  ·rfl
  ·simp
 ·simp only [Array.getElem?_modify]
  rw [if_neg (Ne.symm hq)]
theorem EH {bx : aa} (h : eu β M bx w) {b k : Nat} {ty : TypeId} {sz : Nat} {es : List V} (hb : bx b = some (.row ty sz es)) (bL : β b = some (some k)) {cur : Array Value} {fr : Nat × Nat} (aV : w.heap[k]? = some (.cells cur ty fr)) {m : Nat} (iG : oT m fr) :
 eu β M (aA bx b none) (w.freeze ⟨k,m,none⟩ 1) /\ Tr β bx w β (aA bx b none) (w.freeze ⟨k,m,none⟩ 1):=by
 obtain ⟨jm,wA,bV⟩:=yC aV iG
 have uN : (w.freeze ⟨k,m,none⟩ 1).os = w.os /\ (w.freeze ⟨k,m,none⟩ 1).tape = w.tape /\ (w.freeze ⟨k,m,none⟩ 1).output = w.output /\ (w.freeze ⟨k,m,none⟩ 1).drawn = w.drawn:=by
  unfold World.freeze; rw [if_neg (by decide)]; exact ⟨rfl,rfl,rfl,rfl⟩
 generalize w.freeze ⟨k,m,none⟩ 1 = w' at *
 have pg:=h.live b _ hb
 obtain ⟨dt,hM⟩ : k < w.heap.size /\ M k = none:=by
  rcases pg with ⟨h1,_⟩ | ⟨k',h1,h2,h3,_⟩
  ·rw [bL] at h1; cases h1
  ·rw [bL] at h1; injection h1 with h1; injection h1 with h1; subst h1; exact ⟨h2,h3⟩
 have eS : ∀ b',aA bx b none b' ≠ none -> bx b' ≠ none /\ b' ≠ b:=by
  intro b' aQ
  by_cases e : b' = b
  ·subst e; simp [af] at aQ
  ·rw [ae _ _ e] at aQ; exact ⟨aQ,e⟩
 have hs : ∀ q x,w.shape? q = some x -> w'.shape? q = some x:=by
  intro q x hx
  by_cases e : q = k
  ·subst e; rw [bJ jm,<- bJ aV]; exact hx
  ·rw [bD (wA q e)]; exact hx
 have ht : Tr β bx w β (aA bx b none) w' :=
  ⟨uN.1,uN.2.1,uN.2.2.1,fun _=>by rw [uN.2.2.2]; exact Nat.le_refl _,fun hm=>Mk.kh hm (fun _ h=>by cases h),by omega,fun q h1 h2=>wA q (by rintro rfl; exact h2 b (by rw [hb]; simp) bL),hs,fun _ _ h=>h,fun b' q h1 h2=>.inl ⟨b',(eS b' h1).1,h2⟩⟩
 refine ⟨⟨h.fin,fun q y hq=>(wA q (by rintro rfl; rw [hM] at hq; cases hq)).trans (h.mlt q y hq),fun b' box' aQ=>?_,fun b1 b2 q h1 h2 h3 h4=>h.inj b1 b2 q (eS _ h1).1 (eS _ h2).1 h3 h4⟩,ht⟩
 have bp:=(eS b' (by rw [aQ]; simp)).2
 rw [ae _ _ bp] at aQ
 rcases h.live b' box' aQ with h1 | ⟨k',h1,h2,h3,h4⟩
 ·exact .inl h1
 ·have e : k' ≠ k:=by rintro rfl; exact bp (h.inj b' b k' (by rw [aQ]; simp) (by rw [hb]; simp) h1 bL)
  exact .inr ⟨k',h1,by omega,h3,bh h4 (wA k' e) (fun _ _ h=>h) (fun _ hk=>ht.fz hk) ht.shape⟩
theorem Ig {s e : TypeId} {k n cap : Nat} {ty : TypeId} {cur : Array Value} {fr : Nat × Nat} (h1 : P.underlying s = some (.slice e)) (h2 : P.underlying e = some (.int .u8)) (aV : w.heap[k]? = some (.cells cur ty fr)) :
 (convert s s (.slice (some ⟨k,0,none⟩) n cap)).run P w = .ok (.slice (some ⟨k,0,none⟩) n cap) (w.freeze ⟨k,cur.size,none⟩ 1):=by
 have vS:=bJ aV
 simp [convert,run_underlying h1,run_underlying h2,markStringish,vS]
theorem Dp {t ty e : TypeId} {z : Value} (ht : P.underlying t = some (.slice e)) (hz : aT P e = some z) {blk o n cap : Nat} (LA : ∀ v,v ∈ (Builtin.zeroCells z.cells n).toList -> v.oneCell' = true) {oO : TypeId} {cur : Array Value} {fr : Nat × Nat} (hn : 0 < n) (aV : w.heap[blk]? = some (.cells cur oO fr)) (iG : oT cur.size fr) (fp : o + (Builtin.zeroCells z.cells n).size <= cur.size) :
 (Builtin.clear_ #[t] ty #[.slice (some ⟨blk,o,none⟩) n cap]).run P w = .ok (.tuple #[]) (w.setRow blk (cur.toList.take o ++ (Builtin.zeroCells z.cells n).toList ++ cur.toList.drop (o + (Builtin.zeroCells z.cells n).size)).toArray):=by
 obtain ⟨i,h1,h2⟩:=jV hz
 have iq:=dm (P:=P) blk o oO fr (Builtin.zeroCells z.cells n).toList 0 cur w aV iG (by simpa using fp) LA
 simp only [Nat.add_zero,Array.length_toList] at iq
 obtain ⟨m,rfl⟩ : ∃ m,n = m + 1:=⟨n - 1,by omega⟩
 simp [Builtin.clear_,run_underlying ht,zeroValue,typeInfo,h1,h2,iq]
theorem Av {t : TypeId} {name : String} {g : FuncId} (h : pa P t name = some g) (u : Value) (n : Nat) : (method (n + 1) t u name).run P w = .ok (g,u) w:=by
 unfold pa at h
 split at h
 ·rename_i e i hk hi
  split at h
  ·rename_i m hm
   split at h
   ·rename_i hp
    split at h
    ·rename_i f hf
     injection h with h
     subst h
     have hu : P.underlying t = some (.pointer e):=by
      unfold bu at hk; split at hk <;> simp_all
     have r7 : m.path.toList = []:=by simpa using hp
     unfold method typeInfo
     simp [hi,hm,r7,follow,hf,receiverAt,run_underlying hu,Place.get]
    ·cases h
   ·cases h
  ·cases h
 ·cases h
theorem LB {st : St} {a : Act} {o : Oper} {c : Call} (ho : o.op = .call c) {recv : Operand} {name : String} (hf : c.callee = .invoke recv name) {K' : Act -> World -> Prop} {Q : Exit -> Act -> World -> Prop} (hr : Rs P β M st a w)
 {K : St -> Prop} (hinv : uj P st o.dst (st.get recv) name (c.args.toList.map st.get) K) (hK : gQ P β M st w K K') : o.wp P a w K' Q:=by
 obtain ⟨dst,op,type,pos,after,guard⟩:=o
 simp only at ho
 subst ho
 obtain ⟨callee,args,ts⟩:=c
 simp only at hf hinv
 subst hf
 unfold uj at hinv
 split at hinv
 ·rename_i t v Po
  split at hinv
  ·rename_i g hg
   obtain ⟨hl,hd,iR⟩:=hinv
   have rr:=hr.get recv
   rw [Po] at rr
   generalize hru : a.eval recv = ur at rr
   cases rr with
   | iface t v u ru =>
     have dS : (execOp a.eval ⟨dst,.call ⟨.invoke recv name,args,ts⟩,type,pos,after,guard⟩).run P w = .ok (.enter g (#[u] ++ args.map a.eval)) w:=by
      have h0 : (#[Value.iface t u] ++ args.map a.eval).extract 1 (args.size + 1) = args.map a.eval:=by
       apply Array.toList_inj.1
       simp
       exact List.take_of_length_le (by simp)
      show (do let d <- resolve a.eval ⟨.invoke recv name,args,ts⟩ type; invoke d.target d.args : Sem Next).run P w = _
      simp only [resolve,Sem.run_bind,Sem.run_pure,Result.andThen_ok,invoke,hru]
      have h1 : (#[Value.iface t u] ++ args.map a.eval)[0]? = some (.iface t u):=by rw [Array.getElem?_append_left (by simp)]; rfl
      simp only [h1]
      have h2 : (#[Value.iface t u] ++ args.map a.eval).size = args.size + 1:=by simp; omega
      rw [h2,h0]
      unfold callMethod
      simp only [Sem.run_bind,Go.program,Sem.run,Result.andThen_ok]
      have h3:=fun n=>Av (w:=w) hg u n
      have Ih : 0 < Made.depth:=by decide
      have HB : P.types.size + Made.depth = (P.types.size + Made.depth - 1) + 1:=by omega
      rw [HB,h3]
      simp only [Result.andThen_ok]
      exact iR.1 _ _
     unfold Oper.wp
     rw [dS]
     refine (iR.2 β M w _ hr.ok hr.gl (by simp; omega) (fun i x hx=>?_)).mono ?_
     ·rcases i with _ | i
      ·simp at hx
       subst hx
       have : (#[u] ++ args.map a.eval).getD 0 undef = u:=by
        rw [Array.getD_eq_getD_getElem?,Array.getElem?_append_left (by simp)]; rfl
       rw [this]
       exact ru
      ·simp only [List.getElem?_cons_succ,List.getElem?_map,Option.map_eq_some_iff] at hx
       obtain ⟨y,⟨z,hz,rfl⟩,rfl⟩:=hx
       have hza : args[i]? = some z:=by simpa using hz
       rw [aR (hl _ (List.mem_map.2 ⟨z,by simpa using Array.mem_of_getElem? hza,rfl⟩))]
       have : (#[u] ++ args.map a.eval).getD (i + 1) undef = a.eval z:=by
        simp [Array.getD_eq_getD_getElem?,Array.getElem?_append,hza]
       rw [this]
       exact hr.get z
     ·rintro e w' ⟨v',r,bx',β',rfl,hk,cY,ja,bN⟩
      exact hK _ _ _ _ hk ((hr.step cY ja).put (by cases dst <;> exact hd) bN) (by cases dst <;> exact ja)
  ·exact hinv.elim
 ·exact hinv.elim
theorem EI {st : St} {a : Act} {o : Oper} {t : TypeId} {m k x : Operand} (hdst : o.dst = none) (ho : (execOp a.eval o).run P w = (do Instr.mapUpdate t (a.eval m) (a.eval k) (a.eval x); pure Next.skip : Sem Next).run P w) {K' : Act -> World -> Prop} {Q : Exit -> Act -> World -> Prop} (hr : Rs P β M st a w)
 {K : St -> Prop} (kW : oZ P st t (st.get m) (st.get k) (st.get x) K) (hK : gQ P β M st w K K') : o.wp P a w K' Q:=by
 obtain ⟨dst,op,type,pos,after,guard⟩:=o
 simp only at hdst
 subst hdst
 unfold oZ at kW
 split at kW
 ·rename_i kt et b hk hm
  split at kW
  ·rename_i es hb
   split at kW
   ·rename_i es' hp
    obtain ⟨hl,jm,jM⟩:=kW
    rw [aR hl] at jm hp
    have rm:=hr.get m
    rw [hm] at rm
    generalize hmu : a.eval m = um at rm
    cases rm with
    | mp b k' bL =>
      rcases hr.ok.live b _ hb with ⟨h1,_⟩ | ⟨k2,h1,_,_,LC⟩
      ·rw [bL] at h1; cases h1
      ·rw [bL] at h1
       injection h1 with h1
       injection h1 with h1
       subst h1
       obtain ⟨ms,c,aV,h2,h3,h4⟩:=LC
       obtain ⟨mV,c',dS,bN⟩:=Ar hk jm (hr.get k) (hr.get x) aV ⟨h2,h3,h4⟩ hp
       obtain ⟨h5,h6⟩:=uR hr.ok hb bL aV mV c' es' bN
       unfold Oper.wp
       rw [ho,hmu]
       simp only [Sem.run_bind,dS,Result.andThen_ok,Sem.run_pure]
       exact hK _ _ _ _ jM (hr.step h5 h6) h6
   ·exact kW.elim
  ·exact kW.elim
 ·exact kW.elim
theorem EJ {β : Beta} {w : World} {F : Nat -> Prop} {k : Nat} {es : List (V × V)} {bs : List Nat} {c : Nat} (h : Ag β w F k es bs c) : bs.length = es.length /\ bs.Nodup /\ ∀ q,q ∈ bs -> q < c:=by
 obtain ⟨ms,h1,rfl,h3,h4,h5⟩:=h
 refine ⟨by simp [h3],?_,fun q hq=>?_⟩
 ·rw [List.nodup_iff_pairwise_ne,List.pairwise_map,List.pairwise_iff_getElem]
  intro i j hi hj Ii e
  have yh : i < ms.size:=by simpa using hi
  have B6 : j < ms.size:=by simpa using hj
  have:=(h4 i ms[i] (by simp [yh])).2 j ms[j] (by simp [B6]) (by simpa using e.symm)
  omega
 ·obtain ⟨m,hm,rfl⟩:=List.mem_map.1 hq
  obtain ⟨i,hi⟩:=List.getElem?_of_mem hm
  exact (h4 i m (by simpa using hi)).1
theorem Ij {st : St} {a : Act} {dst : Option Tmp} {t type : TypeId} {m k : Operand} {pos : String} {after : Array Edge} {guard : Option (Nat × Bool)} {K' : Act -> World -> Prop} {Q : Exit -> Act -> World -> Prop} (hr : Rs P β M st a w)
 {K : St -> Prop} (h : pV P st t (st.get m) (st.get k) dst K) (hK : gQ P β M st w K K') : (Oper.mk dst (.mapEntry t m k) type pos after guard).wp P a w K' Q:=by
 unfold pV at h
 split at h
 ·rename_i kt et b hk hx
  split at h
  ·rename_i es z hb hz
   split at h
   ·rename_i wo j v hp
    obtain ⟨hl,jm,hd,jM⟩:=h
    rw [aR hl] at jm hp
    have rx:=hr.get m
    rw [hx] at rx
    generalize hux : a.eval m = ux at rx
    cases rx with
    | mp b kb bL =>
      obtain ⟨dt,ED,ms,c,aV,h2,h3,h4⟩:=eB hr.ok hb bL
      obtain ⟨mV,c',mm,u,dS,⟨g1,g2,g3⟩,g4,g5⟩:=Dm hk hz jm (hr.get k) aV ⟨h2,h3,h4⟩ hp
      have Di:=w8 mV c' aV
      obtain ⟨q1,q2⟩:=w9 (w':=gV w kb mV c') (box':=.kg wo (mV.toList.map MapEntry.born) c') hr.ok hb bL rfl rfl rfl (Nat.le_refl _) (by simp [gV]) (fun k' bp=>ou w kb k' mV c' bp) (by simp [World.shape?,aV]) (fun ty e=>by cases e)
       (fun F' hF hs=>⟨mV,Di,rfl,g1,g2,fun i x m hx hm=>⟨(g3 i x m hx hm).1.mono (fun _ _ h=>h) hF hs,(g3 i x m hx hm).2.mono (fun _ _ h=>h) hF hs⟩⟩)
      have uq:=eB q1 (af _ _ _) bL
      obtain ⟨b1,b2,b3⟩:=EJ uq.2.2
      have hbj : (mV.toList.map MapEntry.born)[j]? = some mm.born:=by
       rw [List.getElem?_map]
       simp [g4]
      unfold Oper.wp execOp
      simp only [Sem.run_bind,hux,dS,Result.andThen_ok,Sem.run_pure]
      refine hK _ _ _ _ (jM (mV.toList.map MapEntry.born) c' mm.born b1 b2 hbj) ((hr.step q1 q2).put (st:={ st with bx:=_ }) ?_ ?_) ?_
      ·cases dst <;> exact hd
      ·refine .dh [v,.int .i64 mm.born] #[u,.int .i64 mm.born] rfl fun i c hi=>?_
       rcases i with _ | _ | i
       ·simp at hi; subst hi; exact q2.rep g5
       ·simp at hi; subst hi; exact .int _ _
       ·simp at hi
      ·cases dst <;> exact q2
   ·exact h.elim
  ·exact h.elim
 ·exact h.elim
theorem Dq {st : St} {a : Act} {t type : TypeId} {m s x : Operand} {pos : String} {after : Array Edge} {guard : Option (Nat × Bool)} {K' : Act -> World -> Prop} {Q : Exit -> Act -> World -> Prop} (hr : Rs P β M st a w)
 {K : St -> Prop} (h : jc st (st.get m) (st.get s) (st.get x) K) (hK : gQ P β M st w K K') : (Oper.mk none (.entryStore t m s x) type pos after guard).wp P a w K' Q:=by
 unfold jc at h
 split at h
 ·rename_i b q hm hs
  split at h
  ·rename_i es bs c hb
   obtain ⟨i,q',e,rfl,h1,h2,jM⟩:=h
   have rm:=hr.get m
   rw [hm] at rm
   have rs:=hr.get s
   rw [hs] at rs
   generalize hux : a.eval m = ux at rm
   have HC:=rs.bB
   cases rm with
   | mp b kb bL =>
     obtain ⟨dt,ED,ms,aV,rfl,g2,g3,g4⟩:=eB hr.ok hb bL
     have n7 : i < ms.size:=by
      have:=(List.getElem?_eq_some_iff.1 h1).1
      simpa using this
     have qB : ms[i].born = q':=by
      rw [List.getElem?_map] at h1
      simp [n7] at h1
      exact h1
     have yD : ms.findIdx? (fun e=>(e.born : Int) == (q' : Int)) = some i:=by
      rw [Array.findIdx?_eq_some_iff_getElem]
      refine ⟨n7,by simp [qB],fun j hj=>?_⟩
      have lB : j < ms.size:=by omega
      have:=(g3 i ms[i] (Array.getElem?_eq_getElem n7)).2 j ms[j] (Array.getElem?_eq_getElem lB)
      simp only [beq_iff_eq]
      intro hh
      have : j = i:=this (by rw [qB]; omega)
      omega
     have Di : (gV w kb (ms.modify i fun e=>{ e with val:=a.eval x }) c).heap[kb]? = _:=w8 _ c aV
     have EK : ∀ (q : Nat) (m : MapEntry),(ms.modify i fun e=>{ e with val:=a.eval x })[q]? = some m -> ∃ m0,ms[q]? = some m0 /\ m.born = m0.born:=by
      intro q m hq
      rw [Array.getElem?_modify] at hq
      split at hq
      ·cases uq : ms[q]? with
       | none=>rw [uq] at hq; cases hq
       | some m0=>rw [uq] at hq; exact ⟨m0,rfl,by rw [<- Option.some.inj hq]⟩
      ·exact ⟨m,hq,rfl⟩
     obtain ⟨q1,q2⟩:=w9 (w':=gV w kb (ms.modify i fun e=>{ e with val:=a.eval x }) c) (box':=.map (es.set i (e.1,st.get x))) hr.ok hb bL rfl rfl rfl (Nat.le_refl _) (by simp [gV]) (fun k' bp=>ou w kb k' _ c bp) (by simp [World.shape?,aV]) (fun ty e=>by cases e)
      (fun F' hF hs=>⟨_,c,Di,by simp [g2],fun q m hq=>by
       obtain ⟨m0,QZ,dD⟩:=EK q m hq
       obtain ⟨g5,g6⟩:=g3 q m0 QZ
       refine ⟨by rw [dD]; exact g5,fun q' m' uU eV=>?_⟩
       obtain ⟨m1,Ib,eU⟩:=EK q' m' uU
       exact g6 q' m1 Ib (by rw [<- eU,eV,dD]),fun q y m hy hq=>by
       rw [Array.getElem?_modify] at hq
       by_cases e0 : i = q
       ·subst e0
        rw [List.getElem?_set_self (by omega)] at hy
        rw [if_pos rfl,Array.getElem?_eq_getElem n7] at hq
        obtain rfl:=Option.some.inj hy
        obtain rfl:=Option.some.inj hq
        exact ⟨(g4 i e ms[i] h2 (Array.getElem?_eq_getElem n7)).1.mono (fun _ _ h=>h) hF hs,(hr.get x).mono (fun _ _ h=>h) hF hs⟩
       ·rw [if_neg e0] at hq
        rw [List.getElem?_set_ne e0] at hy
        exact ⟨(g4 q y m hy hq).1.mono (fun _ _ h=>h) hF hs,(g4 q y m hy hq).2.mono (fun _ _ h=>h) hF hs⟩⟩)
     unfold Oper.wp execOp
     have dS : (Instr.entryStore t (.map (some kb)) (a.eval s) (a.eval x)).run P w = .ok () (gV w kb (ms.modify i fun e=>{ e with val:=a.eval x }) c):=by
      unfold Instr.entryStore
      rw [HC]
      simp [Go.MapKept.run_getObj_map aV,asInt,asIntOf,yD,Go.MapKept.run_setObj_map _ aV,gV]
     simp only [Sem.run_bind,hux,dS,Result.andThen_ok,Sem.run_pure]
     exact hK _ _ _ _ jM (hr.step q1 q2) q2
  ·exact h.elim
 ·exact h.elim
theorem EL {st : St} {a : Act} {dst : Option Tmp} {t type : TypeId} {x : Operand} {pos : String} {after : Array Edge} {guard : Option (Nat × Bool)} {K' : Act -> World -> Prop} {Q : Exit -> Act -> World -> Prop} (hr : Rs P β M st a w)
 {K : St -> Prop} (h : pW P st t (st.get x) dst K) (hK : gQ P β M st w K K') : (Oper.mk dst (.range t x) type pos after guard).wp P a w K' Q:=by
 unfold pW at h
 split at h
 ·rename_i kt et b hk hx
  split at h
  ·rename_i es hb
   obtain ⟨hd,_,jM⟩:=h
   have rx:=hr.get x
   rw [hx] at rx
   generalize hux : a.eval x = ux at rx
   cases rx with
   | mp b kb bL =>
     obtain ⟨dt,ED,ms,c,aV,h2,h3,h4⟩:=eB hr.ok hb bL
     have hS : ∀ F',(∀ k',Fz β M st.bx w k' -> F' k' /\ w.heap[k']? = w.heap[k']?) -> Ag β w F' kb es (ms.toList.map MapEntry.born) c:=fun F' hF =>
      ⟨ms,aV,rfl,h2,h3,fun i x m hx hm=>⟨(h4 i x m hx hm).1.mono (fun _ _ h=>h) hF (fun _ _ h=>h),(h4 i x m hx hm).2.mono (fun _ _ h=>h) hF (fun _ _ h=>h)⟩⟩
     obtain ⟨g1,g2⟩:=w9 (w':=w) (box':=.kg es (ms.toList.map MapEntry.born) c) hr.ok hb bL rfl rfl rfl (Nat.le_refl _) rfl (fun _ _=>rfl) (by simp [World.shape?,aV]) (fun ty e=>by cases e) (fun F' hF _=>hS F' hF)
     obtain ⟨q1,q2,q3⟩:=EJ (hS _ fun _ hk=>⟨hk,rfl⟩)
     obtain ⟨b',e1,e2⟩:=g1.fresh
     have eV : b' ≠ b:=by rintro rfl; rw [bL] at e1; cases e1
     obtain ⟨g3,g4⟩:=Ic g1 e1 e2 (.mapIter (some kb) c #[] c) (.iter b c c []) (fun ty e=>by cases e) (fun F' hF=>⟨kb,by rw [ae _ _ (Ne.symm eV)]; exact bL,heap_alloc_new w _,Nat.le_refl _⟩)
     unfold Oper.wp execOp
     simp only [Sem.run_bind,hux,run_range_map w t kt et kb ms c (fK hk) aV,Result.andThen_ok,Sem.run_pure]
     refine hK _ _ _ _ (jM (ms.toList.map MapEntry.born) c b' q1 q2 q3 e2) (((hr.step (g3) (g2.trans g4))).put (st:={ st with bx:=_ }) ?_ ?_) ?_
     ·cases dst <;> exact hd
     ·have:=aP.ptr (β:=aA β b' (some (some w.heap.size))) (w:=w.alloc (.mapIter (some kb) c #[] c)) (F:=Fz (aA β b' (some (some w.heap.size))) M (aA (aA st.bx b (some (.kg es (ms.toList.map MapEntry.born) c))) b' (some (.iter b c c []))) (w.alloc (.mapIter (some kb) c #[] c))) b' 1 0 0 w.heap.size (af _ _ _)
      simpa using this
     ·cases dst <;> exact g2.trans g4
  ·exact h.elim
 ·exact h.elim
theorem Ik {st : St} {a : Act} {dst : Option Tmp} {type : TypeId} {x : Operand} {pos : String} {after : Array Edge} {guard : Option (Nat × Bool)} {K' : Act -> World -> Prop} {Q : Exit -> Act -> World -> Prop} (hr : Rs P β M st a w)
 {K : St -> Prop} (h : uP st (st.get x) dst K) (hK : gQ P β M st w K K') : (Oper.mk dst (.next x false) type pos after guard).wp P a w K' Q:=by
 unfold uP at h
 split at h
 ·rename_i b' hx
  split at h
  ·rename_i b since c0 seen aQ
   split at h
   ·rename_i es bs c hb
    obtain ⟨hd,hold,ZC,dV,fJ⟩:=h
    have rx:=hr.get x
    rw [hx] at rx
    generalize hux : a.eval x = ux at rx
    cases rx with
    | ptr _ _ _ _ k bL =>
      obtain ⟨dt,ED,kb,Il,hit,BA⟩:=eB hr.ok aQ bL
      obtain ⟨ZD,ZE,ms,aV,Pp,h2,h3,h4⟩:=eB hr.ok hb Il
      have Rc : ∀ m,m ∈ ms.toList -> m.born < since:=fun m hm=>hold _ (by rw [Pp]; exact List.mem_map.2 ⟨m,hm,rfl⟩)
      unfold Oper.wp execOp
      simp only [Sem.run_bind,hux,Nat.zero_mul,Nat.add_zero]
      rcases run_next_at (P:=P) w type k kb since c0 seen.toArray ms c hit aV Rc BA with ⟨g0,dS⟩ | ⟨e,he,w1,Rd,dS⟩
      ·simp only [dS,Result.andThen_ok,Sem.run_pure]
       refine hK.put hr hd ?_ (dV fun q hq=>?_)
       ·exact .dh [.bool false] #[.bool false] rfl fun i c hi=>by
         rcases i with _ | i
         ·simp at hi; subst hi; exact .bool _
         ·simp at hi
       ·rw [Pp] at hq
        obtain ⟨m,hm,rfl⟩:=List.mem_map.1 hq
        have:=all_seen ms seen.toArray g0 m hm
        simpa using this
      ·simp only [dS,Result.andThen_ok,Sem.run_pure]
       obtain ⟨hem,wu⟩:=mem_left he
       obtain ⟨i,hi⟩:=List.getElem?_of_mem hem
       have zY : ms[i]? = some e:=by simpa using hi
       have n7 : i < es.length:=by have:=(Array.getElem?_eq_some_iff.1 zY).1; omega
       have hq : bs[i]? = some e.born:=by rw [Pp,List.getElem?_map,hi]; rfl
       have Re : es[i]? = some es[i]:=by simp [n7]
       have L6 : ¬ e.born ∈ seen:=by simpa using wu
       have jd : w1.heap = w.heap:=by rcases Rd with rfl | rfl <;> rfl
       have wA : ∀ k',k' ≠ k -> (Go.ChangeMaps.setBlock w1 k (.mapIter (some kb) since (seen.toArray.push e.born) c)).heap[k']? = w.heap[k']?:=fun k' bp=>by
        simp [Go.ChangeMaps.setBlock,Array.getElem?_setIfInBounds_ne (Ne.symm bp),jd]
       have Di : (Go.ChangeMaps.setBlock w1 k (.mapIter (some kb) since (seen.toArray.push e.born) c)).heap[k]? = some (.mapIter (some kb) since (seen.toArray.push e.born) c):=by
        simp [Go.ChangeMaps.setBlock,jd,dt]
       obtain ⟨r1,r2⟩:=w9 (w':=Go.ChangeMaps.setBlock w1 k (.mapIter (some kb) since (seen.toArray.push e.born) c)) (box':=.iter b since c (seen ++ [e.born])) hr.ok aQ bL (by rcases Rd with rfl | rfl <;> rfl) (by rcases Rd with rfl | rfl <;> rfl) (by rcases Rd with rfl | rfl <;> rfl)
        (by rcases Rd with rfl | rfl
            ·exact Nat.le_refl _
            ·exact Nat.le_succ _) (by simp [Go.ChangeMaps.setBlock,jd]) wA (by simp [World.shape?,hit]) (fun ty e=>by cases e)
        (fun F' hF _=>⟨kb,Il,by rw [Di]; simp,ZC⟩)
       have Rf:=h4 i es[i] e Re zY
       refine hK _ _ _ _ (fJ i e.born es[i] hq Re L6) ((hr.step r1 r2).put (st:={ st with bx:=_ }) ?_ ?_) ?_
       ·cases dst <;> exact hd
       ·refine .dh [.bool true,es[i].1,es[i].2] #[.bool true,e.key,e.val] rfl fun j c hj=>?_
        rcases j with _ | _ | _ | j
        ·simp at hj; subst hj; exact .bool _
        ·simp at hj; subst hj; exact r2.rep Rf.1
        ·simp at hj; subst hj; exact r2.rep Rf.2
        ·simp at hj
       ·cases dst <;> exact r2
   ·exact h.elim
  ·exact h.elim
 ·exact h.elim
theorem EM {st : St} {a : Act} {dst : Option Tmp} {type : TypeId} {x : Operand} {pos : String} {after : Array Edge} {guard : Option (Nat × Bool)} {K' : Act -> World -> Prop} {Q : Exit -> Act -> World -> Prop} (hr : Rs P β M st a w)
 {K : St -> Prop} (h : pX st (st.get x) dst K) (hK : gQ P β M st w K K') : (Oper.mk dst (.entry x) type pos after guard).wp P a w K' Q:=by
 unfold pX at h
 split at h
 ·rename_i b' hx
  split at h
  ·rename_i b since c0 seen aQ
   split at h
   ·rename_i es bs c hb
    obtain ⟨hd,rfl,i,ex,pre,q,rfl,hq,Re,jM⟩:=h
    have rx:=hr.get x
    rw [hx] at rx
    generalize hux : a.eval x = ux at rx
    cases rx with
    | ptr _ _ _ _ k bL =>
      obtain ⟨dt,ED,kb,Il,hit,BA⟩:=eB hr.ok aQ bL
      have Rg:=eB hr.ok hb Il
      have rO:=(EJ Rg.2.2).2.1
      obtain ⟨ZD,ZE,ms,aV,Pp,h2,h3,h4⟩:=Rg
      have n7 : i < es.length:=(List.getElem?_eq_some_iff.1 Re).1
      have zY : ms[i]? = some ms[i]:=by simp [h2,n7]
      have hqe : q = ms[i].born:=by
       rw [Pp,List.getElem?_map] at hq
       simp [h2,n7] at hq
       exact hq.symm
      subst hqe
      have Rf:=h4 i ex ms[i] Re zY
      have ZF : w.heap[k]? = some (.mapIter (some kb) since (pre.toArray.push ms[i].born) c0):=by rw [hit]; simp
      unfold Oper.wp execOp
      have dS:=run_entry_at (P:=P) w k kb since pre.toArray ms c0 ms[i] ZF aV (by simp) (by rw [<- Pp]; exact rO)
      simp only [Sem.run_bind,hux,Nat.zero_mul,Nat.add_zero,dS,Result.andThen_ok,Sem.run_pure]
      refine hK.put hr hd ?_ jM
      refine .dh [ex.1,ex.2] #[ms[i].key,ms[i].val] rfl fun j c hj=>?_
      rcases j with _ | _ | j
      ·simp at hj; subst hj; exact Rf.1
      ·simp at hj; subst hj; exact Rf.2
      ·simp at hj
   ·exact h.elim
  ·exact h.elim
 ·exact h.elim
theorem LD {st : St} {a : Act} {dst : Option Tmp} {s t type : TypeId} {x : Operand} {pos : String} {after : Array Edge} {guard : Option (Nat × Bool)} {K' : Act -> World -> Prop} {Q : Exit -> Act -> World -> Prop} (hr : Rs P β M st a w)
 {K : St -> Prop} (h : HX P s t (st.get x) dst K st) (hK : gQ P β M st w K K') : (Oper.mk dst (.convert s t x) type pos after guard).wp P a w K' Q:=by
 unfold HX at h
 split at h
 ·rename_i e bs h1 h2 hx
  obtain ⟨⟨hu,hn⟩,hd,_,hk⟩:=h
  have rx:=hr.get x
  rw [hx] at rx
  generalize hux : a.eval x = ux at rx
  obtain ⟨q,rfl,rfl⟩:=rx.dW
  have hq : q.size = q.data.toList.length:=by show q.data.size = _; simp
  have dS:=Lib.run_convert_string_bytes (P:=P) w s t e q (fh h1) (bq h2) (iF hu)
  have bA:=fun i hi=>Lib.bytesWorld_cell w e q i hi
  have sN:=Lib.bytesWorld_at_new w e q
  have Kt : ∀ k,k < w.heap.size -> (Lib.bytesWorld w e q).heap[k]? = w.heap[k]?:=fun k hk=>Lib.bytesWorld_at_old w e q k hk
  have bV:=Lib.bytesWorld_size w e q
  have kz : q.size <= grownCap w q.size 0 e /\ grownCap w q.size 0 e <= maxLen:=⟨grownCap_ge w q.size 0 e,grownCap_le_maxLen w q.size 0 e (by rw [hq]; simpa [maxLen] using hn)⟩
  have rN : (Lib.bytesCells w e q).size = grownCap w q.size 0 e:=by
   unfold Lib.bytesCells
   simp only [Array.size_append,Array.size_map,Array.size_replicate]
   have : q.data.size = q.size:=rfl
   omega
  have eY : ∀ k y,w.shape? k = some y -> (Lib.bytesWorld w e q).shape? k = some y:=fun k y hy=>by
   rw [bD (Kt k (iP hy))]; exact hy
  have uN : (Lib.bytesWorld w e q).os = w.os /\ (Lib.bytesWorld w e q).tape = w.tape /\ (Lib.bytesWorld w e q).output = w.output /\ w.drawn <= (Lib.bytesWorld w e q).drawn:=⟨rfl,rfl,rfl,Nat.le_succ w.drawn⟩
  obtain ⟨b,e1,e2⟩:=hr.ok.fresh
  unfold Oper.wp execOp
  simp only [Sem.run_bind,hux,dS,Result.andThen_ok,Sem.run_pure]
  generalize Lib.bytesWorld w e q = w' at *
  obtain ⟨h3,h4⟩:=B9 hr.ok b e1 uN.1 uN.2.1 uN.2.2.1 uN.2.2.2 (by omega) (fun k hk _=>Kt k hk) eY (some w.heap.size) e 1 (q.data.toList.map dI) (.inl (by decide)) (fun h=>by cases h) (fun g hg=>by
   injection hg with hg
   subst hg
   refine ⟨.inl (Nat.le_refl _),by omega,_,_,sN,.inr rfl,by rw [rN]; simpa [<- hq] using kz.1,fun i c hi=>?_⟩
   simp only [List.getElem?_map,Option.map_eq_some_iff] at hi
   obtain ⟨y,hy,rfl⟩:=hi
   refine ⟨rfl,fun j c hj=>?_⟩
   have EE : j = 0:=by
    have:=(List.getElem?_eq_some_iff.1 hj).1
    simp [dI,V.cells] at this
    exact this
   subst EE
   obtain rfl : dI y = c:=by simpa [dI,V.cells] using hj
   have ZA : i < q.size:=by rw [hq]; exact (List.getElem?_eq_some_iff.1 hy).1
   have e3 : q.data.toList.getD i 0 = y:=by simp only [List.getD,hy,Option.getD_some]
   have hc:=bA i ZA
   have aV : (Lib.bytesCells w e q).getD (i * 1 + 0) undef = .int .u8 y.toNat:=by
    simp only [World.cell?,sN] at hc
    rw [Nat.mul_one,Nat.add_zero,Array.getD_eq_getD_getElem?]
    have tW : (Lib.bytesCells w e q)[i]? = some (.int .u8 (q.data.toList.getD i 0).toNat):=by simpa using hc
    rw [tW,e3]
    rfl
   rw [aV]
   exact ⟨rfl,.int _ _⟩)
  have e4 : aA (aA st.bx b none) b (some (.row e 1 (q.data.toList.map dI))) = aA st.bx b (some (.row e 1 (q.data.toList.map dI))):=by
   funext d
   by_cases hd : d = b
   ·subst hd; rw [af,af]
   ·rw [ae _ _ hd,ae _ _ hd,ae _ _ hd]
  rw [e4] at h3 h4
  refine hK _ _ _ _ (hk b e2) ((hr.step h3 h4).put (st:={ st with bx:=_ }) (by cases dst <;> exact hd) ?_) (by cases dst <;> exact h4)
  have:=aP.own (β:=aA β b (some (some w.heap.size))) (w:=w') (F:=Fz (aA β b (some (some w.heap.size))) M (aA st.bx b (some (.row e 1 (q.data.toList.map dI)))) w') b 1 0 q.size w.heap.size (grownCap w q.size 0 e) _ e (af _ _ _) (bJ sN) (by rw [rN]; omega) kz.1 (by simpa using kz.2)
  rw [Nat.zero_mul,hq] at this
  rw [hq]
  exact this
 ·exact h.elim
theorem jW {d : Bool} {o : Oper} {K : St -> Prop} {st : St} {a : Act} {K' : Act -> World -> Prop} {Q : Exit -> Act -> World -> Prop} (h : aH P d o K st) (hr : Rs P β M st a w) (hK : gQ P β M st w K K') : o.wp P a w K' Q:=by
 unfold aH at h
 split at h
 ·obtain ⟨hc,hd,hk⟩:=h
  exact Ks hr hc (fun u w' cJ ht hu=>(hK.trans ht).put cJ hd hu hk)
 ·rename_i hne0
  obtain ⟨dst,op,type,pos,after,guard⟩:=o
  simp only at h hne0
  split at h
  ·
   rename_i e
   split at h
   ·rename_i z hz
    obtain ⟨⟨ga,ho,hl⟩,hd,_,hk⟩:=h
    unfold Oper.wp execOp
    simp only [Sem.run_bind,Df hz,Result.andThen_ok,Sem.run_pure]
    refine hr.alloc hK z.cells e (aE P e) [ofValue z] (.inr (by simp)) ?_ (sL ho hl (dc z)) hd (fun b=>.ptr b (aE P e) 0 0) _ (fun b β' w' F h1 h2=>?_) hk
    ·rw [eO ho,hl]; simp
    ·have:=aP.ptr (β:=β') (w:=w') (F:=F) b (aE P e) 0 0 _ h1
     simpa using this
   ·exact h.elim
  ·
   rename_i e x
   obtain ⟨⟨ga,ho,hl⟩,hd,_,hk⟩:=h
   unfold Oper.wp execOp
   simp only [Sem.run_bind,HY,Result.andThen_ok,Sem.run_pure]
   refine hr.alloc hK _ e (aE P e) [st.get x] (.inr (by simp)) ?_ (sL ho hl (hr.get x)) hd (fun b=>.ptr b (aE P e) 0 0) _ (fun b β' w' F h1 h2=>?_) hk
   ·rw [(gU ho (hr.get x)).1,hl]; simp
   ·have:=aP.ptr (β:=β') (w:=w') (F:=F) b (aE P e) 0 0 _ h1
    simpa using this
  ·
   rename_i t len parts
   split at h
   ·rename_i e hk
    split at h
    ·rename_i z hz
     obtain ⟨⟨ga,ho,hl⟩,eK,hsmall,hparts,hd,_,jM⟩:=h
     obtain ⟨i,hi,lM⟩:=jV hz
     have bV : i.size = aE P e:=by simp [aE,hi]
     have ZG : z.cells.size = aE P e:=by rw [eO ho,hl]
     by_cases hlen : len = 0
     ·subst hlen
      have hp : parts.toList = []:=by
       cases hq : parts.toList with
       | nil=>rfl
       | cons p ps=>have:=(hparts p (by rw [hq]; simp)).1; omega
      have qA : parts = #[]:=by simpa using hp
      subst qA
      have dS : (Instr.buildSlice t 0 #[]).run P w = .ok (.slice (some ⟨w.heap.size,0,none⟩) 0 0) (w.alloc (.cells #[] e)):=by
       simp [Instr.buildSlice,run_underlying (bq hk),sizeOf,typeInfo,hi,Instr.fill,newRow,Array.range_zero']
      unfold Oper.wp execOp
      simp only [Sem.run_bind,List.map_toArray,List.map_nil,dS,Result.andThen_ok,Sem.run_pure]
      refine hr.alloc hK #[] e (aE P e) [] (.inl eK) (by simp) (fun i e he=>by simp at he) hd (fun b=>.own b (aE P e) 0 0) _ (fun b β' w' F h1 h2=>?_) (by simpa [dM] using jM)
      have:=aP.own (β:=β') (w:=w') (F:=F) b (aE P e) 0 0 _ 0 0 e h1 h2 (by simp) (Nat.le_refl _) (by simp)
      simpa using this
     ·have aV:=y7 z (aE P e) (len * aE P e) eK ZG
      have Rh:=ko (β:=β) (w:=w) (F:=Fz β M st.bx w) (len:=len) ho hl eK ((Array.range (len * aE P e)).map (z.cells[· % z.cells.size]!)) (Nat.le_refl _) aV
      obtain ⟨cur',h1,h2,h3,h4⟩:=sM (fun x=>hr.get x) rfl parts.toList (List.replicate len (ofValue z)) _ (by simp) (by simp) Rh hparts
      have dS:=run_buildSlice (P:=P) w t e len (parts.map fun (i,x)=>(i,a.eval x)) cur' i z (bq hk) hi lM (by rw [bV]; omega) (by rw [bV]; have:=Nat.mul_pos (Nat.pos_of_ne_zero hlen) eK; omega) (by rw [bV,Array.toList_map]; exact h1)
      unfold Oper.wp execOp
      simp only [Sem.run_bind,dS,Result.andThen_ok,Sem.run_pure]
      refine hr.alloc hK cur' e (aE P e) _ (.inl eK) (by rw [h4,h2]; simp) h3 hd (fun b=>.own b (aE P e) 0 len) _ (fun b β' w' F h5 h6=>?_) jM
      have rN : cur'.size = len * aE P e:=by rw [h2]; simp
      have hlm : len <= maxLen:=by
       have : len * 1 <= len * aE P e:=Nat.mul_le_mul_left _ eK
       simp only [maxLen]
       omega
      have:=aP.own (β:=β') (w:=w') (F:=F) b (aE P e) 0 len _ len _ e h5 h6 (by rw [rN]; simp) (Nat.le_refl _) (by simpa using hlm)
      simpa using this
    ·exact h.elim
   ·exact h.elim
  ·
   rename_i t l c
   split at h
   ·rename_i e kl l' kc c' hk Im gP
    split at h
    ·rename_i z hz
     obtain ⟨Ku,Ri,⟨ga,ho,hl⟩,eK,rfl,h0,rB,yg,hd,_,jM⟩:=h
     obtain ⟨i,hi,lM⟩:=jV hz
     have bV : i.size = aE P e:=by simp [aE,hi]
     have eV : i.bytes = nX P e:=by simp [nX,hi]
     have ZG : z.cells.size = aE P e:=by rw [eO ho,hl]
     have rl:=hr.get l
     rw [aF Ku Im] at rl
     have rc:=hr.get c
     rw [aF Ri gP] at rc
     have dS:=run_make (P:=P) w t e i z (bq hk) hi lM kl kc l' l' h0 (Int.le_refl _) (by rw [eV]; exact rB) yg
     unfold Oper.wp execOp
     simp only [rl.bB,rc.bB,Sem.run_bind,dS,Result.andThen_ok,Sem.run_pure]
     have uq : (madeCells z.cells (l'.toNat * i.size)).size = l'.toNat * aE P e:=by rw [size_madeCells,bV]
     refine hr.alloc hK _ e (aE P e) (List.replicate l'.toNat (ofValue z)) (.inl eK) (by rw [uq]; simp) ?_ hd (fun b=>.own b (aE P e) 0 l'.toNat) _ (fun b β' w' F h5 h6=>?_) jM
     ·refine ko ho hl eK _ (Nat.le_refl _) (fun m hm=>?_)
      have:=y7 z (aE P e) (l'.toNat * aE P e) eK ZG m hm
      rw [<- bV] at this ⊢
      exact this
     ·have:=aP.own (β:=β') (w:=w') (F:=F) b (aE P e) 0 l'.toNat _ l'.toNat _ e h5 h6 (by rw [uq]; simp) (Nat.le_refl _) (by simp only [maxLen]; omega)
      simpa using this
    ·exact h.elim
   ·exact h.elim
  ·
   rename_i t ad x
   split at h
   ·rename_i b sz i o' eX
    split at h
    ·rename_i ty eT es hb
     obtain ⟨rfl,hi,⟨ga,ho,hl⟩,eK,fp,hdst,hk⟩:=h
     subst hdst
     have ra:=hr.get ad
     rw [eX] at ra
     cases hua : a.eval ad with
     | pointer p =>
       rw [hua] at ra
       cases ra with
       | ptr b sz i o' k bL =>
         rcases hr.ok.live b _ hb with ⟨h1,_⟩ | ⟨k',h1,_,_,cur,fr,aV,iG,jn,aq⟩
         ·rw [bL] at h1; cases h1
         ·rw [bL] at h1
          injection h1 with h1
          injection h1 with h1
          subst h1
          obtain ⟨QN,Rj⟩:=aq i _ (by simp [List.getD,List.getElem?_eq_getElem hi] : es[i]? = some (es.getD i .cX))
          have hu:=gU ho (hr.get x)
          have hbound : (i + 1) * sz <= es.length * sz:=Nat.mul_le_mul_right _ hi
          rw [Nat.succ_mul] at hbound
          have EN : ∀ v,v ∈ (a.eval x).cells.toList -> v.oneCell' = true:=by
           intro v hv
           obtain ⟨m,hm⟩:=List.mem_iff_getElem?.1 hv
           have WT:=(List.getElem?_eq_some_iff.1 hm).1
           simp only [Array.length_toList] at WT
           have:=(hu.2 m _ (List.getElem?_eq_getElem (by omega))).1
           simp only [Array.getElem?_toList] at hm
           simpa [hm] using this
          have dS:=yB (P:=P) (w:=w) (t:=t) (o:=i * sz + o') ga (by rw [hu.1,hl]) aV iG (by rw [hu.1]; omega) EN
          have sI : (cur.toList.take (i * sz + o') ++ (a.eval x).cells.toList ++ cur.toList.drop (i * sz + o' + (a.eval x).cells.size)).toArray.size = cur.size:=by
           simp
           have:=hu.1
           omega
          have Rk : dT β w (Fz β M st.bx w) sz (es.set i (ba (es.getD i .cX) o' (st.get x).cells)) (cur.toList.take (i * sz + o') ++ (a.eval x).cells.toList ++ cur.toList.drop (i * sz + o' + (a.eval x).cells.size)).toArray:=by
           have Kv:=fun m=>qC (cur:=cur) (us:=(a.eval x).cells) (p:=i * sz + o') (by rw [hu.1]; omega) m
           intro i' e' tX
           by_cases e1 : i' = i
           ·subst e1
            rw [List.getElem?_set_self hi] at tX
            injection tX with tX
            subst tX
            refine Au QN ho (by omega) eK (hr.get x) cur _ (i' * sz) (fun j c hc=>Rj j c hc) (fun m h5 h6=>?_)
            rw [Kv,hu.1]
           ·rw [List.getElem?_set_ne (Ne.symm e1)] at tX
            obtain ⟨h5,h6⟩:=aq i' e' tX
            refine ⟨h5,fun j c hc=>?_⟩
            have hj : j < sz:=by have:=(List.getElem?_eq_some_iff.1 hc).1; omega
            have ad6 : i * sz + o' + (st.get x).cells.length <= i * sz + sz:=by omega
            rw [Kv,hu.1,if_neg ?_]
            ·exact h6 j c hc
            ·rintro ⟨h7,h8⟩
             rcases Nat.lt_or_gt_of_ne e1 with h9 | h9
             ·have : (i' + 1) * sz <= i * sz:=Nat.mul_le_mul_right _ h9
              rw [Nat.succ_mul] at this
              omega
             ·have : (i + 1) * sz <= i' * sz:=Nat.mul_le_mul_right _ h9
              rw [Nat.succ_mul] at this
              omega
          obtain ⟨h3,h4⟩:=pU hr.ok hb bL aV iG _ sI _ (by simp) (by rw [sI]; simpa using jn) Rk
          unfold Oper.wp execOp
          simp only [Sem.run_bind,hua,dS,Result.andThen_ok,Sem.run_pure]
          exact hK _ _ _ _ hk (hr.step h3 h4) h4
     | _=>rw [hua] at ra; cases ra
    ·exact h.elim
   ·exact h.elim
  ·
   rename_i t
   obtain ⟨hd,_,hk⟩:=h
   unfold Oper.wp execOp
   have dS : (Instr.makeMap t none).run P w = .ok (.map (some w.heap.size)) (w.alloc (.map #[] 0)):=by
    unfold Instr.makeMap newObj
    simp [Sem.run]
   simp only [Option.map_none,Sem.run_bind,dS,Result.andThen_ok,Sem.run_pure]
   exact hr.L8 hK hd hk
  ·rename_i t x
   exact EL hr h.2 hK
  ·rename_i x
   exact Ik hr h.2 hK
  ·rename_i x
   exact EM hr h.2 hK
  ·rename_i t m k x
   obtain ⟨rfl,kW⟩:=h
   exact EI (t:=t) (m:=m) (k:=k) (x:=x) rfl rfl hr kW hK
  ·rename_i t m k x
   obtain ⟨rfl,kW⟩:=h
   exact EI (t:=t) (m:=m) (k:=k) (x:=x) rfl rfl hr kW hK
  ·exact Ij hr h hK
  ·obtain ⟨rfl,h⟩:=h
   exact Dq hr h hK
  ·
   rename_i s d' x
   have hsd : s = d':=by simpa [bU] using hne0
   subst hsd
   split at h
   ·rename_i e b sz n hk eX
    split at h
    ·rename_i ty eT es hb
     obtain ⟨he,rfl,rfl,hn,h0,ig,hd,LG⟩:=h
     have rx:=hr.get x
     rw [eX] at rx
     generalize hux : a.eval x = ux at rx
     cases rx with
     | nv=>exact absurd h0 (by omega)
     | own _ _ _ _ k cap m oO bL hs hm Rl gT =>
       rcases hr.ok.live b _ hb with ⟨h1,_⟩ | ⟨k',h1,dt,ZH,cur,fr,aV,iG,jn,aq⟩
       ·rw [bL] at h1; cases h1
       ·rw [bL] at h1; injection h1 with h1; injection h1 with h1; subst h1
        have dS:=Ig (P:=P) (w:=w) (n:=n) (cap:=cap) (bq hk) (iF he) aV
        obtain ⟨sO,ja⟩:=EH hr.ok hb bL aV iG
        unfold Oper.wp execOp
        simp only [Nat.zero_mul] at hux
        simp only [Sem.run_bind,hux,Nat.zero_mul,dS,Result.andThen_ok,Sem.run_pure]
        obtain ⟨jm,_,_⟩:=yC aV iG
        generalize w.freeze ⟨k,cur.size,none⟩ 1 = w' at *
        refine hK _ _ _ _ LG (((hr.step sO ja)).put (st:={ st with bx:=_ }) ?_ ?_) ?_
        ·cases dst <;> exact hd
        ·have rC : Fz β M (aA st.bx b none) w' k:=by
          refine ⟨by have:=ja.size; omega,ZH,fun b' aQ tX=>?_⟩
          by_cases e1 : b' = b
          ·subst e1; simp [af] at aQ
          ·rw [ae _ _ e1] at aQ
           exact e1 (hr.ok.inj b' b k aQ (by rw [hb]; simp) tX bL)
         have hint : ∀ (i : Nat) (c : V),es[i]? = some c -> ∃ z,c = .int .u8 z:=by
          intro i c hi
          have:=List.all_eq_true.1 ig c (List.mem_of_getElem? hi)
          unfold yu at this
          split at this
          ·exact ⟨_,rfl⟩
          ·cases this
         have bA : ∀ (i : Nat) (c : V),es[i]? = some c -> (cur.getD i undef).oneCell' = true /\ ∃ z,c = .int .u8 z /\ cur.getD i undef = .int .u8 z /\ i < cur.size:=by
          intro i c hi
          obtain ⟨z,rfl⟩:=hint i c hi
          obtain ⟨g1,g2⟩:=(aq i _ hi).2 0 (.int .u8 z) rfl
          simp only [Nat.mul_one,Nat.add_zero] at g1 g2
          have:=(List.getElem?_eq_some_iff.1 hi).1
          exact ⟨g1,z,rfl,g2.bB,by omega⟩
         subst hn
         refine .sl 1 es _ cap (fun j=>cur.getD j undef) Rl (by simpa using gT) (fun _ h=>by cases h) (fun e1 h1=>?_) (fun i e1 j c hi hj=>?_) (fun i e1 j c hi hj=>?_)
         ·obtain ⟨i,hi⟩:=List.getElem?_of_mem h1
          obtain ⟨z,rfl⟩:=hint i _ hi
          rfl
         ·obtain ⟨g1,z,rfl,g2,g3⟩:=bA i _ hi
          have EE : j = 0:=by rcases j with _ | j; rfl; simp [V.cells] at hj
          subst EE
          refine ⟨_,rfl,rC,?_,by simpa using g1⟩
          have e2 : (⟨k,0,none⟩ : Addr).add i = ⟨k,i,none⟩:=by unfold Addr.add; by_cases h : i = 0 <;> simp [h]
          simp only [Nat.mul_one,Nat.add_zero,e2]
          simp [World.cell?,jm,g3]
         ·obtain ⟨g1,z,rfl,g2,g3⟩:=bA i _ hi
          have EE : j = 0:=by rcases j with _ | j; rfl; simp [V.cells] at hj
          subst EE
          simp [V.cells] at hj
          subst hj
          simp only [Nat.mul_one,Nat.add_zero,g2]
          exact .int _ _
        ·cases dst <;> exact ja
    ·exact h.elim
   ·exact h.elim
  ·
   rename_i c
   split at h
   ·rename_i s x t t' h1 h2 h3
    obtain ⟨HA,h⟩:=h
    obtain ⟨callee,args,ts⟩:=c
    simp only at h1 h2 h3
    subst h1
    obtain rfl : args = #[s,x]:=by rw [<- Array.toArray_toList (xs:=args),h2]
    obtain rfl : ts = #[t,t']:=by rw [<- Array.toArray_toList (xs:=ts),h3]
    obtain ⟨v,w',h4,h5⟩:=w6 (ty:=type) h HA hr (hr.get s) (hr.get x) hK
    unfold Oper.wp
    have : (execOp a.eval { dst:=dst,op:=.call { callee:=.builtin .append,args:=#[s,x],argTypes:=#[t,t'] },type:=type,pos:=pos,after:=after,guard:=guard }).run P w = .ok (.value v) w':=by
     show (do let d <- resolve a.eval _ type; invoke d.target d.args : Sem Next).run P w = _
     simp only [resolve,invoke,builtin,Sem.run_bind,Sem.run_pure,Result.andThen_ok,List.map_toArray,List.map_cons,List.map_nil,h4]
    rw [this]
    exact h5
   ·rename_i x t h1 h2 h3
    obtain ⟨_,rfl,h⟩:=h
    obtain ⟨callee,args,ts⟩:=c
    simp only at h1 h2 h3
    subst h1
    obtain rfl : args = #[x]:=by rw [<- Array.toArray_toList (xs:=args),h2]
    obtain rfl : ts = #[t]:=by rw [<- Array.toArray_toList (xs:=ts),h3]
    unfold sJ at h
    split at h
    ·rename_i e b sz o n hk hx
     split at h
     ·rename_i z e' eT es hz hb
      obtain ⟨ga,eK,Dr,ZI,hn,hle,LG⟩:=h
      subst Dr ZI
      have rx:=hr.get x
      rw [hx] at rx
      generalize hux : a.eval x = ux at rx
      have EC : z.cells.size = aE P e:=by rw [eO ga.2.1]; exact ga.2.2
      have HC : (Builtin.zeroCells z.cells n).size = n * aE P e:=by rw [size_zeroCells,EC]
      have WQ : dT β w (Fz β M st.bx w) (aE P e) (List.replicate n (ofValue z)) (Builtin.zeroCells z.cells n):=by
       refine ko ga.2.1 ga.2.2 eK _ (Nat.le_refl _) (fun m hm=>?_)
       simp only [Builtin.zeroCells,Array.getD_eq_getD_getElem?]
       have Pq : m < n * z.cells.size:=by rw [EC]; exact hm
       have hm3 : m % z.cells.size < z.cells.size:=Nat.mod_lt _ (by omega)
       rw [Array.getElem?_map,Array.getElem?_range,if_pos Pq]
       rw [<- EC]
       simp [hm3]
      cases rx with
      | nv=>omega
      | own _ _ _ _ blk cap m oO bL hs hm Rl gT =>
        rcases hr.ok.live b _ hb with ⟨h1,_⟩ | ⟨blk',h1,dt,ZH,cur,fr,aV,iG,jn,aq⟩
        ·rw [bL] at h1; cases h1
        ·rw [bL] at h1; injection h1 with h1; injection h1 with h1; subst h1
         have fp : o * aE P e + n * aE P e <= cur.size:=by
          rw [<- Nat.add_mul]; exact Nat.le_trans (Nat.mul_le_mul_right _ hle) jn
         have EN : ∀ v,v ∈ (Builtin.zeroCells z.cells n).toList -> v.oneCell' = true:=by
          intro v hv
          obtain ⟨q,hq,rfl⟩:=List.getElem_of_mem hv
          rw [Array.length_toList,HC] at hq
          have Ib : q / aE P e < n:=(Nat.div_lt_iff_lt_mul eK).2 hq
          have LH : q % aE P e < aE P e:=Nat.mod_lt _ eK
          have HD : q / aE P e * aE P e + q % aE P e = q:=by rw [Nat.mul_comm]; exact Nat.div_add_mod _ _
          have:=(WQ (q / aE P e) (ofValue z) (by rw [List.getElem?_replicate,if_pos Ib])).2 (q % aE P e) _ (List.getElem?_eq_getElem (by rw [ga.2.2]; exact LH))
          rw [HD] at this
          have h3:=this.1
          rw [Array.getD_eq_getD_getElem?,Array.getElem?_eq_getElem (by rw [HC]; exact hq)] at h3
          simpa using h3
         have dS:=Dp (P:=P) (w:=w) (ty:=type) (o:=o * aE P e) (cap:=cap) (bq hk) hz EN hn aV iG (by rw [HC]; exact fp)
         rw [HC] at dS
         obtain ⟨sO,ja⟩:=pU hr.ok hb bL aV iG (cur.toList.take (o * aE P e) ++ (Builtin.zeroCells z.cells n).toList ++ cur.toList.drop (o * aE P e + n * aE P e)).toArray (by simp [HC]; omega) (es.take o ++ List.replicate n (ofValue z) ++ es.drop (o + n)) (by simp; omega) (by
          have e1 : (es.take o ++ List.replicate n (ofValue z) ++ es.drop (o + n)).length = es.length:=by simp; omega
          have e2 : (cur.toList.take (o * aE P e) ++ (Builtin.zeroCells z.cells n).toList ++ cur.toList.drop (o * aE P e + n * aE P e)).toArray.size = cur.size:=by simp [HC]; omega
          rw [e1,e2]; exact jn) (by
          have Kv:=fun m=>qC (cur:=cur) (us:=Builtin.zeroCells z.cells n) (p:=o * aE P e) (by rw [HC]; exact fp) m
          rw [HC] at Kv
          intro i e0 hi
          have Rb : (es.take o).length = o:=by simp; omega
          have Rm : (¬ (o <= i /\ i < o + n) /\ es[i]? = some e0) \/ ((o <= i /\ i < o + n) /\ e0 = ofValue z):=by
           by_cases h1 : i < o
           ·rw [List.append_assoc,List.getElem?_append_left (by omega),List.getElem?_take,if_pos h1] at hi
            exact .inl ⟨by omega,hi⟩
           ·by_cases h2 : i < o + n
            ·rw [List.append_assoc,List.getElem?_append_right (by omega),Rb,List.getElem?_append_left (by simp; omega)] at hi
             exact .inr ⟨by omega,(List.eq_of_mem_replicate (List.mem_of_getElem? hi))⟩
            ·rw [List.getElem?_append_right (by simp; omega),List.getElem?_drop] at hi
             have e3 : o + n + (i - (es.take o ++ List.replicate n (ofValue z)).length) = i:=by simp; omega
             rw [e3] at hi
             exact .inl ⟨by omega,hi⟩
          rcases Rm with ⟨h1,h2⟩ | ⟨h1,rfl⟩
          ·obtain ⟨g1,g2⟩:=aq i e0 h2
           refine ⟨g1,fun j c hc=>?_⟩
           have hj : j < aE P e:=by have:=(List.getElem?_eq_some_iff.1 hc).1; omega
           have L5 : ¬ (o * aE P e <= i * aE P e + j /\ i * aE P e + j < o * aE P e + n * aE P e):=by
            rw [<- Nat.add_mul]
            rintro ⟨k1,k2⟩
            apply h1
            constructor
            ·rcases Nat.lt_or_ge i o with h | h
             ·have:=Nat.mul_le_mul_right (aE P e) (show i + 1 <= o from h)
              rw [Nat.succ_mul] at this; omega
             ·exact h
            ·rcases Nat.lt_or_ge i (o + n) with h | h
             ·exact h
             ·have:=Nat.mul_le_mul_right (aE P e) h; omega
           rw [Kv,if_neg L5]
           exact g2 j c hc
          ·refine ⟨ga.2.2,fun j c hc=>?_⟩
           have hj : j < aE P e:=by have:=(List.getElem?_eq_some_iff.1 hc).1; rw [ga.2.2] at this; exact this
           have zX : o * aE P e <= i * aE P e + j /\ i * aE P e + j < o * aE P e + n * aE P e:=by
            rw [<- Nat.add_mul]
            have k1:=Nat.mul_le_mul_right (aE P e) h1.1
            have k2:=Nat.mul_le_mul_right (aE P e) (show i + 1 <= o + n from h1.2)
            rw [Nat.succ_mul] at k2
            omega
           have jB : i * aE P e + j - o * aE P e = (i - o) * aE P e + j:=by
            rw [Nat.sub_mul]
            have k1:=Nat.mul_le_mul_right (aE P e) h1.1
            omega
           rw [Kv,if_pos zX,jB]
           exact (WQ (i - o) (ofValue z) (by rw [List.getElem?_replicate,if_pos (by omega)])).2 j c hc)
         unfold Oper.wp
         have di : (execOp a.eval { dst:=none,op:=.call { callee:=.builtin .clear,args:=#[x],argTypes:=#[t] },type:=type,pos:=pos,after:=after,guard:=guard }).run P w = .ok (.value (.tuple #[])) (w.setRow blk (cur.toList.take (o * aE P e) ++ (Builtin.zeroCells z.cells n).toList ++ cur.toList.drop (o * aE P e + n * aE P e)).toArray):=by
          show (do let d <- resolve a.eval _ type; invoke d.target d.args : Sem Next).run P w = _
          simp only [resolve,invoke,builtin,Sem.run_bind,Sem.run_pure,Result.andThen_ok,List.map_toArray,List.map_cons,List.map_nil,hux,dS]
         rw [di]
         exact hK _ _ _ _ LG (hr.step sO ja) ja
     ·exact h.elim
    ·exact h.elim
   ·rename_i m k t t2 h1 h2 h3
    obtain ⟨rfl,h⟩:=h
    obtain ⟨callee,args,ts⟩:=c
    simp only at h1 h2 h3
    subst h1
    obtain rfl : args = #[m,k]:=by rw [<- Array.toArray_toList (xs:=args),h2]
    obtain rfl : ts = #[t,t2]:=by rw [<- Array.toArray_toList (xs:=ts),h3]
    unfold sK at h
    split at h
    ·rename_i kt et b hk hm
     split at h
     ·rename_i es hb
      split at h
      ·rename_i es' hp
       obtain ⟨hl,jm,jM⟩:=h
       rw [aR hl] at jm hp
       have rm:=hr.get m
       rw [hm] at rm
       generalize hmu : a.eval m = um at rm
       cases rm with
       | mp b k' bL =>
         rcases hr.ok.live b _ hb with ⟨h1,_⟩ | ⟨k2,h1,_,_,LC⟩
         ·rw [bL] at h1; cases h1
         ·rw [bL] at h1
          injection h1 with h1
          injection h1 with h1
          subst h1
          obtain ⟨ms,cl,aV,g2,g3,g4⟩:=LC
          obtain ⟨mV,c',dS,bN⟩:=As (t2:=t2) (ty:=type) hk jm (hr.get k) aV ⟨g2,g3,g4⟩ hp
          obtain ⟨h5,h6⟩:=uR hr.ok hb bL aV mV c' es' bN
          unfold Oper.wp
          have di : (execOp a.eval { dst:=none,op:=.call { callee:=.builtin .delete,args:=#[m,k],argTypes:=#[t,t2] },type:=type,pos:=pos,after:=after,guard:=guard }).run P w = .ok (.value (.tuple #[])) (gV w k' mV c'):=by
           show (do let d <- resolve a.eval _ type; invoke d.target d.args : Sem Next).run P w = _
           simp only [resolve,invoke,builtin,Sem.run_bind,Sem.run_pure,Result.andThen_ok,List.map_toArray,List.map_cons,List.map_nil,hmu,dS]
          rw [di]
          exact hK _ _ _ _ jM (hr.step h5 h6) h6
      ·exact h.elim
     ·exact h.elim
    ·exact h.elim
   ·rename_i recv name h1
    exact LB (o:=⟨dst,.call c,type,pos,after,guard⟩) rfl h1 hr h.2 hK
   ·rename_i f h1
    split at h
    ·rename_i g vs jA
     obtain ⟨hl,hd,h⟩:=h
     split at h
     ·obtain ⟨r,hp,hk⟩:=h
      refine wB (o:=⟨dst,.call c,type,pos,after,guard⟩) rfl h1 hr jA hl hp (fun u r' bx' β' w' hkc cY ja bN=>?_)
      obtain ⟨rfl,rfl⟩:=hkc
      exact hK _ _ _ _ hk ((hr.step cY ja).put hd bN) (by cases dst <;> exact ja)
     ·refine wB (o:=⟨dst,.call c,type,pos,after,guard⟩) rfl h1 hr jA hl h (fun u r' bx' β' w' hkc cY ja bN=>?_)
      exact hK _ _ _ _ hkc ((hr.step cY ja).put (by cases dst <;> exact hd) bN) (by cases dst <;> exact ja)
    ·exact h.elim
   ·exact h.elim
  ·exact h.elim
end
end Go.Pl
namespace Go.Pl
open Go
section
variable {P : Program} {β : Beta} {M : dP} {w : World}
theorem mW {ops : Array Oper} {st : St} {a : Act} {o : Oper} {g : Nat} {want wb : Bool} (ho : o.guard = some (g,want)) (h : dQ ops st g want = some wb) (hr : Rs P β M st a w) : Region.wanted o (yielded ops a.tmps) = wb:=by
 unfold dQ at h
 unfold Region.wanted yielded
 rw [ho]
 split at h
 ·rename_i d hd
  split at h
  ·rename_i c hs
   injection h with h
   subst h
   simp only [hd,Option.bind_some]
   have bN:=hr.sl d
   by_cases hl : (st.sl d).ax = true
   ·rw [aF hl hs] at bN
    have hu:=bN.fy
    have zX : a.tmps[d]? = some (.bool c):=by
     rcases Nat.lt_or_ge d a.tmps.size with h1 | h1
     ·simp [h1] at hu ⊢; exact hu
     ·simp [Array.getElem?_eq_none h1] at hu; exact absurd hu (by intro h; cases h)
    rw [zX,hl]
    cases c <;> cases want <;> rfl
   ·obtain ⟨v,hv⟩ : ∃ v,st.sl d = .dead v:=by
     cases hq : st.sl d <;> rw [hq] at hl <;> simp [V.ax] at hl
     exact ⟨_,rfl⟩
    rw [hv] at bN
    have hu : a.tmps.getD d undef = undef:=by
     generalize a.tmps.getD d undef = q at bN
     cases bN; rfl
    have zX : a.tmps[d]? = none \/ a.tmps[d]? = some undef:=by
     rcases Nat.lt_or_ge d a.tmps.size with h1 | h1
     ·right; simp [h1] at hu ⊢; exact hu
     ·left; exact Array.getElem?_eq_none h1
    have : (st.sl d).ax = false:=by simpa using hl
    rw [this]
    rcases zX with zX | zX <;> rw [zX] <;> rfl
  ·cases h
 ·cases h
def rf (ro : Option Nat) : Fence:={ Fence.wide with round:=ro }
theorem ph (ro : Option Nat) (n : Nat) {o : Oper} {a : Act} {K : Act -> World -> Prop} {Q : Exit -> Act -> World -> Prop} (hd : ∀ c,o.op ≠ .defer c) (h : o.wp P a w K Q) : o.wpIn (rf ro) n P a w K Q:=by
 unfold Oper.wpIn
 refine ⟨fun _ _=>trivial,?_⟩
 rw [Oper.semAt_eq _ _ _ hd]
 unfold Oper.wp at h
 generalize (execOp a.eval o).run P w = r at h ⊢
 cases r with
 | ok x w' =>
   cases x with
   | value v=>exact h
   | skip=>exact h
   | defer d=>exact h
   | enter f args=>exact ⟨fun hd=>by simp [rf,Fence.wide] at hd,callsIn_wide.2 h⟩
   | row r args=>exact ⟨fun hd=>by simp [rf,Fence.wide] at hd,fun c cs _=>by
    obtain ⟨v,w2,h1,h2⟩:=h c cs
    exact ⟨v,w2,h1,stepsIn_wide.2 h2⟩⟩
   | round l f tmps assign body=>exact h.elim
   | _=>exact h.elim
 | halt x w'=>cases x <;> first | exact h | exact h.elim
theorem Rn {o : Oper} (h : bU o.op = true) : ∀ c,o.op ≠ .defer c:=by
 intro c hc
 rw [hc] at h
 simp [bU] at h
theorem pj {d : Bool} {o : Oper} {K : St -> Prop} {st : St} (h : aH P d o K st) : ∀ c,o.op ≠ .defer c:=by
 intro c hc
 unfold aH at h
 rw [hc] at h
 simp [bU] at h
theorem dN {ro : Option Nat} {n : Nat} {d : Bool} {ops : Array Oper} {o : Oper} {i : Nat} {K : St -> Prop} {st : St} {a : Act} {K' : Act -> World -> Prop} {Q : Exit -> Act -> World -> Prop} (hi : ops[i]? = some o) (h : bE P d ops o K st) (hr : Rs P β M st a w) (hK : gQ P β M st w K K') :
 wpOpIn (rf ro) n P ops Q i K' a w:=by
 unfold wpOpIn
 simp only [hi]
 unfold bE at h
 split at h
 ·rename_i hg
  have hw : Region.wanted o (yielded ops a.tmps) = true:=by simp [Region.wanted,hg]
  rw [if_pos hw]
  exact ph ro n (pj h) (jW h hr hK)
 ·rename_i g want hg
  split at h
  ·rename_i wb lN
   have hw:=mW hg lN hr
   rw [hw]
   split at h
   ·obtain ⟨hc,hd,hk⟩:=h
    cases wb
    ·simp only [Bool.false_eq_true,if_false]
     exact ⟨fun _ _=>trivial,hK.put hr hd (.dead _) hk⟩
    ·simp only [if_true]
     exact ph ro n (Rn (by assumption)) (Ks hr (hc rfl) (fun u w' cJ ht hu=>(hK.trans ht).put cJ hd hu hk))
   ·split at h
    ·rename_i f args ts cm
     split at h
     ·rename_i q vs jA
      obtain ⟨hd,r,hc,hk⟩:=h
      cases wb
      ·simp only [Bool.false_eq_true,if_false]
       exact ⟨fun _ _=>trivial,hK.put hr hd (.dead _) hk⟩
      ·simp only [if_true]
       obtain ⟨hl,hp⟩:=hc rfl
       refine ph ro n (fun c hc=>by rw [cm] at hc; cases hc) (wB (o:=o) cm rfl hr jA hl hp (fun u r' bx' β' w' hkc cY ja bN=>?_))
       obtain ⟨rfl,rfl⟩:=hkc
       exact hK _ _ _ _ hk ((hr.step cY ja).put hd bN) (by cases o.dst <;> exact ja)
     ·exact h.elim
    ·cases wb
     ·simp only [Bool.false_eq_true,if_false]
      obtain ⟨hd,hk⟩:=h.2 rfl
      exact ⟨fun _ _=>trivial,hK.put hr hd (.dead _) hk⟩
     ·simp only [if_true]
      exact ph ro n (pj (h.1 rfl)) (jW (h.1 rfl) hr hK)
  ·exact h.elim
theorem pn {ro : Option Nat} {n : Nat} {d : Bool} {ops : Array Oper} {K : St -> Prop} {Q : Exit -> Act -> World -> Prop} : ∀ (l : List Oper) (k : Nat) (st : St) (a : Act) (w : World) (β : Beta),(∀ j,l[j]? = ops[k + j]?) -> oo P d ops K l st -> Rs P β M st a w -> gQ P β M st w K (Q .normal) ->
 wpOpsIn (rf ro) n P ops Q ((List.range' k l.length)) a w
 | [],k,st,a,w,β,_,h,hr,hK=>by
   simp only [List.length_nil,List.range'_zero,wpOpsIn]
   exact hK st β a w h hr (Tr.refl _ _ _)
 | o :: l,k,st,a,w,β,hl,h,hr,hK=>by
   have h0 : ops[k]? = some o:=by simpa using (hl 0).symm
   simp only [List.length_cons,List.range'_succ,wpOpsIn_cons]
   refine dN h0 h hr (fun st' β' a' w' hk cJ ht=>?_)
   exact pn l (k + 1) st' a' w' β' (fun j=>by have:=hl (j + 1); simpa [Nat.add_assoc,Nat.add_comm 1 j] using this) hk cJ (hK.trans ht)
end
end Go.Pl
namespace Go.Pl
open Go
def St.at (st : St) (bx : aa) (dst : Option Tmp) (v : V) : St:=({ st with bx:=bx } : St).put dst v
structure cK (ops : Array Oper) (o : Oper) (st st2 : St) : Prop where
 sl : ∀ t,t ∈ o.looksAt ops -> st2.sl t = st.sl t
 bx : st2.bx = st.bx
 n : st2.n = st.n
section
variable {P : Program} {ops : Array Oper} {o : Oper} {st st2 : St}
theorem cK.get (h : cK ops o st st2) (x : Operand) (hx : x ∈ o.op.operands) : st2.get x = st.get x:=by
 cases x with
 | tmp t =>
   refine h.sl t (List.mem_append_left _ (List.mem_filterMap.2 ⟨.tmp t,by simpa using hx,rfl⟩))
 | _=>rfl
theorem cK.dst (h : cK ops o st st2) (d : Option Tmp) : aJ st2 d ↔ aJ st d:=by
 cases d <;> simp [aJ,h.n]
theorem cK.gv (h : cK ops o st st2) (x : Operand) (hx : x ∈ o.op.operands) : Pl.gv P st2 x = Pl.gv P st x:=by
 cases x with
 | global g=>rfl
 | tmp t=>exact h.get (.tmp t) hx
 | const v=>exact h.get (.const v) hx
 | func f=>exact h.get (.func f) hx
theorem lT {x : Option Operand} (h : ∀ y,x = some y -> st2.get y = st.get y) : x.map st2.get = x.map st.get:=by
 cases x with
 | none=>rfl
 | some y=>simp [h y rfl]
theorem cK.ev (h : cK ops o st st2) : Pl.ev P st2 o = Pl.ev P st o:=by
 obtain ⟨dst,op,type,pos,after,guard⟩:=o
 have hg:=h.get
 have hb:=h.bx
 simp only at hg
 unfold Pl.ev
 simp only
 split
 ·exact congrArg _ (hg _ (by simp [Op.operands]))
 ·exact congrArg _ (hg _ (by simp [Op.operands]))
 ·rw [hg _ (by simp [Op.operands]),hg _ (by simp [Op.operands]),hg _ (by simp [Op.operands])]
 ·rw [h.gv _ (by simp [Op.operands]),hb]
 ·rw [hg _ (by simp [Op.operands])]
 ·rw [h.gv _ (by simp [Op.operands]),hg _ (by simp [Op.operands])]
 ·rw [hg _ (by simp [Op.operands])]
 ·rw [hg _ (by simp [Op.operands]),hg _ (by simp [Op.operands])]
 ·rw [hg _ (by simp [Op.operands])]
 ·rw [hg _ (by simp [Op.operands]),hg _ (by simp [Op.operands])]
 ·rw [hg _ (by simp [Op.operands])]
 ·rw [hg _ (by simp [Op.operands])]
 ·rw [hg _ (by simp [Op.operands]),lT (fun y hy=>hg y (by simp [Op.operands,hy])),lT (fun y hy=>hg y (by simp [Op.operands,hy]))]
 ·rw [hg _ (by simp [Op.operands]),lT (fun y hy=>hg y (by simp [Op.operands,hy])),hg _ (by simp [Op.operands]),hg _ (by simp [Op.operands])]
 ·rename_i f first caps
  split
  ·have : caps.toList.map st2.get = caps.toList.map st.get:=List.map_congr_left fun x hx=>hg x (by simp [Op.operands]; right; simpa using hx)
   rw [this]
  ·rename_i x h0
   rw [hg x (by
    have : x ∈ first.toList:=by rw [h0]; simp
    simp [Op.operands]; left; simpa using this)]
  ·rfl
 ·rename_i t parts
  have : (parts.toList.map fun p=>(p.1,st2.get p.2)) = parts.toList.map fun p=>(p.1,st.get p.2):=List.map_congr_left fun p hp=>by
   rw [hg p.2 (by simp only [Op.operands,List.mem_toArray]; exact List.mem_map.2 ⟨p,hp,rfl⟩)]
  rw [this]
 ·rename_i c
  have fB : ∀ x,x ∈ c.args.toList -> st2.get x = st.get x:=fun x hx=>hg x (by simp [Op.operands,Call.operands]; right; simpa using hx)
  unfold lP
  split
  ·rename_i x t h0 h1 h2
   rw [fB x (by simp [h1]),hb]
  ·rename_i x y h0 h1
   rw [fB x (by simp [h1]),fB y (by simp [h1])]
  ·rename_i x y h0 h1
   rw [fB x (by simp [h1]),fB y (by simp [h1])]
  ·rfl
 ·rw [hg _ (by simp [Op.operands]),hg _ (by simp [Op.operands]),hb]
 ·rw [hg _ (by simp [Op.operands])]
 ·rw [hg _ (by simp [Op.operands])]
 ·rw [hg _ (by simp [Op.operands])]
 ·rfl
def jt (P : Program) (d : Bool) (ops : Array Oper) (o : Oper) (st : St) (K : St -> Prop) (tr : (St -> Prop) -> St -> Prop) : Prop :=
 ∃ T : aa -> V -> Prop,(∃ bx v,T bx v) /\ (∀ bx v,T bx v -> K (st.at bx o.dst v)) /\
  ∀ (st2 : St) (K2 : St -> Prop),cK ops o st st2 -> (∀ bx v,T bx v -> K2 (st2.at bx o.dst v)) -> tr K2 st2
theorem kE {bx : aa} (h : bj bx) : ∃ b,bx b = none:=by
 obtain ⟨n,hn⟩:=h
 exact ⟨n,hn n (Nat.le_refl _)⟩
theorem gH {d : Bool} {K : St -> Prop} {tr : (St -> Prop) -> St -> Prop} (v : V) (hk : K (st.put o.dst v)) (h : ∀ (st2 : St) (K2 : St -> Prop),cK ops o st st2 -> K2 (st2.put o.dst v) -> tr K2 st2) : jt P d ops o st K tr:=by
 refine ⟨fun bx u=>bx = st.bx /\ u = v,⟨_,_,rfl,rfl⟩,?_,fun st2 K2 ha hT=>h st2 K2 ha ?_⟩
 ·rintro bx u ⟨rfl,rfl⟩; exact hk
 ·have:=hT st.bx v ⟨rfl,rfl⟩
  rw [<- ha.bx] at this
  exact this
theorem gJ {d : Bool} {K : St -> Prop} {tr : (St -> Prop) -> St -> Prop} (box : bI) (v : Nat -> V) (hf : bj st.bx) (hk : ∀ b,st.bx b = none -> K ((st.box b (some box)).put o.dst (v b)))
 (h : ∀ (st2 : St) (K2 : St -> Prop),cK ops o st st2 -> (∀ b,st2.bx b = none -> K2 ((st2.box b (some box)).put o.dst (v b))) -> tr K2 st2) : jt P d ops o st K tr:=by
 refine ⟨fun bx u=>∃ b,st.bx b = none /\ bx = aA st.bx b (some box) /\ u = v b,?_,?_,fun st2 K2 ha hT=>h st2 K2 ha fun b hb=>?_⟩
 ·obtain ⟨b,hb⟩:=kE hf
  exact ⟨_,_,b,hb,rfl,rfl⟩
 ·rintro bx u ⟨b,hb,rfl,rfl⟩; exact hk b hb
 ·have:=hT _ _ ⟨b,by rw [<- ha.bx]; exact hb,rfl,rfl⟩
  rw [<- ha.bx] at this
  exact this
theorem pq {t : TypeId} {m k v : V} {K : St -> Prop} {tr : (St -> Prop) -> St -> Prop} (hd : o.dst = none) (h : oZ P st t m k v K)
 (hk : ∀ (st2 : St) (K2 : St -> Prop),cK ops o st st2 -> oZ P st2 t m k v K2 -> tr K2 st2) : jt P true ops o st K tr:=by
 unfold oZ at h
 split at h
 ·rename_i kt et b hkn
  split at h
  ·rename_i es hb
   split at h
   ·rename_i es' hp
    obtain ⟨h1,h2,h3⟩:=h
    refine ⟨fun bx u=>bx = aA st.bx b (some (.map es')) /\ u = .cX,⟨_,_,rfl,rfl⟩,?_,fun st2 K2 ha hT=>hk st2 K2 ha ?_⟩
    ·rintro bx u ⟨rfl,rfl⟩
     rw [hd]
     exact h3
    ·unfold oZ
     simp only [hkn,ha.bx,hb,hp]
     refine ⟨h1,h2,?_⟩
     have:=hT _ _ ⟨rfl,rfl⟩
     rw [hd] at this
     unfold St.box
     rw [ha.bx]
     exact this
   ·exact h.elim
  ·exact h.elim
 ·exact h.elim
theorem Ds {a z : V} {es wo : List (V × V)} {j : Nat} {v : V} (h : kn a z es = some (wo,j,v)) : ∃ e,wo[j]? = some e /\ e.2 = v:=by
 unfold kn at h
 split at h
 ·rename_i i x hf
  injection h with h
  injection h with h1 h2
  injection h2 with h2 h3
  subst h1 h2 h3
  obtain ⟨_,e,he,h4,_⟩:=j9 hf
  exact ⟨e,by simpa using he,h4⟩
 ·injection h with h
  injection h with h1 h2
  injection h2 with h2 h3
  subst h1 h2 h3
  exact ⟨(a,z),by simp,rfl⟩
 ·cases h
theorem wC {t : TypeId} {m k : V} {K : St -> Prop} {tr : (St -> Prop) -> St -> Prop} (h : pV P st t m k o.dst K)
 (hk : ∀ (st2 : St) (K2 : St -> Prop),cK ops o st st2 -> pV P st2 t m k o.dst K2 -> tr K2 st2) : jt P true ops o st K tr:=by
 unfold pV at h
 split at h
 ·rename_i kt et b hkn
  split at h
  ·rename_i es z hb hz
   split at h
   ·rename_i wo j v hp
    obtain ⟨h1,h2,h3,h4⟩:=h
    obtain ⟨e,he,_⟩:=Ds hp
    have hj:=(List.getElem?_eq_some_iff.1 he).1
    refine ⟨fun bx u=>∃ (bs : List Nat) (c q : Nat),bs.length = wo.length /\ bs.Nodup /\ bs[j]? = some q /\ bx = aA st.bx b (some (.kg wo bs c)) /\ u = .dh [v,.int .i64 q],⟨_,_,List.range wo.length,0,j,by simp,List.nodup_range,by simp [hj],rfl,rfl⟩,?_,fun st2 K2 ha hT=>hk st2 K2 ha ?_⟩
    ·rintro bx u ⟨bs,c,q,g1,g2,g3,rfl,rfl⟩
     exact h4 bs c q g1 g2 g3
    ·unfold pV
     simp only [hkn,ha.bx,hb,hz,hp]
     refine ⟨h1,h2,(ha.dst _).2 h3,fun bs c q g1 g2 g3=>?_⟩
     have:=hT _ _ ⟨bs,c,q,g1,g2,g3,rfl,rfl⟩
     unfold St.box
     rw [ha.bx]
     exact this
   ·exact h.elim
  ·exact h.elim
 ·exact h.elim
theorem sP {m s x : V} {K : St -> Prop} {tr : (St -> Prop) -> St -> Prop} (hd : o.dst = none) (h : jc st m s x K)
 (hk : ∀ (st2 : St) (K2 : St -> Prop),cK ops o st st2 -> jc st2 m s x K2 -> tr K2 st2) : jt P true ops o st K tr:=by
 unfold jc at h
 split at h
 ·rename_i b q
  split at h
  ·rename_i es bs c hb
   obtain ⟨i,q',e,h1,h2,h3,h4⟩:=h
   refine ⟨fun bx u=>bx = aA st.bx b (some (.map (es.set i (e.1,x)))) /\ u = .cX,⟨_,_,rfl,rfl⟩,?_,fun st2 K2 ha hT=>hk st2 K2 ha ?_⟩
   ·rintro bx u ⟨rfl,rfl⟩
    rw [hd]
    exact h4
   ·unfold jc
    simp only [ha.bx,hb]
    refine ⟨i,q',e,h1,h2,h3,?_⟩
    have:=hT _ _ ⟨rfl,rfl⟩
    rw [hd] at this
    unfold St.box
    rw [ha.bx]
    exact this
  ·exact h.elim
 ·exact h.elim
theorem wD {t : TypeId} {m k : V} {K : St -> Prop} {tr : (St -> Prop) -> St -> Prop} (hd : o.dst = none) (h : sK P st t m k K)
 (hk : ∀ (st2 : St) (K2 : St -> Prop),cK ops o st st2 -> sK P st2 t m k K2 -> tr K2 st2) : jt P true ops o st K tr:=by
 unfold sK at h
 split at h
 ·rename_i kt et b hkn
  split at h
  ·rename_i es hb
   split at h
   ·rename_i es' hp
    obtain ⟨h1,h2,h3⟩:=h
    refine ⟨fun bx u=>bx = aA st.bx b (some (.map es')) /\ u = .cX,⟨_,_,rfl,rfl⟩,?_,fun st2 K2 ha hT=>hk st2 K2 ha ?_⟩
    ·rintro bx u ⟨rfl,rfl⟩
     rw [hd]
     exact h3
    ·unfold sK
     simp only [hkn,ha.bx,hb,hp]
     refine ⟨h1,h2,?_⟩
     have:=hT _ _ ⟨rfl,rfl⟩
     rw [hd] at this
     unfold St.box
     rw [ha.bx]
     exact this
   ·exact h.elim
  ·exact h.elim
 ·exact h.elim
theorem nI {K : St -> Prop} (h : aH P true o K st) : jt P true ops o st K (aH P true o):=by
 unfold aH at h
 split at h
 ·rename_i he
  obtain ⟨h1,h2,h3⟩:=h
  refine gH _ h3 fun st2 K2 ha hk=>?_
  unfold aH
  rw [if_pos he,ha.ev]
  exact ⟨h1,(ha.dst _).2 h2,hk⟩
 ·rename_i he
  obtain ⟨dst,op,type,pos,after,guard⟩:=o
  simp only at h he ⊢
  have unf : ∀ (K2 : St -> Prop) (st2 : St),aH P true ⟨dst,op,type,pos,after,guard⟩ K2 st2 = _:=fun K2 st2=>by rw [aH,if_neg he]
  split at h
  ·split at h
   ·rename_i z hz
    obtain ⟨h1,h2,h3,h4⟩:=h
    refine gJ _ _ h3 h4 fun st2 K2 ha hk=>?_
    rw [unf]
    simp only [hz]
    exact ⟨h1,(ha.dst _).2 h2,by rw [ha.bx]; exact h3,hk⟩
   ·exact h.elim
  ·rename_i e x
   obtain ⟨h1,h2,h3,h4⟩:=h
   refine gJ _ _ h3 h4 fun st2 K2 ha hk=>?_
   rw [unf]
   have hg:=ha.get x (by simp [Op.operands])
   simp only [hg]
   exact ⟨h1,(ha.dst _).2 h2,by rw [ha.bx]; exact h3,hk⟩
  ·rename_i t len parts
   split at h
   ·rename_i e hk
    split at h
    ·rename_i z hz
     obtain ⟨h1,h2,h3,h4,h5,h6,h7⟩:=h
     refine gJ _ _ h6 h7 fun st2 K2 ha fJ=>?_
     rw [unf]
     have hg : ∀ p,p ∈ parts.toList -> st2.get p.2 = st.get p.2:=fun p hp=>ha.get _ (by simp [Op.operands]; exact ⟨p.1,by simpa using hp⟩)
     have Ro : ∀ (ps : List (Nat × Operand)) (es : List V),(∀ p,p ∈ ps -> st2.get p.2 = st.get p.2) -> dM st2 es ps = dM st es ps:=by
      intro ps
      induction ps with
      | nil=>intro es _; rfl
      | cons p ps ih =>
        intro es hp
        obtain ⟨i,x⟩:=p
        simp only [dM]
        rw [hp (i,x) (by simp),ih _ (fun p qA=>hp p (by simp [qA]))]
     simp only [hk,hz]
     refine ⟨h1,h2,h3,fun p hp=>by rw [hg p hp]; exact h4 p hp,(ha.dst _).2 h5,by rw [ha.bx]; exact h6,?_⟩
     rw [Ro _ _ hg]
     exact fJ
    ·exact h.elim
   ·exact h.elim
  ·rename_i t l c
   split at h
   ·rename_i e kl l' kc c' hk Im gP
    split at h
    ·rename_i z hz
     obtain ⟨h1,h2,h3,h4,h5,h6,h7,h8,h9,r9,H9⟩:=h
     refine gJ _ _ r9 H9 fun st2 K2 ha fJ=>?_
     rw [unf]
     have sQ:=ha.get l (by simp [Op.operands])
     have yE:=ha.get c (by simp [Op.operands])
     simp only [sQ,yE,hk,Im,gP,hz]
     exact ⟨h1,h2,h3,h4,h5,h6,h7,h8,(ha.dst _).2 h9,by rw [ha.bx]; exact r9,fJ⟩
    ·exact h.elim
   ·exact h.elim
  ·rename_i t ad x
   split at h
   ·rename_i b sz i o' eX
    split at h
    ·rename_i ty eT es hb
     obtain ⟨h1,h2,h3,h4,h5,h6,h7⟩:=h
     subst h6
     refine ⟨fun bx v=>bx = aA st.bx b (some (.row ty sz (es.set i (ba (es.getD i .cX) o' (st.get x).cells)))),⟨_,.cX,rfl⟩,?_,fun st2 K2 ha hT=>?_⟩
     ·rintro bx v rfl; exact h7
     ·rw [unf]
      have sQ:=ha.get ad (by simp [Op.operands])
      have yE:=ha.get x (by simp [Op.operands])
      simp only [sQ,yE,eX,ha.bx,hb]
      refine ⟨h1,h2,h3,h4,h5,trivial,?_⟩
      have:=hT _ .cX rfl
      unfold St.box
      rw [ha.bx]
      exact this
    ·exact h.elim
   ·exact h.elim
  ·obtain ⟨h1,h2,h3⟩:=h
   refine gJ _ _ h2 h3 fun st2 K2 ha hk=>?_
   rw [unf]
   exact ⟨(ha.dst _).2 h1,by rw [ha.bx]; exact h2,hk⟩
  ·exact absurd h.1 (by simp)
  ·exact absurd h.1 (by simp)
  ·exact absurd h.1 (by simp)
  ·rename_i t m k x
   obtain ⟨hd,h⟩:=h
   refine pq hd h fun st2 K2 ha hk=>?_
   rw [unf]
   refine ⟨hd,?_⟩
   rw [ha.get m (by simp [Op.operands]),ha.get k (by simp [Op.operands]),ha.get x (by simp [Op.operands])]
   exact hk
  ·rename_i t m k x
   obtain ⟨hd,h⟩:=h
   refine pq hd h fun st2 K2 ha hk=>?_
   rw [unf]
   refine ⟨hd,?_⟩
   rw [ha.get m (by simp [Op.operands]),ha.get k (by simp [Op.operands]),ha.get x (by simp [Op.operands])]
   exact hk
  ·rename_i t m k
   refine wC h fun st2 K2 ha hk=>?_
   rw [unf]
   show pV P st2 t (st2.get m) (st2.get k) dst K2
   rw [ha.get m (by simp [Op.operands]),ha.get k (by simp [Op.operands])]
   exact hk
  ·rename_i t m s x
   obtain ⟨hd,h⟩:=h
   refine sP hd h fun st2 K2 ha hk=>?_
   rw [unf]
   refine ⟨hd,?_⟩
   rw [ha.get m (by simp [Op.operands]),ha.get s (by simp [Op.operands]),ha.get x (by simp [Op.operands])]
   exact hk
  ·rename_i s d x
   split at h
   ·rename_i e b sz n hk eX
    split at h
    ·rename_i ty eT es hb
     obtain ⟨h1,h2,h3,h4,h5,h6,h7,h8⟩:=h
     refine ⟨fun bx v=>bx = aA st.bx b none /\ v = .sl 1 es,⟨_,_,rfl,rfl⟩,?_,fun st2 K2 ha hT=>?_⟩
     ·rintro bx v ⟨rfl,rfl⟩; exact h8
     ·rw [unf]
      have sQ:=ha.get x (by simp [Op.operands])
      simp only [sQ,hk,eX,ha.bx,hb]
      refine ⟨h1,h2,h3,h4,h5,h6,(ha.dst _).2 h7,?_⟩
      have:=hT _ _ ⟨rfl,rfl⟩
      unfold St.box
      rw [ha.bx]
      exact this
    ·exact h.elim
   ·exact h.elim
  ·rename_i c
   split at h
   ·rename_i s x t t' h1 h2 h3
    obtain ⟨h0,h⟩:=h
    have QP : ∀ st2,cK ops ⟨dst,.call c,type,pos,after,guard⟩ st st2 -> st2.get s = st.get s:=fun st2 ha=>ha.get s (by simp [Op.operands,Call.operands]; right; rw [<- Array.mem_toList_iff,h2]; simp)
    have hgx : ∀ st2,cK ops ⟨dst,.call c,type,pos,after,guard⟩ st st2 -> st2.get x = st.get x:=fun st2 ha=>ha.get x (by simp [Op.operands,Call.operands]; right; rw [<- Array.mem_toList_iff,h2]; simp)
    have jO : ∀ st2,cK ops ⟨dst,.call c,type,pos,after,guard⟩ st st2 -> ∀ q u,bP st2 q u = bP st q u:=fun st2 ha q u=>by unfold bP; rw [ha.bx]
    have unf2 : ∀ K2 st2,cK ops ⟨dst,.call c,type,pos,after,guard⟩ st st2 -> c8 P st2 dst t (st.get s) (st.get x) K2 -> aH P true ⟨dst,.call c,type,pos,after,guard⟩ K2 st2:=by
     intro K2 st2 ha hq
     rw [unf]
     simp only [h1,h2,h3]
     rw [QP st2 ha,hgx st2 ha]
     exact ⟨h0,hq⟩
    unfold c8 at h
    split at h
    ·rename_i e hk
     split at h
     ·rename_i news z hn hz
      obtain ⟨g1,g2,g3,g4,h⟩:=h
      split at h
      ·rename_i hs
       obtain ⟨g5,g6,g7⟩:=h
       refine gJ _ _ g4 g7 fun st2 K2 ha fJ=>unf2 K2 st2 ha ?_
       unfold c8
       simp only [hk,jO st2 ha,hn,hz,hs]
       exact ⟨g1,g2,(ha.dst _).2 g3,by rw [ha.bx]; exact g4,g5,g6,fJ⟩
      ·rename_i b sz n hs
       split at h
       ·rename_i e' eT es hb
        obtain ⟨g5,g6,g7,g8,g9,g10,g11⟩:=h
        refine ⟨fun bx u=>∃ b',aA st.bx b none b' = none /\ bx = aA (aA st.bx b none) b' (some (.row e (aE P e) (es.take n ++ news))) /\ u = .own b' (aE P e) 0 (n + news.length),?_,?_,fun st2 K2 ha hT=>unf2 K2 st2 ha ?_⟩
        ·exact ⟨_,_,b,af _ _ _,rfl,rfl⟩
        ·rintro bx u ⟨b',aQ,rfl,rfl⟩
         exact g11 b' aQ
        ·unfold c8
         simp only [hk,jO st2 ha,hn,hz,hs,ha.bx,hb]
         refine ⟨g1,g2,(ha.dst _).2 g3,g4,g5,g6,g7,g8,g9,g10,fun b' aQ=>?_⟩
         have:=hT _ _ ⟨b',aQ,rfl,rfl⟩
         unfold St.box
         simp only [ha.bx]
         exact this
       ·exact h.elim
      ·exact h.elim
     ·exact h.elim
    ·exact h.elim
   ·exact absurd h.1 (by simp)
   ·rename_i m k t t2 h1 h2 h3
    obtain ⟨hd,h⟩:=h
    refine wD hd h fun st2 K2 ha hk=>?_
    rw [unf]
    have g1 : st2.get m = st.get m:=ha.get m (by
     have : m ∈ c.args.toList:=by rw [h2]; simp
     simp [Op.operands,Call.operands]; right; simpa using this)
    have g2 : st2.get k = st.get k:=ha.get k (by
     have : k ∈ c.args.toList:=by rw [h2]; simp
     simp [Op.operands,Call.operands]; right; simpa using this)
    simp only [h1,h2,h3,g1,g2]
    exact ⟨hd,hk⟩
   ·exact absurd h.1 (by simp)
   ·rename_i f h1
    split at h
    ·rename_i g vs jA
     obtain ⟨h2,h3,h4⟩:=h
     rw [if_pos trivial] at h4
     obtain ⟨r,h5,h6⟩:=h4
     refine gH r h6 fun st2 K2 ha fJ=>?_
     rw [unf]
     have uV : st2.get f = st.get f:=ha.get f (by simp [Op.operands,Call.operands,h1])
     have BB : ∀ x,x ∈ c.args.toList -> st2.get x = st.get x:=fun x hx=>ha.get x (by simp [Op.operands,Call.operands]; right; simpa using hx)
     have lU : callee st2 f c.args.toList = callee st f c.args.toList:=by
      unfold callee
      rw [uV]
      have : (c.args.toList.map fun x=>(st2.get x).strip) = c.args.toList.map fun x=>(st.get x).strip:=List.map_congr_left fun x hx=>by rw [BB x hx]
      rw [this]
     simp only [h1,lU,jA]
     refine ⟨⟨by rw [uV]; exact h2.1,fun x hx=>by rw [BB x hx]; exact h2.2 x hx⟩,(ha.dst _).2 h3,?_⟩
     simp only [if_true]
     exact ⟨r,by rw [ha.bx]; exact h5,fJ⟩
    ·exact h.elim
   ·exact h.elim
  ·exact h.elim
theorem cK.wanted (h : cK ops o st st2) {g : Nat} {want : Bool} (ho : o.guard = some (g,want)) : dQ ops st2 g want = dQ ops st g want:=by
 unfold dQ
 cases hd : (ops[g]?).bind (·.dst) with
 | none=>rfl
 | some d =>
   have : st2.sl d = st.sl d:=h.sl d (by simp [Oper.looksAt,ho,hd])
   simp only [this]
theorem gX {K : St -> Prop} (h : bE P true ops o K st) : jt P true ops o st K (bE P true ops o):=by
 unfold bE at h
 split at h
 ·rename_i hg
  obtain ⟨T,h1,h2,h3⟩:=nI (ops:=ops) h
  refine ⟨T,h1,h2,fun st2 K2 ha hT=>?_⟩
  unfold bE
  simp only [hg]
  exact h3 st2 K2 ha hT
 ·rename_i g want hg
  split at h
  ·rename_i wb lN
   split at h
   ·rename_i he
    obtain ⟨h1,h2,h3⟩:=h
    refine gH _ h3 fun st2 K2 ha hk=>?_
    unfold bE
    simp only [hg,ha.wanted hg,lN]
    rw [if_pos he,ha.ev]
    exact ⟨h1,(ha.dst _).2 h2,hk⟩
   ·rename_i he
    split at h
    ·rename_i f args ts cm
     split at h
     ·rename_i q vs jA
      obtain ⟨h1,r,h2,h3⟩:=h
      refine gH _ h3 fun st2 K2 ha hk=>?_
      have uV : st2.get f = st.get f:=ha.get f (by simp [cm,Op.operands,Call.operands])
      have BB : ∀ x,x ∈ args.toList -> st2.get x = st.get x:=fun x hx=>ha.get x (by simp [cm,Op.operands,Call.operands]; right; simpa using hx)
      have lU : callee st2 f args.toList = callee st f args.toList:=by
       unfold callee
       rw [uV]
       have : (args.toList.map fun x=>(st2.get x).strip) = args.toList.map fun x=>(st.get x).strip:=List.map_congr_left fun x hx=>by rw [BB x hx]
       rw [this]
      unfold bE
      simp only [hg,ha.wanted hg,lN]
      rw [if_neg he]
      simp only [cm,lU,jA]
      refine ⟨(ha.dst _).2 h1,r,fun hw=>?_,hk⟩
      obtain ⟨h4,h5⟩:=h2 hw
      exact ⟨⟨by rw [uV]; exact h4.1,fun x hx=>by rw [BB x hx]; exact h4.2 x hx⟩,by rw [ha.bx]; exact h5⟩
     ·exact h.elim
    ·rename_i cm
     have unf : ∀ (K2 : St -> Prop) (st2 : St),cK ops o st st2 -> ((wb = true -> aH P true o K2 st2) /\ (wb = false -> aJ st2 o.dst /\ K2 (st2.put o.dst (.dead .cX)))) -> bE P true ops o K2 st2:=by
      intro K2 st2 ha hq
      unfold bE
      simp only [hg,ha.wanted hg,lN]
      rw [if_neg he]
      exact hq
     cases wb
     ·obtain ⟨h1,h2⟩:=h.2 rfl
      exact gH _ h2 fun st2 K2 ha hk=>unf K2 st2 ha ⟨(fun h=>by cases h),fun _=>⟨(ha.dst _).2 h1,hk⟩⟩
     ·obtain ⟨T,h1,h2,h3⟩:=nI (ops:=ops) (h.1 rfl)
      exact ⟨T,h1,h2,fun st2 K2 ha hT=>unf K2 st2 ha ⟨fun _=>h3 st2 K2 ha hT,fun h=>by cases h⟩⟩
  ·exact h.elim
theorem uW {t : TypeId} {m k v : V} {K K2 : St -> Prop} (hm : ∀ s,K s -> K2 s) (h : oZ P st t m k v K) : oZ P st t m k v K2:=by
 unfold oZ at h ⊢
 split at h
 ·split at h
  ·split at h
   ·exact ⟨h.1,h.2.1,hm _ h.2.2⟩
   ·exact h.elim
  ·exact h.elim
 ·exact h.elim
theorem Dt {t : TypeId} {m k : V} {d : Option Tmp} {K K2 : St -> Prop} (hm : ∀ s,K s -> K2 s) (h : pV P st t m k d K) : pV P st t m k d K2:=by
 unfold pV at h ⊢
 split at h
 ·split at h
  ·split at h
   ·exact ⟨h.1,h.2.1,h.2.2.1,fun bs c q g1 g2 g3=>hm _ (h.2.2.2 bs c q g1 g2 g3)⟩
   ·exact h.elim
  ·exact h.elim
 ·exact h.elim
theorem yF {m s x : V} {K K2 : St -> Prop} (hm : ∀ s,K s -> K2 s) (h : jc st m s x K) : jc st m s x K2:=by
 unfold jc at h ⊢
 split at h
 ·split at h
  ·obtain ⟨i,q',e,h1,h2,h3,h4⟩:=h
   exact ⟨i,q',e,h1,h2,h3,hm _ h4⟩
  ·exact h.elim
 ·exact h.elim
theorem Du {t : TypeId} {m k : V} {K K2 : St -> Prop} (hm : ∀ s,K s -> K2 s) (h : sK P st t m k K) : sK P st t m k K2:=by
 unfold sK at h ⊢
 split at h
 ·split at h
  ·split at h
   ·exact ⟨h.1,h.2.1,hm _ h.2.2⟩
   ·exact h.elim
  ·exact h.elim
 ·exact h.elim
theorem Dv {o : Option Tmp} {r : V} {name : String} {args : List V} {K K2 : St -> Prop} (hm : ∀ s,K s -> K2 s) (h : uj P st o r name args K) : uj P st o r name args K2:=by
 unfold uj at h ⊢
 split at h
 ·split at h
  ·obtain ⟨h1,h2,h3⟩:=h
   refine ⟨h1,h2,h3.1,fun β M w vs h4 ZJ h5 h6=>(h3.2 β M w vs h4 ZJ h5 h6).mono ?_⟩
   rintro e w' ⟨v,r,bx',β',h7,h8,h9⟩
   exact ⟨v,r,bx',β',h7,hm _ h8,h9⟩
  ·exact h.elim
 ·exact h.elim
theorem gB {d : Bool} {K K2 : St -> Prop} (hm : ∀ s,K s -> K2 s) (h : aH P d o K st) : aH P d o K2 st:=by
 unfold aH at h ⊢
 split at h
 ·rename_i he
  rw [if_pos he]
  exact ⟨h.1,h.2.1,hm _ h.2.2⟩
 ·rename_i he
  rw [if_neg he]
  split at h
  ·split at h
   ·exact ⟨h.1,h.2.1,h.2.2.1,fun b hb=>hm _ (h.2.2.2 b hb)⟩
   ·exact h.elim
  ·exact ⟨h.1,h.2.1,h.2.2.1,fun b hb=>hm _ (h.2.2.2 b hb)⟩
  ·split at h
   ·split at h
    ·obtain ⟨h1,h2,h3,h4,h5,h6,h7⟩:=h
     exact ⟨h1,h2,h3,h4,h5,h6,fun b hb=>hm _ (h7 b hb)⟩
    ·exact h.elim
   ·exact h.elim
  ·split at h
   ·split at h
    ·obtain ⟨h1,h2,h3,h4,h5,h6,h7,h8,h9,r9,H9⟩:=h
     exact ⟨h1,h2,h3,h4,h5,h6,h7,h8,h9,r9,fun b hb=>hm _ (H9 b hb)⟩
    ·exact h.elim
   ·exact h.elim
  ·split at h
   ·split at h
    ·obtain ⟨h1,h2,h3,h4,h5,h6,h7⟩:=h
     exact ⟨h1,h2,h3,h4,h5,h6,hm _ h7⟩
    ·exact h.elim
   ·exact h.elim
  ·exact ⟨h.1,h.2.1,fun b hb=>hm _ (h.2.2 b hb)⟩
  ·refine ⟨h.1,?_⟩
   have h:=h.2
   unfold pW at h ⊢
   split at h
   ·split at h
    ·exact ⟨h.1,h.2.1,fun bs c b' h1 h2 h3 h4=>hm _ (h.2.2 bs c b' h1 h2 h3 h4)⟩
    ·exact h.elim
   ·exact h.elim
  ·refine ⟨h.1,?_⟩
   have h:=h.2
   unfold uP at h ⊢
   split at h
   ·split at h
    ·split at h
     ·exact ⟨h.1,h.2.1,h.2.2.1,fun h1=>hm _ (h.2.2.2.1 h1),fun i q e h1 h2 h3=>hm _ (h.2.2.2.2 i q e h1 h2 h3)⟩
     ·exact h.elim
    ·exact h.elim
   ·exact h.elim
  ·refine ⟨h.1,?_⟩
   have h:=h.2
   unfold pX at h ⊢
   split at h
   ·split at h
    ·split at h
     ·obtain ⟨h1,h2,i,e,pre,q,h3,h4,h5,h6⟩:=h
      exact ⟨h1,h2,i,e,pre,q,h3,h4,h5,hm _ h6⟩
     ·exact h.elim
    ·exact h.elim
   ·exact h.elim
  ·exact ⟨h.1,uW hm h.2⟩
  ·exact ⟨h.1,uW hm h.2⟩
  ·exact Dt hm h
  ·exact ⟨h.1,yF hm h.2⟩
  ·split at h
   ·split at h
    ·obtain ⟨h1,h2,h3,h4,h5,h6,h7,h8⟩:=h
     exact ⟨h1,h2,h3,h4,h5,h6,h7,hm _ h8⟩
    ·exact h.elim
   ·exact h.elim
  ·split at h
   ·obtain ⟨h0,h⟩:=h
    refine ⟨h0,?_⟩
    unfold c8 at h ⊢
    split at h
    ·split at h
     ·obtain ⟨g1,g2,g3,g4,h⟩:=h
      refine ⟨g1,g2,g3,g4,?_⟩
      split at h
      ·exact ⟨h.1,h.2.1,fun b hb=>hm _ (h.2.2 b hb)⟩
      ·split at h
       ·obtain ⟨g5,g6,g7,g8,g9,g10,g11⟩:=h
        exact ⟨g5,g6,g7,g8,g9,g10,fun b hb=>hm _ (g11 b hb)⟩
       ·exact h.elim
      ·exact h.elim
     ·exact h.elim
    ·exact h.elim
   ·obtain ⟨h1,h2,h⟩:=h
    refine ⟨h1,h2,?_⟩
    unfold sJ at h ⊢
    split at h
    ·split at h
     ·exact ⟨h.1,h.2.1,h.2.2.1,h.2.2.2.1,h.2.2.2.2.1,h.2.2.2.2.2.1,hm _ h.2.2.2.2.2.2⟩
     ·exact h.elim
    ·exact h.elim
   ·exact ⟨h.1,Du hm h.2⟩
   ·exact ⟨h.1,Dv hm h.2⟩
   ·split at h
    ·obtain ⟨h1,h2,h3⟩:=h
     refine ⟨h1,h2,?_⟩
     split at h3
     ·rename_i hd
      obtain ⟨r,h4,h5⟩:=h3
      rw [if_pos hd]
      exact ⟨r,h4,hm _ h5⟩
     ·rename_i hd
      rw [if_neg hd]
      refine ⟨h3.1,fun β M w vs h4 ZJ h5 h6=>(h3.2 β M w vs h4 ZJ h5 h6).mono ?_⟩
      rintro e w' ⟨v,r,bx',β',h7,h8,h9⟩
      exact ⟨v,r,bx',β',h7,hm _ h8,h9⟩
    ·exact h.elim
   ·exact h.elim
  ·exact h.elim
theorem cU {d : Bool} {K K2 : St -> Prop} (hm : ∀ s,K s -> K2 s) (h : bE P d ops o K st) : bE P d ops o K2 st:=by
 unfold bE at h ⊢
 split at h
 ·exact gB hm h
 ·split at h
  ·split at h
   ·rename_i he
    rw [if_pos he]
    exact ⟨h.1,h.2.1,hm _ h.2.2⟩
   ·rename_i he
    rw [if_neg he]
    split at h
    ·split at h
     ·obtain ⟨h1,r,h2,h3⟩:=h
      exact ⟨h1,r,h2,hm _ h3⟩
     ·exact h.elim
    ·exact ⟨fun hw=>gB hm (h.1 hw),fun hw=>⟨(h.2 hw).1,hm _ (h.2 hw).2⟩⟩
  ·exact h.elim
end
end Go.Pl
namespace Go.Pl
open Go
def n8 (o : Oper) : Bool :=
 match o.op with
 | .move _ | .assign _ | .pick .. | .fieldAddr .. | .indexAddr .. | .field .. | .index .. | .extract .. | .binOp .. | .unOp .. | .slice .. | .makeFunc .. | .makeInterface .. | .typeAssert .. | .nilCheck _=>true
 | .convert s d _=>s != d
 | _=>false
def pt (o : Oper) : Bool :=
 bU o.op || match o.op with
 | .call { callee:=.value _,.. }=>true
 | _=>false
def gC (ops : Array Oper) (i j : Oper) : Bool:=i.apart ops j && (n8 i || n8 j || (pt i && pt j))
def maskAt (ms : List Nat) (o : Oper) : Nat:=o.after.toList.foldl (fun acc e=>if Region.binds .any e = true then acc ||| (2 ^ e.on ||| ms.getD e.on 0) else acc) 0
def iv : List Oper -> List Nat -> List Nat
 | [],ms=>ms
 | o :: os,ms=>iv os (ms ++ [maskAt ms o])
def dx (ops : Array Oper) : List Nat:=iv ops.toList []
def sR (ops : Array Oper) : Bool :=
 let ms:=dx ops
 (List.range ops.size).all fun k=>match ops[k]? with
  | some ok=>ok.after.all (fun e=>!Region.binds .any e || decide (e.on < k)) &&
   (List.range ops.size).all fun j=>decide (j <= k) || match ops[j]? with
    | some oj=>(ms.getD j 0).testBit k || gC ops ok oj
    | none=>true
  | none=>true
section
variable {P : Program} {ops : Array Oper} {st : St}
theorem gY (st : St) (bx : aa) {d1 d2 : Option Tmp} (v1 v2 : V) (h : ∀ d,d1 = some d -> d2 ≠ some d) : (st.put d1 v1).at bx d2 v2 = (st.at bx d2 v2).put d1 v1:=by
 cases d1 with
 | none=>rfl
 | some a =>
   cases d2 with
   | none=>rfl
   | some b =>
     have bp : a ≠ b:=fun e=>h a rfl (by rw [e])
     simp only [St.at,St.put]
     congr 1
     funext y
     simp only [aA]
     by_cases e1 : y = b <;> by_cases e2 : y = a
     ·exact absurd (e2.symm.trans e1) bp
     ·simp [e1,Ne.symm bp]
     ·simp [e2,bp]
     ·simp [e1,e2]
theorem Io (st : St) (d : Option Tmp) (v : V) : st.at st.bx d v = st.put d v:=rfl
theorem j0 {o : Oper} {d : Option Tmp} {v : V} (h : ∀ x,d = some x -> x ∉ o.looksAt ops) : cK ops o st (st.put d v):=by
 cases d with
 | none=>exact ⟨fun _ _=>rfl,rfl,rfl⟩
 | some x=>exact ⟨fun t ht=>ae _ _ (fun e=>h x rfl (e ▸ ht)),rfl,rfl⟩
theorem iy {o : Oper} {d : Option Tmp} {v : V} (h : ∀ x,d = some x -> x ∉ o.looksAt ops) : cK ops o (st.put d v) st:=by
 obtain ⟨h1,h2,h3⟩:=j0 (ops:=ops) (o:=o) (st:=st) (v:=v) h
 exact ⟨fun t ht=>(h1 t ht).symm,h2.symm,h3.symm⟩
theorem lV {o : Oper} (hs : pt o = true) {K : St -> Prop} (h : bE P true ops o K st) :
 ∃ v,K (st.put o.dst v) /\ ∀ (st2 : St) (K2 : St -> Prop),cK ops o st st2 -> K2 (st2.put o.dst v) -> bE P true ops o K2 st2:=by
 unfold bE at h
 split at h
 ·rename_i hg
  unfold aH at h
  split at h
  ·rename_i he
   refine ⟨_,h.2.2,fun st2 K2 ha hk=>?_⟩
   unfold bE
   simp only [hg]
   unfold aH
   rw [if_pos he,ha.ev]
   exact ⟨h.1,(ha.dst _).2 h.2.1,hk⟩
  ·rename_i he
   obtain ⟨dst,op,type,pos,after,guard⟩:=o
   simp only [pt,Bool.or_eq_true] at hs
   simp only at he hg
   rcases hs with hs | hs
   ·exact absurd hs he
   ·split at hs
    ·rename_i f args ts
     simp only at h
     split at h
     ·rename_i g vs jA
      obtain ⟨h3,h4,h5⟩:=h
      rw [if_pos trivial] at h5
      obtain ⟨r,h6,h7⟩:=h5
      refine ⟨r,h7,fun st2 K2 ha hk=>?_⟩
      have uV : st2.get f = st.get f:=ha.get f (by simp [Op.operands,Call.operands])
      have BB : ∀ x,x ∈ args.toList -> st2.get x = st.get x:=fun x hx=>ha.get x (by simp [Op.operands,Call.operands]; right; simpa using hx)
      have lU : callee st2 f args.toList = callee st f args.toList:=by
       unfold callee
       rw [uV]
       have : (args.toList.map fun x=>(st2.get x).strip) = args.toList.map fun x=>(st.get x).strip:=List.map_congr_left fun x hx=>by rw [BB x hx]
       rw [this]
      unfold bE
      simp only [hg]
      unfold aH
      rw [if_neg he]
      simp only [lU,jA,if_true]
      exact ⟨⟨by rw [uV]; exact h3.1,fun x hx=>by rw [BB x hx]; exact h3.2 x hx⟩,(ha.dst _).2 h4,r,by rw [ha.bx]; exact h6,hk⟩
     ·exact h.elim
    ·cases hs
 ·rename_i g want hg
  split at h
  ·rename_i wb lN
   split at h
   ·rename_i he
    refine ⟨_,h.2.2,fun st2 K2 ha hk=>?_⟩
    unfold bE
    simp only [hg,ha.wanted hg,lN]
    rw [if_pos he,ha.ev]
    exact ⟨h.1,(ha.dst _).2 h.2.1,hk⟩
   ·rename_i he
    split at h
    ·rename_i f args ts cm
     split at h
     ·rename_i q vs jA
      obtain ⟨h3,r,h4,h5⟩:=h
      refine ⟨_,h5,fun st2 K2 ha hk=>?_⟩
      have uV : st2.get f = st.get f:=ha.get f (by simp [cm,Op.operands,Call.operands])
      have BB : ∀ x,x ∈ args.toList -> st2.get x = st.get x:=fun x hx=>ha.get x (by simp [cm,Op.operands,Call.operands]; right; simpa using hx)
      have lU : callee st2 f args.toList = callee st f args.toList:=by
       unfold callee
       rw [uV]
       have : (args.toList.map fun x=>(st2.get x).strip) = args.toList.map fun x=>(st.get x).strip:=List.map_congr_left fun x hx=>by rw [BB x hx]
       rw [this]
      unfold bE
      simp only [hg,ha.wanted hg,lN]
      rw [if_neg he]
      simp only [cm,lU,jA]
      refine ⟨(ha.dst _).2 h3,r,fun hw=>?_,hk⟩
      obtain ⟨h6,h7⟩:=h4 hw
      exact ⟨⟨by rw [uV]; exact h6.1,fun x hx=>by rw [BB x hx]; exact h6.2 x hx⟩,by rw [ha.bx]; exact h7⟩
     ·exact h.elim
    ·rename_i cm
     simp only [pt,Bool.or_eq_true] at hs
     rcases hs with hs | hs
     ·exact absurd hs he
     ·cases hs
  ·exact h.elim
theorem BC {o : Oper} (h : n8 o = true) (bx : aa) : bU o.op = true /\ ev P { st with bx:=bx } o = ev P st o:=by
 obtain ⟨dst,op,type,pos,after,guard⟩:=o
 have hg : ∀ x,({ st with bx:=bx } : St).get x = st.get x:=fun x=>by cases x <;> rfl
 have yE : ∀ x : Option Operand,x.map ({ st with bx:=bx } : St).get = x.map st.get:=fun x=>by cases x <;> simp [hg]
 have Rp : ({ st with bx:=bx } : St).get = st.get:=funext hg
 have hg4 : ∀ x,gv P { st with bx:=bx } x = gv P st x:=fun x=>by cases x <;> rfl
 cases op
 case slice t x lo hi mx=>refine ⟨rfl,?_⟩; cases mx <;> cases hi <;> simp only [ev,Rp]
 case indexAddr t x ix=>exact ⟨rfl,by simp only [ev,Rp]; rw [hg4]⟩
 case convert s d x=>exact ⟨h,by simp only [ev,Rp]⟩
 all_goals simp only [n8] at h
 all_goals first | (cases h; done) | (exact ⟨rfl,by simp only [ev,Rp]⟩) | (refine ⟨rfl,?_⟩; simp only [ev]; split <;> rw [Rp])
def Y0 (P : Program) (ops : Array Oper) (o : Oper) (st : St) (v : V) : Prop :=
 match o.guard with
 | none=>(ev P st o).1 /\ v = (ev P st o).2
 | some (g,want)=>∃ wb,dQ ops st g want = some wb /\ (wb = true -> (ev P st o).1) /\ v = eo wb (ev P st o).2
theorem Y0.fn {o : Oper} {v v' : V} (h : Y0 P ops o st v) (h' : Y0 P ops o st v') : v = v':=by
 unfold Y0 at h h'
 split at h
 ·rename_i hg; simp only [hg] at h'; rw [h.2,h'.2]
 ·rename_i hg
  simp only [hg] at h'
  obtain ⟨wb,h1,_,h2⟩:=h
  obtain ⟨wb',h3,_,h4⟩:=h'
  rw [h1] at h3
  injection h3 with h3
  subst h3
  rw [h2,h4]
theorem BD {o : Oper} (hg : o.guard = none) {v : V} : Y0 P ops o st v ↔ (ev P st o).1 /\ v = (ev P st o).2:=by unfold Y0; simp only [hg]
theorem wE {o : Oper} {g : Nat} {want : Bool} (hg : o.guard = some (g,want)) {v : V} : Y0 P ops o st v ↔ ∃ wb,dQ ops st g want = some wb /\ (wb = true -> (ev P st o).1) /\ v = eo wb (ev P st o).2:=by unfold Y0; simp only [hg]
theorem pZ {o : Oper} (hc : n8 o = true) {K : St -> Prop} : bE P true ops o K st ↔ ∃ v,Y0 P ops o st v /\ aJ st o.dst /\ K (st.put o.dst v):=by
 have he:=(BC (P:=P) (st:=st) hc st.bx).1
 cases hg : o.guard with
 | none =>
   have e1 : bE P true ops o K st = ((ev P st o).1 /\ aJ st o.dst /\ K (st.put o.dst (ev P st o).2)):=by
    unfold bE aH
    simp only [hg]
    rw [if_pos he]
   rw [e1]
   constructor
   ·rintro ⟨h1,h2,h3⟩; exact ⟨_,(BD hg).2 ⟨h1,rfl⟩,h2,h3⟩
   ·rintro ⟨v,h1,h2,h3⟩
    obtain ⟨h4,rfl⟩:=(BD hg).1 h1
    exact ⟨h4,h2,h3⟩
 | some gw =>
   obtain ⟨g,want⟩:=gw
   cases lN : dQ ops st g want with
   | none =>
     have e1 : bE P true ops o K st = False:=by
      unfold bE
      simp only [hg,lN]
     rw [e1]
     constructor
     ·exact fun h=>h.elim
     ·rintro ⟨v,h1,_⟩
      obtain ⟨wb,h0,_⟩:=(wE hg).1 h1
      rw [lN] at h0
      cases h0
   | some wb =>
     have e1 : bE P true ops o K st = ((wb = true -> (ev P st o).1) /\ aJ st o.dst /\ K (st.put o.dst (eo wb (ev P st o).2))):=by
      unfold bE
      simp only [hg,lN]
      rw [if_pos he]
     rw [e1]
     constructor
     ·rintro ⟨h1,h2,h3⟩; exact ⟨_,(wE hg).2 ⟨wb,lN,h1,rfl⟩,h2,h3⟩
     ·rintro ⟨v,h1,h2,h3⟩
      obtain ⟨wb',h0,h4,rfl⟩:=(wE hg).1 h1
      rw [lN] at h0
      injection h0 with h0
      subst h0
      exact ⟨h4,h2,h3⟩
theorem Y0.agree {o : Oper} (hc : n8 o = true) {st2 : St} (hs : ∀ t,t ∈ o.looksAt ops -> st2.sl t = st.sl t) (hn : st2.n = st.n) {v : V} (h : Y0 P ops o st v) : Y0 P ops o st2 v:=by
 have ha : cK ops o st { st2 with bx:=st.bx }:=⟨hs,rfl,hn⟩
 have h1 : ev P st2 o = ev P st o:=by
  have:=(BC (P:=P) (st:={ st2 with bx:=st.bx }) hc st2.bx).2
  rw [<- ha.ev,<- this]
 unfold Y0 at h ⊢
 split
 ·rename_i hg; simp only [hg] at h; rw [h1]; exact h
 ·rename_i g want hg
  simp only [hg] at h
  obtain ⟨wb,h2,h3,h4⟩:=h
  refine ⟨wb,?_,by rw [h1]; exact h3,by rw [h1]; exact h4⟩
  have:=ha.wanted hg
  rw [<- h2,<- this]
  rfl
theorem lW {bx : aa} {d : Option Tmp} {v : V} {t : Nat} (h : d ≠ some t) : (st.at bx d v).sl t = st.sl t:=by
 cases d with
 | none=>rfl
 | some x=>exact ae _ _ (fun e=>h (by rw [e]))
theorem uw {bx : aa} {d : Option Tmp} {v : V} : (st.at bx d v).n = st.n:=by cases d <;> rfl
theorem kp {bx : aa} {d e : Option Tmp} {v : V} : aJ (st.at bx d v) e ↔ aJ st e:=by cases e <;> simp [aJ,uw]
theorem ow {i j : Oper} (h : gC ops i j = true) {K : St -> Prop} (hh : bE P true ops i (bE P true ops j K) st) : bE P true ops j (bE P true ops i K) st:=by
 simp only [gC,Bool.and_eq_true,Bool.or_eq_true] at h
 obtain ⟨rP,LI⟩:=h
 obtain ⟨h1,h2,h3⟩:=Oper.apart_spec rP
 have Dw : ∀ d,j.dst = some d -> i.dst ≠ some d:=fun d hd he=>h2 d he hd
 rcases LI with (hc | hc) | ⟨hi,hj⟩
 ·
  obtain ⟨v,hy,hd,hk⟩:=(pZ hc).1 hh
  obtain ⟨T,_,hT,LJ⟩:=gX hk
  refine LJ st _ (iy h1) (fun bx u hu=>(pZ hc).2 ⟨v,hy.agree hc (fun t ht=>lW (fun e=>h3 t e ht)) uw,kp.2 hd,?_⟩)
  have:=hT bx u hu
  rwa [gY st bx v u h2] at this
 ·
  obtain ⟨T,⟨aC,u0,h0⟩,hT,LJ⟩:=gX hh
  obtain ⟨v,hy,hd,_⟩:=(pZ hc).1 (hT aC u0 h0)
  have BE : Y0 P ops j st v:=hy.agree hc (fun t ht=>(lW (fun e=>h1 t e ht)).symm) uw.symm
  refine (pZ hc).2 ⟨v,BE,kp.1 hd,LJ _ _ (j0 h3) (fun bx u hu=>?_)⟩
  obtain ⟨v',Rq,_,hk⟩:=(pZ hc).1 (hT bx u hu)
  have : v' = v:=(Rq.agree (st2:=st) hc (fun t ht=>(lW (fun e=>h1 t e ht)).symm) uw.symm).fn BE
  subst this
  rw [gY st bx v' u Dw]
  exact hk
 ·obtain ⟨v,hk,hv⟩:=lV hi hh
  obtain ⟨u,fJ,hu⟩:=lV hj hk
  refine hu st _ (iy h1) (hv _ _ (j0 h3) ?_)
  have:=gY st st.bx v u h2
  have e1 : (st.put i.dst v).at st.bx j.dst u = (st.put i.dst v).put j.dst u:=by cases i.dst <;> rfl
  rw [e1,Io] at this
  rw [<- this]
  exact fJ
def qa (P : Program) (ops : Array Oper) (K : St -> Prop) : Nat -> Array Bool -> St -> Prop
 | 0,listed,st=>Region.ready .any ops listed = [] /\ K st
 | fuel + 1,listed,st=>(Region.ready .any ops listed = [] -> K st) /\
  ∀ i ∈ Region.ready .any ops listed,∃ o,ops[i]? = some o /\ bE P true ops o (qa P ops K fuel (listed.setIfInBounds i true)) st
theorem pv {ro : Option Nat} {n : Nat} {K : St -> Prop} {Q : Exit -> Act -> World -> Prop} {M : dP} : ∀ (fuel : Nat) (listed : Array Bool) (st : St) (a : Act) (w : World) (β : Beta),qa P ops K fuel listed st -> Rs P β M st a w -> gQ P β M st w K (Q .normal) ->
 wpAnyIn (rf ro) n P .any ops Q fuel listed a w
 | 0,listed,st,a,w,β,h,hr,hK=>⟨h.1,hK st β a w h.2 hr (Tr.refl _ _ _)⟩
 | fuel + 1,listed,st,a,w,β,h,hr,hK=>⟨fun h0=>hK st β a w (h.1 h0) hr (Tr.refl _ _ _),fun i hi=>by
  obtain ⟨o,ho,hg⟩:=h.2 i hi
  exact dN ho hg hr (fun st' β' a' w' hk cJ ht=>pv fuel _ st' a' w' β' hk cJ (hK.trans ht))⟩
def fC (ms : List Nat) (j i : Nat) : Prop:=(ms.getD j 0).testBit i = true
theorem nJ (ms : List Nat) (i : Nat) : ∀ (es : List Edge) (acc : Nat),(es.foldl (fun acc e=>if Region.binds .any e = true then acc ||| (2 ^ e.on ||| ms.getD e.on 0) else acc) acc).testBit i = true ->
 acc.testBit i = true \/ ∃ e,e ∈ es /\ Region.binds .any e = true /\ (e.on = i \/ (ms.getD e.on 0).testBit i = true)
 | [],acc,h=>.inl h
 | e :: es,acc,h=>by
   simp only [List.foldl_cons] at h
   rcases nJ ms i es _ h with h1 | ⟨e',h1,h2⟩
   ·split at h1
    ·rename_i hb
     simp only [Nat.testBit_or,Bool.or_eq_true,Nat.testBit_two_pow,decide_eq_true_eq] at h1
     rcases h1 with h1 | h1 | h1
     ·exact .inl h1
     ·exact .inr ⟨e,by simp,hb,.inl h1⟩
     ·exact .inr ⟨e,by simp,hb,.inr h1⟩
    ·exact .inl h1
   ·exact .inr ⟨e',by simp [h1],h2⟩
theorem lX : ∀ (l : List Oper) (ms : List Nat),(∀ j,j < ms.length -> (iv l ms)[j]? = ms[j]?) /\ ∀ j o,l[j]? = some o -> (iv l ms)[ms.length + j]? = some (maskAt ((iv l ms).take (ms.length + j)) o)
 | [],ms=>⟨fun _ _=>rfl,fun j o h=>by simp at h⟩
 | o :: l,ms=>by
   obtain ⟨h1,h2⟩:=lX l (ms ++ [maskAt ms o])
   simp only [iv]
   refine ⟨fun j hj=>?_,fun j o' ho=>?_⟩
   ·rw [h1 j (by simp; omega),List.getElem?_append_left hj]
   ·match j,ho with
    | 0,ho =>
      simp at ho
      subst ho
      have e1:=h1 ms.length (by simp)
      have e2 : (iv l (ms ++ [maskAt ms o])).take ms.length = ms:=by
       apply List.ext_getElem?
       intro k
       rw [List.getElem?_take]
       split
       ·rename_i hk
        rw [h1 k (by simp; omega),List.getElem?_append_left hk]
       ·rw [List.getElem?_eq_none (by omega)]
      rw [Nat.add_zero,e2,e1]
      simp
    | j + 1,ho =>
      have:=h2 j o' (by simpa using ho)
      simp only [List.length_append,List.length_singleton] at this
      rw [show ms.length + (j + 1) = ms.length + 1 + j by omega]
      exact this
theorem Aw {j : Nat} {o : Oper} (h : ops[j]? = some o) : (dx ops)[j]? = some (maskAt ((dx ops).take j) o):=by
 have:=(lX ops.toList []).2 j o (by simpa using h)
 simpa [dx] using this
def sS (ops : Array Oper) (listed : Array Bool) : Prop:=∀ j o,ops[j]? = some o -> listed.getD j false = true -> ∀ e ∈ o.after,Region.binds .any e = true -> listed.getD e.on false = true
theorem gZ {listed : Array Bool} (hc : sS ops listed) : ∀ (j : Nat) (o : Oper) (i : Nat),ops[j]? = some o -> (∀ e ∈ o.after,Region.binds .any e = true -> listed.getD e.on false = true) -> fC (dx ops) j i -> listed.getD i false = true:=by
 intro j
 induction j using Nat.strongRecOn with
 | _ j ih =>
   intro o i ho hd hw
   unfold fC at hw
   have hm:=Aw ho
   rw [List.getD_eq_getElem?_getD,hm] at hw
   simp only [Option.getD_some,maskAt] at hw
   rcases nJ _ i o.after.toList 0 hw with h1 | ⟨e,h1,h2,h3⟩
   ·simp at h1
   ·have hl:=hd e (by simpa using h1) h2
    rcases h3 with h3 | h3
    ·rw [<- h3]; exact hl
    ·by_cases dt : e.on < j
     ·have hlen : e.on < (dx ops).length:=by
       have:=(List.getElem?_eq_some_iff.1 hm).1
       omega
      have h4 : fC (dx ops) e.on i:=by
       unfold fC
       rw [List.getD_eq_getElem?_getD,List.getElem?_take,if_pos dt] at h3
       rw [List.getD_eq_getElem?_getD]
       exact h3
      have LK : e.on < ops.size:=by
       have:=(Array.getElem?_eq_some_iff.1 ho).1
       omega
      have E0 : ops[e.on]? = some ops[e.on]:=Array.getElem?_eq_getElem LK
      exact ih e.on dt _ i E0 (hc e.on _ E0 hl) h4
     ·rw [List.getD_eq_getElem?_getD,List.getElem?_take,if_neg dt] at h3
      simp at h3
theorem Dx {K : St -> Prop} {i : Nat} {oi : Oper} (hi : ops[i]? = some oi) : ∀ (fuel : Nat) (listed : Array Bool) (st : St),sS ops listed ->
 (∀ j oj,ops[j]? = some oj -> j ≠ i -> listed.getD j true = false -> ¬ fC (dx ops) j i -> gC ops oi oj = true) ->
 i ∈ Region.ready .any ops listed -> bE P true ops oi (qa P ops K fuel (listed.setIfInBounds i true)) st -> qa P ops K (fuel + 1) listed st:=by
 intro fuel
 induction fuel with
 | zero =>
   intro listed st _ _ hr H
   refine ⟨fun h=>(by rw [h] at hr; cases hr),fun j hj=>?_⟩
   by_cases oQ : j = i
   ·subst oQ; exact ⟨oi,hi,H⟩
   ·obtain ⟨T,⟨bx,v,h0⟩,hT,_⟩:=gX H
    have:=ready_mono hj oQ
    rw [(hT bx v h0).1] at this
    cases this
 | succ fuel ih =>
   intro listed st jn lY hr H
   refine ⟨fun h=>(by rw [h] at hr; cases hr),fun j hj=>?_⟩
   by_cases oQ : j = i
   ·subst oQ; exact ⟨oi,hi,H⟩
   ·obtain ⟨wF,oj,lZ,ig⟩:=mem_ready.1 hj
    have Ax:=(mem_ready.1 hr).1
    have HE : ¬ fC (dx ops) j i:=fun hw=>by
     have h1:=gZ jn j oj i lZ ig hw
     rcases Nat.lt_or_ge i listed.size with h' | h'
     ·simp [h'] at h1 Ax; rw [Ax] at h1; cases h1
     ·simp [Array.getElem?_eq_none h'] at h1
    have rP:=lY j oj lZ oQ wF HE
    have h1 : bE P true ops oi (bE P true ops oj (qa P ops K fuel ((listed.setIfInBounds i true).setIfInBounds j true))) st :=
     cU (fun s hs=>by
      obtain ⟨o',E0,hg⟩:=hs.2 j (ready_mono hj oQ)
      rw [lZ] at E0
      injection E0 with E0
      subst E0
      exact hg) H
    have h2:=ow rP h1
    refine ⟨oj,lZ,cU (fun s hs=>?_) h2⟩
    refine ih (listed.setIfInBounds j true) s ?_ ?_ (ready_mono hr (Ne.symm oQ)) ?_
    ·intro k ok hk Dy e he hb
     by_cases pR : k = j
     ·subst pR
      rw [lZ] at hk
      injection hk with hk
      subst hk
      exact getD_set_true (ig e he hb)
     ·rw [getD_set_ne false (Ne.symm pR)] at Dy
      exact getD_set_true (jn k ok hk Dy e he hb)
    ·intro k ok hk hki hun hnw'
     refine lY k ok hk hki ?_ hnw'
     by_cases BF : j = k
     ·subst BF; exact wF
     ·rw [getD_set_ne true BF] at hun; exact hun
    ·rw [Array.setIfInBounds_comm _ _ oQ]
     exact hs
end
end Go.Pl
namespace Go.Pl
open Go
section
variable {P : Program} {ops : Array Oper} {M : dP}
theorem rQ (h : sR ops = true) {k : Nat} {ok : Oper} (hk : ops[k]? = some ok) :
 (∀ e ∈ ok.after,Region.binds .any e = true -> e.on < k) /\ ∀ j oj,ops[j]? = some oj -> k < j -> ¬ fC (dx ops) j k -> gC ops ok oj = true:=by
 have dt:=(Array.getElem?_eq_some_iff.1 hk).1
 simp only [sR,List.all_eq_true,List.mem_range] at h
 have h1:=h k dt
 simp only [hk,Bool.and_eq_true] at h1
 obtain ⟨h2,h3⟩:=h1
 refine ⟨fun e he hb=>?_,fun j oj hj pR hw=>?_⟩
 ·have:=Array.all_eq_true_iff_forall_mem.1 h2 e he
  simpa [hb] using this
 ·have lH:=(Array.getElem?_eq_some_iff.1 hj).1
  have h4:=List.all_eq_true.1 h3 j (List.mem_range.2 lH)
  simp only [hj,Bool.or_eq_true,decide_eq_true_eq] at h4
  rcases h4 with h4 | h4 | h4
  ·omega
  ·exact absurd h4 hw
  ·exact h4
theorem sT (hB : sR ops = true) {K : St -> Prop} : ∀ (l : List Oper) (k : Nat) (listed : Array Bool) (st : St),(∀ j,l[j]? = ops[k + j]?) -> listed.size = ops.size -> k + l.length = ops.size -> (∀ j,j < ops.size -> (listed.getD j false = decide (j < k)) /\ (listed.getD j true = decide (j < k))) ->
 oo P true ops K l st -> qa P ops K l.length listed st
 | [],k,listed,st,hl,bV,hk,hlist,h=>by
   refine ⟨?_,h⟩
   apply List.eq_nil_iff_forall_not_mem.2
   intro j hj
   obtain ⟨h1,o,ho,_⟩:=mem_ready.1 hj
   have dt:=(Array.getElem?_eq_some_iff.1 ho).1
   rw [(hlist j dt).2] at h1
   simp at h1 hk
   omega
 | o :: l,k,listed,st,hl,bV,hk,hlist,h=>by
   have h0 : ops[k]? = some o:=by simpa using (hl 0).symm
   have pY:=(Array.getElem?_eq_some_iff.1 h0).1
   obtain ⟨Ih,rP⟩:=rQ hB h0
   simp only [List.length_cons] at hk ⊢
   refine Dx h0 l.length listed st ?_ ?_ ?_ ?_
   ·intro j oj hj lB e he hb
    have lH:=(Array.getElem?_eq_some_iff.1 hj).1
    rw [(hlist j lH).1] at lB
    have BF : j < k:=by simpa using lB
    have:=(rQ hB hj).1 e he hb
    rw [(hlist e.on (by omega)).1]
    simp; omega
   ·intro j oj hj bp hun hw
    have lH:=(Array.getElem?_eq_some_iff.1 hj).1
    rw [(hlist j lH).2] at hun
    simp at hun
    exact rP j oj hj (by omega) hw
   ·refine mem_ready.2 ⟨by rw [(hlist k pY).2]; simp,o,h0,fun e he hb=>?_⟩
    have:=Ih e he hb
    rw [(hlist e.on (by omega)).1]
    simp; omega
   ·refine cU (fun s hs=>sT hB l (k + 1) _ s (fun j=>by have:=hl (j + 1); simpa [Nat.add_assoc,Nat.add_comm 1 j] using this) (by simpa using bV) (by omega) (fun j hj=>?_) hs) h
    by_cases e : k = j
    ·subst e
     have : k < listed.size:=by omega
     simp [this]
    ·rw [getD_set_ne false e,getD_set_ne true e,(hlist j hj).1,(hlist j hj).2]
     have : (j < k) ↔ (j < k + 1):=by omega
     simp [this]
def cj (bx bx' : aa) : Prop:=∀ b,bx' b = none \/ bx' b = bx b \/ (∃ es bs c,bx b = some (.kg es bs c) /\ bx' b = some (.map es)) \/ ∃ ty sz es n,0 < sz /\ bx b = some (.row ty sz es) /\ bx' b = some (.row ty sz (es.take n))
theorem cj.refl (bx : aa) : cj bx bx:=fun _=>.inr (.inl rfl)
theorem cj.none_ (bx : aa) : cj bx fun _=>none:=fun _=>.inl rfl
variable {β : Beta} {bx bx' : aa} {w : World}
theorem cj.Pr (h : cj bx bx') {b : Nat} (hb : bx' b ≠ none) : bx b ≠ none:=by
 rcases h b with h4 | h4 | ⟨es,bs,c,h4,h5⟩ | ⟨ty,sz,es,n,_,h4,_⟩
 ·exact absurd h4 hb
 ·rw [<- h4]; exact hb
 ·rw [h4]; simp
 ·rw [h4]; simp
theorem cj.fz (h : cj bx bx') {k : Nat} (hk : Fz β M bx w k) : Fz β M bx' w k:=by
 obtain ⟨h1,h2,h3⟩:=hk
 exact ⟨h1,h2,fun b hb he=>h3 b (h.Pr hb) he⟩
theorem eu.sub (h : eu β M bx w) (hs : cj bx bx') : eu β M bx' w:=by
 refine ⟨h.fin,h.mlt,fun b box hb=>?_,fun b1 b2 k h1 h2 h3 h4=>h.inj b1 b2 k (hs.Pr h1) (hs.Pr h2) h3 h4⟩
 rcases hs b with h4 | h4 | ⟨es,bs,c,h4,h5⟩ | ⟨ty,sz,es,n,_,h4,h5⟩
 ·rw [h4] at hb; cases hb
 ·rw [h4] at hb
  rcases h.live b box hb with h1 | ⟨k,h1,h2,h3,h4⟩
  ·exact .inl h1
  ·exact .inr ⟨k,h1,h2,h3,bh h4 rfl (fun _ _ h=>h) (fun k hk=>⟨hs.fz hk,rfl⟩) (fun _ _ h=>h)⟩
 ·rw [h5] at hb
  injection hb with hb
  subst hb
  rcases h.live b _ h4 with ⟨_,h1⟩ | ⟨k,h1,h2,h3,h6⟩
  ·exact h1.elim
  ·obtain ⟨ms,g1,g2,g3,g4,g5⟩:=bh h6 rfl (fun _ _ h=>h) (fun k hk=>⟨hs.fz hk,rfl⟩) (fun _ _ h=>h)
   exact .inr ⟨k,h1,h2,h3,ms,c,g1,g3,g4,g5⟩
 ·rw [h5] at hb
  injection hb with hb
  subst hb
  rcases h.live b _ h4 with ⟨h1,h2⟩ | ⟨k,h1,h2,h3,h6⟩
  ·have h2 : es = []:=h2
   subst h2
   exact .inl ⟨h1,by simp [bI.empty]⟩
  ·obtain ⟨cur,fr,g1,g2,g3,g4⟩:=bh h6 rfl (fun _ _ h=>h) (fun k hk=>⟨hs.fz hk,rfl⟩) (fun _ _ h=>h)
   refine .inr ⟨k,h1,h2,h3,cur,fr,g1,g2,Nat.le_trans (Nat.mul_le_mul_right _ (by rw [List.length_take]; exact Nat.min_le_right _ _)) g3,fun i e he=>g4 i e ?_⟩
   rw [List.getElem?_take] at he
   split at he
   ·exact he
   ·cases he
theorem cj.tr (hs : cj bx bx') : Tr β bx w β bx' w:=by
 refine ⟨rfl,rfl,rfl,fun _=>Nat.le_refl _,fun ⟨b,ty,hb⟩=>⟨b,ty,?_⟩,Nat.le_refl _,fun _ _ _=>rfl,fun _ _ h=>h,fun _ _ h=>h,fun b k h1 h2=>.inl ⟨b,hs.Pr h1,h2⟩⟩
 rcases hs b with h4 | h4 | ⟨es,bs,c,h4,h5⟩ | ⟨oO,sz,es,n,h3,h4,h5⟩
 ·rw [h4] at hb; cases hb
 ·rw [<- h4]; exact hb
 ·rw [h5] at hb; cases hb
 ·rw [h5] at hb
  injection hb with hb
  injection hb with _ hb _
  omega
theorem cj.rep (hs : cj bx bx') {v : V} {u : Value} (h : aP β w (Fz β M bx w) v u) : aP β w (Fz β M bx' w) v u :=
 h.mono (fun _ _ h=>h) (fun k hk=>⟨hs.fz hk,rfl⟩) (fun _ _ h=>h)
def dA (bx bx' : aa) : Nat -> V -> V
 | d + 1,.own b sz o n =>
   match bx b,bx' b with
   | some (.row _ eT es),none=>if sz = eT /\ 0 < sz /\ o + n <= es.length then .sl sz (((es.drop o).take n).map (dA bx bx' d)) else .cX
   | _,_=>.cX
 | d + 1,.agg cs=>.agg (cs.map (dA bx bx' d))
 | d + 1,.dh cs=>.dh (cs.map (dA bx bx' d))
 | d + 1,.iface t v=>.iface t (dA bx bx' d v)
 | d + 1,.fn f caps=>.fn f (caps.map (dA bx bx' d))
 | d + 1,.ptr b sz i o =>
   match bx b,bx' b with
   | some (.row _ eT es),none=>if sz = eT /\ i < es.length then .ep (dA bx bx' d (es.getD i .cX)) o else .cX
   | _,_=>.ptr b sz i o
 | _,v=>v
theorem kF (bx bx' : aa) (d : Nat) (e : V) : (dA bx bx' d e).cells.length = e.cells.length /\ ∀ (j : Nat) (c' : V),(dA bx bx' d e).cells[j]? = some c' -> ∃ c d',d' <= d /\ e.cells[j]? = some c /\ c' = dA bx bx' d' c:=by
 have same : ∀ e : V,e.cells.length = e.cells.length /\ ∀ (j : Nat) (c' : V),e.cells[j]? = some c' -> ∃ c d',d' <= d /\ e.cells[j]? = some c /\ c' = dA bx bx' d' c :=
  fun e=>⟨rfl,fun j c' h=>⟨c',0,Nat.zero_le _,h,by simp [dA]⟩⟩
 have one : ∀ e q : V,e.cells = [e] -> q.cells = [q] -> q = dA bx bx' d e -> q.cells.length = e.cells.length /\ ∀ (j : Nat) (c' : V),q.cells[j]? = some c' -> ∃ c d',d' <= d /\ e.cells[j]? = some c /\ c' = dA bx bx' d' c:=by
  intro e q h1 h2 h3
  rw [h1,h2]
  refine ⟨rfl,fun j c' h=>?_⟩
  match j,h with
  | 0,h=>simp at h; subst h; exact ⟨e,d,Nat.le_refl _,rfl,h3⟩
  | j + 1,h=>simp at h
 cases d with
 | zero=>exact same e
 | succ d =>
   cases e with
   | own b sz o n =>
     refine one _ _ rfl ?_ rfl
     simp only [dA]
     split
     ·split <;> rfl
     ·rfl
   | agg cs =>
     refine ⟨by simp [dA,V.cells],fun j c' h=>?_⟩
     simp only [dA,V.cells,List.getElem?_map,Option.map_eq_some_iff] at h
     obtain ⟨c,hc,rfl⟩:=h
     exact ⟨c,d,Nat.le_succ _,hc,rfl⟩
   | dh cs=>exact one _ _ rfl rfl rfl
   | iface t v=>exact one _ _ rfl rfl rfl
   | fn f caps=>exact one _ _ rfl rfl rfl
   | ptr b sz i o =>
     refine one _ _ rfl ?_ rfl
     simp only [dA]
     split
     ·split <;> rfl
     ·rfl
   | _=>exact same _
theorem kX (cY : eu β M bx w) (hs : cj bx bx') (d : Nat) : ∀ (v : V) (u : Value),aP β w (Fz β M bx w) v u -> aP β w (Fz β M bx' w) (dA bx bx' d v) u:=by
 induction d using Nat.strongRecOn with
 | _ d ih =>
   intro v u h
   cases d with
   | zero=>simpa [dA] using hs.rep h
   | succ d =>
     cases h with
     | nv b sz hb =>
       simp only [dA]
       split
       ·rename_i ty eT es eU c9
        split
        ·rename_i hh
         have:=aP.sl (β:=β) (w:=w) (F:=Fz β M bx' w) sz [] none 0 (fun _=>undef) (Nat.le_refl _) (by simp) (fun h=>absurd rfl h) (fun e he=>by cases he) (fun i e j c he=>by simp at he) (fun i e j c he=>by simp at he)
         simpa using this
        ·exact .cX _
       ·exact .cX _
     | own b sz o n k cap m ty hb vS hm hn gT =>
       simp only [dA]
       split
       ·rename_i oO eT es eU c9
        split
        ·rename_i hh
         obtain ⟨e1,eK,hle⟩:=hh
         subst e1
         rcases cY.live b _ eU with ⟨h1,_⟩ | ⟨k',h1,pY,hM,cur,fr,aV,iG,jn,aq⟩
         ·rw [hb] at h1; cases h1
         ·rw [hb] at h1
          injection h1 with h1
          injection h1 with h1
          subst h1
          have hlen : (((es.drop o).take n).map (dA bx bx' d)).length = n:=by simp; omega
          have ZK : Fz β M bx' w k:=by
           refine ⟨pY,hM,fun q hq he=>?_⟩
           have hqb : bx q ≠ none:=hs.Pr hq
           have:=cY.inj q b k hqb (by rw [eU]; simp) he hb
           subst this
           exact hq c9
          have eX : ∀ i e',(((es.drop o).take n).map (dA bx bx' d))[i]? = some e' -> ∃ e,es[o + i]? = some e /\ i < n /\ e' = dA bx bx' d e:=by
           intro i e' he
           rw [List.getElem?_map,List.getElem?_take] at he
           split at he
           ·rename_i hi
            rw [List.getElem?_drop] at he
            simp only [Option.map_eq_some_iff] at he
            obtain ⟨e,h5,rfl⟩:=he
            exact ⟨e,h5,hi,rfl⟩
           ·simp at he
          have rD:=aP.sl (β:=β) (w:=w) (F:=Fz β M bx' w) sz (((es.drop o).take n).map (dA bx bx' d)) (some ⟨k,o * sz,none⟩) cap (fun m=>cur.getD (o * sz + m) undef) (by rw [hlen]; exact hn) (by omega) (fun _ h=>by cases h)
           (fun e' he=>by
            obtain ⟨i,hi⟩:=List.mem_iff_getElem?.1 he
            obtain ⟨e,h5,_,rfl⟩:=eX i e' hi
            rw [(kF bx bx' d e).1]
            exact (aq _ e h5).1)
           (fun i e' j c he hc=>by
            obtain ⟨e,h5,hi,rfl⟩:=eX i e' he
            obtain ⟨c0,d',_,h6,_⟩:=(kF bx bx' d e).2 j c hc
            obtain ⟨h7,h8⟩:=aq _ e h5
            have hj : j < sz:=by have:=(List.getElem?_eq_some_iff.1 h6).1; omega
            have h9:=(h8 j c0 h6).1
            have e2 : (o + i) * sz + j = o * sz + (i * sz + j):=by rw [Nat.add_mul]; omega
            rw [e2] at h9
            have aQ : o * sz + (i * sz + j) < cur.size:=by
             have : (o + i + 1) * sz <= es.length * sz:=Nat.mul_le_mul_right _ (List.getElem?_eq_some_iff.1 h5).1
             rw [Nat.succ_mul] at this
             omega
            refine ⟨_,rfl,ZK,?_,h9⟩
            rw [add_lit,cell_of_row w k _ cur oO fr aV]
            simp [aQ])
           (fun i e' j c he hc=>by
            obtain ⟨e,h5,hi,rfl⟩:=eX i e' he
            obtain ⟨c0,d',Z3,h6,rfl⟩:=(kF bx bx' d e).2 j c hc
            have h9:=((aq _ e h5).2 j c0 h6).2
            have e2 : (o + i) * sz + j = o * sz + (i * sz + j):=by rw [Nat.add_mul]; omega
            rw [e2] at h9
            exact ih d' (by omega) c0 _ h9)
          rw [hlen] at rD
          exact rD
        ·exact .cX _
       ·exact .cX _
     | agg cs us hl h1 hr =>
       simp only [dA]
       refine .agg _ _ (by simpa using hl) (fun i hi=>h1 i (by simpa using hi)) (fun i c hc=>?_)
       rw [List.getElem?_map] at hc
       simp only [Option.map_eq_some_iff] at hc
       obtain ⟨c',gP,rfl⟩:=hc
       exact ih d (Nat.lt_succ_self _) c' _ (hr i c' gP)
     | dh cs us hl hr =>
       simp only [dA]
       refine .dh _ _ (by simpa using hl) (fun i c hc=>?_)
       rw [List.getElem?_map] at hc
       simp only [Option.map_eq_some_iff] at hc
       obtain ⟨c',gP,rfl⟩:=hc
       exact ih d (Nat.lt_succ_self _) c' _ (hr i c' gP)
     | iface t v u h =>
       simp only [dA]
       exact .iface t _ u (ih d (Nat.lt_succ_self _) v u h)
     | cX=>exact .cX _
     | int=>exact .int _ _
     | bool=>exact .bool _
     | str=>exact .str _
     | aI=>exact .aI
     | sl sz es A cap u0 h1 h2 h3 h4 h5 h6=>exact hs.rep (.sl sz es A cap u0 h1 h2 h3 h4 h5 h6)
     | ptr b sz i o k hb =>
       simp only [dA]
       split
       ·rename_i oO eT es eU c9
        split
        ·rename_i hh
         obtain ⟨e1,hi⟩:=hh
         subst e1
         rcases cY.live b _ eU with ⟨h1,_⟩ | ⟨k',h1,pY,hM,cur,fr,aV,iG,jn,aq⟩
         ·rw [h1] at hb; cases hb
         ·rw [hb] at h1; injection h1 with h1; injection h1 with h1; subst h1
          have he:=List.getElem?_eq_getElem hi
          have hg : es.getD i .cX = es[i]:=by simp [List.getD,he]
          rw [hg]
          obtain ⟨hlen,rN⟩:=aq i _ he
          have ZK : Fz β M bx' w k:=by
           refine ⟨pY,hM,fun q hq he=>?_⟩
           have uU : bx q ≠ none:=hs.Pr hq
           have:=cY.inj q b k uU (by rw [eU]; simp) he hb
           subst this
           exact hq c9
          have rD:=aP.ep (β:=β) (w:=w) (F:=Fz β M bx' w) (dA bx bx' d es[i]) o ⟨k,i * sz,none⟩ (fun j=>cur.getD (i * sz + j) undef)
           (fun j c hc=>by
            obtain ⟨c0,d',_,h6,_⟩:=(kF bx bx' d es[i]).2 j c hc
            have hj : j < sz:=by have:=(List.getElem?_eq_some_iff.1 h6).1; omega
            have h9:=(rN j c0 h6).1
            have aQ : i * sz + j < cur.size:=by
             have : (i + 1) * sz <= es.length * sz:=Nat.mul_le_mul_right _ hi
             rw [Nat.succ_mul] at this
             omega
            refine ⟨_,rfl,ZK,?_,h9⟩
            rw [add_lit,cell_of_row w k _ cur oO fr aV]
            simp [aQ])
           (fun j c hc=>by
            obtain ⟨c0,d',Z3,h6,rfl⟩:=(kF bx bx' d es[i]).2 j c hc
            exact ih d' (by omega) c0 _ (rN j c0 h6).2)
          rw [add_lit] at rD
          exact rD
        ·exact .cX _
       ·exact .ptr b sz i o k hb
     | ep e o a u0 h1 h2=>exact hs.rep (.ep e o a u0 h1 h2)
     | eJ=>exact .eJ
     | fn f caps us hl hr hy =>
       simp only [dA]
       refine .fn f _ _ (by simpa using hl) (fun i c hc=>?_) ?_
       ·rw [List.getElem?_map] at hc
        simp only [Option.map_eq_some_iff] at hc
        obtain ⟨c',gP,rfl⟩:=hc
        exact ih d (Nat.lt_succ_self _) c' _ (hr i c' gP)
       ·intro g r hf he
        rcases caps with _ | ⟨c,_ | ⟨c2,cs⟩⟩
        ·simp at he
        ·exact hy g c hf rfl
        ·simp at he
     | bm f r u h =>
       simp only [dA,List.map_cons,List.map_nil]
       exact .bm f _ _ (ih d (Nat.lt_succ_self _) r _ h)
     | ic=>exact .ic
     | iM=>exact .iM
     | mp b k hb=>exact .mp b k hb
     | gS=>exact .gS
     | dead v=>exact .dead v
     | yl b k hb=>exact .yl b k hb
end
end Go.Pl
namespace Go.Pl
open Go
structure je (s s' : St) : Prop where
 n : s'.n <= s.n
 sl : ∀ t,s'.sl t = .cX \/ s'.sl t = s.sl t \/ (∃ d,s'.sl t = dA s.bx s'.bx d (s.sl t)) \/ ∃ d,∀ β w F u,aP β w F (dA s.bx s'.bx d (s.sl t)) u -> aP β w F (s'.sl t) u
 bx : cj s.bx s'.bx
def jo (next : St -> Prop) (Q : Exit -> St -> Prop) : Exit -> St -> Prop
 | .normal,st=>next st
 | e,st=>Q e st
def oz (id : Nat) (Q : Exit -> St -> Prop) : Exit -> St -> Prop
 | .exit id',st=>if id' = id then Q .normal st else Q (.exit id') st
 | e,st=>Q e st
section
variable {P : Program} {M : dP}
theorem je.rs {β : Beta} {s s' : St} {a : Act} {w : World} (h : je s s') (hr : Rs P β M s a w) : Rs P β M s' a w:=by
 refine ⟨hr.ok.sub h.bx,fun t=>?_,Nat.le_trans h.n hr.sz,hr.df,hr.bs,hr.gl.imp fun _ _ hh=>h.bx.rep hh⟩
 rcases h.sl t with h1 | h1 | ⟨d,h1⟩ | ⟨d,h1⟩
 ·rw [h1]; exact .cX _
 ·rw [h1]; exact h.bx.rep (hr.sl t)
 ·rw [h1]; exact kX hr.ok h.bx d _ _ (hr.sl t)
 ·exact h1 _ _ _ _ (kX hr.ok h.bx d _ _ (hr.sl t))
structure hH (M M' : dP) (w : World) : Prop where
 le : ∀ k o,M k = some o -> M' k = some o
 new : ∀ k,M k = none -> M' k ≠ none -> w.heap.size <= k
 base : M'.base = M.base
 df : M'.df = M.df
theorem hH.refl (M : dP) (w : World) : hH M M w:=⟨fun _ _ h=>h,fun _ h h'=>absurd h h',rfl,rfl⟩
theorem hH.trans {M M' M'' : dP} {w w' : World} (h : hH M M' w) (h' : hH M' M'' w') (hs : w.heap.size <= w'.heap.size) : hH M M'' w:=by
 refine ⟨fun k o hk=>h'.le k o (h.le k o hk),fun k h1 h2=>?_,h'.base.trans h.base,h'.df.trans h.df⟩
 cases hm : M' k with
 | none=>exact Nat.le_trans hs (h'.new k hm h2)
 | some o=>exact h.new k h1 (by rw [hm]; simp)
theorem eu.shrink {β : Beta} {M M' : dP} {bx : aa} {w : World} (h : eu β M' bx w) (hm : ∀ k o,M k = some o -> M' k = some o) : eu β M bx w:=by
 have hn : ∀ k,M' k = none -> M k = none:=fun k hk=>by
  cases e : M k with
  | none=>rfl
  | some o=>rw [hm k o e] at hk; cases hk
 refine ⟨h.fin,fun k o hk=>h.mlt k o (hm k o hk),fun b box hb=>?_,h.inj⟩
 rcases h.live b box hb with h1 | ⟨k,h1,h2,h3,h4⟩
 ·exact .inl h1
 ·exact .inr ⟨k,h1,h2,hn k h3,bh h4 rfl (fun _ _ h=>h) (fun k hk=>⟨⟨hk.1,hn k hk.2.1,hk.2.2⟩,rfl⟩) (fun _ _ h=>h)⟩
theorem sU {β : Beta} {M M' : dP} {bx : aa} {w : World} (hm : ∀ k o,M k = some o -> M' k = some o) {v : V} {u : Value} (h : aP β w (Fz β M' bx w) v u) : aP β w (Fz β M bx w) v u:=by
 have hn : ∀ k,M' k = none -> M k = none:=fun k hk=>by
  cases e : M k with
  | none=>rfl
  | some o=>rw [hm k o e] at hk; cases hk
 exact h.mono (fun _ _ h=>h) (fun k hk=>⟨⟨hk.1,hn k hk.2.1,hk.2.2⟩,rfl⟩) (fun _ _ h=>h)
def qb (P : Program) (M : dP) (ro : Option Nat) (c : Code) (Q : Exit -> St -> Prop) (st : St) : Prop :=
 ∀ (n : Nat) (β : Beta) (a : Act) (w : World),Rs P β M st a w -> c.wpIn (rf ro) n P (fun e a' w'=>∃ M' st' β',Q e st' /\ hH M M' w /\ Rs P β' M' st' a' w' /\ Tr β st.bx w β' st'.bx w') a w
theorem yG (hm : P.follows .mixedOrders = true) {ro : Option Nat} {id : Nat} {ops : Array Oper} {draw : Bool} {Q : Exit -> St -> Prop} {st : St} (hl : draw = true -> sR ops = true) (h : oo P draw ops (Q .normal) ops.toList st) : qb P M ro (.region id ops draw) Q st:=by
 intro n β a w hr
 cases draw with
 | false =>
   refine wpIn_region ?_
   have h1:=pn (ro:=ro) (n:=n) (M:=M) (Q:=fun e a' w'=>∃ M' st' β',Q e st' /\ hH M M' w /\ Rs P β' M' st' a' w' /\ Tr β st.bx w β' st'.bx w') ops.toList 0 st a w β (fun j=>by simp) h hr (fun st' β' a' w' hk cJ ht=>⟨M,st',β',hk,hH.refl _ _,cJ,ht⟩)
   simpa [List.range_eq_range'] using h1
 | true =>
   refine wpIn_region_any hm ?_
   have cJ : Rs P β M st a w.drew:=⟨hr.ok.drew,fun t=>(Tr.drew hr.ok).rep (hr.sl t),hr.sz,hr.df,hr.bs,hr.gl.imp fun _ _ hh=>(Tr.drew hr.ok).rep hh⟩
   have Im:=hl rfl
   have h1:=sT (P:=P) Im ops.toList 0 (Array.replicate ops.size false) st (fun j=>by simp) (by simp) (by simp) (fun j hj=>by simp [hj]) h
   have h2:=pv (ro:=ro) (n:=n) (M:=M) (Q:=fun e a' w'=>∃ M' st' β',Q e st' /\ hH M M' w /\ Rs P β' M' st' a' w' /\ Tr β st.bx w β' st'.bx w') _ _ st a w.drew β h1 cJ (fun st' β' a' w' hk rR ht=>⟨M,st',β',hk,hH.refl _ _,rR,(Tr.drew hr.ok).trans ht⟩)
   simpa using h2
def jf : Nat -> List V -> (Nat -> V)
 | _,[]=>fun _=>.cX
 | k,v :: vs=>aA (jf (k + 1) vs) k v
def bW (n : Nat) (args : List V) (bx : aa) : St:={ n:=n,sl:=jf 0 args,bx:=bx }
theorem mX : ∀ (args : List V) (k t : Nat),jf k args t = if k <= t then args.getD (t - k) .cX else .cX
 | [],k,t=>by simp [jf]
 | v :: vs,k,t=>by
   simp only [jf,aA]
   by_cases h : t = k
   ·subst h; simp
   ·rw [if_neg h,mX vs (k + 1) t]
    by_cases h1 : k <= t
    ·rw [if_pos h1,if_pos (by omega)]
     have : t - k = (t - (k + 1)) + 1:=by omega
     rw [this]
     simp
    ·rw [if_neg h1,if_neg (by omega)]
def iS (P : Program) (st : St) : ResultVar -> Ev
 | .tmp t=>(True,st.sl t)
 | .cell a t=>dH P st.bx t (st.sl a)
def kq (P : Program) (st : St) (rs : List ResultVar) : V :=
 match rs with
 | [r]=>(iS P st r).2
 | rs=>.dh (rs.map fun r=>(iS P st r).2)
def zZ (P : Program) (rs : List ResultVar) (Kc : V -> aa -> Prop) (st : St) : Prop :=
 (∀ r,r ∈ rs -> (iS P st r).1) /\ ∃ bx' r,cj st.bx bx' /\ (r = kq P st rs \/ ∃ d,r = dA st.bx bx' d (kq P st rs)) /\ Kc r bx'
theorem EO {β : Beta} {w : World} {F : Nat -> Prop} {bx : aa} {t : TypeId} {x : V} {u : Value} (hc : (dH P bx t x).1) (hr : aP β w F x u) : ∃ ad,u = .pointer (some ad):=by
 unfold dH at hc
 split at hc
 ·rename_i e o hs
  have hl : x.ax = true:=by unfold im at hc; split at hc <;> exact hc.1
  exact y1 hr (.inr ⟨e,o,aF hl hs⟩)
 ·rename_i b sz i o hs
  split at hc
  ·have hl : x.ax = true:=by unfold im at hc; split at hc <;> exact hc.1.1
   exact y1 hr (.inl ⟨b,sz,i,o,aF hl hs⟩)
  ·exact hc.elim
 ·exact hc.elim
theorem Ip {β : Beta} {st : St} {a : Act} {w : World} (hr : Rs P β M st a w) {r : ResultVar} (hc : (iS P st r).1) :
 ∃ u,((match r with | .tmp t=>pure (a.tmps.getD t undef) | .cell q t=>do loadVar t (<- asAddr (a.tmps.getD q undef)) : Sem Value)).run P w = .ok u w /\ aP β w (Fz β M st.bx w) (iS P st r).2 u:=by
 cases r with
 | tmp t=>exact ⟨_,rfl,hr.sl t⟩
 | cell q t =>
   have gP : (dH P st.bx t (st.sl q)).1:=hc
   obtain ⟨v,h1,h2⟩:=sG (P:=P) gP hr.ok.QR (hr.sl q)
   obtain ⟨ad,Z1⟩:=EO gP (hr.sl q)
   refine ⟨v,?_,h2⟩
   show (do loadVar t (<- asAddr (a.tmps.getD q undef)) : Sem Value).run P w = _
   rw [Z1] at h1 ⊢
   exact h1
theorem yH {β : Beta} {st : St} {a : Act} {w : World} (hr : Rs P β M st a w) : ∀ (rs : List ResultVar),(∀ r,r ∈ rs -> (iS P st r).1) ->
 ∃ us : List Value,(rs.mapM fun | .tmp t=>pure (a.tmps.getD t undef) | .cell q t=>do loadVar t (<- asAddr (a.tmps.getD q undef)) : Sem (List Value)).run P w = .ok us w /\ us.length = rs.length /\ ∀ (i : Nat) (r : ResultVar),rs[i]? = some r -> aP β w (Fz β M st.bx w) (iS P st r).2 (us.getD i undef)
 | [],_=>⟨[],rfl,rfl,fun i r h=>by simp at h⟩
 | r :: rs,hc=>by
   obtain ⟨u,h1,h2⟩:=Ip (P:=P) hr (hc r (by simp))
   obtain ⟨us,h3,h4,h5⟩:=yH hr rs (fun q hq=>hc q (by simp [hq]))
   refine ⟨u :: us,?_,by simp [h4],fun i q hq=>?_⟩
   ·rw [List.mapM_cons,Sem.run_bind,h1,Result.andThen_ok,Sem.run_bind,h3]
    rfl
   ·match i,hq with
    | 0,hq=>simp at hq; subst hq; simpa using h2
    | i + 1,hq=>simpa using h5 i q (by simpa using hq)
theorem uz {β : Beta} {st : St} {a : Act} {w : World} (hr : Rs P β M st a w) (fn : Func) (hc : ∀ r,r ∈ fn.results.toList -> (iS P st r).1) :
 ∃ v,(results fn a.tmps).run P w = .ok v w /\ aP β w (Fz β M st.bx w) (kq P st fn.results.toList) v:=by
 obtain ⟨us,h1,h2,h3⟩:=yH (P:=P) hr fn.results.toList hc
 refine ⟨if h : us.toArray.size = 1 then us.toArray[0] else .tuple us.toArray,?_,?_⟩
 ·unfold results
  rw [Array.mapM_eq_mapM_toList,Sem.run_bind,Sem.run_map]
  erw [h1]
  rfl
 ·unfold kq
  split
  ·rename_i r hrs
   rw [hrs] at h2 h3
   have h4:=h3 0 r rfl
   match us,h2 with
   | [u],_=>simpa using h4
  ·rename_i bp
   have hlen : us.length ≠ 1:=by
    intro h
    rw [h2] at h
    match hq : fn.results.toList,h with
    | [r],_=>exact bp r hq
   rw [dif_neg (by simpa using hlen)]
   refine .dh _ _ (by simp [h2]) (fun i c gP=>?_)
   rw [List.getElem?_map] at gP
   simp only [Option.map_eq_some_iff] at gP
   obtain ⟨r,cJ,rfl⟩:=gP
   simpa using h3 i r cJ
theorem kG {w : World} {D k : Nat} {o' : Obj} (hs : w.shape? D = none) {x : TypeId × Nat} (h : w.shape? k = some x) : (w.putObj D o').shape? k = some x:=by
 by_cases e : k = D
 ·subst e; rw [hs] at h; cases h
 ·rw [bD (World.putObj_heap_other e)]; exact h
def dP.set (M : dP) (D : Nat) (x : Option Obj) : dP:={ M with obj:=aA M.obj D x }
theorem dP.Ay (M : dP) (D : Nat) (x : Option Obj) : (M.set D x) D = x:=af _ _ _
theorem dP.ma (M : dP) {D k : Nat} (x : Option Obj) (h : k ≠ D) : (M.set D x) k = M k:=ae _ _ h
theorem eu.Az {β : Beta} {M : dP} {bx : aa} {w : World} {D : Nat} {o o' : Obj} {x : Option Obj} (h : eu β M bx w) (hD : M D = some o) (hx : ∀ y,x = some y -> y = o') (hs : w.shape? D = none) :
 eu β (M.set D x) bx (w.putObj D o') /\ (∀ {v : V} {u : Value},aP β w (Fz β M bx w) v u -> aP β (w.putObj D o') (Fz β (M.set D x) bx (w.putObj D o')) v u):=by
 have dt:=h.nW hD
 have hF : ∀ k,Fz β M bx w k -> Fz β (M.set D x) bx (w.putObj D o') k /\ (w.putObj D o').heap[k]? = w.heap[k]?:=by
  rintro k ⟨h1,h2,h3⟩
  have e : k ≠ D:=by rintro rfl; rw [h2] at hD; cases hD
  exact ⟨⟨by simpa using h1,by rw [dP.ma _ _ e]; exact h2,h3⟩,World.putObj_heap_other e⟩
 refine ⟨⟨h.fin,fun k y hk=>?_,fun b box hb=>?_,h.inj⟩,fun hr=>hr.mono (fun _ _ h=>h) hF (fun _ _ h=>kG hs h)⟩
 ·by_cases e : k = D
  ·subst e
   rw [dP.Ay] at hk
   rw [hx y hk]
   exact World.putObj_heap_same dt
  ·rw [dP.ma _ _ e] at hk
   exact (World.putObj_heap_other e).trans (h.mlt k y hk)
 ·rcases h.live b box hb with h1 | ⟨k,h1,h2,h3,h4⟩
  ·exact .inl h1
  ·have e : k ≠ D:=by rintro rfl; rw [h3] at hD; cases hD
   exact .inr ⟨k,h1,by simpa using h2,by rw [dP.ma _ _ e]; exact h3,bh h4 (World.putObj_heap_other e) (fun _ _ h=>h) hF (fun _ _ h=>kG hs h)⟩
theorem Tr.Az {β β' : Beta} {bx bx' : aa} {w w' : World} {D : Nat} {o' : Obj} (h : Tr β bx w β' bx' w') (hD : w.heap.size <= D) (hs : w'.shape? D = none) : Tr β bx w β' bx' (w'.putObj D o') :=
 ⟨h.os,h.tape,h.output,h.drawn,h.Ah,by simpa using h.size,fun k hk hb=>(World.putObj_heap_other (by omega)).trans (h.ch k hk hb),fun k x hx=>kG hs (h.shape k x hx),h.ext,h.news⟩
def EP (P : Program) (M : dP) (f : FuncId) (args : List V) (bx : aa) (Kc : V -> aa -> Prop) : Prop :=
 ∀ (β : Beta) (w : World) (vs : Array Value),eu β M bx w -> oU P β w (Fz β M bx w) -> vs.size = args.length ->
  (∀ (i : Nat) (c : V),args[i]? = some c -> aP β w (Fz β M bx w) c (vs.getD i undef)) ->
  Calls P f vs w fun e w'=>∃ v r bx' β',e = .returned v /\ Kc r bx' /\ eu β' M bx' w' /\ Tr β bx w β' bx' w' /\ aP β' w' (Fz β' M bx' w') r v
theorem sV {M : dP} {fn : Func} {tmps : Array Value} {n : Nat} {β β' : Beta} {bx : aa} {w : World} {st' : St} {rest : List Deferred} {R : Ending -> World -> Prop} {cv : List V} {us : Array Value}
 (De : ∀ (M' : dP) (w' : World),(∀ (i : Nat) (c : V),cv[i]? = some c -> aP β' w' (Fz β' M' st'.bx w') c (us.getD i undef)) -> (∀ k o,M k = some o -> M' k = some o) -> M'.base = w.heap.size -> M'.df = rest -> Rs P β' M' st' { tmps:=tmps,defers:=rest } w' -> Tr β bx w β' st'.bx w' -> LeavesInM Fence.wide n P fn tmps R rest .returning w') :
 ∀ (ms : List Deferred) (M' : dP) (w' : World),(∀ (i : Nat) (c : V),cv[i]? = some c -> aP β' w' (Fz β' M' st'.bx w') c (us.getD i undef)) -> (∀ k o,M k = some o -> M' k = some o) -> (∀ k o,M k = some o -> k < w.heap.size) -> M'.base = w.heap.size -> M'.df = rest -> Marks M'.base M'.obj ms -> Rs P β' M' st' { tmps:=tmps,defers:=ms ++ rest } w' -> Tr β bx w β' st'.bx w' ->
 LeavesInM Fence.wide n P fn tmps R (ms ++ rest) .returning w'
 | [],M',w',lI,hm,dt,hB,ER,B8,cJ,ht=>De M' w' lI hm hB ER cJ ht
 | d :: ds,M',w',lI,hm,dt,hB,ER,B8,cJ,ht=>by
   obtain ⟨D,rfl,hD1,hD2,hD3⟩:=B8
   have hh:=cJ.ok.mlt D _ hD2
   have hs : w'.shape? D = none:=by simp [World.shape?,hh]
   have kW:=cJ.ok.Az (x:=none) (o':=.deferred none) hD2 (fun y hy=>by cases hy) hs
   refine ⟨by simp,.inl ⟨D,_,rfl,run_takeDeferred hh,sV De ds (M'.set D none) _ (fun i c hc=>kW.2 (lI i c hc)) (fun k o hk=>?_) dt hB ER hD3 ⟨kW.1,fun t=>kW.2 (cJ.sl t),cJ.sz,⟨ds,by rw [show (M'.set D none).df = M'.df from rfl,ER],hD3⟩,by rw [World.putObj_size]; exact cJ.bs,cJ.gl.imp (fun _ _ hh=>kW.2 hh) (fun _ _ h=>kG hs h)⟩ (ht.Az (by rw [<- hB]; exact hD1) hs)⟩⟩
   have dV:=dt k o hk
   rw [dP.ma _ _ (by rw [hB] at hD1; omega)]
   exact hm k o hk
theorem qD {M : dP} {fn : Func} {tmps : Array Value} {n : Nat} {β β' : Beta} {bx : aa} {w : World} {st' : St} {Kc : V -> aa -> Prop} (LL : zZ P fn.results.toList Kc st')
 (ds : List Deferred) (M' : dP) (w' : World) (hm : ∀ k o,M k = some o -> M' k = some o) (dt : ∀ k o,M k = some o -> k < w.heap.size) (hB : M'.base = w.heap.size) (ER : M'.df = []) (cJ : Rs P β' M' st' { tmps:=tmps,defers:=ds } w') (ht : Tr β bx w β' st'.bx w') :
 LeavesInM Fence.wide n P fn tmps (fun e w'=>∃ v r bx' β',e = .returned v /\ Kc r bx' /\ eu β' M bx' w' /\ Tr β bx w β' bx' w' /\ aP β' w' (Fz β' M bx' w') r v) ds .returning w':=by
 obtain ⟨ms,uq,B8⟩:=cJ.df
 rw [ER,List.append_nil] at uq
 dsimp only at uq
 subst uq
 have h:=sV (M:=M) (rest:=[]) (n:=n) (fn:=fn) (R:=fun e w'=>∃ v r bx' β',e = .returned v /\ Kc r bx' /\ eu β' M bx' w' /\ Tr β bx w β' bx' w' /\ aP β' w' (Fz β' M bx' w') r v) (cv:=[]) (us:=#[]) (fun M' w' _ hm hB ER cJ ht=>by
  obtain ⟨rD,bx',r,jB,Po,hk⟩:=LL
  obtain ⟨v,h1,h2⟩:=uz (P:=P) cJ fn rD
  refine ⟨v,h1,v,r,bx',β',rfl,hk,(cJ.ok.shrink hm).sub jB,ht.trans jB.tr,?_⟩
  rcases Po with rfl | ⟨d,rfl⟩
  ·exact jB.rep (sU hm h2)
  ·exact kX (cJ.ok.shrink hm) jB d _ _ (sU hm h2)) ds M' w' (fun i c hc=>by simp at hc) hm dt hB ER B8 (by rw [List.append_nil]; exact cJ) ht
 rw [List.append_nil] at h
 exact h
theorem u3 {M : dP} {f : FuncId} {fn : Func} {c : Code} (hf : P.funcs[f]? = some fn) (hb : fn.body = some c)
 {args : List V} {bx : aa} {Kc : V -> aa -> Prop} (h : ∀ B,qb P ⟨M.obj,B,[]⟩ none c (fun e st=>(e = .normal \/ e = .ret) /\ zZ P fn.results.toList Kc st) (bW fn.ntmps args bx)) : EP P M f args bx Kc:=by
 intro β w vs cY l9 bV fB
 refine (callsIn_wide (n:=0)).1 (callsIn_of_wp_marks hf hb trivial ?_)
 have ES : eu β ⟨M.obj,w.heap.size,[]⟩ bx w:=⟨cY.fin,cY.mlt,cY.live,cY.inj⟩
 have hr : Rs P β ⟨M.obj,w.heap.size,[]⟩ (bW fn.ntmps args bx) { tmps:=vs ++ Array.replicate (fn.ntmps - vs.size) undef,defers:=[] } w:=by
  refine ⟨ES,fun t=>?_,by simp [bW]; omega,⟨[],rfl,trivial⟩,Nat.le_refl _,l9⟩
  simp only [bW,mX,Nat.zero_le,if_true,Nat.sub_zero]
  by_cases ht : t < args.length
  ·have h1 : aP β w (Fz β ⟨M.obj,w.heap.size,[]⟩ bx w) args[t] (vs.getD t undef):=fB t args[t] (List.getElem?_eq_getElem ht)
   have h2 : (vs ++ Array.replicate (fn.ntmps - vs.size) undef).getD t undef = vs.getD t undef:=by
    simp [Array.getElem?_append,show t < vs.size by omega]
   rw [h2]
   simpa [List.getD,List.getElem?_eq_getElem ht] using h1
  ·simp only [List.getD,List.getElem?_eq_none (Nat.le_of_not_lt ht),Option.getD_none]
   exact .cX _
 refine wpIn_mono (h _ 0 β _ w hr) ?_
 rintro e a' w' ⟨M',st',β',⟨he,LL⟩,hx,cJ,ht⟩
 have fin:=qD (M:=M) (n:=0) LL a'.defers M' w' hx.le (fun k o hk=>cY.nW hk) hx.base hx.df cJ ht
 rcases he with rfl | rfl
 ·exact fin
 ·exact fin
theorem lC {f : FuncId} {fn : Func} {c : Code} (hf : P.funcs[f]? = some fn) (hb : fn.body = some c) (hent : ∀ vs w,(callFunc f vs).run P w = .ok (.enter f vs) w)
 {args : List V} {bx : aa} {Kc : V -> aa -> Prop} (h : ∀ M,qb P M none c (fun e st=>(e = .normal \/ e = .ret) /\ zZ P fn.results.toList Kc st) (bW fn.ntmps args bx)) : aw P f args bx Kc :=
 ⟨hent,fun β M w vs cY l9 bV fB=>u3 (M:=M) hf hb (fun B=>h ⟨M.obj,B,[]⟩) β w vs cY l9 bV fB⟩
end
end Go.Pl
namespace Go.Pl
open Go Classical
theorem iz {β : Beta} {M : dP} {bx : aa} {w : World} (h : eu β M bx w) {b k : Nat} {box : bI} (hb : bx b = some box) (bL : β b = some (some k)) : k < w.heap.size /\ M k = none /\ nG β w (Fz β M bx w) k box:=by
 rcases h.live b box hb with ⟨h1,_⟩ | ⟨k',h1,h2,h3,h4⟩
 ·rw [bL] at h1; cases h1
 ·rw [bL] at h1; injection h1 with h1; injection h1 with h1; subst h1
  exact ⟨h2,h3,h4⟩
def ov (bxc bxi : aa) : aa:=fun b=>match bxi b with
 | some x=>some x
 | none=>bxc b
structure Dj (bxc bxi : aa) : Prop where
 dj : ∀ b,bxi b ≠ none -> bxc b = none
 ne : ∀ b box,bxi b = some box -> ¬ box.empty
theorem gp {bxc bxi : aa} {b : Nat} (h : bxi b ≠ none) : ov bxc bxi b = bxi b:=by
 unfold ov
 cases e : bxi b with
 | none=>exact absurd e h
 | some x=>rfl
theorem gr {bxc bxi : aa} {b : Nat} (h : bxi b = none) : ov bxc bxi b = bxc b:=by
 unfold ov; rw [h]
section
variable {P : Program} {β : Beta} {M : dP} {bxc bxi : aa} {w : World}
noncomputable def me (M : dP) (β : Beta) (bxi : aa) (w : World) : dP :=
 { M with obj:=fun k=>if ∃ b,bxi b ≠ none /\ β b = some (some k) then w.heap[k]? else M k }
theorem qc (h : eu β M (ov bxc bxi) w) (hd : Dj bxc bxi) : eu β (me M β bxi w) bxc w /\ (∀ k,Fz β M (ov bxc bxi) w k ↔ Fz β (me M β bxi w) bxc w k):=by
 have hb : ∀ b box,bxc b = some box -> ov bxc bxi b = some box:=by
  intro b box hb
  have : bxi b = none:=by
   cases e : bxi b with
   | none=>rfl
   | some x=>rw [hd.dj b (by rw [e]; simp)] at hb; cases hb
  rw [gr this]; exact hb
 have zX : ∀ k,(∃ b,bxi b ≠ none /\ β b = some (some k)) -> k < w.heap.size:=by
  rintro k ⟨b,h1,h2⟩
  obtain ⟨box,dK⟩:=Option.ne_none_iff_exists'.1 h1
  exact (iz h (by rw [gp h1]; exact dK) h2).1
 have hF : ∀ k,Fz β M (ov bxc bxi) w k ↔ Fz β (me M β bxi w) bxc w k:=by
  intro k
  constructor
  ·rintro ⟨h1,h2,h3⟩
   refine ⟨h1,?_,fun b aQ he=>h3 b ?_ he⟩
   ·show (if ∃ b,bxi b ≠ none /\ β b = some (some k) then w.heap[k]? else M k) = none
    rw [if_neg]
    ·exact h2
    ·rintro ⟨b,h4,h5⟩
     exact h3 b (by rw [gp h4]; exact h4) h5
   ·obtain ⟨box,dK⟩:=Option.ne_none_iff_exists'.1 aQ
    rw [hb b box dK]; simp
  ·rintro ⟨h1,h2,h3⟩
   have Dw : (if ∃ b,bxi b ≠ none /\ β b = some (some k) then w.heap[k]? else M k) = none:=h2
   split at Dw
   ·simp [h1] at Dw
   ·rename_i nK
    refine ⟨h1,Dw,fun b aQ he=>?_⟩
    cases e : bxi b with
    | none=>rw [gr e] at aQ; exact h3 b aQ he
    | some x=>exact nK ⟨b,by rw [e]; simp,he⟩
 refine ⟨⟨h.fin,fun k o hk=>?_,fun b box dK=>?_,fun b b' k h1 h2 h3 h4=>?_⟩,hF⟩
 ·have jM : (if ∃ b,bxi b ≠ none /\ β b = some (some k) then w.heap[k]? else M k) = some o:=hk
  split at jM
  ·exact jM
  ·exact h.mlt k o jM
 ·rcases h.live b box (hb b box dK) with h1 | ⟨k,h1,h2,h3,h4⟩
  ·exact .inl h1
  ·refine .inr ⟨k,h1,h2,?_,bh h4 rfl (fun _ _ h=>h) (fun k hk=>⟨(hF k).1 hk,rfl⟩) (fun _ _ h=>h)⟩
   show (if ∃ b,bxi b ≠ none /\ β b = some (some k) then w.heap[k]? else M k) = none
   rw [if_neg]
   ·exact h3
   ·rintro ⟨b2,h5,h6⟩
    have : b = b2:=h.inj b b2 k (by rw [hb b box dK]; simp) (by rw [gp h5]; exact h5) h1 h6
    subst this
    rw [hd.dj b h5] at dK; cases dK
 ·obtain ⟨x1,jg⟩:=Option.ne_none_iff_exists'.1 h1
  obtain ⟨x2,di⟩:=Option.ne_none_iff_exists'.1 h2
  exact h.inj b b' k (by rw [hb b x1 jg]; simp) (by rw [hb b' x2 di]; simp) h3 h4
theorem sW (h : eu β M (ov bxc bxi) w) (hd : Dj bxc bxi) {β' : Beta} {bxc' : aa} {w' : World} (h' : eu β' (me M β bxi w) bxc' w') (ht : Tr β bxc w β' bxc' w') :
 Dj bxc' bxi /\ eu β' M (ov bxc' bxi) w' /\ Tr β (ov bxc bxi) w β' (ov bxc' bxi) w' /\ ∀ k,Fz β' (me M β bxi w) bxc' w' k -> Fz β' M (ov bxc' bxi) w' k:=by
 obtain ⟨hw,hF⟩:=qc h hd
 have hi : ∀ b,bxi b ≠ none -> ∃ k box,bxi b = some box /\ β b = some (some k) /\ k < w.heap.size /\ M k = none /\ nG β w (Fz β M (ov bxc bxi) w) k box /\ (me M β bxi w) k = w.heap[k]? /\ w'.heap[k]? = w.heap[k]?:=by
  intro b hb
  obtain ⟨box,dK⟩:=Option.ne_none_iff_exists'.1 hb
  rcases h.live b box (by rw [gp hb]; exact dK) with ⟨_,h1⟩ | ⟨k,h1,h2,h3,h4⟩
  ·exact absurd h1 (hd.ne b box dK)
  ·have he : (me M β bxi w) k = w.heap[k]?:=by
    show (if ∃ b,bxi b ≠ none /\ β b = some (some k) then w.heap[k]? else M k) = _
    rw [if_pos ⟨b,hb,h1⟩]
   have hs : w.heap[k]? = some (w.heap[k]):=Array.getElem?_eq_getElem h2
   exact ⟨k,box,dK,h1,h2,h3,h4,he,(h'.mlt k _ (he.trans hs)).trans hs.symm⟩
 have Rr : ∀ k,(me M β bxi w) k = none -> k < w.heap.size -> (¬ ∃ b,bxi b ≠ none /\ β b = some (some k)) /\ M k = none:=by
  intro k hk dt
  have jM : (if ∃ b,bxi b ≠ none /\ β b = some (some k) then w.heap[k]? else M k) = none:=hk
  split at jM
  ·simp [dt] at jM
  ·rename_i nK; exact ⟨nK,jM⟩
 have yI : ∀ k,(me M β bxi w) k = none -> (¬ ∃ b,bxi b ≠ none /\ β b = some (some k)) /\ M k = none:=by
  intro k hk
  rcases Nat.lt_or_ge k w.heap.size with dt | ue
  ·exact Rr k hk dt
  ·refine ⟨fun ⟨b,h1,h2⟩=>?_,h.sy ue⟩
   obtain ⟨k2,box,_,h3,h4,_⟩:=hi b h1
   rw [h3] at h2; injection h2 with h2; injection h2 with h2; omega
 have WU : Dj bxc' bxi:=by
  refine ⟨fun b hb=>?_,hd.ne⟩
  obtain ⟨k,box,dK,h1,h2,h3,h4,h5,h6⟩:=hi b hb
  cases e : bxc' b with
  | none=>rfl
  | some x =>
    have:=(iz h' e (ht.ext _ _ h1)).2.1
    exact absurd ⟨b,hb,h1⟩ (Rr k this h2).1
 have Rt : ∀ k,Fz β' (me M β bxi w) bxc' w' k -> Fz β' M (ov bxc' bxi) w' k:=by
  rintro k ⟨h1,h2,h3⟩
  refine ⟨h1,(yI k h2).2,fun b hb he=>?_⟩
  by_cases e : bxi b = none
  ·rw [gr e] at hb; exact h3 b hb he
  ·obtain ⟨k2,_,_,h5,_⟩:=hi b e
   have:=ht.ext _ _ h5
   rw [he] at this; injection this with this; injection this with this; subst this
   exact (yI k h2).1 ⟨b,e,h5⟩
 have LM : ∀ b box,ov bxc' bxi b = some box -> (bxi b ≠ none) \/ (bxi b = none /\ bxc' b = some box):=by
  intro b box hb
  by_cases e : bxi b = none
  ·rw [gr e] at hb; exact .inr ⟨e,hb⟩
  ·exact .inl e
 refine ⟨WU,⟨h'.fin,fun k o hk=>?_,fun b box hb=>?_,fun b b' k h1 h2 h3 h4=>?_⟩,?_,Rt⟩
 ·refine h'.mlt k o ?_
  show (if ∃ b,bxi b ≠ none /\ β b = some (some k) then w.heap[k]? else M k) = some o
  rw [if_neg]
  ·exact hk
  ·rintro ⟨b,h1,h2⟩
   obtain ⟨k2,box,_,h3,h4,h5,_⟩:=hi b h1
   rw [h3] at h2; injection h2 with h2; injection h2 with h2; subst h2
   rw [h5] at hk; cases hk
 ·rcases LM b box hb with e | ⟨e,e2⟩
  ·obtain ⟨k,aff,h0,h1,h2,h3,h4,h5,h6⟩:=hi b e
   rw [gp e,h0] at hb
   injection hb with hb
   subst hb
   refine .inr ⟨k,ht.ext _ _ h1,Nat.lt_of_lt_of_le h2 ht.size,h3,bh h4 h6 ht.ext (fun k hk=>?_) ht.shape⟩
   obtain ⟨h7,h8⟩:=ht.fz ((hF k).1 hk)
   exact ⟨Rt k h7,h8⟩
  ·rcases h'.live b box e2 with h1 | ⟨k,h1,h2,h3,h4⟩
   ·exact .inl h1
   ·exact .inr ⟨k,h1,h2,(yI k h3).2,bh h4 rfl (fun _ _ h=>h) (fun k hk=>⟨Rt k hk,rfl⟩) (fun _ _ h=>h)⟩
 ·have side : ∀ b,ov bxc' bxi b ≠ none -> β' b = some (some k) -> bxi b = none -> (me M β bxi w) k = none:=by
   intro b hb he e
   rw [gr e] at hb
   obtain ⟨x,hx⟩:=Option.ne_none_iff_exists'.1 hb
   exact (iz h' hx he).2.1
  have side2 : ∀ b,bxi b ≠ none -> β' b = some (some k) -> β b = some (some k):=by
   intro b hb he
   obtain ⟨k2,_,_,h5,_⟩:=hi b hb
   rw [ht.ext _ _ h5] at he; rw [h5]; exact he
  by_cases e1 : bxi b = none <;> by_cases e2 : bxi b' = none
  ·rw [gr e1] at h1; rw [gr e2] at h2
   exact h'.inj b b' k h1 h2 h3 h4
  ·exact absurd ⟨b',e2,side2 b' e2 h4⟩ (yI k (side b h1 h3 e1)).1
  ·exact absurd ⟨b,e1,side2 b e1 h3⟩ (yI k (side b' h2 h4 e2)).1
  ·exact h.inj b b' k (by rw [gp e1]; exact e1) (by rw [gp e2]; exact e2) (side2 b e1 h3) (side2 b' e2 h4)
 ·have QV : Mk bxc -> Mk (ov bxc bxi):=fun ⟨b,ty,hb⟩=>⟨b,ty,by
   by_cases e : bxi b = none
   ·rw [gr e]; exact hb
   ·exact absurd hb (by rw [hd.dj b e]; simp)⟩
  refine ⟨ht.os,ht.tape,ht.output,fun hn=>ht.drawn (fun hm=>hn (QV hm)),fun ⟨b,ty,hb⟩=>?_,ht.size,fun k hk hb=>ht.ch k hk (fun b aQ=>hb b ?_),ht.shape,ht.ext,fun b k hb he=>?_⟩
  ·by_cases e : bxi b = none
   ·rw [gr e] at hb
    exact QV (ht.Ah ⟨b,ty,hb⟩)
   ·rw [gp e] at hb
    exact ⟨b,ty,by rw [gp e]; exact hb⟩
  ·by_cases e : bxi b = none
   ·rw [gr e]; exact aQ
   ·rw [gp e]; exact e
  ·by_cases e : bxi b = none
   ·rw [gr e] at hb
    rcases ht.news b k hb he with ⟨b2,h5,h6⟩ | h5
    ·refine .inl ⟨b2,?_,h6⟩
     by_cases e2 : bxi b2 = none
     ·rw [gr e2]; exact h5
     ·rw [gp e2]; exact e2
    ·exact .inr h5
   ·obtain ⟨k2,_,_,h5,_⟩:=hi b e
    refine .inl ⟨b,by rw [gp e]; exact e,?_⟩
    rw [ht.ext _ _ h5] at he; rw [h5]; exact he
theorem aw.frame {f : FuncId} {args : List V} {Kc : V -> aa -> Prop} (h : aw P f args bxc Kc) (hd : Dj bxc bxi) : aw P f args (ov bxc bxi) fun r bx'=>∃ bxc',Kc r bxc' /\ Dj bxc' bxi /\ bx' = ov bxc' bxi:=by
 refine ⟨h.1,fun β M w vs cY l9 ju mf=>?_⟩
 obtain ⟨hw,hF⟩:=qc cY hd
 refine (h.2 β _ w vs hw (l9.imp fun _ _ hh=>hh.mono (fun _ _ h=>h) (fun k hk=>⟨(hF k).1 hk,rfl⟩) (fun _ _ h=>h)) ju (fun i c hc=>(mf i c hc).mono (fun _ _ h=>h) (fun k hk=>⟨(hF k).1 hk,rfl⟩) (fun _ _ h=>h))).mono ?_
 rintro e w' ⟨v,r,bx',β',rfl,hk,sO,ja,bN⟩
 obtain ⟨a1,a2,a3,a4⟩:=sW cY hd sO ja
 exact ⟨v,r,_,β',rfl,⟨bx',hk,a1,rfl⟩,a2,a3,bN.mono (fun _ _ h=>h) (fun k hk=>⟨a4 k hk,rfl⟩) (fun _ _ h=>h)⟩
end
end Go.Pl
namespace Go.Pl
open Go
section
variable {β : Beta} {M : dP} {bx : aa} {w : World}
theorem Tr.fzx {β' : Beta} {M' : dP} {bx' : aa} {w' : World} (h : Tr β bx w β' bx' w') (hx : hH M M' w) {k : Nat} (hk : Fz β M bx w k) : Fz β' M' bx' w' k /\ w'.heap[k]? = w.heap[k]?:=by
 obtain ⟨h1,h2⟩:=h.fz (M:=M) hk
 refine ⟨⟨h1.1,?_,h1.2.2⟩,h2⟩
 cases hm : M' k with
 | none=>rfl
 | some o =>
   have:=hx.new k hk.2.1 (by rw [hm]; simp)
   have:=hk.1
   omega
theorem Tr.ET {β' : Beta} {M' : dP} {bx' : aa} {w' : World} (h : Tr β bx w β' bx' w') (hx : hH M M' w) {v : V} {u : Value} (hr : aP β w (Fz β M bx w) v u) : aP β' w' (Fz β' M' bx' w') v u :=
 hr.mono h.ext (fun _ hk=>h.fzx hx hk) h.shape
theorem Dz (h : eu β M bx w) {b : Nat} (bL : β b = none) (hb : bx b = none) (o : Obj) (box : bI) (Ra : ∀ ty,some box ≠ some (.row ty 0 []))
 (dK : ∀ F',(∀ k,Fz β M bx w k -> F' k /\ (w.alloc o).heap[k]? = w.heap[k]?) -> nG (aA β b (some (some w.heap.size))) (w.alloc o) F' w.heap.size box) :
 eu (aA β b (some (some w.heap.size))) M (aA bx b (some box)) (w.alloc o) /\
 Tr β bx w (aA β b (some (some w.heap.size))) (aA bx b (some box)) (w.alloc o):=by
 have iO : ∀ b' x,β b' = some x -> aA β b (some (some w.heap.size)) b' = some x:=by
  intro b' x hx
  rw [ae _ _ (by rintro rfl; rw [bL] at hx; cases hx)]; exact hx
 have hk : ∀ k,k < w.heap.size -> (w.alloc o).heap[k]? = w.heap[k]?:=fun k hk=>Go.RowKit.Below.heap_alloc w _ k hk
 have hs : ∀ k x,w.shape? k = some x -> (w.alloc o).shape? k = some x:=fun k x hx=>by
  have : k < w.heap.size:=by
   rcases Nat.lt_or_ge k w.heap.size with h1 | h1
   ·exact h1
   ·simp [World.shape?,Array.getElem?_eq_none h1] at hx
  rw [bD (hk k this)]; exact hx
 have hF : ∀ k,Fz β M bx w k -> Fz (aA β b (some (some w.heap.size))) M (aA bx b (some box)) (w.alloc o) k /\ (w.alloc o).heap[k]? = w.heap[k]?:=by
  rintro k ⟨h1,h2,h3⟩
  refine ⟨⟨by simp; omega,h2,fun b' aQ he=>?_⟩,hk k h1⟩
  by_cases e : b' = b
  ·subst e
   rw [af] at he
   injection he with he; injection he with he
   omega
  ·rw [ae _ _ e] at he aQ
   exact h3 b' aQ he
 constructor
 ·refine ⟨?_,fun k o' hM=>(Go.RowKit.Below.heap_alloc w _ k (h.nW hM)).trans (h.mlt k o' hM),fun b' box' aQ=>?_,fun b1 b2 k h1 h2 h3 h4=>?_⟩
  ·obtain ⟨n,hn⟩:=h.fin
   refine ⟨max n (b + 1),fun b' aQ=>?_⟩
   rw [ae _ _ (by omega)]
   exact hn b' (by omega)
  ·by_cases e : b' = b
   ·subst e
    rw [af] at aQ
    injection aQ with aQ
    subst aQ
    exact .inr ⟨w.heap.size,af _ _ _,by simp,h.sy (Nat.le_refl _),dK _ hF⟩
   ·rw [ae _ _ e] at aQ
    rcases h.live b' box' aQ with ⟨h1,h2⟩ | ⟨k,h1,h2,h3,h4⟩
    ·exact .inl ⟨iO _ _ h1,h2⟩
    ·exact .inr ⟨k,iO _ _ h1,by simp; omega,h3,bh h4 (hk k h2) iO hF hs⟩
  ·have old : ∀ b',b' ≠ b -> aA bx b (some box) b' ≠ none -> aA β b (some (some w.heap.size)) b' = some (some k) -> β b' = some (some k) /\ bx b' ≠ none /\ k < w.heap.size:=by
    intro b' bp aQ he
    rw [ae _ _ bp] at aQ he
    refine ⟨he,aQ,?_⟩
    obtain ⟨box,dK⟩:=Option.ne_none_iff_exists'.1 aQ
    exact (iz h dK he).1
   by_cases e1 : b1 = b <;> by_cases e2 : b2 = b
   ·rw [e1,e2]
   ·obtain ⟨_,_,h5⟩:=old b2 e2 h2 h4
    rw [e1,af] at h3; injection h3 with h3; injection h3 with h3; omega
   ·obtain ⟨_,_,h5⟩:=old b1 e1 h1 h3
    rw [e2,af] at h4; injection h4 with h4; injection h4 with h4; omega
   ·obtain ⟨h5,h6,_⟩:=old b1 e1 h1 h3
    obtain ⟨h7,h8,_⟩:=old b2 e2 h2 h4
    exact h.inj b1 b2 k h6 h8 h5 h7
 ·refine ⟨rfl,rfl,rfl,fun _=>Nat.le_refl _,fun hm=>Mk.kh hm Ra,by simp,fun k h1 _=>hk k h1,hs,iO,fun b' k h1 h2=>?_⟩
  by_cases e : b' = b
  ·subst e
   rw [af] at h2
   injection h2 with h2; injection h2 with h2
   exact .inr (by omega)
  ·rw [ae _ _ e] at h1 h2
   exact .inl ⟨b',h1,h2⟩
theorem D0 (h : eu β M bx w) (o : Obj) : eu β (M.set w.heap.size (some o)) bx (w.alloc o) /\ Tr β bx w β bx (w.alloc o) /\ hH M (M.set w.heap.size (some o)) w:=by
 have hk : ∀ k,k < w.heap.size -> (w.alloc o).heap[k]? = w.heap[k]?:=fun k hk=>Go.RowKit.Below.heap_alloc w _ k hk
 have ht : Tr β bx w β bx (w.alloc o):=Tr.grown h rfl rfl rfl (Nat.le_refl _) (by simp) (fun _ _ h=>h) hk
 have hx : hH M (M.set w.heap.size (some o)) w:=by
  refine ⟨fun k o' hM=>?_,fun k h1 h2=>?_,rfl,rfl⟩
  ·rw [dP.ma _ _ (by have:=h.nW hM; omega)]; exact hM
  ·by_cases e : k = w.heap.size
   ·omega
   ·rw [dP.ma _ _ e] at h2; exact absurd h1 h2
 refine ⟨⟨h.fin,fun k o' hM=>?_,fun b box hb=>?_,h.inj⟩,ht,hx⟩
 ·by_cases e : k = w.heap.size
  ·subst e; rw [dP.Ay] at hM; rw [<- hM]; exact World.alloc_heap_new w o
  ·rw [dP.ma _ _ e] at hM
   exact (hk k (h.nW hM)).trans (h.mlt k o' hM)
 ·rcases h.live b box hb with h1 | ⟨k,h1,h2,h3,h4⟩
  ·exact .inl h1
  ·exact .inr ⟨k,h1,by simp; omega,by rw [dP.ma _ _ (by omega)]; exact h3,bh h4 (hk k h2) (fun _ _ h=>h) (fun k hk=>ht.fzx hx hk) ht.shape⟩
theorem Iq (h : eu β M bx w) {b k : Nat} {box : bI} (hb : bx b = some box) (bL : β b = some (some k)) (hs : w.shape? k = none) (o' : Obj) :
 eu β M (aA bx b none) (w.putObj k o') /\ Tr β bx w β (aA bx b none) (w.putObj k o'):=by
 obtain ⟨dt,hM,_⟩:=iz h hb bL
 have eS : ∀ b',aA bx b none b' ≠ none -> bx b' ≠ none /\ b' ≠ b:=by
  intro b' aQ
  by_cases e : b' = b
  ·subst e; simp [af] at aQ
  ·rw [ae _ _ e] at aQ; exact ⟨aQ,e⟩
 have ht : Tr β bx w β (aA bx b none) (w.putObj k o') :=
  ⟨rfl,rfl,rfl,fun _=>Nat.le_refl _,fun hm=>Mk.kh hm (fun _ h=>by cases h),by simp,fun k' h1 h2=>World.putObj_heap_other (by rintro rfl; exact h2 b (by rw [hb]; simp) bL),fun _ _ h=>kG hs h,fun _ _ h=>h,fun b' k' h1 h2=>.inl ⟨b',(eS b' h1).1,h2⟩⟩
 refine ⟨⟨h.fin,fun k' y hk=>(World.putObj_heap_other (by rintro rfl; rw [hM] at hk; cases hk)).trans (h.mlt k' y hk),fun b' box' aQ=>?_,fun b1 b2 k h1 h2 h3 h4=>h.inj b1 b2 k (eS _ h1).1 (eS _ h2).1 h3 h4⟩,ht⟩
 have bp:=(eS b' (by rw [aQ]; simp)).2
 rw [ae _ _ bp] at aQ
 rcases h.live b' box' aQ with h1 | ⟨k',h1,h2,h3,h4⟩
 ·exact .inl h1
 ·have e : k' ≠ k:=by rintro rfl; exact bp (h.inj b' b k' (by rw [aQ]; simp) (by rw [hb]; simp) h1 bL)
  exact .inr ⟨k',h1,by simpa using h2,h3,bh h4 (World.putObj_heap_other e) (fun _ _ h=>h) (fun _ hk=>ht.fz hk) ht.shape⟩
end
end Go.Pl
namespace Go.Pl
open Go
section
variable {ops : Array Oper}
def D1 (ops : Array Oper) (T : Nat -> (St -> Prop) -> St -> Prop) (K : St -> Prop) : Nat -> Array Bool -> St -> Prop
 | 0,listed,st=>Region.ready .any ops listed = [] /\ K st
 | fuel + 1,listed,st=>(Region.ready .any ops listed = [] -> K st) /\ ∀ i ∈ Region.ready .any ops listed,T i (D1 ops T K fuel (listed.setIfInBounds i true)) st
def ec (T : Nat -> (St -> Prop) -> St -> Prop) (K : St -> Prop) : Nat -> Nat -> St -> Prop
 | _,0,st=>K st
 | k,n + 1,st=>T k (ec T K (k + 1) n) st
structure WV (T : Nat -> (St -> Prop) -> St -> Prop) : Prop where
 mono : ∀ i (K K2 : St -> Prop) st,(∀ s,K s -> K2 s) -> T i K st -> T i K2 st
 live : ∀ i (K : St -> Prop) st,T i K st -> ∃ s,K s
theorem A0 {T : Nat -> (St -> Prop) -> St -> Prop} (hT : WV T) {K : St -> Prop} {i : Nat} {oi : Oper} (hi : ops[i]? = some oi) : ∀ (fuel : Nat) (listed : Array Bool) (st : St),sS ops listed ->
 (∀ j oj,ops[j]? = some oj -> j ≠ i -> listed.getD j true = false -> ¬ fC (dx ops) j i -> ∀ K st,T i (T j K) st -> T j (T i K) st) ->
 i ∈ Region.ready .any ops listed -> T i (D1 ops T K fuel (listed.setIfInBounds i true)) st -> D1 ops T K (fuel + 1) listed st:=by
 intro fuel
 induction fuel with
 | zero =>
   intro listed st _ _ hr H
   refine ⟨fun h=>(by rw [h] at hr; cases hr),fun j hj=>?_⟩
   by_cases oQ : j = i
   ·subst oQ; exact H
   ·obtain ⟨s,hs⟩:=hT.live _ _ _ H
    have:=ready_mono hj oQ
    rw [hs.1] at this
    cases this
 | succ fuel ih =>
   intro listed st jn lY hr H
   refine ⟨fun h=>(by rw [h] at hr; cases hr),fun j hj=>?_⟩
   by_cases oQ : j = i
   ·subst oQ; exact H
   ·obtain ⟨wF,oj,lZ,ig⟩:=mem_ready.1 hj
    have Ax:=(mem_ready.1 hr).1
    have HE : ¬ fC (dx ops) j i:=fun hw=>by
     have h1:=gZ jn j oj i lZ ig hw
     rcases Nat.lt_or_ge i listed.size with h' | h'
     ·simp [h'] at h1 Ax; rw [Ax] at h1; cases h1
     ·simp [Array.getElem?_eq_none h'] at h1
    have rP:=lY j oj lZ oQ wF HE
    have h1 : T i (T j (D1 ops T K fuel ((listed.setIfInBounds i true).setIfInBounds j true))) st :=
     hT.mono _ _ _ _ (fun s hs=>hs.2 j (ready_mono hj oQ)) H
    have h2:=rP _ _ h1
    refine hT.mono _ _ _ _ (fun s hs=>?_) h2
    refine ih (listed.setIfInBounds j true) s ?_ ?_ (ready_mono hr (Ne.symm oQ)) ?_
    ·intro k ok hk Dy e he hb
     by_cases pR : k = j
     ·subst pR
      rw [lZ] at hk
      injection hk with hk
      subst hk
      exact getD_set_true (ig e he hb)
     ·rw [getD_set_ne false (Ne.symm pR)] at Dy
      exact getD_set_true (jn k ok hk Dy e he hb)
    ·intro k ok hk hki hun hnw'
     refine lY k ok hk hki ?_ hnw'
     by_cases BF : j = k
     ·subst BF; exact wF
     ·rw [getD_set_ne true BF] at hun; exact hun
    ·rw [Array.setIfInBounds_comm _ _ oQ]
     exact hs
structure LN (ops : Array Oper) (T : Nat -> (St -> Prop) -> St -> Prop) : Prop where
 dep : ∀ k ok,ops[k]? = some ok -> ∀ e ∈ ok.after,Region.binds .any e = true -> e.on < k
 comm : ∀ k ok,ops[k]? = some ok -> ∀ j oj,ops[j]? = some oj -> k < j -> ¬ fC (dx ops) j k -> ∀ K st,T k (T j K) st -> T j (T k K) st
theorem sX {T : Nat -> (St -> Prop) -> St -> Prop} (hT : WV T) (hB : LN ops T) {K : St -> Prop} : ∀ (n k : Nat) (listed : Array Bool) (st : St),listed.size = ops.size -> k + n = ops.size -> (∀ j,j < ops.size -> (listed.getD j false = decide (j < k)) /\ (listed.getD j true = decide (j < k))) ->
 ec T K k n st -> D1 ops T K n listed st
 | 0,k,listed,st,bV,hk,hlist,h=>by
   refine ⟨?_,h⟩
   apply List.eq_nil_iff_forall_not_mem.2
   intro j hj
   obtain ⟨h1,o,ho,_⟩:=mem_ready.1 hj
   have dt:=(Array.getElem?_eq_some_iff.1 ho).1
   rw [(hlist j dt).2] at h1
   simp at h1 hk
   omega
 | n + 1,k,listed,st,bV,hk,hlist,h=>by
   have pY : k < ops.size:=by omega
   have h0 : ops[k]? = some ops[k]:=Array.getElem?_eq_getElem pY
   refine A0 hT h0 n listed st ?_ ?_ ?_ ?_
   ·intro j oj hj lB e he hb
    have lH:=(Array.getElem?_eq_some_iff.1 hj).1
    rw [(hlist j lH).1] at lB
    have BF : j < k:=by simpa using lB
    have:=hB.dep j oj hj e he hb
    rw [(hlist e.on (by omega)).1]
    simp; omega
   ·intro j oj hj bp hun hw
    have lH:=(Array.getElem?_eq_some_iff.1 hj).1
    rw [(hlist j lH).2] at hun
    simp at hun
    exact hB.comm k _ h0 j oj hj (by omega) hw
   ·refine mem_ready.2 ⟨by rw [(hlist k pY).2]; simp,_,h0,fun e he hb=>?_⟩
    have:=hB.dep k _ h0 e he hb
    rw [(hlist e.on (by omega)).1]
    simp; omega
   ·refine hT.mono _ _ _ _ (fun s hs=>sX hT hB n (k + 1) _ s (by simpa using bV) (by omega) (fun j hj=>?_) hs) h
    by_cases e : k = j
    ·subst e
     have : k < listed.size:=by omega
     simp [this]
    ·rw [getD_set_ne false e,getD_set_ne true e,(hlist j hj).1,(hlist j hj).2]
     have : (j < k) ↔ (j < k + 1):=by omega
     simp [this]
theorem o7 {P : Program} {T : Nat -> (St -> Prop) -> St -> Prop} {ro : Option Nat} {n : Nat} {K : St -> Prop} {Q : Exit -> Act -> World -> Prop} {M : dP}
 (hs : ∀ (i : Nat) (o : Oper) (K : St -> Prop) (st : St) (a : Act) (w : World) (β : Beta) (K' : Act -> World -> Prop),ops[i]? = some o -> T i K st -> Rs P β M st a w -> gQ P β M st w K K' -> wpOpIn (rf ro) n P ops Q i K' a w) :
 ∀ (fuel : Nat) (listed : Array Bool) (st : St) (a : Act) (w : World) (β : Beta),D1 ops T K fuel listed st -> Rs P β M st a w -> gQ P β M st w K (Q .normal) ->
 wpAnyIn (rf ro) n P .any ops Q fuel listed a w
 | 0,listed,st,a,w,β,h,hr,hK=>⟨h.1,hK st β a w h.2 hr (Tr.refl _ _ _)⟩
 | fuel + 1,listed,st,a,w,β,h,hr,hK=>⟨fun h0=>hK st β a w (h.1 h0) hr (Tr.refl _ _ _),fun i hi=>by
  obtain ⟨_,o,ho,_⟩:=mem_ready.1 hi
  exact hs i o _ st a w β _ ho (h.2 i hi) hr (fun st' β' a' w' hk cJ ht=>o7 hs fuel _ st' a' w' β' hk cJ (hK.trans ht))⟩
end
end Go.Pl
