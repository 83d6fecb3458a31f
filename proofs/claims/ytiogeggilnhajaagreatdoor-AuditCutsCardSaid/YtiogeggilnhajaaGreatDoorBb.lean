/- Texts of the proof, put together: PlMa, PlMb, PlM, PlN, PlO, PlQ, PlR, PlS, PlFr, PlX. -/
import Derived.Test.YtiogeggilnhajaaGreatDoorBa
import Derived.Maps.RangeRun
import Derived.Orders
import Derived.Still
import Derived.OrdersIn
import Derived.TacticsIn
import Derived.Sort.LoopGhostIn
import Derived.RangeFuncLeaves
import Derived.RangeFuncRecord
import Derived.RangeFuncIn
import Derived.RangeFuncSeq
set_option linter.unusedSimpArgs false
set_option linter.unusedVariables false
namespace Go.Pl
open Go
section
variable {P:Program} {β:Beta} {M:dR} {bx:aa} {w:World}
def lu (β:Beta) (w:World) (F:Nat -> Prop) (es:List (V × V)) (ms:Array MapEntry) (clock:Nat):Prop :=
 ms.size = es.length /\
  (∀ (i:Nat) (m:MapEntry),ms[i]? = some m -> m.born < clock /\ ∀ j m',ms[j]? = some m' -> m'.born = m.born -> j = i) /\
  ∀ (i:Nat) (x:V × V) (m:MapEntry),es[i]? = some x -> ms[i]? = some m -> aP β w F x.1 m.key /\ aP β w F x.2 m.val
theorem yY {β β':Beta} {w w':World} {F F':Nat -> Prop} {es:List (V × V)} {ms:Array MapEntry} {c:Nat} (h:lu β w F es ms c) (bQ:∀ b x,β b = some x -> β' b = some x) (hF:∀ k,F k -> F' k /\ w'.heap[k]? = w.heap[k]?) (hs:∀ k x,w.shape? k = some x -> w'.shape? k = some x):lu β' w' F' es ms c :=
 ⟨h.1,h.2.1,fun i x m h1 h2=>⟨(h.2.2 i x m h1 h2).1.mono bQ hF hs,(h.2.2 i x m h1 h2).2.mono bQ hF hs⟩⟩
def hX (w:World) (k:Nat) (ms:Array MapEntry) (c:Nat):World:={ w with heap:=w.heap.setIfInBounds k (.map ms c) }
theorem oN (w:World) (k k':Nat) (ms:Array MapEntry) (c:Nat) (h:k' ≠ k):(hX w k ms c).heap[k']? = w.heap[k']?:=by
 simp [hX,Array.getElem?_setIfInBounds_ne (Ne.symm h)]
theorem wZ {w:World} {k:Nat} {o:Obj} (ms:Array MapEntry) (c:Nat) (h:w.heap[k]? = some o):(hX w k ms c).heap[k]? = some (.map ms c):=by
 have hk:k < w.heap.size:=(Array.getElem?_eq_some_iff.1 h).1
 simp [hX,hk]
theorem vB (h:er β M bx w) {b k:Nat} {es:List (V × V)} (hb:bx b = some (.map es)) (bQ:β b = some (some k)) {ms:Array MapEntry} {c:Nat} (aU:w.heap[k]? = some (.map ms c))
 (ny:Array MapEntry) (c':Nat) (j7:List (V × V)) (hr:lu β w (Fz β M bx w) j7 ny c') :
 er β M (aB bx b (some (.map j7))) (hX w k ny c') /\ Tr β bx w β (aB bx b (some (.map j7))) (hX w k ny c'):=by
 have hk:∀ k',k' ≠ k -> (hX w k ny c').heap[k']? = w.heap[k']?:=fun k' bB=>oN w k k' ny c' bB
 have jx:=wZ ny c' aU
 have bW:(hX w k ny c').heap.size = w.heap.size:=by simp [hX]
 have hs:∀ k' x,w.shape? k' = some x -> (hX w k ny c').shape? k' = some x:=fun k' x hx=>by
  by_cases e:k' = k
  ·subst e
   simp [World.shape?,aU] at hx
  ·rw [bI (hk k' e)]; exact hx
 have fc:∀ b',aB bx b (some (.map j7)) b' ≠ none ↔ bx b' ≠ none:=by
  intro b'
  by_cases e:b' = b
  ·subst e; simp [af,hb]
  ·rw [ae _ _ e]
 have hF:∀ k',Fz β M bx w k' -> Fz β M (aB bx b (some (.map j7))) (hX w k ny c') k' /\ (hX w k ny c').heap[k']? = w.heap[k']?:=by
  rintro k' ⟨h1,h2,h3⟩
  refine ⟨⟨by rw [bW]; exact h1,h2,fun b' aR he=>h3 b' ((fc b').1 aR) he⟩,hk k' ?_⟩
  rintro rfl
  exact h3 b (by simp [hb]) bQ
 constructor
 ·refine ⟨h.fin,fun k' o hM=>(hk k' (fun e=>by
   subst e
   rcases h.live b _ hb with ⟨h1,_⟩ | ⟨k2,h1,_,h3,_⟩
   ·rw [bQ] at h1; cases h1
   ·rw [bQ] at h1; injection h1 with h1; injection h1 with h1; subst h1
    rw [h3] at hM; cases hM)).trans (h.mlt k' o hM),fun b' box aR=>?_,fun b1 b2 k' h1 h2 h3 h4=>h.inj b1 b2 k' ((fc _).1 h1) ((fc _).1 h2) h3 h4⟩
  by_cases e:b' = b
  ·subst e
   rw [af] at aR
   injection aR with aR
   subst aR
   rcases h.live b' _ hb with ⟨h1,_⟩ | ⟨k',h1,h2,h3,_⟩
   ·rw [bQ] at h1; cases h1
   ·rw [bQ] at h1; injection h1 with h1; injection h1 with h1; subst h1
    exact .inr ⟨k,bQ,by rw [bW]; exact h2,h3,ny,c',jx,yY hr (fun _ _ h=>h) hF hs⟩
  ·rw [ae _ _ e] at aR
   rcases h.live b' box aR with ⟨h1,h2⟩ | ⟨k',h1,h2,h3,h4⟩
   ·exact .inl ⟨h1,h2⟩
   ·refine .inr ⟨k',h1,by rw [bW]; exact h2,h3,bn h4 (hk k' ?_) (fun _ _ h=>h) hF hs⟩
    rintro rfl
    exact e (h.inj b' b k' (by simp [aR]) (by simp [hb]) h1 bQ)
 ·refine ⟨rfl,rfl,rfl,fun _=>Nat.le_refl _,fun ⟨b',mj,hm⟩=>?_,by rw [bW]; exact Nat.le_refl _,fun k' h1 h2=>hk k' ?_,hs,fun _ _ h=>h,fun b' k' h1 h2=>.inl ⟨b',(fc b').1 h1,h2⟩⟩
  ·by_cases e:b' = b
   ·subst e
    rw [af] at hm
    injection hm with hm
    cases hm
   ·exact ⟨b',mj,by rwa [ae _ _ e] at hm⟩
  rintro rfl
  exact h2 b (by simp [hb]) bQ
theorem D3 (h:er β M bx w) {b:Nat} (bQ:β b = none) (hb:bx b = none) :
 er (aB β b (some (some w.heap.size))) M (aB bx b (some (.map []))) (w.alloc (.map #[] 0)) /\
 Tr β bx w (aB β b (some (some w.heap.size))) (aB bx b (some (.map []))) (w.alloc (.map #[] 0)):=by
 have iW:∀ b' x,β b' = some x -> aB β b (some (some w.heap.size)) b' = some x:=by
  intro b' x hx
  rw [ae _ _ (by rintro rfl; rw [bQ] at hx; cases hx)]; exact hx
 have hk:∀ k,k < w.heap.size -> (w.alloc (.map #[] 0)).heap[k]? = w.heap[k]?:=fun k hk=>Go.RowKit.Below.heap_alloc w _ k hk
 have hs:∀ k x,w.shape? k = some x -> (w.alloc (.map #[] 0)).shape? k = some x:=fun k x hx=>by
  have:=iX hx
  rw [bI (hk k this)]; exact hx
 have hF:∀ k,Fz β M bx w k -> Fz (aB β b (some (some w.heap.size))) M (aB bx b (some (.map []))) (w.alloc (.map #[] 0)) k /\ (w.alloc (.map #[] 0)).heap[k]? = w.heap[k]?:=by
  rintro k ⟨h1,h2,h3⟩
  refine ⟨⟨by simp; omega,h2,fun b' aR he=>?_⟩,hk k h1⟩
  by_cases e:b' = b
  ·subst e; rw [af] at he; injection he with he; injection he with he; omega
  ·rw [ae _ _ e] at he aR
   exact h3 b' aR he
 constructor
 ·refine ⟨?_,fun k o hM=>(hk k (h.oE hM)).trans (h.mlt k o hM),fun b' box aR=>?_,fun b1 b2 k h1 h2 h3 h4=>?_⟩
  ·obtain ⟨n,hn⟩:=h.fin
   refine ⟨max n (b + 1),fun b' aR=>?_⟩
   rw [ae _ _ (by omega)]
   exact hn b' (by omega)
  ·by_cases e:b' = b
   ·subst e
    rw [af] at aR
    injection aR with aR
    subst aR
    exact .inr ⟨w.heap.size,af _ _ _,by simp,h.sU (Nat.le_refl _),#[],0,heap_alloc_new w _,rfl,fun i m hi=>by simp at hi,fun i x m hi=>by simp at hi⟩
   ·rw [ae _ _ e] at aR
    rcases h.live b' box aR with ⟨h1,h2⟩ | ⟨k,h1,h2,h3,h4⟩
    ·exact .inl ⟨iW _ _ h1,h2⟩
    ·exact .inr ⟨k,iW _ _ h1,by simp; omega,h3,bn h4 (hk k h2) iW hF hs⟩
  ·have old:∀ b',b' ≠ b -> aB bx b (some (.map [])) b' ≠ none -> aB β b (some (some w.heap.size)) b' = some (some k) -> β b' = some (some k) /\ bx b' ≠ none /\ k < w.heap.size:=by
    intro b' bB aR he
    rw [ae _ _ bB] at aR he
    refine ⟨he,aR,?_⟩
    obtain ⟨box,dP⟩:=Option.ne_none_iff_exists'.1 aR
    rcases h.live b' box dP with ⟨h5,_⟩ | ⟨k',h5,h6,_⟩
    ·rw [h5] at he; cases he
    ·rw [h5] at he; injection he with he; injection he with he; omega
   by_cases e1:b1 = b <;> by_cases e2:b2 = b
   ·rw [e1,e2]
   ·obtain ⟨_,_,h5⟩:=old b2 e2 h2 h4
    rw [e1,af] at h3; injection h3 with h3; injection h3 with h3; omega
   ·obtain ⟨_,_,h5⟩:=old b1 e1 h1 h3
    rw [e2,af] at h4; injection h4 with h4; injection h4 with h4; omega
   ·obtain ⟨h5,h6,_⟩:=old b1 e1 h1 h3
    obtain ⟨h7,h8,_⟩:=old b2 e2 h2 h4
    exact h.inj b1 b2 k h6 h8 h5 h7
 ·refine ⟨rfl,rfl,rfl,fun _=>Nat.le_refl _,fun hm=>Mk.kA hm (fun ty e=>by cases e),by simp,fun k h1 _=>hk k h1,hs,iW,fun b' k h1 h2=>?_⟩
  by_cases e:b' = b
  ·subst e
   rw [af] at h2
   injection h2 with h2; injection h2 with h2
   exact .inr (by omega)
  ·rw [ae _ _ e] at h1 h2
   exact .inl ⟨b',h1,h2⟩
theorem Rs.Mj {st:St} {a:Act} (h:Rs P β M st a w) {K:St -> Prop} {K':Act -> World -> Prop} (hK:∀ st' β' a' w',K st' -> Rs P β' M st' a' w' -> Tr β st.bx w β' st'.bx w' -> K' a' w')
 {dst:Option Tmp} (hd:aL st dst) (hk:∀ b,st.bx b = none -> K ((st.box b (some (.map []))).put dst (.mp b))) :
 K' (a.put dst (.map (some w.heap.size))) (w.alloc (.map #[] 0)):=by
 obtain ⟨b,h1,h2⟩:=h.ok.fresh
 obtain ⟨h3,h4⟩:=D3 h.ok h1 h2
 refine hK _ _ _ _ (hk b h2) (((h.step h3 h4)).put (st:={ st with bx:=_ }) ?_ (.mp b _ (af _ _ _))) ?_
 ·cases dst <;> exact hd
 ·cases dst <;> exact h4
theorem jP {a:V}:∀ {es:List (V × V)} {i j:Nat} {v:V},fq a es i = some (some (j,v)) -> i <= j /\ ∃ e,es[j - i]? = some e /\ e.2 = v /\ lO a e.1 = some true
 | [],i,j,v,h=>by simp [fq] at h
 | e :: es,i,j,v,h=>by
   rw [fq] at h
   cases hs:lO a e.1 with
   | none=>rw [hs] at h; cases h
   | some c =>
     rw [hs] at h
     cases c with
     | true =>
       simp only [Option.some.injEq,Prod.mk.injEq] at h
       obtain ⟨rfl,rfl⟩:=h
       exact ⟨Nat.le_refl _,e,by simp,rfl,hs⟩
     | false =>
       obtain ⟨h1,e',h2,h3⟩:=jP h
       refine ⟨by omega,e',?_,h3⟩
       rw [show j - i = (j - (i + 1)) + 1 from by omega,List.getElem?_cons_succ]
       exact h2
theorem yZ {F:Nat -> Prop} {a b:V} {ua ub:Value} (h:lO a b = some true) (ra:aP β w F a ua) (rb:aP β w F b ub):ub = ua /\ Instr.sameBits 10000 ub ua = true:=by
 unfold lO at h
 split at h
 ·split at h
  ·rename_i hk
   subst hk
   have he:=Option.some.inj h
   rw [beq_iff_eq] at he
   subst he
   rw [ra.bE,rb.bE]
   exact ⟨rfl,by simp [Instr.sameBits]⟩
  ·cases h
 ·obtain ⟨x,rfl,rfl⟩:=ra.eg
  obtain ⟨y,rfl,rfl⟩:=rb.eg
  have he:=Option.some.inj h
  rw [beq_iff_eq] at he
  have hxy:y = x:=by
   obtain ⟨⟨x⟩⟩:=x
   obtain ⟨⟨y⟩⟩:=y
   simp at he
   rw [he]
  subst hxy
  exact ⟨rfl,by unfold Instr.sameBits; exact (Go.MapKept.bytes_beq _ _).2 rfl⟩
 ·have he:=Option.some.inj h
  rw [beq_iff_eq] at he
  subst he
  cases ra; cases rb
  exact ⟨rfl,by simp [Instr.sameBits]⟩
 ·cases h
theorem AG {F:Nat -> Prop} {t kt et:TypeId} {a v:V} {k u:Value} {r c:Nat} {ms:Array MapEntry} {es j7:List (V × V)} (ht:bC P t = .map kt et) (hk:oI (bC P kt) a = true) (ra:aP β w F a k) (rv:aP β w F v u)
 (hb:w.heap[r]? = some (.map ms c)) (hm:lu β w F es ms c) (hp:wG a v es = some j7) :
 ∃ ny c',(Instr.mapUpdate t (.map (some r)) k u).run P w = .ok () (hX w r ny c') /\ lu β w F j7 ny c':=by
 obtain ⟨d,hd,_⟩:=kn hk
 obtain ⟨h1,h2,h3⟩:=hm
 have hf:=fun r h=>kS hk hd ra es ms.toList 0 r (by simp [h1]) (fun j x m g1 g2=>h3 j x m g1 (by simpa using g2)) h
 unfold wG at hp
 split at hp
 ·rename_i i x iR
  injection hp with hp
  subst hp
  rcases hf _ iR with ⟨h4,_⟩ | ⟨j,v',u',h4,h5,_⟩
  ·cases h4
  ·injection h4 with h4
   injection h4 with h4 h4'
   subst h4 h4'
   obtain ⟨_,e,D2,_,PT⟩:=jP iR
   rw [Nat.sub_zero] at D2
   have nR:i < es.length:=(List.getElem?_eq_some_iff.1 D2).1
   have Av:i < ms.size:=by omega
   obtain ⟨r1,_⟩:=h3 i e ms[i] D2 (Array.getElem?_eq_getElem Av)
   obtain ⟨g1,g2⟩:=yZ PT ra r1
   refine ⟨ms.modify i fun e=>{ e with key:=k,val:=u },c,?_,by simp [h1],?_,?_⟩
   ·unfold Instr.mapUpdate Instr.findKey Instr.keyThatStays
    simp [run_underlying (fS ht),Go.MapKept.run_getObj_map hb,run_checkKey hk,run_underlying hd,h5,Go.MapKept.run_setObj_map _ hb,Av,g2,hX]
   ·have re:∀ (q:Nat) (m:MapEntry),(ms.modify i fun e=>{ e with key:=k,val:=u })[q]? = some m -> ∃ m0,ms[q]? = some m0 /\ m.born = m0.born:=by
     intro q m hq
     rw [Array.getElem?_modify] at hq
     split at hq
     ·cases uV:ms[q]? with
      | none=>rw [uV] at hq; cases hq
      | some m0=>rw [uV] at hq; exact ⟨m0,rfl,by rw [<- Option.some.inj hq]⟩
     ·exact ⟨m,hq,rfl⟩
    intro q m hq
    obtain ⟨m0,RI,dH⟩:=re q m hq
    obtain ⟨g3,g4⟩:=h2 q m0 RI
    refine ⟨by rw [dH]; exact g3,fun q' m' uL ff=>?_⟩
    obtain ⟨m1,I5,eK⟩:=re q' m' uL
    exact g4 q' m1 I5 (by rw [<- eK,ff,dH])
   ·intro q x m hx hq
    rw [Array.getElem?_modify] at hq
    by_cases e:i = q
    ·subst e
     rw [List.getElem?_set_self nR] at hx
     rw [if_pos rfl,Array.getElem?_eq_getElem Av] at hq
     obtain rfl:=Option.some.inj hx
     obtain rfl:=Option.some.inj hq
     exact ⟨ra,rv⟩
    ·rw [if_neg e] at hq
     rw [List.getElem?_set_ne e] at hx
     exact h3 q x m hx hq
 ·rename_i iR
  injection hp with hp
  subst hp
  rcases hf _ iR with ⟨_,h5⟩ | ⟨j,v',u',h4,_⟩
  ·refine ⟨ms.push { key:=k,val:=u,born:=c },c + 1,?_,by simp [h1],?_,?_⟩
   ·unfold Instr.mapUpdate Instr.findKey
    simp [run_underlying (fS ht),Go.MapKept.run_getObj_map hb,run_checkKey hk,run_underlying hd,h5,Go.MapKept.run_setObj_map _ hb,hX]
   ·have Ml:∀ (q:Nat) (m:MapEntry),(ms.push { key:=k,val:=u,born:=c })[q]? = some m -> (ms[q]? = some m /\ m.born < c) \/ (q = ms.size /\ m.born = c):=by
     intro q m hq
     rw [Array.getElem?_push] at hq
     split at hq
     ·rename_i e; exact .inr ⟨e,by rw [<- Option.some.inj hq]⟩
     ·exact .inl ⟨hq,(h2 q m hq).1⟩
    intro q m hq
    rcases Ml q m hq with ⟨g1,g2⟩ | ⟨g1,g2⟩
    ·refine ⟨by omega,fun q' m' uL ff=>?_⟩
     rcases Ml q' m' uL with ⟨g3,_⟩ | ⟨_,g4⟩
     ·exact (h2 q m g1).2 q' m' g3 ff
     ·omega
    ·refine ⟨by omega,fun q' m' uL ff=>?_⟩
     rcases Ml q' m' uL with ⟨_,g4⟩ | ⟨g3,_⟩
     ·omega
     ·omega
   ·intro q x m hx hq
    rw [Array.getElem?_push] at hq
    split at hq
    ·rename_i e
     subst e
     obtain rfl:=Option.some.inj hq
     rw [h1,List.getElem?_append_right (Nat.le_refl _)] at hx
     simp at hx
     subst hx
     exact ⟨ra,rv⟩
    ·rename_i e
     have hql:=(Array.getElem?_eq_some_iff.1 hq).1
     rw [List.getElem?_append_left (by omega)] at hx
     exact h3 q x m hx hq
  ·cases h4
 ·cases hp
theorem AH {F:Nat -> Prop} {t t2 ty kt et:TypeId} {a:V} {k:Value} {r c:Nat} {ms:Array MapEntry} {es j7:List (V × V)} (ht:bC P t = .map kt et) (hk:oI (bC P kt) a = true) (ra:aP β w F a k)
 (hb:w.heap[r]? = some (.map ms c)) (hm:lu β w F es ms c) (hp:wH a es = some j7) :
 ∃ ny c',(Builtin.delete_ #[t,t2] ty #[.map (some r),k]).run P w = .ok (.tuple #[]) (hX w r ny c') /\ lu β w F j7 ny c':=by
 obtain ⟨d,hd,_⟩:=kn hk
 obtain ⟨h1,h2,h3⟩:=hm
 have hf:=fun r h=>kS hk hd ra es ms.toList 0 r (by simp [h1]) (fun j x m g1 g2=>h3 j x m g1 (by simpa using g2)) h
 unfold wH at hp
 split at hp
 ·rename_i i x iR
  injection hp with hp
  subst hp
  rcases hf _ iR with ⟨h4,_⟩ | ⟨j,v',u',h4,h5,_⟩
  ·cases h4
  ·injection h4 with h4
   injection h4 with h4 h4'
   subst h4 h4'
   obtain ⟨_,e,D2,_,PT⟩:=jP iR
   rw [Nat.sub_zero] at D2
   have nR:i < es.length:=(List.getElem?_eq_some_iff.1 D2).1
   have Av:i < ms.size:=by omega
   have eI:∀ q:Nat,(ms.eraseIdxIfInBounds i)[q]? = ms[if q < i then q else q + 1]?:=by
    intro q
    rw [<- Array.getElem?_toList,Array.eraseIdxIfInBounds_eq,dif_pos Av,Array.toList_eraseIdx,List.getElem?_eraseIdx]
    split <;> simp
   refine ⟨ms.eraseIdxIfInBounds i,c,?_,?_,?_,?_⟩
   ·unfold Builtin.delete_ Instr.findKey
    simp [run_underlying (fS ht),Go.MapKept.run_getObj_map hb,run_checkKey hk,run_underlying hd,h5,Go.MapKept.run_setObj_map _ hb,hX]
   ·rw [Array.eraseIdxIfInBounds_eq,dif_pos Av,Array.size_eraseIdx,List.length_eraseIdx_of_lt nR,h1]
   ·intro q m hq
    rw [eI] at hq
    refine ⟨(h2 _ m hq).1,fun q' m' uL ff=>?_⟩
    rw [eI] at uL
    have:=(h2 _ m hq).2 _ m' uL ff
    split at this <;> split at this <;> omega
   ·intro q x m hx hq
    rw [eI] at hq
    rw [List.getElem?_eraseIdx] at hx
    split at hx
    ·rename_i dr
     rw [if_pos dr] at hq
     exact h3 _ x m hx hq
    ·rename_i dr
     rw [if_neg dr] at hq
     exact h3 _ x m hx hq
 ·rename_i iR
  injection hp with hp
  subst hp
  rcases hf _ iR with ⟨_,h5⟩ | ⟨j,v',u',h4,_⟩
  ·refine ⟨ms,c,?_,h1,h2,h3⟩
   unfold Builtin.delete_ Instr.findKey
   simp [run_underlying (fS ht),Go.MapKept.run_getObj_map hb,run_checkKey hk,run_underlying hd,h5,Go.MapKept.run_setObj_map _ hb,hX]
  ·cases h4
 ·cases hp
theorem D4 {F:Nat -> Prop} {t kt et:TypeId} {a:V} {k z:Value} {r c:Nat} {ms:Array MapEntry} {es wS:List (V × V)} {j:Nat} {v:V} (ht:bC P t = .map kt et) (hz:aV P et = some z) (hk:oI (bC P kt) a = true) (ra:aP β w F a k)
 (hb:w.heap[r]? = some (.map ms c)) (hm:lu β w F es ms c) (hp:kD a (ofValue z) es = some (wS,j,v)) :
 ∃ ny c' m u,(Instr.mapEntry t (.map (some r)) k).run P w = .ok (.tuple #[u,.int .i64 (m.born:Int)]) (hX w r ny c') /\ lu β w F wS ny c' /\ ny[j]? = some m /\ aP β w F v u:=by
 obtain ⟨d,hd,_⟩:=kn hk
 obtain ⟨h1,h2,h3⟩:=hm
 have hf:=fun r h=>kS hk hd ra es ms.toList 0 r (by simp [h1]) (fun j x m g1 g2=>h3 j x m g1 (by simpa using g2)) h
 unfold kD at hp
 split at hp
 ·rename_i i x iR
  injection hp with hp
  injection hp with e1 e2
  injection e2 with e2 e3
  subst e1 e2 e3
  rcases hf _ iR with ⟨h4,_⟩ | ⟨j,v',u',h4,h5,h6⟩
  ·cases h4
  ·injection h4 with h4
   injection h4 with h4 h4'
   subst h4 h4'
   obtain ⟨_,e,D2,he3,PT⟩:=jP iR
   rw [Nat.sub_zero] at D2
   have nR:i < es.length:=(List.getElem?_eq_some_iff.1 D2).1
   have Av:i < ms.size:=by omega
   obtain ⟨r1,r2⟩:=h3 i e ms[i] D2 (Array.getElem?_eq_getElem Av)
   obtain ⟨g1,g2⟩:=yZ PT ra r1
   refine ⟨ms.modify i fun e=>{ e with key:=k },c,{ ms[i] with key:=k },u',?_,⟨by simp [h1],?_,?_⟩,?_,h6.1⟩
   ·unfold Instr.mapEntry Instr.findKey Instr.keyThatStays
    simp [run_underlying (fS ht),Go.MapKept.run_getObj_map hb,run_checkKey hk,run_underlying hd,h5,Go.MapKept.run_setObj_map _ hb,Av,g2,hX,goInt]
   ·have re:∀ (q:Nat) (m:MapEntry),(ms.modify i fun e=>{ e with key:=k })[q]? = some m -> ∃ m0,ms[q]? = some m0 /\ m.born = m0.born:=by
     intro q m hq
     rw [Array.getElem?_modify] at hq
     split at hq
     ·cases uV:ms[q]? with
      | none=>rw [uV] at hq; cases hq
      | some m0=>rw [uV] at hq; exact ⟨m0,rfl,by rw [<- Option.some.inj hq]⟩
     ·exact ⟨m,hq,rfl⟩
    intro q m hq
    obtain ⟨m0,RI,dH⟩:=re q m hq
    obtain ⟨g3,g4⟩:=h2 q m0 RI
    refine ⟨by rw [dH]; exact g3,fun q' m' uL ff=>?_⟩
    obtain ⟨m1,I5,eK⟩:=re q' m' uL
    exact g4 q' m1 I5 (by rw [<- eK,ff,dH])
   ·intro q x m hx hq
    rw [Array.getElem?_modify] at hq
    by_cases e:i = q
    ·subst e
     rw [if_pos rfl,Array.getElem?_eq_getElem Av] at hq
     obtain rfl:=Option.some.inj hq
     rw [D2] at hx
     obtain rfl:=Option.some.inj hx
     exact ⟨by rw [<- g1]; exact r1,r2⟩
    ·rw [if_neg e] at hq
     exact h3 q x m hx hq
   ·rw [Array.getElem?_modify,if_pos rfl,Array.getElem?_eq_getElem Av]
    rfl
 ·rename_i iR
  injection hp with hp
  injection hp with e1 e2
  injection e2 with e2 e3
  subst e1 e2 e3
  rcases hf _ iR with ⟨_,h5⟩ | ⟨j,v',u',h4,_⟩
  ·refine ⟨ms.push { key:=k,val:=z,born:=c },c + 1,{ key:=k,val:=z,born:=c },z,?_,⟨by simp [h1],?_,?_⟩,?_,dp z⟩
   ·unfold Instr.mapEntry Instr.findKey
    simp [run_underlying (fS ht),Go.MapKept.run_getObj_map hb,run_checkKey hk,run_underlying hd,h5,Go.MapKept.run_setObj_map _ hb,hX,goInt,iV hz]
   ·have Ml:∀ (q:Nat) (m:MapEntry),(ms.push { key:=k,val:=z,born:=c })[q]? = some m -> (ms[q]? = some m /\ m.born < c) \/ (q = ms.size /\ m.born = c):=by
     intro q m hq
     rw [Array.getElem?_push] at hq
     split at hq
     ·rename_i e; exact .inr ⟨e,by rw [<- Option.some.inj hq]⟩
     ·exact .inl ⟨hq,(h2 q m hq).1⟩
    intro q m hq
    rcases Ml q m hq with ⟨g1,g2⟩ | ⟨g1,g2⟩
    ·refine ⟨by omega,fun q' m' uL ff=>?_⟩
     rcases Ml q' m' uL with ⟨g3,_⟩ | ⟨_,g4⟩
     ·exact (h2 q m g1).2 q' m' g3 ff
     ·omega
    ·refine ⟨by omega,fun q' m' uL ff=>?_⟩
     rcases Ml q' m' uL with ⟨_,g4⟩ | ⟨g3,_⟩
     ·omega
     ·omega
   ·intro q x m hx hq
    rw [Array.getElem?_push] at hq
    split at hq
    ·rename_i e
     subst e
     obtain rfl:=Option.some.inj hq
     rw [h1,List.getElem?_append_right (Nat.le_refl _)] at hx
     simp at hx
     subst hx
     exact ⟨ra,dp z⟩
    ·rename_i e
     have hql:=(Array.getElem?_eq_some_iff.1 hq).1
     rw [List.getElem?_append_left (by omega)] at hx
     exact h3 q x m hx hq
   ·rw [<- h1,Array.getElem?_push,if_pos rfl]
  ·cases h4
 ·cases hp
end
end Go.Pl
namespace Go.Pl
open Go
section
variable {P:Program} {β:Beta} {M:dR} {bx:aa} {w:World}
theorem eL (h:er β M bx w) {b k:Nat} {box:bF} (hb:bx b = some box) (bQ:β b = some (some k)):k < w.heap.size /\ M k = none /\ od β w (Fz β M bx w) k box:=by
 rcases h.live b box hb with ⟨h1,_⟩ | ⟨k',h1,h2,h3,h4⟩
 ·rw [bQ] at h1; cases h1
 ·rw [bQ] at h1; injection h1 with h1; injection h1 with h1; subst h1
  exact ⟨h2,h3,h4⟩
theorem xc (h:er β M bx w) {b k:Nat} {box box':bF} (hb:bx b = some box) (bQ:β b = some (some k)) {w':World} (vz:w'.os = w.os) (htp:w'.tape = w.tape) (hou:w'.output = w.output) (wR:w.drawn <= w'.drawn) (bW:w'.heap.size = w.heap.size)
 (xd:∀ k',k' ≠ k -> w'.heap[k']? = w.heap[k']?) (vr:w.shape? k = none) (RJ:∀ ty,some box' ≠ some (.row ty 0 []))
 (dP:∀ F',(∀ k',Fz β M bx w k' -> F' k' /\ w'.heap[k']? = w.heap[k']?) -> (∀ k x,w.shape? k = some x -> w'.shape? k = some x) -> od β w' F' k box') :
 er β M (aB bx b (some box')) w' /\ Tr β bx w β (aB bx b (some box')) w':=by
 have hs:∀ k' x,w.shape? k' = some x -> w'.shape? k' = some x:=fun k' x hx=>by
  by_cases e:k' = k
  ·subst e; rw [vr] at hx; cases hx
  ·rw [bI (xd k' e)]; exact hx
 have fc:∀ b',aB bx b (some box') b' ≠ none ↔ bx b' ≠ none:=by
  intro b'
  by_cases e:b' = b
  ·subst e; simp [af,hb]
  ·rw [ae _ _ e]
 obtain ⟨dr,Fc,_⟩:=eL h hb bQ
 have hF:∀ k',Fz β M bx w k' -> Fz β M (aB bx b (some box')) w' k' /\ w'.heap[k']? = w.heap[k']?:=by
  rintro k' ⟨h1,h2,h3⟩
  refine ⟨⟨by rw [bW]; exact h1,h2,fun b' aR he=>h3 b' ((fc b').1 aR) he⟩,xd k' ?_⟩
  rintro rfl
  exact h3 b (by simp [hb]) bQ
 constructor
 ·refine ⟨h.fin,fun k' o hM=>(xd k' (fun e=>by subst e; rw [Fc] at hM; cases hM)).trans (h.mlt k' o hM),fun b' bx2 aR=>?_,fun b1 b2 k' h1 h2 h3 h4=>h.inj b1 b2 k' ((fc _).1 h1) ((fc _).1 h2) h3 h4⟩
  by_cases e:b' = b
  ·subst e
   rw [af] at aR
   injection aR with aR
   subst aR
   exact .inr ⟨k,bQ,by rw [bW]; exact dr,Fc,dP _ hF hs⟩
  ·rw [ae _ _ e] at aR
   rcases h.live b' bx2 aR with ⟨h1,h2⟩ | ⟨k',h1,h2,h3,h4⟩
   ·exact .inl ⟨h1,h2⟩
   ·refine .inr ⟨k',h1,by rw [bW]; exact h2,h3,bn h4 (xd k' ?_) (fun _ _ h=>h) hF hs⟩
    rintro rfl
    exact e (h.inj b' b k' (by simp [aR]) (by simp [hb]) h1 bQ)
 ·exact ⟨vz,htp,hou,fun _=>wR,fun hm=>Mk.kA hm RJ,by rw [bW]; exact Nat.le_refl _,fun k' h1 h2=>xd k' (fun e=>by subst e; exact h2 b (by simp [hb]) bQ),hs,fun _ _ h=>h,fun b' k' h1 h2=>.inl ⟨b',(fc b').1 h1,h2⟩⟩
theorem I6 (h:er β M bx w) {b:Nat} (bQ:β b = none) (hb:bx b = none) (o:Obj) (box:bF) (RJ:∀ ty,some box ≠ some (.row ty 0 []))
 (dP:∀ F',(∀ k,Fz β M bx w k -> F' k /\ (w.alloc o).heap[k]? = w.heap[k]?) -> od (aB β b (some (some w.heap.size))) (w.alloc o) F' w.heap.size box) :
 er (aB β b (some (some w.heap.size))) M (aB bx b (some box)) (w.alloc o) /\
 Tr β bx w (aB β b (some (some w.heap.size))) (aB bx b (some box)) (w.alloc o):=by
 have iW:∀ b' x,β b' = some x -> aB β b (some (some w.heap.size)) b' = some x:=by
  intro b' x hx
  rw [ae _ _ (by rintro rfl; rw [bQ] at hx; cases hx)]; exact hx
 have hk:∀ k,k < w.heap.size -> (w.alloc o).heap[k]? = w.heap[k]?:=fun k hk=>Go.RowKit.Below.heap_alloc w _ k hk
 have hs:∀ k x,w.shape? k = some x -> (w.alloc o).shape? k = some x:=fun k x hx=>by
  have:=iX hx
  rw [bI (hk k this)]; exact hx
 have hF:∀ k,Fz β M bx w k -> Fz (aB β b (some (some w.heap.size))) M (aB bx b (some box)) (w.alloc o) k /\ (w.alloc o).heap[k]? = w.heap[k]?:=by
  rintro k ⟨h1,h2,h3⟩
  refine ⟨⟨by simp; omega,h2,fun b' aR he=>?_⟩,hk k h1⟩
  by_cases e:b' = b
  ·subst e
   rw [af] at he
   injection he with he; injection he with he
   omega
  ·rw [ae _ _ e] at he aR
   exact h3 b' aR he
 constructor
 ·refine ⟨?_,fun k o' hM=>(Go.RowKit.Below.heap_alloc w _ k (h.oE hM)).trans (h.mlt k o' hM),fun b' box' aR=>?_,fun b1 b2 k h1 h2 h3 h4=>?_⟩
  ·obtain ⟨n,hn⟩:=h.fin
   refine ⟨max n (b + 1),fun b' aR=>?_⟩
   rw [ae _ _ (by omega)]
   exact hn b' (by omega)
  ·by_cases e:b' = b
   ·subst e
    rw [af] at aR
    injection aR with aR
    subst aR
    exact .inr ⟨w.heap.size,af _ _ _,by simp,h.sU (Nat.le_refl _),dP _ hF⟩
   ·rw [ae _ _ e] at aR
    rcases h.live b' box' aR with ⟨h1,h2⟩ | ⟨k,h1,h2,h3,h4⟩
    ·exact .inl ⟨iW _ _ h1,h2⟩
    ·exact .inr ⟨k,iW _ _ h1,by simp; omega,h3,bn h4 (hk k h2) iW hF hs⟩
  ·have old:∀ b',b' ≠ b -> aB bx b (some box) b' ≠ none -> aB β b (some (some w.heap.size)) b' = some (some k) -> β b' = some (some k) /\ bx b' ≠ none /\ k < w.heap.size:=by
    intro b' bB aR he
    rw [ae _ _ bB] at aR he
    refine ⟨he,aR,?_⟩
    obtain ⟨box,dP⟩:=Option.ne_none_iff_exists'.1 aR
    exact (eL h dP he).1
   by_cases e1:b1 = b <;> by_cases e2:b2 = b
   ·rw [e1,e2]
   ·obtain ⟨_,_,h5⟩:=old b2 e2 h2 h4
    rw [e1,af] at h3; injection h3 with h3; injection h3 with h3; omega
   ·obtain ⟨_,_,h5⟩:=old b1 e1 h1 h3
    rw [e2,af] at h4; injection h4 with h4; injection h4 with h4; omega
   ·obtain ⟨h5,h6,_⟩:=old b1 e1 h1 h3
    obtain ⟨h7,h8,_⟩:=old b2 e2 h2 h4
    exact h.inj b1 b2 k h6 h8 h5 h7
 ·refine ⟨rfl,rfl,rfl,fun _=>Nat.le_refl _,fun hm=>Mk.kA hm RJ,by simp,fun k h1 _=>hk k h1,hs,iW,fun b' k h1 h2=>?_⟩
  by_cases e:b' = b
  ·subst e
   rw [af] at h2
   injection h2 with h2; injection h2 with h2
   exact .inr (by omega)
  ·rw [ae _ _ e] at h1 h2
   exact .inl ⟨b',h1,h2⟩
end
end Go.Pl
namespace Go.Pl
open Go
section
variable {P:Program} {β:Beta} {M:dR} {w:World}
abbrev hH (P:Program) (β:Beta) (M:dR) (st:St) (w:World) (K:St -> Prop) (K':Act -> World -> Prop):Prop :=
 ∀ st' β' a' w',K st' -> Rs P β' M st' a' w' -> Tr β st.bx w β' st'.bx w' -> K' a' w'
theorem hH.put {st:St} {a:Act} {K:St -> Prop} {K':Act -> World -> Prop} (hK:hH P β M st w K K') (hr:Rs P β M st a w) {dst:Option Tmp} (hd:aL st dst) {v:V} {u:Value} (hv:aP β w (Fz β M st.bx w) v u) (h:K (st.put dst v)):K' (a.put dst u) w :=
 hK _ _ _ _ h (hr.put hd hv) (by cases dst <;> exact Tr.refl _ _ _)
theorem hH.trans {st st':St} {β':Beta} {w':World} {K:St -> Prop} {K':Act -> World -> Prop} (hK:hH P β M st w K K') (h:Tr β st.bx w β' st'.bx w'):hH P β' M st' w' K K' :=
 fun st2 β2 a2 w2 hk hr ht=>hK st2 β2 a2 w2 hk hr (h.trans ht)
theorem D5 {st:St} {a:Act} (hr:Rs P β M st a w) {s d e:TypeId} {x:V} {u:Value} (h1:bC P s = .str) (h2:bC P d = .slice e) (hc:(km P s d x).1) (rx:aP β w (Fz β M st.bx w) x u) :
 ∃ v w',(convert s d u).run P w = .ok v w' /\ er β M st.bx w' /\ Tr β st.bx w β st.bx w' /\ aP β w' (Fz β M st.bx w') (km P s d x).2 v:=by
 unfold km at hc ⊢
 cases hx:x.strip with
 | str b =>
   simp only [h1,h2,hx] at hc ⊢
   obtain ⟨hl,hu,hn⟩:=hc
   obtain rfl:=aG hl hx
   obtain ⟨q,rfl,rfl⟩:=rx.eg
   have hq:q.size = q.data.toList.length:=by show q.data.size = _; simp
   have hk:∀ k,k < w.heap.size -> (Lib.bytesWorld w e q).heap[k]? = w.heap[k]?:=fun k hk=>Lib.bytesWorld_at_old w e q k hk
   have bW:w.heap.size <= (Lib.bytesWorld w e q).heap.size:=by rw [Lib.bytesWorld_size]; omega
   have c8:er β M st.bx (Lib.bytesWorld w e q):=hr.ok.grown bW hr.ok.fin (fun _ _ h=>h) hk
   have jk:Tr β st.bx w β st.bx (Lib.bytesWorld w e q):=Tr.grown hr.ok rfl rfl rfl (Nat.le_succ w.drawn) bW (fun _ _ h=>h) hk
   refine ⟨_,_,Lib.run_convert_string_bytes w s d e q (ft h1) (bA h2) (iQ hu),c8,jk,?_⟩
   have kP:q.size <= grownCap w q.size 0 e /\ grownCap w q.size 0 e <= maxLen:=⟨grownCap_ge w q.size 0 e,grownCap_le_maxLen w q.size 0 e (by rw [hq]; simpa [maxLen] using hn)⟩
   have sb:Fz β M st.bx (Lib.bytesWorld w e q) w.heap.size:=by
    refine ⟨by rw [Lib.bytesWorld_size]; omega,hr.ok.sU (Nat.le_refl _),fun b hb he=>?_⟩
    obtain ⟨box,dP⟩:=Option.ne_none_iff_exists'.1 hb
    rcases hr.ok.live b box dP with ⟨h3,_⟩ | ⟨k',h3,h4,_⟩
    ·rw [h3] at he; cases he
    ·rw [h3] at he; injection he with he; injection he with he; omega
   have key:=aP.sl (β:=β) (w:=Lib.bytesWorld w e q) (F:=Fz β M st.bx (Lib.bytesWorld w e q)) 1 (q.data.toList.map dN) (some ⟨w.heap.size,0,none⟩) (grownCap w q.size 0 e) (fun j=>.int .u8 (q.data.toList.getD j 0).toNat)
    (by simpa [<- hq] using kP.1) kP.2 (by simp) (by simp [dN,V.cells]) ?_ ?_
   ·simpa [<- hq] using key
   ·intro i c j c' hi hj
    simp only [List.getElem?_map,Option.map_eq_some_iff] at hi
    obtain ⟨y,hy,rfl⟩:=hi
    have Fe:j = 0:=by
     have:=(List.getElem?_eq_some_iff.1 hj).1
     simp [dN,V.cells] at this
     exact this
    subst Fe
    have hiq:i < q.size:=by rw [hq]; exact (List.getElem?_eq_some_iff.1 hy).1
    refine ⟨⟨w.heap.size,0,none⟩,rfl,sb,?_,rfl⟩
    have:=Lib.bytesWorld_cell w e q i hiq
    simp only [Nat.mul_one,Nat.add_zero]
    rw [show (⟨w.heap.size,0,none⟩:Addr).add i = ⟨w.heap.size,i,none⟩ by unfold Addr.add; by_cases h0:i = 0 <;> simp [h0]]
    exact this
   ·intro i c j c' hi hj
    simp only [List.getElem?_map,Option.map_eq_some_iff] at hi
    obtain ⟨y,hy,rfl⟩:=hi
    have Fe:j = 0:=by
     have:=(List.getElem?_eq_some_iff.1 hj).1
     simp [dN,V.cells] at this
     exact this
    subst Fe
    obtain rfl:dN y = c':=by simpa [dN,V.cells] using hj
    have e1:q.data.toList.getD i 0 = y:=by simp only [List.getD,hy,Option.getD_some]
    simp only [Nat.mul_one,Nat.add_zero,e1]
    exact .int _ _
 | _=>simp [h1,h2,hx,dt] at hc
theorem KV {st:St} {a:Act} {o:Oper} {K':Act -> World -> Prop} {Q:Exit -> Act -> World -> Prop} (hr:Rs P β M st a w) (hc:(ev P st o).1)
 (h:∀ u w',Rs P β M st a w' -> Tr β st.bx w β st.bx w' -> aP β w' (Fz β M st.bx w') (ev P st o).2 u -> K' (a.put o.dst u) w'):o.wp P a w K' Q:=by
 have stay:∀ v,(execOp a.eval o).run P w = .ok (.value v) w -> aP β w (Fz β M st.bx w) (ev P st o).2 v -> o.wp P a w K' Q:=by
  intro v h1 h2
  unfold Oper.wp
  rw [h1]
  exact h v w hr (Tr.refl _ _ _) h2
 by_cases rZ:wE P o = false
 ·obtain ⟨v,h1,h2⟩:=Fa (P:=P) hr.KS hr.ok.R7 hr.gl rZ hc
  exact stay v h1 h2
 ·obtain ⟨dst,op,type,pos,after,guard⟩:=o
  unfold wE at rZ
  simp only at rZ
  split at rZ
  ·rename_i s d x
   split at rZ
   ·rename_i e h1 h2
    obtain ⟨v,w',h3,h4,h5,h6⟩:=D5 hr h1 h2 hc (hr.get x)
    have de:Rs P β M st a w':=⟨h4,fun t=>h5.rep (hr.sl t),hr.sz,hr.df,Nat.le_trans hr.bs h5.size,hr.gl.imp (fun _ _ hh=>h5.rep hh) h5.shape⟩
    unfold Oper.wp
    have:(execOp a.eval ⟨dst,.convert s d x,type,pos,after,guard⟩).run P w = .ok (.value v) w':=by
     show (do pure (Next.value (<- convert s d (a.eval x))):Sem Next).run P w = _
     rw [Sem.run_bind,h3]; rfl
    rw [this]
    exact h v w' de h5 h6
   ·exact absurd rfl rZ
  ·exact absurd rfl rZ
theorem Ff {a:Act} {dst:Option Tmp} {type:TypeId} {pos:String} {after:Array Edge} {guard:Option (Nat × Bool)} {c:Call} {f:Operand} (hc:c.callee = .value f) {g:FuncId} {fs us:Array Value}
 (hf:a.eval f = .func (.func g) fs us) (he:∀ vs w,(callFunc g vs).run P w = .ok (.enter g vs) w):(execOp a.eval ⟨dst,.call c,type,pos,after,guard⟩).run P w = .ok (.enter g (fs ++ c.args.map a.eval ++ us)) w:=by
 obtain ⟨callee,args,ts⟩:=c
 subst hc
 simp [execOp,resolve,Deferred.ofValue,invoke,hf,he]
theorem Fg {st:St} {a:Act} {F:Nat -> Prop} {f:Operand} {args:Array Operand} {g:FuncId} {vs:List V} (h:callee st f args.toList = some (g,vs)) (hl:eV st f args.toList)
 (hg:∀ x,aP β w F (st.get x) (a.eval x)):∃ fs us,a.eval f = .func (.func g) fs us /\ (fs ++ args.map a.eval ++ us).size = vs.length /\ ∀ (i:Nat) (c:V),vs[i]? = some c -> aP β w F c ((fs ++ args.map a.eval ++ us).getD i undef):=by
 unfold callee at h
 split at h
 ·rename_i g' caps hf
  simp only [Option.some.injEq,Prod.mk.injEq] at h
  obtain ⟨rfl,rfl⟩:=h
  obtain ⟨h1,h2⟩:=hl
  have hfv:=aG h1 hf
  have rf:=hg f
  rw [hfv] at rf
  generalize a.eval f = uf at rf
  cases rf with
  | fn _ _ us hl hr =>
    refine ⟨#[],us,rfl,by simp [hl],fun i c hc=>?_⟩
    rw [Array.empty_append]
    by_cases hi:i < args.size
    ·rw [List.getElem?_append_left (by simpa using hi)] at hc
     simp only [List.getElem?_map,Array.getElem?_toList,Option.map_eq_some_iff] at hc
     obtain ⟨x,hx,rfl⟩:=hc
     rw [aS (h2 x (by simpa using Array.mem_of_getElem? hx))]
     have:(args.map a.eval ++ us).getD i undef = a.eval x:=by
      have:=(Array.getElem?_eq_some_iff.1 hx).2
      simp [Array.getElem?_append,hi,this]
     rw [this]
     exact hg x
    ·rw [List.getElem?_append_right (by simpa using hi)] at hc
     have:=hr _ c hc
     simp only [List.length_map,Array.length_toList] at this
     have e:(args.map a.eval ++ us).getD i undef = us.getD (i - args.size) undef:=by
      simp [Array.getElem?_append,hi]
     rw [e]
     exact this
 ·rename_i g' r hf
  simp only [Option.some.injEq,Prod.mk.injEq] at h
  obtain ⟨rfl,rfl⟩:=h
  obtain ⟨h1,h2⟩:=hl
  have hfv:=aG h1 hf
  have rf:=hg f
  rw [hfv] at rf
  generalize a.eval f = uf at rf
  cases rf with
  | fn _ _ us hl hr hy=>exact absurd rfl (hy _ _ rfl)
  | bm _ _ u hu =>
    refine ⟨#[u],#[],rfl,by simp; omega,fun i c hc=>?_⟩
    rw [Array.append_empty]
    rcases i with _ | i
    ·simp at hc
     subst hc
     have:(#[u] ++ args.map a.eval).getD 0 undef = u:=by simp [Array.getElem?_append]
     rw [this]; exact hu
    ·simp only [List.getElem?_cons_succ,List.getElem?_map,Array.getElem?_toList,Option.map_eq_some_iff] at hc
     obtain ⟨x,hx,rfl⟩:=hc
     rw [aS (h2 x (by simpa using Array.mem_of_getElem? hx))]
     have hi:i < args.size:=(Array.getElem?_eq_some_iff.1 hx).1
     have:(#[u] ++ args.map a.eval).getD (i + 1) undef = a.eval x:=by
      have:=(Array.getElem?_eq_some_iff.1 hx).2
      simp [Array.getElem?_append,hi,this]
     rw [this]
     exact hg x
 ·cases h
theorem xe {st:St} {a:Act} {o:Oper} {c:Call} (ho:o.op = .call c) {f:Operand} (hf:c.callee = .value f) {K':Act -> World -> Prop} {Q:Exit -> Act -> World -> Prop} (hr:Rs P β M st a w) {g:FuncId} {vs:List V} (jQ:callee st f c.args.toList = some (g,vs))
 (hl:eV st f c.args.toList) {Kc:V -> aa -> Prop} (iZ:aw P g vs st.bx Kc)
 (h:∀ u r bx' β' w',Kc r bx' -> er β' M bx' w' -> Tr β st.bx w β' bx' w' -> aP β' w' (Fz β' M bx' w') r u -> K' (a.put o.dst u) w'):o.wp P a w K' Q:=by
 obtain ⟨dst,op,type,pos,after,guard⟩:=o
 simp only at ho
 subst ho
 obtain ⟨fs,us,h1,h2,h3⟩:=Fg jQ hl (fun x=>hr.get x)
 unfold Oper.wp
 rw [Ff hf h1 iZ.1]
 refine (iZ.2 β M w _ hr.ok hr.gl h2 h3).mono ?_
 rintro e w' ⟨v,r,bx',β',rfl,hk,c8,jk,bO⟩
 exact h v r bx' β' w' hk c8 jk bO
theorem za {t ty:TypeId} {u:Value} {k o:Nat} {cur:Array Value} {fr:Nat × Nat} (fb:cY P t = true) (bW:u.cells.size = aF P t) (aU:w.heap[k]? = some (.cells cur ty fr)) (iA:p0 cur.size fr) (fB:o + u.cells.size <= cur.size) (h1:∀ v,v ∈ u.cells.toList -> v.oneCell' = true) :
 (Instr.storeAt t (.pointer (some ⟨k,o,none⟩)) u).run P w = .ok () (w.setRow k (cur.toList.take o ++ u.cells.toList ++ cur.toList.drop (o + u.cells.size)).toArray):=by
 obtain ⟨inf,y7,mf⟩:=fT fb
 have h2:=du (P:=P) k o ty fr u.cells.toList 0 cur w aU iA (by simpa using fB) h1
 simp only [Nat.add_zero,Array.length_toList] at h2
 unfold Instr.storeAt storeVar sizeOf typeInfo Instr.sureAddr
 simp [y7,bW,mf,h2]
theorem AI {F:Nat -> Prop} {c:V} {u:Value} (h:aP β w F c u) (h1:u.oneCell' = true):c.cells = [c]:=by
 cases h <;> first | rfl | (simp [Value.oneCell'] at h1)
theorem AJ {F:Nat -> Prop} {e v:V} {u:Value} {sz o:Nat} (hl:e.cells.length = sz) (ho:okV v = true) (fB:o + v.cells.length <= sz) (eJ:0 < v.cells.length) (hr:aP β w F v u) (cur cur':Array Value) (base:Nat)
 (he:∀ (j:Nat) (c:V),e.cells[j]? = some c -> (cur.getD (base + j) undef).oneCell' = true /\ aP β w F c (cur.getD (base + j) undef))
 (aU:∀ m,base <= m -> m < base + sz -> cur'.getD m undef = if base + o <= m /\ m < base + o + v.cells.length then u.cells.getD (m - (base + o)) undef else cur.getD m undef) :
 (bh e o v.cells).cells.length = sz /\ ∀ (j:Nat) (c:V),(bh e o v.cells).cells[j]? = some c -> (cur'.getD (base + j) undef).oneCell' = true /\ aP β w F c (cur'.getD (base + j) undef):=by
 have hu:=hI ho hr
 have main:∀ ds:List V,ds.length = sz -> (∀ (j:Nat) (c:V),ds[j]? = some c -> (o <= j /\ j < o + v.cells.length /\ v.cells[j - o]? = some c) \/ (¬ (o <= j /\ j < o + v.cells.length) /\ e.cells[j]? = some c)) ->
  ∀ (j:Nat) (c:V),ds[j]? = some c -> (cur'.getD (base + j) undef).oneCell' = true /\ aP β w F c (cur'.getD (base + j) undef):=by
  intro ds KW hd j c hc
  have hj:=(List.getElem?_eq_some_iff.1 hc).1
  rw [aU _ (by omega) (by omega)]
  rcases hd j c hc with ⟨h1,h2,h3⟩ | ⟨h1,h2⟩
  ·rw [if_pos (by omega)]
   have e2:base + j - (base + o) = j - o:=by omega
   rw [e2]
   exact hu.2 _ c h3
  ·rw [if_neg (by omega)]
   exact he j c h2
 have I7:∀ cs:List V,cs = e.cells -> (cs.take o ++ v.cells ++ cs.drop (o + v.cells.length)).length = sz /\ (∀ (j:Nat) (c:V),(cs.take o ++ v.cells ++ cs.drop (o + v.cells.length))[j]? = some c -> (o <= j /\ j < o + v.cells.length /\ v.cells[j - o]? = some c) \/ (¬ (o <= j /\ j < o + v.cells.length) /\ e.cells[j]? = some c)):=by
  rintro cs rfl
  refine ⟨by simp; omega,fun j c hc=>?_⟩
  have RK:(e.cells.take o).length = o:=by simp; omega
  by_cases h1:j < o
  ·rw [List.append_assoc,List.getElem?_append_left (by omega),List.getElem?_take,if_pos h1] at hc
   exact .inr ⟨by omega,hc⟩
  ·by_cases h2:j < o + v.cells.length
   ·rw [List.append_assoc,List.getElem?_append_right (by omega),RK,List.getElem?_append_left (by omega)] at hc
    exact .inl ⟨by omega,h2,hc⟩
   ·rw [List.getElem?_append_right (by simp; omega),List.getElem?_drop] at hc
    have e3:o + v.cells.length + (j - (e.cells.take o ++ v.cells).length) = j:=by simp; omega
    rw [e3] at hc
    exact .inr ⟨by omega,hc⟩
 have hY:∀ (cs:List V) (v':V),cs = e.cells -> v.cells = [v'] -> (cs.set o v').length = sz /\ (∀ (j:Nat) (c:V),(cs.set o v')[j]? = some c -> (o <= j /\ j < o + v.cells.length /\ v.cells[j - o]? = some c) \/ (¬ (o <= j /\ j < o + v.cells.length) /\ e.cells[j]? = some c)):=by
  rintro cs v' rfl wY
  refine ⟨by simpa using hl,fun j c hc=>?_⟩
  rw [wY] at fB
  simp only [wY,List.length_singleton] at fB ⊢
  by_cases h1:j = o
  ·subst h1
   rw [List.getElem?_set_self (by omega)] at hc
   exact .inl ⟨Nat.le_refl _,by omega,by simpa using hc⟩
  ·rw [List.getElem?_set_ne (Ne.symm h1)] at hc
   exact .inr ⟨by omega,hc⟩
 cases e with
 | agg cs =>
   cases hvc:v.cells with
   | nil=>simp [hvc] at eJ
   | cons v' vs =>
     cases vs with
     | nil =>
       obtain ⟨h1,h2⟩:=hY cs v' rfl hvc
       have e1:bh (.agg cs) o [v'] = .agg (cs.set o v'):=rfl
       rw [e1]
       exact ⟨h1,main _ h1 h2⟩
     | cons v2 vs =>
       obtain ⟨h1,h2⟩:=I7 cs rfl
       rw [hvc] at h1 h2
       have e1:bh (.agg cs) o (v' :: v2 :: vs) = .agg (cs.take o ++ (v' :: v2 :: vs) ++ cs.drop (o + (v' :: v2 :: vs).length)):=rfl
       rw [e1]
       rw [<- hvc] at h1 h2 ⊢
       exact ⟨h1,main _ h1 h2⟩
 | _ =>
   simp only [V.cells,List.length_singleton] at hl
   obtain ⟨v',wY⟩:∃ v',v.cells = [v']:=by
    cases hvc:v.cells with
    | nil=>simp [hvc] at eJ
    | cons v' vs =>
      cases vs with
      | nil=>exact ⟨v',rfl⟩
      | cons v2 vs=>simp [hvc] at fB; omega
   have ho0:o = 0:=by simp [wY] at fB; omega
   subst ho0
   have h3:=hu.2 0 v' (by rw [wY]; rfl)
   have h4:=AI h3.2 h3.1
   have e1:∀ x:V,bh x 0 v.cells = v' \/ ∃ cs,x = .agg cs:=by
    intro x
    rw [wY]
    cases x <;> first | exact .inl rfl | exact .inr ⟨_,rfl⟩
   rcases e1 _ with h5 | ⟨cs,h5⟩
   ·rw [h5,h4]
    refine ⟨by simpa using hl,fun j c hc=>?_⟩
    match j,hc with
    | 0,hc =>
      simp at hc
      subst hc
      rw [aU _ (by omega) (by omega),if_pos (by rw [wY]; simp)]
      simpa using h3
    | j + 1,hc=>simp at hc
   ·cases h5
theorem rj {cur us:Array Value} {p:Nat} (fB:p + us.size <= cur.size) (m:Nat):(cur.toList.take p ++ us.toList ++ cur.toList.drop (p + us.size)).toArray.getD m undef = if p <= m /\ m < p + us.size then us.getD (m - p) undef else cur.getD m undef:=by
 simp only [Array.getD_eq_getD_getElem?,List.getElem?_toArray]
 have RK:(cur.toList.take p).length = p:=by simp; omega
 by_cases h1:m < p
 ·rw [if_neg (by omega),List.append_assoc,List.getElem?_append_left (by omega),List.getElem?_take,if_pos h1,Array.getElem?_toList]
 ·by_cases h2:m < p + us.size
  ·rw [if_pos (by omega),List.append_assoc,List.getElem?_append_right (by omega),RK,List.getElem?_append_left (by simp; omega),Array.getElem?_toList]
  ·rw [if_neg (by omega),List.getElem?_append_right (by simp; omega),List.getElem?_drop]
   have e3:p + us.size + (m - (cur.toList.take p ++ us.toList).length) = m:=by simp; omega
   rw [e3,Array.getElem?_toList]
theorem zb {w:World} {k:Nat} {cur:Array Value} {ty:TypeId} {fr:Nat × Nat} (aU:w.heap[k]? = some (.cells cur ty fr)) {m:Nat} (iA:p0 m fr) :
 (w.freeze ⟨k,m,none⟩ 1).heap[k]? = some (.cells cur ty (m,m + 1)) /\ (∀ q,q ≠ k -> (w.freeze ⟨k,m,none⟩ 1).heap[q]? = w.heap[q]?) /\ (w.freeze ⟨k,m,none⟩ 1).heap.size = w.heap.size:=by
 unfold World.freeze
 rw [if_neg (by decide)]
 refine ⟨?_,fun q hq=>?_,by simp⟩
 ·simp only [Array.getElem?_modify,if_pos,aU,Option.map_some]
  rcases iA with rfl | rfl
  ·rfl
  ·simp
 ·simp only [Array.getElem?_modify]
  rw [if_neg (Ne.symm hq)]
theorem Fh {bx:aa} (h:er β M bx w) {b k:Nat} {ty:TypeId} {sz:Nat} {es:List V} (hb:bx b = some (.row ty sz es)) (bQ:β b = some (some k)) {cur:Array Value} {fr:Nat × Nat} (aU:w.heap[k]? = some (.cells cur ty fr)) {m:Nat} (iA:p0 m fr) :
 er β M (aB bx b none) (w.freeze ⟨k,m,none⟩ 1) /\ Tr β bx w β (aB bx b none) (w.freeze ⟨k,m,none⟩ 1):=by
 obtain ⟨jx,xd,bW⟩:=zb aU iA
 have vz:(w.freeze ⟨k,m,none⟩ 1).os = w.os /\ (w.freeze ⟨k,m,none⟩ 1).tape = w.tape /\ (w.freeze ⟨k,m,none⟩ 1).output = w.output /\ (w.freeze ⟨k,m,none⟩ 1).drawn = w.drawn:=by
  unfold World.freeze; rw [if_neg (by decide)]; exact ⟨rfl,rfl,rfl,rfl⟩
 generalize w.freeze ⟨k,m,none⟩ 1 = w' at *
 have pD:=h.live b _ hb
 obtain ⟨dr,hM⟩:k < w.heap.size /\ M k = none:=by
  rcases pD with ⟨h1,_⟩ | ⟨k',h1,h2,h3,_⟩
  ·rw [bQ] at h1; cases h1
  ·rw [bQ] at h1; injection h1 with h1; injection h1 with h1; subst h1; exact ⟨h2,h3⟩
 have fc:∀ b',aB bx b none b' ≠ none -> bx b' ≠ none /\ b' ≠ b:=by
  intro b' aR
  by_cases e:b' = b
  ·subst e; simp [af] at aR
  ·rw [ae _ _ e] at aR; exact ⟨aR,e⟩
 have hs:∀ q x,w.shape? q = some x -> w'.shape? q = some x:=by
  intro q x hx
  by_cases e:q = k
  ·subst e; rw [bN jx,<- bN aU]; exact hx
  ·rw [bI (xd q e)]; exact hx
 have ht:Tr β bx w β (aB bx b none) w' :=
  ⟨vz.1,vz.2.1,vz.2.2.1,fun _=>by rw [vz.2.2.2]; exact Nat.le_refl _,fun hm=>Mk.kA hm (fun _ h=>by cases h),by omega,fun q h1 h2=>xd q (by rintro rfl; exact h2 b (by rw [hb]; simp) bQ),hs,fun _ _ h=>h,fun b' q h1 h2=>.inl ⟨b',(fc b' h1).1,h2⟩⟩
 refine ⟨⟨h.fin,fun q y hq=>(xd q (by rintro rfl; rw [hM] at hq; cases hq)).trans (h.mlt q y hq),fun b' box' aR=>?_,fun b1 b2 q h1 h2 h3 h4=>h.inj b1 b2 q (fc _ h1).1 (fc _ h2).1 h3 h4⟩,ht⟩
 have bB:=(fc b' (by rw [aR]; simp)).2
 rw [ae _ _ bB] at aR
 rcases h.live b' box' aR with h1 | ⟨k',h1,h2,h3,h4⟩
 ·exact .inl h1
 ·have e:k' ≠ k:=by rintro rfl; exact bB (h.inj b' b k' (by rw [aR]; simp) (by rw [hb]; simp) h1 bQ)
  exact .inr ⟨k',h1,by omega,h3,bn h4 (xd k' e) (fun _ _ h=>h) (fun _ hk=>ht.fz hk) ht.shape⟩
theorem I8 {s e:TypeId} {k n cap:Nat} {ty:TypeId} {cur:Array Value} {fr:Nat × Nat} (h1:P.underlying s = some (.slice e)) (h2:P.underlying e = some (.int .u8)) (aU:w.heap[k]? = some (.cells cur ty fr)) :
 (convert s s (.slice (some ⟨k,0,none⟩) n cap)).run P w = .ok (.slice (some ⟨k,0,none⟩) n cap) (w.freeze ⟨k,cur.size,none⟩ 1):=by
 have vr:=bN aU
 simp [convert,run_underlying h1,run_underlying h2,markStringish,vr]
theorem D6 {t ty e:TypeId} {z:Value} (ht:P.underlying t = some (.slice e)) (hz:aV P e = some z) {blk o n cap:Nat} (Mm:∀ v,v ∈ (Builtin.zeroCells z.cells n).toList -> v.oneCell' = true) {mj:TypeId} {cur:Array Value} {fr:Nat × Nat} (hn:0 < n) (aU:w.heap[blk]? = some (.cells cur mj fr)) (iA:p0 cur.size fr) (fB:o + (Builtin.zeroCells z.cells n).size <= cur.size) :
 (Builtin.clear_ #[t] ty #[.slice (some ⟨blk,o,none⟩) n cap]).run P w = .ok (.tuple #[]) (w.setRow blk (cur.toList.take o ++ (Builtin.zeroCells z.cells n).toList ++ cur.toList.drop (o + (Builtin.zeroCells z.cells n).size)).toArray):=by
 obtain ⟨i,h1,h2⟩:=ko hz
 have iB:=du (P:=P) blk o mj fr (Builtin.zeroCells z.cells n).toList 0 cur w aU iA (by simpa using fB) Mm
 simp only [Nat.add_zero,Array.length_toList] at iB
 obtain ⟨m,rfl⟩:∃ m,n = m + 1:=⟨n - 1,by omega⟩
 simp [Builtin.clear_,run_underlying ht,zeroValue,typeInfo,h1,h2,iB]
theorem AK {t:TypeId} {name:String} {g:FuncId} (h:p9 P t name = some g) (u:Value) (n:Nat):(method (n + 1) t u name).run P w = .ok (g,u) w:=by
 unfold p9 at h
 split at h
 ·rename_i e i hk hi
  split at h
  ·rename_i m hm
   split at h
   ·rename_i hp
    split at h
    ·rename_i f hf
     injection h with h
     subst h
     have hu:P.underlying t = some (.pointer e):=by
      unfold bC at hk; split at hk <;> simp_all
     have rX:m.path.toList = []:=by simpa using hp
     unfold method typeInfo
     simp [hi,hm,rX,follow,hf,receiverAt,run_underlying hu,Place.get]
    ·cases h
   ·cases h
  ·cases h
 ·cases h
theorem Mn {st:St} {a:Act} {o:Oper} {c:Call} (ho:o.op = .call c) {recv:Operand} {name:String} (hf:c.callee = .invoke recv name) {K':Act -> World -> Prop} {Q:Exit -> Act -> World -> Prop} (hr:Rs P β M st a w)
 {K:St -> Prop} (hinv:uQ P st o.dst (st.get recv) name (c.args.toList.map st.get) K) (hK:hH P β M st w K K'):o.wp P a w K' Q:=by
 obtain ⟨dst,op,type,pos,after,guard⟩:=o
 simp only at ho
 subst ho
 obtain ⟨callee,args,ts⟩:=c
 simp only at hf hinv
 subst hf
 unfold uQ at hinv
 split at hinv
 ·rename_i t v PU
  split at hinv
  ·rename_i g hg
   obtain ⟨hl,hd,iZ⟩:=hinv
   have rr:=hr.get recv
   rw [PU] at rr
   generalize hru:a.eval recv = ur at rr
   cases rr with
   | iface t v u ru =>
     have dX:(execOp a.eval ⟨dst,.call ⟨.invoke recv name,args,ts⟩,type,pos,after,guard⟩).run P w = .ok (.enter g (#[u] ++ args.map a.eval)) w:=by
      have h0:(#[Value.iface t u] ++ args.map a.eval).extract 1 (args.size + 1) = args.map a.eval:=by
       apply Array.toList_inj.1
       simp
       exact List.take_of_length_le (by simp)
      show (do let d <- resolve a.eval ⟨.invoke recv name,args,ts⟩ type; invoke d.target d.args:Sem Next).run P w = _
      simp only [resolve,Sem.run_bind,Sem.run_pure,Result.andThen_ok,invoke,hru]
      have h1:(#[Value.iface t u] ++ args.map a.eval)[0]? = some (.iface t u):=by rw [Array.getElem?_append_left (by simp)]; rfl
      simp only [h1]
      have h2:(#[Value.iface t u] ++ args.map a.eval).size = args.size + 1:=by simp; omega
      rw [h2,h0]
      unfold callMethod
      simp only [Sem.run_bind,Go.program,Sem.run,Result.andThen_ok]
      have h3:=fun n=>AK (w:=w) hg u n
      have I9:0 < Made.depth:=by decide
      have KW:P.types.size + Made.depth = (P.types.size + Made.depth - 1) + 1:=by omega
      rw [KW,h3]
      simp only [Result.andThen_ok]
      exact iZ.1 _ _
     unfold Oper.wp
     rw [dX]
     refine (iZ.2 β M w _ hr.ok hr.gl (by simp; omega) (fun i x hx=>?_)).mono ?_
     ·rcases i with _ | i
      ·simp at hx
       subst hx
       have:(#[u] ++ args.map a.eval).getD 0 undef = u:=by
        rw [Array.getD_eq_getD_getElem?,Array.getElem?_append_left (by simp)]; rfl
       rw [this]
       exact ru
      ·simp only [List.getElem?_cons_succ,List.getElem?_map,Option.map_eq_some_iff] at hx
       obtain ⟨y,⟨z,hz,rfl⟩,rfl⟩:=hx
       have hza:args[i]? = some z:=by simpa using hz
       rw [aS (hl _ (List.mem_map.2 ⟨z,by simpa using Array.mem_of_getElem? hza,rfl⟩))]
       have:(#[u] ++ args.map a.eval).getD (i + 1) undef = a.eval z:=by
        simp [Array.getD_eq_getD_getElem?,Array.getElem?_append,hza]
       rw [this]
       exact hr.get z
     ·rintro e w' ⟨v',r,bx',β',rfl,hk,c8,jk,bO⟩
      exact hK _ _ _ _ hk ((hr.step c8 jk).put (by cases dst <;> exact hd) bO) (by cases dst <;> exact jk)
  ·exact hinv.elim
 ·exact hinv.elim
theorem Fi {st:St} {a:Act} {o:Oper} {t:TypeId} {m k x:Operand} (hdst:o.dst = none) (ho:(execOp a.eval o).run P w = (do Instr.mapUpdate t (a.eval m) (a.eval k) (a.eval x); pure Next.skip:Sem Next).run P w) {K':Act -> World -> Prop} {Q:Exit -> Act -> World -> Prop} (hr:Rs P β M st a w)
 {K:St -> Prop} (lx:p8 P st t (st.get m) (st.get k) (st.get x) K) (hK:hH P β M st w K K'):o.wp P a w K' Q:=by
 obtain ⟨dst,op,type,pos,after,guard⟩:=o
 simp only at hdst
 subst hdst
 unfold p8 at lx
 split at lx
 ·rename_i kt et b hk hm
  split at lx
  ·rename_i es hb
   split at lx
   ·rename_i j7 hp
    obtain ⟨hl,jx,jZ⟩:=lx
    rw [aS hl] at jx hp
    have rm:=hr.get m
    rw [hm] at rm
    generalize hmu:a.eval m = um at rm
    cases rm with
    | mp b k' bQ =>
      rcases hr.ok.live b _ hb with ⟨h1,_⟩ | ⟨k2,h1,_,_,Mo⟩
      ·rw [bQ] at h1; cases h1
      ·rw [bQ] at h1
       injection h1 with h1
       injection h1 with h1
       subst h1
       obtain ⟨ms,c,aU,h2,h3,h4⟩:=Mo
       obtain ⟨ny,c',dX,bO⟩:=AG hk jx (hr.get k) (hr.get x) aU ⟨h2,h3,h4⟩ hp
       obtain ⟨h5,h6⟩:=vB hr.ok hb bQ aU ny c' j7 bO
       unfold Oper.wp
       rw [ho,hmu]
       simp only [Sem.run_bind,dX,Result.andThen_ok,Sem.run_pure]
       exact hK _ _ _ _ jZ (hr.step h5 h6) h6
   ·exact lx.elim
  ·exact lx.elim
 ·exact lx.elim
theorem Fj {β:Beta} {w:World} {F:Nat -> Prop} {k:Nat} {es:List (V × V)} {bs:List Nat} {c:Nat} (h:A4 β w F k es bs c):bs.length = es.length /\ bs.Nodup /\ ∀ q,q ∈ bs -> q < c:=by
 obtain ⟨ms,h1,rfl,h3,h4,h5⟩:=h
 refine ⟨by simp [h3],?_,fun q hq=>?_⟩
 ·rw [List.nodup_iff_pairwise_ne,List.pairwise_map,List.pairwise_iff_getElem]
  intro i j hi hj IA e
  have y9:i < ms.size:=by simpa using hi
  have BT:j < ms.size:=by simpa using hj
  have:=(h4 i ms[i] (by simp [y9])).2 j ms[j] (by simp [BT]) (by simpa using e.symm)
  omega
 ·obtain ⟨m,hm,rfl⟩:=List.mem_map.1 hq
  obtain ⟨i,hi⟩:=List.getElem?_of_mem hm
  exact (h4 i m (by simpa using hi)).1
theorem ID {st:St} {a:Act} {dst:Option Tmp} {t type:TypeId} {m k:Operand} {pos:String} {after:Array Edge} {guard:Option (Nat × Bool)} {K':Act -> World -> Prop} {Q:Exit -> Act -> World -> Prop} (hr:Rs P β M st a w)
 {K:St -> Prop} (h:q0 P st t (st.get m) (st.get k) dst K) (hK:hH P β M st w K K'):(Oper.mk dst (.mapEntry t m k) type pos after guard).wp P a w K' Q:=by
 unfold q0 at h
 split at h
 ·rename_i kt et b hk hx
  split at h
  ·rename_i es z hb hz
   split at h
   ·rename_i wS j v hp
    obtain ⟨hl,jx,hd,jZ⟩:=h
    rw [aS hl] at jx hp
    have rx:=hr.get m
    rw [hx] at rx
    generalize hux:a.eval m = ux at rx
    cases rx with
    | mp b kb bQ =>
      obtain ⟨dr,Fc,ms,c,aU,h2,h3,h4⟩:=eL hr.ok hb bQ
      obtain ⟨ny,c',mm,u,dX,⟨g1,g2,g3⟩,g4,g5⟩:=D4 hk hz jx (hr.get k) aU ⟨h2,h3,h4⟩ hp
      have D1:=wZ ny c' aU
      obtain ⟨q1,q2⟩:=xc (w':=hX w kb ny c') (box':=.kz wS (ny.toList.map MapEntry.born) c') hr.ok hb bQ rfl rfl rfl (Nat.le_refl _) (by simp [hX]) (fun k' bB=>oN w kb k' ny c' bB) (by simp [World.shape?,aU]) (fun ty e=>by cases e)
       (fun F' hF hs=>⟨ny,D1,rfl,g1,g2,fun i x m hx hm=>⟨(g3 i x m hx hm).1.mono (fun _ _ h=>h) hF hs,(g3 i x m hx hm).2.mono (fun _ _ h=>h) hF hs⟩⟩)
      have uV:=eL q1 (af _ _ _) bQ
      obtain ⟨b1,b2,b3⟩:=Fj uV.2.2
      have hbj:(ny.toList.map MapEntry.born)[j]? = some mm.born:=by
       rw [List.getElem?_map]
       simp [g4]
      unfold Oper.wp execOp
      simp only [Sem.run_bind,hux,dX,Result.andThen_ok,Sem.run_pure]
      refine hK _ _ _ _ (jZ (ny.toList.map MapEntry.born) c' mm.born b1 b2 hbj) ((hr.step q1 q2).put (st:={ st with bx:=_ }) ?_ ?_) ?_
      ·cases dst <;> exact hd
      ·refine .dc [v,.int .i64 mm.born] #[u,.int .i64 mm.born] rfl fun i c hi=>?_
       rcases i with _ | _ | i
       ·simp at hi; subst hi; exact q2.rep g5
       ·simp at hi; subst hi; exact .int _ _
       ·simp at hi
      ·cases dst <;> exact q2
   ·exact h.elim
  ·exact h.elim
 ·exact h.elim
theorem D7 {st:St} {a:Act} {t type:TypeId} {m s x:Operand} {pos:String} {after:Array Edge} {guard:Option (Nat × Bool)} {K':Act -> World -> Prop} {Q:Exit -> Act -> World -> Prop} (hr:Rs P β M st a w)
 {K:St -> Prop} (h:jn st (st.get m) (st.get s) (st.get x) K) (hK:hH P β M st w K K'):(Oper.mk none (.entryStore t m s x) type pos after guard).wp P a w K' Q:=by
 unfold jn at h
 split at h
 ·rename_i b q hm hs
  split at h
  ·rename_i es bs c hb
   obtain ⟨i,q',e,rfl,h1,h2,jZ⟩:=h
   have rm:=hr.get m
   rw [hm] at rm
   have rs:=hr.get s
   rw [hs] at rs
   generalize hux:a.eval m = ux at rm
   have Ih:=rs.bE
   cases rm with
   | mp b kb bQ =>
     obtain ⟨dr,Fc,ms,aU,rfl,g2,g3,g4⟩:=eL hr.ok hb bQ
     have nR:i < ms.size:=by
      have:=(List.getElem?_eq_some_iff.1 h1).1
      simpa using this
     have re:ms[i].born = q':=by
      rw [List.getElem?_map] at h1
      simp [nR] at h1
      exact h1
     have zc:ms.findIdx? (fun e=>(e.born:Int) == (q':Int)) = some i:=by
      rw [Array.findIdx?_eq_some_iff_getElem]
      refine ⟨nR,by simp [re],fun j hj=>?_⟩
      have lR:j < ms.size:=by omega
      have:=(g3 i ms[i] (Array.getElem?_eq_getElem nR)).2 j ms[j] (Array.getElem?_eq_getElem lR)
      simp only [beq_iff_eq]
      intro hh
      have:j = i:=this (by rw [re]; omega)
      omega
     have D1:(hX w kb (ms.modify i fun e=>{ e with val:=a.eval x }) c).heap[kb]? = _:=wZ _ c aU
     have Fk:∀ (q:Nat) (m:MapEntry),(ms.modify i fun e=>{ e with val:=a.eval x })[q]? = some m -> ∃ m0,ms[q]? = some m0 /\ m.born = m0.born:=by
      intro q m hq
      rw [Array.getElem?_modify] at hq
      split at hq
      ·cases uV:ms[q]? with
       | none=>rw [uV] at hq; cases hq
       | some m0=>rw [uV] at hq; exact ⟨m0,rfl,by rw [<- Option.some.inj hq]⟩
      ·exact ⟨m,hq,rfl⟩
     obtain ⟨q1,q2⟩:=xc (w':=hX w kb (ms.modify i fun e=>{ e with val:=a.eval x }) c) (box':=.map (es.set i (e.1,st.get x))) hr.ok hb bQ rfl rfl rfl (Nat.le_refl _) (by simp [hX]) (fun k' bB=>oN w kb k' _ c bB) (by simp [World.shape?,aU]) (fun ty e=>by cases e)
      (fun F' hF hs=>⟨_,c,D1,by simp [g2],fun q m hq=>by
       obtain ⟨m0,RI,dH⟩:=Fk q m hq
       obtain ⟨g5,g6⟩:=g3 q m0 RI
       refine ⟨by rw [dH]; exact g5,fun q' m' uL ff=>?_⟩
       obtain ⟨m1,I5,eK⟩:=Fk q' m' uL
       exact g6 q' m1 I5 (by rw [<- eK,ff,dH]),fun q y m hy hq=>by
       rw [Array.getElem?_modify] at hq
       by_cases e0:i = q
       ·subst e0
        rw [List.getElem?_set_self (by omega)] at hy
        rw [if_pos rfl,Array.getElem?_eq_getElem nR] at hq
        obtain rfl:=Option.some.inj hy
        obtain rfl:=Option.some.inj hq
        exact ⟨(g4 i e ms[i] h2 (Array.getElem?_eq_getElem nR)).1.mono (fun _ _ h=>h) hF hs,(hr.get x).mono (fun _ _ h=>h) hF hs⟩
       ·rw [if_neg e0] at hq
        rw [List.getElem?_set_ne e0] at hy
        exact ⟨(g4 q y m hy hq).1.mono (fun _ _ h=>h) hF hs,(g4 q y m hy hq).2.mono (fun _ _ h=>h) hF hs⟩⟩)
     unfold Oper.wp execOp
     have dX:(Instr.entryStore t (.map (some kb)) (a.eval s) (a.eval x)).run P w = .ok () (hX w kb (ms.modify i fun e=>{ e with val:=a.eval x }) c):=by
      unfold Instr.entryStore
      rw [Ih]
      simp [Go.MapKept.run_getObj_map aU,asInt,asIntOf,zc,Go.MapKept.run_setObj_map _ aU,hX]
     simp only [Sem.run_bind,hux,dX,Result.andThen_ok,Sem.run_pure]
     exact hK _ _ _ _ jZ (hr.step q1 q2) q2
  ·exact h.elim
 ·exact h.elim
theorem Fl {st:St} {a:Act} {dst:Option Tmp} {t type:TypeId} {x:Operand} {pos:String} {after:Array Edge} {guard:Option (Nat × Bool)} {K':Act -> World -> Prop} {Q:Exit -> Act -> World -> Prop} (hr:Rs P β M st a w)
 {K:St -> Prop} (h:q8 P st t (st.get x) dst K) (hK:hH P β M st w K K'):(Oper.mk dst (.range t x) type pos after guard).wp P a w K' Q:=by
 unfold q8 at h
 split at h
 ·rename_i kt et b hk hx
  split at h
  ·rename_i es hb
   obtain ⟨hd,_,jZ⟩:=h
   have rx:=hr.get x
   rw [hx] at rx
   generalize hux:a.eval x = ux at rx
   cases rx with
   | mp b kb bQ =>
     obtain ⟨dr,Fc,ms,c,aU,h2,h3,h4⟩:=eL hr.ok hb bQ
     have hS:∀ F',(∀ k',Fz β M st.bx w k' -> F' k' /\ w.heap[k']? = w.heap[k']?) -> A4 β w F' kb es (ms.toList.map MapEntry.born) c:=fun F' hF =>
      ⟨ms,aU,rfl,h2,h3,fun i x m hx hm=>⟨(h4 i x m hx hm).1.mono (fun _ _ h=>h) hF (fun _ _ h=>h),(h4 i x m hx hm).2.mono (fun _ _ h=>h) hF (fun _ _ h=>h)⟩⟩
     obtain ⟨g1,g2⟩:=xc (w':=w) (box':=.kz es (ms.toList.map MapEntry.born) c) hr.ok hb bQ rfl rfl rfl (Nat.le_refl _) rfl (fun _ _=>rfl) (by simp [World.shape?,aU]) (fun ty e=>by cases e) (fun F' hF _=>hS F' hF)
     obtain ⟨q1,q2,q3⟩:=Fj (hS _ fun _ hk=>⟨hk,rfl⟩)
     obtain ⟨b',e1,e2⟩:=g1.fresh
     have ff:b' ≠ b:=by rintro rfl; rw [bQ] at e1; cases e1
     obtain ⟨g3,g4⟩:=I6 g1 e1 e2 (.mapIter (some kb) c #[] c) (.iter b c c []) (fun ty e=>by cases e) (fun F' hF=>⟨kb,by rw [ae _ _ (Ne.symm ff)]; exact bQ,heap_alloc_new w _,Nat.le_refl _⟩)
     unfold Oper.wp execOp
     simp only [Sem.run_bind,hux,run_range_map w t kt et kb ms c (fS hk) aU,Result.andThen_ok,Sem.run_pure]
     refine hK _ _ _ _ (jZ (ms.toList.map MapEntry.born) c b' q1 q2 q3 e2) (((hr.step (g3) (g2.trans g4))).put (st:={ st with bx:=_ }) ?_ ?_) ?_
     ·cases dst <;> exact hd
     ·have:=aP.ptr (β:=aB β b' (some (some w.heap.size))) (w:=w.alloc (.mapIter (some kb) c #[] c)) (F:=Fz (aB β b' (some (some w.heap.size))) M (aB (aB st.bx b (some (.kz es (ms.toList.map MapEntry.born) c))) b' (some (.iter b c c []))) (w.alloc (.mapIter (some kb) c #[] c))) b' 1 0 0 w.heap.size (af _ _ _)
      simpa using this
     ·cases dst <;> exact g2.trans g4
  ·exact h.elim
 ·exact h.elim
theorem IE {st:St} {a:Act} {dst:Option Tmp} {type:TypeId} {x:Operand} {pos:String} {after:Array Edge} {guard:Option (Nat × Bool)} {K':Act -> World -> Prop} {Q:Exit -> Act -> World -> Prop} (hr:Rs P β M st a w)
 {K:St -> Prop} (h:v8 st (st.get x) dst K) (hK:hH P β M st w K K'):(Oper.mk dst (.next x false) type pos after guard).wp P a w K' Q:=by
 unfold v8 at h
 split at h
 ·rename_i b' hx
  split at h
  ·rename_i b since c0 seen aR
   split at h
   ·rename_i es bs c hb
    obtain ⟨hd,hold,hsc,ee,fJ⟩:=h
    have rx:=hr.get x
    rw [hx] at rx
    generalize hux:a.eval x = ux at rx
    cases rx with
    | ptr _ _ _ _ k bQ =>
      obtain ⟨dr,Fc,kb,IF,hit,BX⟩:=eL hr.ok aR bQ
      obtain ⟨aaf,aag,ms,aU,PV,h2,h3,h4⟩:=eL hr.ok hb IF
      have RM:∀ m,m ∈ ms.toList -> m.born < since:=fun m hm=>hold _ (by rw [PV]; exact List.mem_map.2 ⟨m,hm,rfl⟩)
      unfold Oper.wp execOp
      simp only [Sem.run_bind,hux,Nat.zero_mul,Nat.add_zero]
      rcases run_next_at (P:=P) w type k kb since c0 seen.toArray ms c hit aU RM BX with ⟨g0,dX⟩ | ⟨e,he,w1,RO,dX⟩
      ·simp only [dX,Result.andThen_ok,Sem.run_pure]
       refine hK.put hr hd ?_ (ee fun q hq=>?_)
       ·exact .dc [.bool false] #[.bool false] rfl fun i c hi=>by
         rcases i with _ | i
         ·simp at hi; subst hi; exact .bool _
         ·simp at hi
       ·rw [PV] at hq
        obtain ⟨m,hm,rfl⟩:=List.mem_map.1 hq
        have:=all_seen ms seen.toArray g0 m hm
        simpa using this
      ·simp only [dX,Result.andThen_ok,Sem.run_pure]
       obtain ⟨hem,wU⟩:=mem_left he
       obtain ⟨i,hi⟩:=List.getElem?_of_mem hem
       have Av:ms[i]? = some e:=by simpa using hi
       have nR:i < es.length:=by have:=(Array.getElem?_eq_some_iff.1 Av).1; omega
       have hq:bs[i]? = some e.born:=by rw [PV,List.getElem?_map,hi]; rfl
       have RP:es[i]? = some es[i]:=by simp [nR]
       have Mh:¬ e.born ∈ seen:=by simpa using wU
       have ja:w1.heap = w.heap:=by rcases RO with rfl | rfl <;> rfl
       have xd:∀ k',k' ≠ k -> (Go.ChangeMaps.setBlock w1 k (.mapIter (some kb) since (seen.toArray.push e.born) c)).heap[k']? = w.heap[k']?:=fun k' bB=>by
        simp [Go.ChangeMaps.setBlock,Array.getElem?_setIfInBounds_ne (Ne.symm bB),ja]
       have D1:(Go.ChangeMaps.setBlock w1 k (.mapIter (some kb) since (seen.toArray.push e.born) c)).heap[k]? = some (.mapIter (some kb) since (seen.toArray.push e.born) c):=by
        simp [Go.ChangeMaps.setBlock,ja,dr]
       obtain ⟨r1,r2⟩:=xc (w':=Go.ChangeMaps.setBlock w1 k (.mapIter (some kb) since (seen.toArray.push e.born) c)) (box':=.iter b since c (seen ++ [e.born])) hr.ok aR bQ (by rcases RO with rfl | rfl <;> rfl) (by rcases RO with rfl | rfl <;> rfl) (by rcases RO with rfl | rfl <;> rfl)
        (by rcases RO with rfl | rfl
            ·exact Nat.le_refl _
            ·exact Nat.le_succ _) (by simp [Go.ChangeMaps.setBlock,ja]) xd (by simp [World.shape?,hit]) (fun ty e=>by cases e)
        (fun F' hF _=>⟨kb,IF,by rw [D1]; simp,hsc⟩)
       have RQ:=h4 i es[i] e RP Av
       refine hK _ _ _ _ (fJ i e.born es[i] hq RP Mh) ((hr.step r1 r2).put (st:={ st with bx:=_ }) ?_ ?_) ?_
       ·cases dst <;> exact hd
       ·refine .dc [.bool true,es[i].1,es[i].2] #[.bool true,e.key,e.val] rfl fun j c hj=>?_
        rcases j with _ | _ | _ | j
        ·simp at hj; subst hj; exact .bool _
        ·simp at hj; subst hj; exact r2.rep RQ.1
        ·simp at hj; subst hj; exact r2.rep RQ.2
        ·simp at hj
       ·cases dst <;> exact r2
   ·exact h.elim
  ·exact h.elim
 ·exact h.elim
theorem Fm {st:St} {a:Act} {dst:Option Tmp} {type:TypeId} {x:Operand} {pos:String} {after:Array Edge} {guard:Option (Nat × Bool)} {K':Act -> World -> Prop} {Q:Exit -> Act -> World -> Prop} (hr:Rs P β M st a w)
 {K:St -> Prop} (h:q9 st (st.get x) dst K) (hK:hH P β M st w K K'):(Oper.mk dst (.entry x) type pos after guard).wp P a w K' Q:=by
 unfold q9 at h
 split at h
 ·rename_i b' hx
  split at h
  ·rename_i b since c0 seen aR
   split at h
   ·rename_i es bs c hb
    obtain ⟨hd,rfl,i,ex,pre,q,rfl,hq,RP,jZ⟩:=h
    have rx:=hr.get x
    rw [hx] at rx
    generalize hux:a.eval x = ux at rx
    cases rx with
    | ptr _ _ _ _ k bQ =>
      obtain ⟨dr,Fc,kb,IF,hit,BX⟩:=eL hr.ok aR bQ
      have RS:=eL hr.ok hb IF
      have sk:=(Fj RS.2.2).2.1
      obtain ⟨aaf,aag,ms,aU,PV,h2,h3,h4⟩:=RS
      have nR:i < es.length:=(List.getElem?_eq_some_iff.1 RP).1
      have Av:ms[i]? = some ms[i]:=by simp [h2,nR]
      have hqe:q = ms[i].born:=by
       rw [PV,List.getElem?_map] at hq
       simp [h2,nR] at hq
       exact hq.symm
      subst hqe
      have RQ:=h4 i ex ms[i] RP Av
      have aah:w.heap[k]? = some (.mapIter (some kb) since (pre.toArray.push ms[i].born) c0):=by rw [hit]; simp
      unfold Oper.wp execOp
      have dX:=run_entry_at (P:=P) w k kb since pre.toArray ms c0 ms[i] aah aU (by simp) (by rw [<- PV]; exact sk)
      simp only [Sem.run_bind,hux,Nat.zero_mul,Nat.add_zero,dX,Result.andThen_ok,Sem.run_pure]
      refine hK.put hr hd ?_ jZ
      refine .dc [ex.1,ex.2] #[ms[i].key,ms[i].val] rfl fun j c hj=>?_
      rcases j with _ | _ | j
      ·simp at hj; subst hj; exact RQ.1
      ·simp at hj; subst hj; exact RQ.2
      ·simp at hj
   ·exact h.elim
  ·exact h.elim
 ·exact h.elim
theorem Mp {st:St} {a:Act} {dst:Option Tmp} {s t type:TypeId} {x:Operand} {pos:String} {after:Array Edge} {guard:Option (Nat × Bool)} {K':Act -> World -> Prop} {Q:Exit -> Act -> World -> Prop} (hr:Rs P β M st a w)
 {K:St -> Prop} (h:I1 P s t (st.get x) dst K st) (hK:hH P β M st w K K'):(Oper.mk dst (.convert s t x) type pos after guard).wp P a w K' Q:=by
 unfold I1 at h
 split at h
 ·rename_i e bs h1 h2 hx
  obtain ⟨⟨hu,hn⟩,hd,_,hk⟩:=h
  have rx:=hr.get x
  rw [hx] at rx
  generalize hux:a.eval x = ux at rx
  obtain ⟨q,rfl,rfl⟩:=rx.eg
  have hq:q.size = q.data.toList.length:=by show q.data.size = _; simp
  have dX:=Lib.run_convert_string_bytes (P:=P) w s t e q (ft h1) (bA h2) (iQ hu)
  have bD:=fun i hi=>Lib.bytesWorld_cell w e q i hi
  have tn:=Lib.bytesWorld_at_new w e q
  have KX:∀ k,k < w.heap.size -> (Lib.bytesWorld w e q).heap[k]? = w.heap[k]?:=fun k hk=>Lib.bytesWorld_at_old w e q k hk
  have bW:=Lib.bytesWorld_size w e q
  have kP:q.size <= grownCap w q.size 0 e /\ grownCap w q.size 0 e <= maxLen:=⟨grownCap_ge w q.size 0 e,grownCap_le_maxLen w q.size 0 e (by rw [hq]; simpa [maxLen] using hn)⟩
  have qA:(Lib.bytesCells w e q).size = grownCap w q.size 0 e:=by
   unfold Lib.bytesCells
   simp only [Array.size_append,Array.size_map,Array.size_replicate]
   have:q.data.size = q.size:=rfl
   omega
  have fj:∀ k y,w.shape? k = some y -> (Lib.bytesWorld w e q).shape? k = some y:=fun k y hy=>by
   rw [bI (KX k (iX hy))]; exact hy
  have vz:(Lib.bytesWorld w e q).os = w.os /\ (Lib.bytesWorld w e q).tape = w.tape /\ (Lib.bytesWorld w e q).output = w.output /\ w.drawn <= (Lib.bytesWorld w e q).drawn:=⟨rfl,rfl,rfl,Nat.le_succ w.drawn⟩
  obtain ⟨b,e1,e2⟩:=hr.ok.fresh
  unfold Oper.wp execOp
  simp only [Sem.run_bind,hux,dX,Result.andThen_ok,Sem.run_pure]
  generalize Lib.bytesWorld w e q = w' at *
  obtain ⟨h3,h4⟩:=BW hr.ok b e1 vz.1 vz.2.1 vz.2.2.1 vz.2.2.2 (by omega) (fun k hk _=>KX k hk) fj (some w.heap.size) e 1 (q.data.toList.map dN) (.inl (by decide)) (fun h=>by cases h) (fun g hg=>by
   injection hg with hg
   subst hg
   refine ⟨.inl (Nat.le_refl _),by omega,_,_,tn,.inr rfl,by rw [qA]; simpa [<- hq] using kP.1,fun i c hi=>?_⟩
   simp only [List.getElem?_map,Option.map_eq_some_iff] at hi
   obtain ⟨y,hy,rfl⟩:=hi
   refine ⟨rfl,fun j c hj=>?_⟩
   have Fe:j = 0:=by
    have:=(List.getElem?_eq_some_iff.1 hj).1
    simp [dN,V.cells] at this
    exact this
   subst Fe
   obtain rfl:dN y = c:=by simpa [dN,V.cells] using hj
   have hiq:i < q.size:=by rw [hq]; exact (List.getElem?_eq_some_iff.1 hy).1
   have e3:q.data.toList.getD i 0 = y:=by simp only [List.getD,hy,Option.getD_some]
   have hc:=bD i hiq
   have aU:(Lib.bytesCells w e q).getD (i * 1 + 0) undef = .int .u8 y.toNat:=by
    simp only [World.cell?,tn] at hc
    rw [Nat.mul_one,Nat.add_zero,Array.getD_eq_getD_getElem?]
    have qv:(Lib.bytesCells w e q)[i]? = some (.int .u8 (q.data.toList.getD i 0).toNat):=by simpa using hc
    rw [qv,e3]
    rfl
   rw [aU]
   exact ⟨rfl,.int _ _⟩)
  have e4:aB (aB st.bx b none) b (some (.row e 1 (q.data.toList.map dN))) = aB st.bx b (some (.row e 1 (q.data.toList.map dN))):=by
   funext d
   by_cases hd:d = b
   ·subst hd; rw [af,af]
   ·rw [ae _ _ hd,ae _ _ hd,ae _ _ hd]
  rw [e4] at h3 h4
  refine hK _ _ _ _ (hk b e2) ((hr.step h3 h4).put (st:={ st with bx:=_ }) (by cases dst <;> exact hd) ?_) (by cases dst <;> exact h4)
  have:=aP.own (β:=aB β b (some (some w.heap.size))) (w:=w') (F:=Fz (aB β b (some (some w.heap.size))) M (aB st.bx b (some (.row e 1 (q.data.toList.map dN)))) w') b 1 0 q.size w.heap.size (grownCap w q.size 0 e) _ e (af _ _ _) (bN tn) (by rw [qA]; omega) kP.1 (by simpa using kP.2)
  rw [Nat.zero_mul,hq] at this
  rw [hq]
  exact this
 ·exact h.elim
theorem kp {d:Bool} {o:Oper} {K:St -> Prop} {st:St} {a:Act} {K':Act -> World -> Prop} {Q:Exit -> Act -> World -> Prop} (h:aK P d o K st) (hr:Rs P β M st a w) (hK:hH P β M st w K K'):o.wp P a w K' Q:=by
 unfold aK at h
 split at h
 ·obtain ⟨hc,hd,hk⟩:=h
  exact KV hr hc (fun u w' de ht hu=>(hK.trans ht).put de hd hu hk)
 ·rename_i hne0
  obtain ⟨dst,op,type,pos,after,guard⟩:=o
  simp only at h hne0
  split at h
  ·
   rename_i e
   split at h
   ·rename_i z hz
    obtain ⟨⟨fb,ho,hl⟩,hd,_,hk⟩:=h
    unfold Oper.wp execOp
    simp only [Sem.run_bind,Dy hz,Result.andThen_ok,Sem.run_pure]
    refine hr.alloc hK z.cells e (aF P e) [ofValue z] (.inr (by simp)) ?_ (tl ho hl (dp z)) hd (fun b=>.ptr b (aF P e) 0 0) _ (fun b β' w' F h1 h2=>?_) hk
    ·rw [eW ho,hl]; simp
    ·have:=aP.ptr (β:=β') (w:=w') (F:=F) b (aF P e) 0 0 _ h1
     simpa using this
   ·exact h.elim
  ·
   rename_i e x
   obtain ⟨⟨fb,ho,hl⟩,hd,_,hk⟩:=h
   unfold Oper.wp execOp
   simp only [Sem.run_bind,I2,Result.andThen_ok,Sem.run_pure]
   refine hr.alloc hK _ e (aF P e) [st.get x] (.inr (by simp)) ?_ (tl ho hl (hr.get x)) hd (fun b=>.ptr b (aF P e) 0 0) _ (fun b β' w' F h1 h2=>?_) hk
   ·rw [(hI ho (hr.get x)).1,hl]; simp
   ·have:=aP.ptr (β:=β') (w:=w') (F:=F) b (aF P e) 0 0 _ h1
    simpa using this
  ·
   rename_i t len parts
   split at h
   ·rename_i e hk
    split at h
    ·rename_i z hz
     obtain ⟨⟨fb,ho,hl⟩,eJ,hsmall,hparts,hd,_,jZ⟩:=h
     obtain ⟨i,hi,mf⟩:=ko hz
     have bW:i.size = aF P e:=by simp [aF,hi]
     have hzz:z.cells.size = aF P e:=by rw [eW ho,hl]
     by_cases hlen:len = 0
     ·subst hlen
      have hp:parts.toList = []:=by
       cases hq:parts.toList with
       | nil=>rfl
       | cons p ps=>have:=(hparts p (by rw [hq]; simp)).1; omega
      have qZ:parts = #[]:=by simpa using hp
      subst qZ
      have dX:(Instr.buildSlice t 0 #[]).run P w = .ok (.slice (some ⟨w.heap.size,0,none⟩) 0 0) (w.alloc (.cells #[] e)):=by
       simp [Instr.buildSlice,run_underlying (bA hk),sizeOf,typeInfo,hi,Instr.fill,newRow,Array.range_zero']
      unfold Oper.wp execOp
      simp only [Sem.run_bind,List.map_toArray,List.map_nil,dX,Result.andThen_ok,Sem.run_pure]
      refine hr.alloc hK #[] e (aF P e) [] (.inl eJ) (by simp) (fun i e he=>by simp at he) hd (fun b=>.own b (aF P e) 0 0) _ (fun b β' w' F h1 h2=>?_) (by simpa [dS] using jZ)
      have:=aP.own (β:=β') (w:=w') (F:=F) b (aF P e) 0 0 _ 0 0 e h1 h2 (by simp) (Nat.le_refl _) (by simp)
      simpa using this
     ·have aU:=yW z (aF P e) (len * aF P e) eJ hzz
      have RT:=kE (β:=β) (w:=w) (F:=Fz β M st.bx w) (len:=len) ho hl eJ ((Array.range (len * aF P e)).map (z.cells[· % z.cells.size]!)) (Nat.le_refl _) aU
      obtain ⟨cur',h1,h2,h3,h4⟩:=tm (fun x=>hr.get x) rfl parts.toList (List.replicate len (ofValue z)) _ (by simp) (by simp) RT hparts
      have dX:=run_buildSlice (P:=P) w t e len (parts.map fun (i,x)=>(i,a.eval x)) cur' i z (bA hk) hi mf (by rw [bW]; omega) (by rw [bW]; have:=Nat.mul_pos (Nat.pos_of_ne_zero hlen) eJ; omega) (by rw [bW,Array.toList_map]; exact h1)
      unfold Oper.wp execOp
      simp only [Sem.run_bind,dX,Result.andThen_ok,Sem.run_pure]
      refine hr.alloc hK cur' e (aF P e) _ (.inl eJ) (by rw [h4,h2]; simp) h3 hd (fun b=>.own b (aF P e) 0 len) _ (fun b β' w' F h5 h6=>?_) jZ
      have qA:cur'.size = len * aF P e:=by rw [h2]; simp
      have hlm:len <= maxLen:=by
       have:len * 1 <= len * aF P e:=Nat.mul_le_mul_left _ eJ
       simp only [maxLen]
       omega
      have:=aP.own (β:=β') (w:=w') (F:=F) b (aF P e) 0 len _ len _ e h5 h6 (by rw [qA]; simp) (Nat.le_refl _) (by simpa using hlm)
      simpa using this
    ·exact h.elim
   ·exact h.elim
  ·
   rename_i t l c
   split at h
   ·rename_i e kl l' kc c' hk IG ec
    split at h
    ·rename_i z hz
     obtain ⟨KY,RU,⟨fb,ho,hl⟩,eJ,rfl,h0,sa,y8,hd,_,jZ⟩:=h
     obtain ⟨i,hi,mf⟩:=ko hz
     have bW:i.size = aF P e:=by simp [aF,hi]
     have ff:i.bytes = oF P e:=by simp [oF,hi]
     have hzz:z.cells.size = aF P e:=by rw [eW ho,hl]
     have rl:=hr.get l
     rw [aG KY IG] at rl
     have rc:=hr.get c
     rw [aG RU ec] at rc
     have dX:=run_make (P:=P) w t e i z (bA hk) hi mf kl kc l' l' h0 (Int.le_refl _) (by rw [ff]; exact sa) y8
     unfold Oper.wp execOp
     simp only [rl.bE,rc.bE,Sem.run_bind,dX,Result.andThen_ok,Sem.run_pure]
     have uV:(madeCells z.cells (l'.toNat * i.size)).size = l'.toNat * aF P e:=by rw [size_madeCells,bW]
     refine hr.alloc hK _ e (aF P e) (List.replicate l'.toNat (ofValue z)) (.inl eJ) (by rw [uV]; simp) ?_ hd (fun b=>.own b (aF P e) 0 l'.toNat) _ (fun b β' w' F h5 h6=>?_) jZ
     ·refine kE ho hl eJ _ (Nat.le_refl _) (fun m hm=>?_)
      have:=yW z (aF P e) (l'.toNat * aF P e) eJ hzz m hm
      rw [<- bW] at this ⊢
      exact this
     ·have:=aP.own (β:=β') (w:=w') (F:=F) b (aF P e) 0 l'.toNat _ l'.toNat _ e h5 h6 (by rw [uV]; simp) (Nat.le_refl _) (by simp only [maxLen]; omega)
      simpa using this
    ·exact h.elim
   ·exact h.elim
  ·
   rename_i t ad x
   split at h
   ·rename_i b sz i o' eI
    split at h
    ·rename_i ty eU es hb
     obtain ⟨rfl,hi,⟨fb,ho,hl⟩,eJ,fB,hdst,hk⟩:=h
     subst hdst
     have ra:=hr.get ad
     rw [eI] at ra
     cases hua:a.eval ad with
     | pointer p =>
       rw [hua] at ra
       cases ra with
       | ptr b sz i o' k bQ =>
         rcases hr.ok.live b _ hb with ⟨h1,_⟩ | ⟨k',h1,_,_,cur,fr,aU,iA,jj,au⟩
         ·rw [bQ] at h1; cases h1
         ·rw [bQ] at h1
          injection h1 with h1
          injection h1 with h1
          subst h1
          obtain ⟨R2,RV⟩:=au i _ (by simp [List.getD,List.getElem?_eq_getElem hi]:es[i]? = some (es.getD i .cU))
          have hu:=hI ho (hr.get x)
          have hbound:(i + 1) * sz <= es.length * sz:=Nat.mul_le_mul_right _ hi
          rw [Nat.succ_mul] at hbound
          have Fo:∀ v,v ∈ (a.eval x).cells.toList -> v.oneCell' = true:=by
           intro v hv
           obtain ⟨m,hm⟩:=List.mem_iff_getElem?.1 hv
           have PW:=(List.getElem?_eq_some_iff.1 hm).1
           simp only [Array.length_toList] at PW
           have:=(hu.2 m _ (List.getElem?_eq_getElem (by omega))).1
           simp only [Array.getElem?_toList] at hm
           simpa [hm] using this
          have dX:=za (P:=P) (w:=w) (t:=t) (o:=i * sz + o') fb (by rw [hu.1,hl]) aU iA (by rw [hu.1]; omega) Fo
          have ti:(cur.toList.take (i * sz + o') ++ (a.eval x).cells.toList ++ cur.toList.drop (i * sz + o' + (a.eval x).cells.size)).toArray.size = cur.size:=by
           simp
           have:=hu.1
           omega
          have RX:dZ β w (Fz β M st.bx w) sz (es.set i (bh (es.getD i .cU) o' (st.get x).cells)) (cur.toList.take (i * sz + o') ++ (a.eval x).cells.toList ++ cur.toList.drop (i * sz + o' + (a.eval x).cells.size)).toArray:=by
           have KZ:=fun m=>rj (cur:=cur) (us:=(a.eval x).cells) (p:=i * sz + o') (by rw [hu.1]; omega) m
           intro i' e' nS
           by_cases e1:i' = i
           ·subst e1
            rw [List.getElem?_set_self hi] at nS
            injection nS with nS
            subst nS
            refine AJ R2 ho (by omega) eJ (hr.get x) cur _ (i' * sz) (fun j c hc=>RV j c hc) (fun m h5 h6=>?_)
            rw [KZ,hu.1]
           ·rw [List.getElem?_set_ne (Ne.symm e1)] at nS
            obtain ⟨h5,h6⟩:=au i' e' nS
            refine ⟨h5,fun j c hc=>?_⟩
            have hj:j < sz:=by have:=(List.getElem?_eq_some_iff.1 hc).1; omega
            have aep:i * sz + o' + (st.get x).cells.length <= i * sz + sz:=by omega
            rw [KZ,hu.1,if_neg ?_]
            ·exact h6 j c hc
            ·rintro ⟨h7,h8⟩
             rcases Nat.lt_or_gt_of_ne e1 with h9 | h9
             ·have:(i' + 1) * sz <= i * sz:=Nat.mul_le_mul_right _ h9
              rw [Nat.succ_mul] at this
              omega
             ·have:(i + 1) * sz <= i' * sz:=Nat.mul_le_mul_right _ h9
              rw [Nat.succ_mul] at this
              omega
          obtain ⟨h3,h4⟩:=qz hr.ok hb bQ aU iA _ ti _ (by simp) (by rw [ti]; simpa using jj) RX
          unfold Oper.wp execOp
          simp only [Sem.run_bind,hua,dX,Result.andThen_ok,Sem.run_pure]
          exact hK _ _ _ _ hk (hr.step h3 h4) h4
     | _=>rw [hua] at ra; cases ra
    ·exact h.elim
   ·exact h.elim
  ·
   rename_i t
   obtain ⟨hd,_,hk⟩:=h
   unfold Oper.wp execOp
   have dX:(Instr.makeMap t none).run P w = .ok (.map (some w.heap.size)) (w.alloc (.map #[] 0)):=by
    unfold Instr.makeMap newObj
    simp [Sem.run]
   simp only [Option.map_none,Sem.run_bind,dX,Result.andThen_ok,Sem.run_pure]
   exact hr.Mj hK hd hk
  ·rename_i t x
   exact Fl hr h.2 hK
  ·rename_i x
   exact IE hr h.2 hK
  ·rename_i x
   exact Fm hr h.2 hK
  ·rename_i t m k x
   obtain ⟨rfl,lx⟩:=h
   exact Fi (t:=t) (m:=m) (k:=k) (x:=x) rfl rfl hr lx hK
  ·rename_i t m k x
   obtain ⟨rfl,lx⟩:=h
   exact Fi (t:=t) (m:=m) (k:=k) (x:=x) rfl rfl hr lx hK
  ·exact ID hr h hK
  ·obtain ⟨rfl,h⟩:=h
   exact D7 hr h hK
  ·
   rename_i s d' x
   have hsd:s = d':=by simpa [bV] using hne0
   subst hsd
   split at h
   ·rename_i e b sz n hk eI
    split at h
    ·rename_i ty eU es hb
     obtain ⟨he,rfl,rfl,hn,h0,gr,hd,Mq⟩:=h
     have rx:=hr.get x
     rw [eI] at rx
     generalize hux:a.eval x = ux at rx
     cases rx with
     | mi=>exact absurd h0 (by omega)
     | own _ _ _ _ k cap m mj bQ hs hm RY gZ =>
       rcases hr.ok.live b _ hb with ⟨h1,_⟩ | ⟨k',h1,dr,hMn,cur,fr,aU,iA,jj,au⟩
       ·rw [bQ] at h1; cases h1
       ·rw [bQ] at h1; injection h1 with h1; injection h1 with h1; subst h1
        have dX:=I8 (P:=P) (w:=w) (n:=n) (cap:=cap) (bA hk) (iQ he) aU
        obtain ⟨tp,jk⟩:=Fh hr.ok hb bQ aU iA
        unfold Oper.wp execOp
        simp only [Nat.zero_mul] at hux
        simp only [Sem.run_bind,hux,Nat.zero_mul,dX,Result.andThen_ok,Sem.run_pure]
        obtain ⟨jx,_,_⟩:=zb aU iA
        generalize w.freeze ⟨k,cur.size,none⟩ 1 = w' at *
        refine hK _ _ _ _ Mq (((hr.step tp jk)).put (st:={ st with bx:=_ }) ?_ ?_) ?_
        ·cases dst <;> exact hd
        ·have sb:Fz β M (aB st.bx b none) w' k:=by
          refine ⟨by have:=jk.size; omega,hMn,fun b' aR nS=>?_⟩
          by_cases e1:b' = b
          ·subst e1; simp [af] at aR
          ·rw [ae _ _ e1] at aR
           exact e1 (hr.ok.inj b' b k aR (by rw [hb]; simp) nS bQ)
         have hint:∀ (i:Nat) (c:V),es[i]? = some c -> ∃ z,c = .int .u8 z:=by
          intro i c hi
          have:=List.all_eq_true.1 gr c (List.mem_of_getElem? hi)
          unfold yK at this
          split at this
          ·exact ⟨_,rfl⟩
          ·cases this
         have bD:∀ (i:Nat) (c:V),es[i]? = some c -> (cur.getD i undef).oneCell' = true /\ ∃ z,c = .int .u8 z /\ cur.getD i undef = .int .u8 z /\ i < cur.size:=by
          intro i c hi
          obtain ⟨z,rfl⟩:=hint i c hi
          obtain ⟨g1,g2⟩:=(au i _ hi).2 0 (.int .u8 z) rfl
          simp only [Nat.mul_one,Nat.add_zero] at g1 g2
          have:=(List.getElem?_eq_some_iff.1 hi).1
          exact ⟨g1,z,rfl,g2.bE,by omega⟩
         subst hn
         refine .sl 1 es _ cap (fun j=>cur.getD j undef) RY (by simpa using gZ) (fun _ h=>by cases h) (fun e1 h1=>?_) (fun i e1 j c hi hj=>?_) (fun i e1 j c hi hj=>?_)
         ·obtain ⟨i,hi⟩:=List.getElem?_of_mem h1
          obtain ⟨z,rfl⟩:=hint i _ hi
          rfl
         ·obtain ⟨g1,z,rfl,g2,g3⟩:=bD i _ hi
          have Fe:j = 0:=by rcases j with _ | j; rfl; simp [V.cells] at hj
          subst Fe
          refine ⟨_,rfl,sb,?_,by simpa using g1⟩
          have e2:(⟨k,0,none⟩:Addr).add i = ⟨k,i,none⟩:=by unfold Addr.add; by_cases h:i = 0 <;> simp [h]
          simp only [Nat.mul_one,Nat.add_zero,e2]
          simp [World.cell?,jx,g3]
         ·obtain ⟨g1,z,rfl,g2,g3⟩:=bD i _ hi
          have Fe:j = 0:=by rcases j with _ | j; rfl; simp [V.cells] at hj
          subst Fe
          simp [V.cells] at hj
          subst hj
          simp only [Nat.mul_one,Nat.add_zero,g2]
          exact .int _ _
        ·cases dst <;> exact jk
    ·exact h.elim
   ·exact h.elim
  ·
   rename_i c
   split at h
   ·rename_i s x t t' h1 h2 h3
    obtain ⟨Ig,h⟩:=h
    obtain ⟨callee,args,ts⟩:=c
    simp only at h1 h2 h3
    subst h1
    obtain rfl:args = #[s,x]:=by rw [<- Array.toArray_toList (xs:=args),h2]
    obtain rfl:ts = #[t,t']:=by rw [<- Array.toArray_toList (xs:=ts),h3]
    obtain ⟨v,w',h4,h5⟩:=wX (ty:=type) h Ig hr (hr.get s) (hr.get x) hK
    unfold Oper.wp
    have:(execOp a.eval { dst:=dst,op:=.call { callee:=.builtin .append,args:=#[s,x],argTypes:=#[t,t'] },type:=type,pos:=pos,after:=after,guard:=guard }).run P w = .ok (.value v) w':=by
     show (do let d <- resolve a.eval _ type; invoke d.target d.args:Sem Next).run P w = _
     simp only [resolve,invoke,builtin,Sem.run_bind,Sem.run_pure,Result.andThen_ok,List.map_toArray,List.map_cons,List.map_nil,h4]
    rw [this]
    exact h5
   ·rename_i x t h1 h2 h3
    obtain ⟨_,rfl,h⟩:=h
    obtain ⟨callee,args,ts⟩:=c
    simp only at h1 h2 h3
    subst h1
    obtain rfl:args = #[x]:=by rw [<- Array.toArray_toList (xs:=args),h2]
    obtain rfl:ts = #[t]:=by rw [<- Array.toArray_toList (xs:=ts),h3]
    unfold tj at h
    split at h
    ·rename_i e b sz o n hk hx
     split at h
     ·rename_i z e' eU es hz hb
      obtain ⟨fb,eJ,D8,aai,hn,hle,Mq⟩:=h
      subst D8 aai
      have rx:=hr.get x
      rw [hx] at rx
      generalize hux:a.eval x = ux at rx
      have Fb:z.cells.size = aF P e:=by rw [eW fb.2.1]; exact fb.2.2
      have Ih:(Builtin.zeroCells z.cells n).size = n * aF P e:=by rw [size_zeroCells,Fb]
      have XJ:dZ β w (Fz β M st.bx w) (aF P e) (List.replicate n (ofValue z)) (Builtin.zeroCells z.cells n):=by
       refine kE fb.2.1 fb.2.2 eJ _ (Nat.le_refl _) (fun m hm=>?_)
       simp only [Builtin.zeroCells,Array.getD_eq_getD_getElem?]
       have PX:m < n * z.cells.size:=by rw [Fb]; exact hm
       have hm3:m % z.cells.size < z.cells.size:=Nat.mod_lt _ (by omega)
       rw [Array.getElem?_map,Array.getElem?_range,if_pos PX]
       rw [<- Fb]
       simp [hm3]
      cases rx with
      | mi=>omega
      | own _ _ _ _ blk cap m mj bQ hs hm RY gZ =>
        rcases hr.ok.live b _ hb with ⟨h1,_⟩ | ⟨blk',h1,dr,hMn,cur,fr,aU,iA,jj,au⟩
        ·rw [bQ] at h1; cases h1
        ·rw [bQ] at h1; injection h1 with h1; injection h1 with h1; subst h1
         have fB:o * aF P e + n * aF P e <= cur.size:=by
          rw [<- Nat.add_mul]; exact Nat.le_trans (Nat.mul_le_mul_right _ hle) jj
         have Fo:∀ v,v ∈ (Builtin.zeroCells z.cells n).toList -> v.oneCell' = true:=by
          intro v hv
          obtain ⟨q,hq,rfl⟩:=List.getElem_of_mem hv
          rw [Array.length_toList,Ih] at hq
          have I5:q / aF P e < n:=(Nat.div_lt_iff_lt_mul eJ).2 hq
          have Mr:q % aF P e < aF P e:=Nat.mod_lt _ eJ
          have Ii:q / aF P e * aF P e + q % aF P e = q:=by rw [Nat.mul_comm]; exact Nat.div_add_mod _ _
          have:=(XJ (q / aF P e) (ofValue z) (by rw [List.getElem?_replicate,if_pos I5])).2 (q % aF P e) _ (List.getElem?_eq_getElem (by rw [fb.2.2]; exact Mr))
          rw [Ii] at this
          have h3:=this.1
          rw [Array.getD_eq_getD_getElem?,Array.getElem?_eq_getElem (by rw [Ih]; exact hq)] at h3
          simpa using h3
         have dX:=D6 (P:=P) (w:=w) (ty:=type) (o:=o * aF P e) (cap:=cap) (bA hk) hz Fo hn aU iA (by rw [Ih]; exact fB)
         rw [Ih] at dX
         obtain ⟨tp,jk⟩:=qz hr.ok hb bQ aU iA (cur.toList.take (o * aF P e) ++ (Builtin.zeroCells z.cells n).toList ++ cur.toList.drop (o * aF P e + n * aF P e)).toArray (by simp [Ih]; omega) (es.take o ++ List.replicate n (ofValue z) ++ es.drop (o + n)) (by simp; omega) (by
          have e1:(es.take o ++ List.replicate n (ofValue z) ++ es.drop (o + n)).length = es.length:=by simp; omega
          have e2:(cur.toList.take (o * aF P e) ++ (Builtin.zeroCells z.cells n).toList ++ cur.toList.drop (o * aF P e + n * aF P e)).toArray.size = cur.size:=by simp [Ih]; omega
          rw [e1,e2]; exact jj) (by
          have KZ:=fun m=>rj (cur:=cur) (us:=Builtin.zeroCells z.cells n) (p:=o * aF P e) (by rw [Ih]; exact fB) m
          rw [Ih] at KZ
          intro i e0 hi
          have RK:(es.take o).length = o:=by simp; omega
          have RZ:(¬ (o <= i /\ i < o + n) /\ es[i]? = some e0) \/ ((o <= i /\ i < o + n) /\ e0 = ofValue z):=by
           by_cases h1:i < o
           ·rw [List.append_assoc,List.getElem?_append_left (by omega),List.getElem?_take,if_pos h1] at hi
            exact .inl ⟨by omega,hi⟩
           ·by_cases h2:i < o + n
            ·rw [List.append_assoc,List.getElem?_append_right (by omega),RK,List.getElem?_append_left (by simp; omega)] at hi
             exact .inr ⟨by omega,(List.eq_of_mem_replicate (List.mem_of_getElem? hi))⟩
            ·rw [List.getElem?_append_right (by simp; omega),List.getElem?_drop] at hi
             have e3:o + n + (i - (es.take o ++ List.replicate n (ofValue z)).length) = i:=by simp; omega
             rw [e3] at hi
             exact .inl ⟨by omega,hi⟩
          rcases RZ with ⟨h1,h2⟩ | ⟨h1,rfl⟩
          ·obtain ⟨g1,g2⟩:=au i e0 h2
           refine ⟨g1,fun j c hc=>?_⟩
           have hj:j < aF P e:=by have:=(List.getElem?_eq_some_iff.1 hc).1; omega
           have Mg:¬ (o * aF P e <= i * aF P e + j /\ i * aF P e + j < o * aF P e + n * aF P e):=by
            rw [<- Nat.add_mul]
            rintro ⟨k1,k2⟩
            apply h1
            constructor
            ·rcases Nat.lt_or_ge i o with h | h
             ·have:=Nat.mul_le_mul_right (aF P e) (show i + 1 <= o from h)
              rw [Nat.succ_mul] at this; omega
             ·exact h
            ·rcases Nat.lt_or_ge i (o + n) with h | h
             ·exact h
             ·have:=Nat.mul_le_mul_right (aF P e) h; omega
           rw [KZ,if_neg Mg]
           exact g2 j c hc
          ·refine ⟨fb.2.2,fun j c hc=>?_⟩
           have hj:j < aF P e:=by have:=(List.getElem?_eq_some_iff.1 hc).1; rw [fb.2.2] at this; exact this
           have Au:o * aF P e <= i * aF P e + j /\ i * aF P e + j < o * aF P e + n * aF P e:=by
            rw [<- Nat.add_mul]
            have k1:=Nat.mul_le_mul_right (aF P e) h1.1
            have k2:=Nat.mul_le_mul_right (aF P e) (show i + 1 <= o + n from h1.2)
            rw [Nat.succ_mul] at k2
            omega
           have jo:i * aF P e + j - o * aF P e = (i - o) * aF P e + j:=by
            rw [Nat.sub_mul]
            have k1:=Nat.mul_le_mul_right (aF P e) h1.1
            omega
           rw [KZ,if_pos Au,jo]
           exact (XJ (i - o) (ofValue z) (by rw [List.getElem?_replicate,if_pos (by omega)])).2 j c hc)
         unfold Oper.wp
         have cQ:(execOp a.eval { dst:=none,op:=.call { callee:=.builtin .clear,args:=#[x],argTypes:=#[t] },type:=type,pos:=pos,after:=after,guard:=guard }).run P w = .ok (.value (.tuple #[])) (w.setRow blk (cur.toList.take (o * aF P e) ++ (Builtin.zeroCells z.cells n).toList ++ cur.toList.drop (o * aF P e + n * aF P e)).toArray):=by
          show (do let d <- resolve a.eval _ type; invoke d.target d.args:Sem Next).run P w = _
          simp only [resolve,invoke,builtin,Sem.run_bind,Sem.run_pure,Result.andThen_ok,List.map_toArray,List.map_cons,List.map_nil,hux,dX]
         rw [cQ]
         exact hK _ _ _ _ Mq (hr.step tp jk) jk
     ·exact h.elim
    ·exact h.elim
   ·rename_i m k t t2 h1 h2 h3
    obtain ⟨rfl,h⟩:=h
    obtain ⟨callee,args,ts⟩:=c
    simp only at h1 h2 h3
    subst h1
    obtain rfl:args = #[m,k]:=by rw [<- Array.toArray_toList (xs:=args),h2]
    obtain rfl:ts = #[t,t2]:=by rw [<- Array.toArray_toList (xs:=ts),h3]
    unfold tk at h
    split at h
    ·rename_i kt et b hk hm
     split at h
     ·rename_i es hb
      split at h
      ·rename_i j7 hp
       obtain ⟨hl,jx,jZ⟩:=h
       rw [aS hl] at jx hp
       have rm:=hr.get m
       rw [hm] at rm
       generalize hmu:a.eval m = um at rm
       cases rm with
       | mp b k' bQ =>
         rcases hr.ok.live b _ hb with ⟨h1,_⟩ | ⟨k2,h1,_,_,Mo⟩
         ·rw [bQ] at h1; cases h1
         ·rw [bQ] at h1
          injection h1 with h1
          injection h1 with h1
          subst h1
          obtain ⟨ms,cl,aU,g2,g3,g4⟩:=Mo
          obtain ⟨ny,c',dX,bO⟩:=AH (t2:=t2) (ty:=type) hk jx (hr.get k) aU ⟨g2,g3,g4⟩ hp
          obtain ⟨h5,h6⟩:=vB hr.ok hb bQ aU ny c' j7 bO
          unfold Oper.wp
          have cQ:(execOp a.eval { dst:=none,op:=.call { callee:=.builtin .delete,args:=#[m,k],argTypes:=#[t,t2] },type:=type,pos:=pos,after:=after,guard:=guard }).run P w = .ok (.value (.tuple #[])) (hX w k' ny c'):=by
           show (do let d <- resolve a.eval _ type; invoke d.target d.args:Sem Next).run P w = _
           simp only [resolve,invoke,builtin,Sem.run_bind,Sem.run_pure,Result.andThen_ok,List.map_toArray,List.map_cons,List.map_nil,hmu,dX]
          rw [cQ]
          exact hK _ _ _ _ jZ (hr.step h5 h6) h6
      ·exact h.elim
     ·exact h.elim
    ·exact h.elim
   ·rename_i recv name h1
    exact Mn (o:=⟨dst,.call c,type,pos,after,guard⟩) rfl h1 hr h.2 hK
   ·rename_i f h1
    split at h
    ·rename_i g vs jQ
     obtain ⟨hl,hd,h⟩:=h
     split at h
     ·obtain ⟨r,hp,hk⟩:=h
      refine xe (o:=⟨dst,.call c,type,pos,after,guard⟩) rfl h1 hr jQ hl hp (fun u r' bx' β' w' hkc c8 jk bO=>?_)
      obtain ⟨rfl,rfl⟩:=hkc
      exact hK _ _ _ _ hk ((hr.step c8 jk).put hd bO) (by cases dst <;> exact jk)
     ·refine xe (o:=⟨dst,.call c,type,pos,after,guard⟩) rfl h1 hr jQ hl h (fun u r' bx' β' w' hkc c8 jk bO=>?_)
      exact hK _ _ _ _ hkc ((hr.step c8 jk).put (by cases dst <;> exact hd) bO) (by cases dst <;> exact jk)
    ·exact h.elim
   ·exact h.elim
  ·exact h.elim
end
end Go.Pl
namespace Go.Pl
open Go
section
variable {P:Program} {β:Beta} {M:dR} {w:World}
theorem nz {ops:Array Oper} {st:St} {a:Act} {o:Oper} {g:Nat} {want wb:Bool} (ho:o.guard = some (g,want)) (h:dV ops st g want = some wb) (hr:Rs P β M st a w):Region.wanted o (yielded ops a.tmps) = wb:=by
 unfold dV at h
 unfold Region.wanted yielded
 rw [ho]
 split at h
 ·rename_i d hd
  split at h
  ·rename_i c hs
   injection h with h
   subst h
   simp only [hd,Option.bind_some]
   have bO:=hr.sl d
   by_cases hl:(st.sl d).az = true
   ·rw [aG hl hs] at bO
    have hu:=bO.fH
    have Au:a.tmps[d]? = some (.bool c):=by
     rcases Nat.lt_or_ge d a.tmps.size with h1 | h1
     ·simp [h1] at hu ⊢; exact hu
     ·simp [Array.getElem?_eq_none h1] at hu; exact absurd hu (by intro h; cases h)
    rw [Au,hl]
    cases c <;> cases want <;> rfl
   ·obtain ⟨v,hv⟩:∃ v,st.sl d = .dead v:=by
     cases hq:st.sl d <;> rw [hq] at hl <;> simp [V.az] at hl
     exact ⟨_,rfl⟩
    rw [hv] at bO
    have hu:a.tmps.getD d undef = undef:=by
     generalize a.tmps.getD d undef = q at bO
     cases bO; rfl
    have Au:a.tmps[d]? = none \/ a.tmps[d]? = some undef:=by
     rcases Nat.lt_or_ge d a.tmps.size with h1 | h1
     ·right; simp [h1] at hu ⊢; exact hu
     ·left; exact Array.getElem?_eq_none h1
    have:(st.sl d).az = false:=by simpa using hl
    rw [this]
    rcases Au with Au | Au <;> rw [Au] <;> rfl
  ·cases h
 ·cases h
def rf (ro:Option Nat):Fence:={ Fence.wide with round:=ro }
theorem pE (ro:Option Nat) (n:Nat) {o:Oper} {a:Act} {K:Act -> World -> Prop} {Q:Exit -> Act -> World -> Prop} (hd:∀ c,o.op ≠ .defer c) (h:o.wp P a w K Q):o.wpIn (rf ro) n P a w K Q:=by
 unfold Oper.wpIn
 refine ⟨fun _ _=>trivial,?_⟩
 rw [Oper.semAt_eq _ _ _ hd]
 unfold Oper.wp at h
 generalize (execOp a.eval o).run P w = r at h ⊢
 cases r with
 | ok x w' =>
   cases x with
   | value v=>exact h
   | skip=>exact h
   | defer d=>exact h
   | enter f args=>exact ⟨fun hd=>by simp [rf,Fence.wide] at hd,callsIn_wide.2 h⟩
   | row r args=>exact ⟨fun hd=>by simp [rf,Fence.wide] at hd,fun c cs _=>by
    obtain ⟨v,w2,h1,h2⟩:=h c cs
    exact ⟨v,w2,h1,stepsIn_wide.2 h2⟩⟩
   | round l f tmps assign body=>exact h.elim
   | _=>exact h.elim
 | halt x w'=>cases x <;> first | exact h | exact h.elim
theorem Sa {o:Oper} (h:bV o.op = true):∀ c,o.op ≠ .defer c:=by
 intro c hc
 rw [hc] at h
 simp [bV] at h
theorem pF {d:Bool} {o:Oper} {K:St -> Prop} {st:St} (h:aK P d o K st):∀ c,o.op ≠ .defer c:=by
 intro c hc
 unfold aK at h
 rw [hc] at h
 simp [bV] at h
theorem dT {ro:Option Nat} {n:Nat} {d:Bool} {ops:Array Oper} {o:Oper} {i:Nat} {K:St -> Prop} {st:St} {a:Act} {K':Act -> World -> Prop} {Q:Exit -> Act -> World -> Prop} (hi:ops[i]? = some o) (h:bJ P d ops o K st) (hr:Rs P β M st a w) (hK:hH P β M st w K K') :
 wpOpIn (rf ro) n P ops Q i K' a w:=by
 unfold wpOpIn
 simp only [hi]
 unfold bJ at h
 split at h
 ·rename_i hg
  have hw:Region.wanted o (yielded ops a.tmps) = true:=by simp [Region.wanted,hg]
  rw [if_pos hw]
  exact pE ro n (pF h) (kp h hr hK)
 ·rename_i g want hg
  split at h
  ·rename_i wb mg
   have hw:=nz hg mg hr
   rw [hw]
   split at h
   ·obtain ⟨hc,hd,hk⟩:=h
    cases wb
    ·simp only [Bool.false_eq_true,if_false]
     exact ⟨fun _ _=>trivial,hK.put hr hd (.dead _) hk⟩
    ·simp only [if_true]
     exact pE ro n (Sa (by assumption)) (KV hr (hc rfl) (fun u w' de ht hu=>(hK.trans ht).put de hd hu hk))
   ·split at h
    ·rename_i f args ts c9
     split at h
     ·rename_i q vs jQ
      obtain ⟨hd,r,hc,hk⟩:=h
      cases wb
      ·simp only [Bool.false_eq_true,if_false]
       exact ⟨fun _ _=>trivial,hK.put hr hd (.dead _) hk⟩
      ·simp only [if_true]
       obtain ⟨hl,hp⟩:=hc rfl
       refine pE ro n (fun c hc=>by rw [c9] at hc; cases hc) (xe (o:=o) c9 rfl hr jQ hl hp (fun u r' bx' β' w' hkc c8 jk bO=>?_))
       obtain ⟨rfl,rfl⟩:=hkc
       exact hK _ _ _ _ hk ((hr.step c8 jk).put hd bO) (by cases o.dst <;> exact jk)
     ·exact h.elim
    ·cases wb
     ·simp only [Bool.false_eq_true,if_false]
      obtain ⟨hd,hk⟩:=h.2 rfl
      exact ⟨fun _ _=>trivial,hK.put hr hd (.dead _) hk⟩
     ·simp only [if_true]
      exact pE ro n (pF (h.1 rfl)) (kp (h.1 rfl) hr hK)
  ·exact h.elim
theorem pG {ro:Option Nat} {n:Nat} {d:Bool} {ops:Array Oper} {K:St -> Prop} {Q:Exit -> Act -> World -> Prop}:∀ (l:List Oper) (k:Nat) (st:St) (a:Act) (w:World) (β:Beta),(∀ j,l[j]? = ops[k + j]?) -> oL P d ops K l st -> Rs P β M st a w -> hH P β M st w K (Q .normal) ->
 wpOpsIn (rf ro) n P ops Q ((List.range' k l.length)) a w
 | [],k,st,a,w,β,_,h,hr,hK=>by
   simp only [List.length_nil,List.range'_zero,wpOpsIn]
   exact hK st β a w h hr (Tr.refl _ _ _)
 | o :: l,k,st,a,w,β,hl,h,hr,hK=>by
   have h0:ops[k]? = some o:=by simpa using (hl 0).symm
   simp only [List.length_cons,List.range'_succ,wpOpsIn_cons]
   refine dT h0 h hr (fun st' β' a' w' hk de ht=>?_)
   exact pG l (k + 1) st' a' w' β' (fun j=>by have:=hl (j + 1); simpa [Nat.add_assoc,Nat.add_comm 1 j] using this) hk de (hK.trans ht)
end
end Go.Pl
namespace Go.Pl
open Go
def St.at (st:St) (bx:aa) (dst:Option Tmp) (v:V):St:=({ st with bx:=bx }:St).put dst v
structure dh (ops:Array Oper) (o:Oper) (st st2:St):Prop where
 sl:∀ t,t ∈ o.looksAt ops -> st2.sl t = st.sl t
 bx:st2.bx = st.bx
 n:st2.n = st.n
section
variable {P:Program} {ops:Array Oper} {o:Oper} {st st2:St}
theorem dh.get (h:dh ops o st st2) (x:Operand) (hx:x ∈ o.op.operands):st2.get x = st.get x:=by
 cases x with
 | tmp t =>
   refine h.sl t (List.mem_append_left _ (List.mem_filterMap.2 ⟨.tmp t,by simpa using hx,rfl⟩))
 | _=>rfl
theorem dh.dst (h:dh ops o st st2) (d:Option Tmp):aL st2 d ↔ aL st d:=by
 cases d <;> simp [aL,h.n]
theorem dh.gv (h:dh ops o st st2) (x:Operand) (hx:x ∈ o.op.operands):Pl.gv P st2 x = Pl.gv P st x:=by
 cases x with
 | global g=>rfl
 | tmp t=>exact h.get (.tmp t) hx
 | const v=>exact h.get (.const v) hx
 | func f=>exact h.get (.func f) hx
theorem mz {x:Option Operand} (h:∀ y,x = some y -> st2.get y = st.get y):x.map st2.get = x.map st.get:=by
 cases x with
 | none=>rfl
 | some y=>simp [h y rfl]
theorem dh.ev (h:dh ops o st st2):Pl.ev P st2 o = Pl.ev P st o:=by
 obtain ⟨dst,op,type,pos,after,guard⟩:=o
 have hg:=h.get
 have hb:=h.bx
 simp only at hg
 unfold Pl.ev
 simp only
 split
 ·exact congrArg _ (hg _ (by simp [Op.operands]))
 ·exact congrArg _ (hg _ (by simp [Op.operands]))
 ·rw [hg _ (by simp [Op.operands]),hg _ (by simp [Op.operands]),hg _ (by simp [Op.operands])]
 ·rw [h.gv _ (by simp [Op.operands]),hb]
 ·rw [hg _ (by simp [Op.operands])]
 ·rw [h.gv _ (by simp [Op.operands]),hg _ (by simp [Op.operands])]
 ·rw [hg _ (by simp [Op.operands])]
 ·rw [hg _ (by simp [Op.operands]),hg _ (by simp [Op.operands])]
 ·rw [hg _ (by simp [Op.operands])]
 ·rw [hg _ (by simp [Op.operands]),hg _ (by simp [Op.operands])]
 ·rw [hg _ (by simp [Op.operands])]
 ·rw [hg _ (by simp [Op.operands])]
 ·rw [hg _ (by simp [Op.operands]),mz (fun y hy=>hg y (by simp [Op.operands,hy])),mz (fun y hy=>hg y (by simp [Op.operands,hy]))]
 ·rw [hg _ (by simp [Op.operands]),mz (fun y hy=>hg y (by simp [Op.operands,hy])),hg _ (by simp [Op.operands]),hg _ (by simp [Op.operands])]
 ·rename_i f first caps
  split
  ·have:caps.toList.map st2.get = caps.toList.map st.get:=List.map_congr_left fun x hx=>hg x (by simp [Op.operands]; right; simpa using hx)
   rw [this]
  ·rename_i x h0
   rw [hg x (by
    have:x ∈ first.toList:=by rw [h0]; simp
    simp [Op.operands]; left; simpa using this)]
  ·rfl
 ·rename_i t parts
  have:(parts.toList.map fun p=>(p.1,st2.get p.2)) = parts.toList.map fun p=>(p.1,st.get p.2):=List.map_congr_left fun p hp=>by
   rw [hg p.2 (by simp only [Op.operands,List.mem_toArray]; exact List.mem_map.2 ⟨p,hp,rfl⟩)]
  rw [this]
 ·rename_i c
  have fK:∀ x,x ∈ c.args.toList -> st2.get x = st.get x:=fun x hx=>hg x (by simp [Op.operands,Call.operands]; right; simpa using hx)
  unfold mn
  split
  ·rename_i x t h0 h1 h2
   rw [fK x (by simp [h1]),hb]
  ·rename_i x y h0 h1
   rw [fK x (by simp [h1]),fK y (by simp [h1])]
  ·rename_i x y h0 h1
   rw [fK x (by simp [h1]),fK y (by simp [h1])]
  ·rfl
 ·rw [hg _ (by simp [Op.operands]),hg _ (by simp [Op.operands]),hb]
 ·rw [hg _ (by simp [Op.operands])]
 ·rw [hg _ (by simp [Op.operands])]
 ·rw [hg _ (by simp [Op.operands])]
 ·rfl
def j8 (P:Program) (d:Bool) (ops:Array Oper) (o:Oper) (st:St) (K:St -> Prop) (tr:(St -> Prop) -> St -> Prop):Prop :=
 ∃ T:aa -> V -> Prop,(∃ bx v,T bx v) /\ (∀ bx v,T bx v -> K (st.at bx o.dst v)) /\
  ∀ (st2:St) (K2:St -> Prop),dh ops o st st2 -> (∀ bx v,T bx v -> K2 (st2.at bx o.dst v)) -> tr K2 st2
theorem kU {bx:aa} (h:ba bx):∃ b,bx b = none:=by
 obtain ⟨n,hn⟩:=h
 exact ⟨n,hn n (Nat.le_refl _)⟩
theorem gT {d:Bool} {K:St -> Prop} {tr:(St -> Prop) -> St -> Prop} (v:V) (hk:K (st.put o.dst v)) (h:∀ (st2:St) (K2:St -> Prop),dh ops o st st2 -> K2 (st2.put o.dst v) -> tr K2 st2):j8 P d ops o st K tr:=by
 refine ⟨fun bx u=>bx = st.bx /\ u = v,⟨_,_,rfl,rfl⟩,?_,fun st2 K2 ha hT=>h st2 K2 ha ?_⟩
 ·rintro bx u ⟨rfl,rfl⟩; exact hk
 ·have:=hT st.bx v ⟨rfl,rfl⟩
  rw [<- ha.bx] at this
  exact this
theorem gU {d:Bool} {K:St -> Prop} {tr:(St -> Prop) -> St -> Prop} (box:bF) (v:Nat -> V) (hf:ba st.bx) (hk:∀ b,st.bx b = none -> K ((st.box b (some box)).put o.dst (v b)))
 (h:∀ (st2:St) (K2:St -> Prop),dh ops o st st2 -> (∀ b,st2.bx b = none -> K2 ((st2.box b (some box)).put o.dst (v b))) -> tr K2 st2):j8 P d ops o st K tr:=by
 refine ⟨fun bx u=>∃ b,st.bx b = none /\ bx = aB st.bx b (some box) /\ u = v b,?_,?_,fun st2 K2 ha hT=>h st2 K2 ha fun b hb=>?_⟩
 ·obtain ⟨b,hb⟩:=kU hf
  exact ⟨_,_,b,hb,rfl,rfl⟩
 ·rintro bx u ⟨b,hb,rfl,rfl⟩; exact hk b hb
 ·have:=hT _ _ ⟨b,by rw [<- ha.bx]; exact hb,rfl,rfl⟩
  rw [<- ha.bx] at this
  exact this
theorem pH {t:TypeId} {m k v:V} {K:St -> Prop} {tr:(St -> Prop) -> St -> Prop} (hd:o.dst = none) (h:p8 P st t m k v K)
 (hk:∀ (st2:St) (K2:St -> Prop),dh ops o st st2 -> p8 P st2 t m k v K2 -> tr K2 st2):j8 P true ops o st K tr:=by
 unfold p8 at h
 split at h
 ·rename_i kt et b hkn
  split at h
  ·rename_i es hb
   split at h
   ·rename_i j7 hp
    obtain ⟨h1,h2,h3⟩:=h
    refine ⟨fun bx u=>bx = aB st.bx b (some (.map j7)) /\ u = .cU,⟨_,_,rfl,rfl⟩,?_,fun st2 K2 ha hT=>hk st2 K2 ha ?_⟩
    ·rintro bx u ⟨rfl,rfl⟩
     rw [hd]
     exact h3
    ·unfold p8
     simp only [hkn,ha.bx,hb,hp]
     refine ⟨h1,h2,?_⟩
     have:=hT _ _ ⟨rfl,rfl⟩
     rw [hd] at this
     unfold St.box
     rw [ha.bx]
     exact this
   ·exact h.elim
  ·exact h.elim
 ·exact h.elim
theorem D9 {a z:V} {es wS:List (V × V)} {j:Nat} {v:V} (h:kD a z es = some (wS,j,v)):∃ e,wS[j]? = some e /\ e.2 = v:=by
 unfold kD at h
 split at h
 ·rename_i i x hf
  injection h with h
  injection h with h1 h2
  injection h2 with h2 h3
  subst h1 h2 h3
  obtain ⟨_,e,he,h4,_⟩:=jP hf
  exact ⟨e,by simpa using he,h4⟩
 ·injection h with h
  injection h with h1 h2
  injection h2 with h2 h3
  subst h1 h2 h3
  exact ⟨(a,z),by simp,rfl⟩
 ·cases h
theorem xg {t:TypeId} {m k:V} {K:St -> Prop} {tr:(St -> Prop) -> St -> Prop} (h:q0 P st t m k o.dst K)
 (hk:∀ (st2:St) (K2:St -> Prop),dh ops o st st2 -> q0 P st2 t m k o.dst K2 -> tr K2 st2):j8 P true ops o st K tr:=by
 unfold q0 at h
 split at h
 ·rename_i kt et b hkn
  split at h
  ·rename_i es z hb hz
   split at h
   ·rename_i wS j v hp
    obtain ⟨h1,h2,h3,h4⟩:=h
    obtain ⟨e,he,_⟩:=D9 hp
    have hj:=(List.getElem?_eq_some_iff.1 he).1
    refine ⟨fun bx u=>∃ (bs:List Nat) (c q:Nat),bs.length = wS.length /\ bs.Nodup /\ bs[j]? = some q /\ bx = aB st.bx b (some (.kz wS bs c)) /\ u = .dc [v,.int .i64 q],⟨_,_,List.range wS.length,0,j,by simp,List.nodup_range,by simp [hj],rfl,rfl⟩,?_,fun st2 K2 ha hT=>hk st2 K2 ha ?_⟩
    ·rintro bx u ⟨bs,c,q,g1,g2,g3,rfl,rfl⟩
     exact h4 bs c q g1 g2 g3
    ·unfold q0
     simp only [hkn,ha.bx,hb,hz,hp]
     refine ⟨h1,h2,(ha.dst _).2 h3,fun bs c q g1 g2 g3=>?_⟩
     have:=hT _ _ ⟨bs,c,q,g1,g2,g3,rfl,rfl⟩
     unfold St.box
     rw [ha.bx]
     exact this
   ·exact h.elim
  ·exact h.elim
 ·exact h.elim
theorem tq {m s x:V} {K:St -> Prop} {tr:(St -> Prop) -> St -> Prop} (hd:o.dst = none) (h:jn st m s x K)
 (hk:∀ (st2:St) (K2:St -> Prop),dh ops o st st2 -> jn st2 m s x K2 -> tr K2 st2):j8 P true ops o st K tr:=by
 unfold jn at h
 split at h
 ·rename_i b q
  split at h
  ·rename_i es bs c hb
   obtain ⟨i,q',e,h1,h2,h3,h4⟩:=h
   refine ⟨fun bx u=>bx = aB st.bx b (some (.map (es.set i (e.1,x)))) /\ u = .cU,⟨_,_,rfl,rfl⟩,?_,fun st2 K2 ha hT=>hk st2 K2 ha ?_⟩
   ·rintro bx u ⟨rfl,rfl⟩
    rw [hd]
    exact h4
   ·unfold jn
    simp only [ha.bx,hb]
    refine ⟨i,q',e,h1,h2,h3,?_⟩
    have:=hT _ _ ⟨rfl,rfl⟩
    rw [hd] at this
    unfold St.box
    rw [ha.bx]
    exact this
  ·exact h.elim
 ·exact h.elim
theorem xh {t:TypeId} {m k:V} {K:St -> Prop} {tr:(St -> Prop) -> St -> Prop} (hd:o.dst = none) (h:tk P st t m k K)
 (hk:∀ (st2:St) (K2:St -> Prop),dh ops o st st2 -> tk P st2 t m k K2 -> tr K2 st2):j8 P true ops o st K tr:=by
 unfold tk at h
 split at h
 ·rename_i kt et b hkn
  split at h
  ·rename_i es hb
   split at h
   ·rename_i j7 hp
    obtain ⟨h1,h2,h3⟩:=h
    refine ⟨fun bx u=>bx = aB st.bx b (some (.map j7)) /\ u = .cU,⟨_,_,rfl,rfl⟩,?_,fun st2 K2 ha hT=>hk st2 K2 ha ?_⟩
    ·rintro bx u ⟨rfl,rfl⟩
     rw [hd]
     exact h3
    ·unfold tk
     simp only [hkn,ha.bx,hb,hp]
     refine ⟨h1,h2,?_⟩
     have:=hT _ _ ⟨rfl,rfl⟩
     rw [hd] at this
     unfold St.box
     rw [ha.bx]
     exact this
   ·exact h.elim
  ·exact h.elim
 ·exact h.elim
theorem oo {K:St -> Prop} (h:aK P true o K st):j8 P true ops o st K (aK P true o):=by
 unfold aK at h
 split at h
 ·rename_i he
  obtain ⟨h1,h2,h3⟩:=h
  refine gT _ h3 fun st2 K2 ha hk=>?_
  unfold aK
  rw [if_pos he,ha.ev]
  exact ⟨h1,(ha.dst _).2 h2,hk⟩
 ·rename_i he
  obtain ⟨dst,op,type,pos,after,guard⟩:=o
  simp only at h he ⊢
  have unf:∀ (K2:St -> Prop) (st2:St),aK P true ⟨dst,op,type,pos,after,guard⟩ K2 st2 = _:=fun K2 st2=>by rw [aK,if_neg he]
  split at h
  ·split at h
   ·rename_i z hz
    obtain ⟨h1,h2,h3,h4⟩:=h
    refine gU _ _ h3 h4 fun st2 K2 ha hk=>?_
    rw [unf]
    simp only [hz]
    exact ⟨h1,(ha.dst _).2 h2,by rw [ha.bx]; exact h3,hk⟩
   ·exact h.elim
  ·rename_i e x
   obtain ⟨h1,h2,h3,h4⟩:=h
   refine gU _ _ h3 h4 fun st2 K2 ha hk=>?_
   rw [unf]
   have hg:=ha.get x (by simp [Op.operands])
   simp only [hg]
   exact ⟨h1,(ha.dst _).2 h2,by rw [ha.bx]; exact h3,hk⟩
  ·rename_i t len parts
   split at h
   ·rename_i e hk
    split at h
    ·rename_i z hz
     obtain ⟨h1,h2,h3,h4,h5,h6,h7⟩:=h
     refine gU _ _ h6 h7 fun st2 K2 ha fJ=>?_
     rw [unf]
     have hg:∀ p,p ∈ parts.toList -> st2.get p.2 = st.get p.2:=fun p hp=>ha.get _ (by simp [Op.operands]; exact ⟨p.1,by simpa using hp⟩)
     have Sb:∀ (ps:List (Nat × Operand)) (es:List V),(∀ p,p ∈ ps -> st2.get p.2 = st.get p.2) -> dS st2 es ps = dS st es ps:=by
      intro ps
      induction ps with
      | nil=>intro es _; rfl
      | cons p ps ih =>
        intro es hp
        obtain ⟨i,x⟩:=p
        simp only [dS]
        rw [hp (i,x) (by simp),ih _ (fun p qZ=>hp p (by simp [qZ]))]
     simp only [hk,hz]
     refine ⟨h1,h2,h3,fun p hp=>by rw [hg p hp]; exact h4 p hp,(ha.dst _).2 h5,by rw [ha.bx]; exact h6,?_⟩
     rw [Sb _ _ hg]
     exact fJ
    ·exact h.elim
   ·exact h.elim
  ·rename_i t l c
   split at h
   ·rename_i e kl l' kc c' hk IG ec
    split at h
    ·rename_i z hz
     obtain ⟨h1,h2,h3,h4,h5,h6,h7,h8,h9,qu,Ie⟩:=h
     refine gU _ _ qu Ie fun st2 K2 ha fJ=>?_
     rw [unf]
     have tt:=ha.get l (by simp [Op.operands])
     have vC:=ha.get c (by simp [Op.operands])
     simp only [tt,vC,hk,IG,ec,hz]
     exact ⟨h1,h2,h3,h4,h5,h6,h7,h8,(ha.dst _).2 h9,by rw [ha.bx]; exact qu,fJ⟩
    ·exact h.elim
   ·exact h.elim
  ·rename_i t ad x
   split at h
   ·rename_i b sz i o' eI
    split at h
    ·rename_i ty eU es hb
     obtain ⟨h1,h2,h3,h4,h5,h6,h7⟩:=h
     subst h6
     refine ⟨fun bx v=>bx = aB st.bx b (some (.row ty sz (es.set i (bh (es.getD i .cU) o' (st.get x).cells)))),⟨_,.cU,rfl⟩,?_,fun st2 K2 ha hT=>?_⟩
     ·rintro bx v rfl; exact h7
     ·rw [unf]
      have tt:=ha.get ad (by simp [Op.operands])
      have vC:=ha.get x (by simp [Op.operands])
      simp only [tt,vC,eI,ha.bx,hb]
      refine ⟨h1,h2,h3,h4,h5,trivial,?_⟩
      have:=hT _ .cU rfl
      unfold St.box
      rw [ha.bx]
      exact this
    ·exact h.elim
   ·exact h.elim
  ·obtain ⟨h1,h2,h3⟩:=h
   refine gU _ _ h2 h3 fun st2 K2 ha hk=>?_
   rw [unf]
   exact ⟨(ha.dst _).2 h1,by rw [ha.bx]; exact h2,hk⟩
  ·exact absurd h.1 (by simp)
  ·exact absurd h.1 (by simp)
  ·exact absurd h.1 (by simp)
  ·rename_i t m k x
   obtain ⟨hd,h⟩:=h
   refine pH hd h fun st2 K2 ha hk=>?_
   rw [unf]
   refine ⟨hd,?_⟩
   rw [ha.get m (by simp [Op.operands]),ha.get k (by simp [Op.operands]),ha.get x (by simp [Op.operands])]
   exact hk
  ·rename_i t m k x
   obtain ⟨hd,h⟩:=h
   refine pH hd h fun st2 K2 ha hk=>?_
   rw [unf]
   refine ⟨hd,?_⟩
   rw [ha.get m (by simp [Op.operands]),ha.get k (by simp [Op.operands]),ha.get x (by simp [Op.operands])]
   exact hk
  ·rename_i t m k
   refine xg h fun st2 K2 ha hk=>?_
   rw [unf]
   show q0 P st2 t (st2.get m) (st2.get k) dst K2
   rw [ha.get m (by simp [Op.operands]),ha.get k (by simp [Op.operands])]
   exact hk
  ·rename_i t m s x
   obtain ⟨hd,h⟩:=h
   refine tq hd h fun st2 K2 ha hk=>?_
   rw [unf]
   refine ⟨hd,?_⟩
   rw [ha.get m (by simp [Op.operands]),ha.get s (by simp [Op.operands]),ha.get x (by simp [Op.operands])]
   exact hk
  ·rename_i s d x
   split at h
   ·rename_i e b sz n hk eI
    split at h
    ·rename_i ty eU es hb
     obtain ⟨h1,h2,h3,h4,h5,h6,h7,h8⟩:=h
     refine ⟨fun bx v=>bx = aB st.bx b none /\ v = .sl 1 es,⟨_,_,rfl,rfl⟩,?_,fun st2 K2 ha hT=>?_⟩
     ·rintro bx v ⟨rfl,rfl⟩; exact h8
     ·rw [unf]
      have tt:=ha.get x (by simp [Op.operands])
      simp only [tt,hk,eI,ha.bx,hb]
      refine ⟨h1,h2,h3,h4,h5,h6,(ha.dst _).2 h7,?_⟩
      have:=hT _ _ ⟨rfl,rfl⟩
      unfold St.box
      rw [ha.bx]
      exact this
    ·exact h.elim
   ·exact h.elim
  ·rename_i c
   split at h
   ·rename_i s x t t' h1 h2 h3
    obtain ⟨h0,h⟩:=h
    have R5:∀ st2,dh ops ⟨dst,.call c,type,pos,after,guard⟩ st st2 -> st2.get s = st.get s:=fun st2 ha=>ha.get s (by simp [Op.operands,Call.operands]; right; rw [<- Array.mem_toList_iff,h2]; simp)
    have hgx:∀ st2,dh ops ⟨dst,.call c,type,pos,after,guard⟩ st st2 -> st2.get x = st.get x:=fun st2 ha=>ha.get x (by simp [Op.operands,Call.operands]; right; rw [<- Array.mem_toList_iff,h2]; simp)
    have ka:∀ st2,dh ops ⟨dst,.call c,type,pos,after,guard⟩ st st2 -> ∀ q u,bM st2 q u = bM st q u:=fun st2 ha q u=>by unfold bM; rw [ha.bx]
    have unf2:∀ K2 st2,dh ops ⟨dst,.call c,type,pos,after,guard⟩ st st2 -> da P st2 dst t (st.get s) (st.get x) K2 -> aK P true ⟨dst,.call c,type,pos,after,guard⟩ K2 st2:=by
     intro K2 st2 ha hq
     rw [unf]
     simp only [h1,h2,h3]
     rw [R5 st2 ha,hgx st2 ha]
     exact ⟨h0,hq⟩
    unfold da at h
    split at h
    ·rename_i e hk
     split at h
     ·rename_i news z hn hz
      obtain ⟨g1,g2,g3,g4,h⟩:=h
      split at h
      ·rename_i hs
       obtain ⟨g5,g6,g7⟩:=h
       refine gU _ _ g4 g7 fun st2 K2 ha fJ=>unf2 K2 st2 ha ?_
       unfold da
       simp only [hk,ka st2 ha,hn,hz,hs]
       exact ⟨g1,g2,(ha.dst _).2 g3,by rw [ha.bx]; exact g4,g5,g6,fJ⟩
      ·rename_i b sz n hs
       split at h
       ·rename_i e' eU es hb
        obtain ⟨g5,g6,g7,g8,g9,g10,g11⟩:=h
        refine ⟨fun bx u=>∃ b',aB st.bx b none b' = none /\ bx = aB (aB st.bx b none) b' (some (.row e (aF P e) (es.take n ++ news))) /\ u = .own b' (aF P e) 0 (n + news.length),?_,?_,fun st2 K2 ha hT=>unf2 K2 st2 ha ?_⟩
        ·exact ⟨_,_,b,af _ _ _,rfl,rfl⟩
        ·rintro bx u ⟨b',aR,rfl,rfl⟩
         exact g11 b' aR
        ·unfold da
         simp only [hk,ka st2 ha,hn,hz,hs,ha.bx,hb]
         refine ⟨g1,g2,(ha.dst _).2 g3,g4,g5,g6,g7,g8,g9,g10,fun b' aR=>?_⟩
         have:=hT _ _ ⟨b',aR,rfl,rfl⟩
         unfold St.box
         simp only [ha.bx]
         exact this
       ·exact h.elim
      ·exact h.elim
     ·exact h.elim
    ·exact h.elim
   ·exact absurd h.1 (by simp)
   ·rename_i m k t t2 h1 h2 h3
    obtain ⟨hd,h⟩:=h
    refine xh hd h fun st2 K2 ha hk=>?_
    rw [unf]
    have g1:st2.get m = st.get m:=ha.get m (by
     have:m ∈ c.args.toList:=by rw [h2]; simp
     simp [Op.operands,Call.operands]; right; simpa using this)
    have g2:st2.get k = st.get k:=ha.get k (by
     have:k ∈ c.args.toList:=by rw [h2]; simp
     simp [Op.operands,Call.operands]; right; simpa using this)
    simp only [h1,h2,h3,g1,g2]
    exact ⟨hd,hk⟩
   ·exact absurd h.1 (by simp)
   ·rename_i f h1
    split at h
    ·rename_i g vs jQ
     obtain ⟨h2,h3,h4⟩:=h
     rw [if_pos trivial] at h4
     obtain ⟨r,h5,h6⟩:=h4
     refine gT r h6 fun st2 K2 ha fJ=>?_
     rw [unf]
     have vD:st2.get f = st.get f:=ha.get f (by simp [Op.operands,Call.operands,h1])
     have BY:∀ x,x ∈ c.args.toList -> st2.get x = st.get x:=fun x hx=>ha.get x (by simp [Op.operands,Call.operands]; right; simpa using hx)
     have mA:callee st2 f c.args.toList = callee st f c.args.toList:=by
      unfold callee
      rw [vD]
      have:(c.args.toList.map fun x=>(st2.get x).strip) = c.args.toList.map fun x=>(st.get x).strip:=List.map_congr_left fun x hx=>by rw [BY x hx]
      rw [this]
     simp only [h1,mA,jQ]
     refine ⟨⟨by rw [vD]; exact h2.1,fun x hx=>by rw [BY x hx]; exact h2.2 x hx⟩,(ha.dst _).2 h3,?_⟩
     simp only [if_true]
     exact ⟨r,by rw [ha.bx]; exact h5,fJ⟩
    ·exact h.elim
   ·exact h.elim
  ·exact h.elim
theorem dh.wanted (h:dh ops o st st2) {g:Nat} {want:Bool} (ho:o.guard = some (g,want)):dV ops st2 g want = dV ops st g want:=by
 unfold dV
 cases hd:(ops[g]?).bind (·.dst) with
 | none=>rfl
 | some d =>
   have:st2.sl d = st.sl d:=h.sl d (by simp [Oper.looksAt,ho,hd])
   simp only [this]
theorem hZ {K:St -> Prop} (h:bJ P true ops o K st):j8 P true ops o st K (bJ P true ops o):=by
 unfold bJ at h
 split at h
 ·rename_i hg
  obtain ⟨T,h1,h2,h3⟩:=oo (ops:=ops) h
  refine ⟨T,h1,h2,fun st2 K2 ha hT=>?_⟩
  unfold bJ
  simp only [hg]
  exact h3 st2 K2 ha hT
 ·rename_i g want hg
  split at h
  ·rename_i wb mg
   split at h
   ·rename_i he
    obtain ⟨h1,h2,h3⟩:=h
    refine gT _ h3 fun st2 K2 ha hk=>?_
    unfold bJ
    simp only [hg,ha.wanted hg,mg]
    rw [if_pos he,ha.ev]
    exact ⟨h1,(ha.dst _).2 h2,hk⟩
   ·rename_i he
    split at h
    ·rename_i f args ts c9
     split at h
     ·rename_i q vs jQ
      obtain ⟨h1,r,h2,h3⟩:=h
      refine gT _ h3 fun st2 K2 ha hk=>?_
      have vD:st2.get f = st.get f:=ha.get f (by simp [c9,Op.operands,Call.operands])
      have BY:∀ x,x ∈ args.toList -> st2.get x = st.get x:=fun x hx=>ha.get x (by simp [c9,Op.operands,Call.operands]; right; simpa using hx)
      have mA:callee st2 f args.toList = callee st f args.toList:=by
       unfold callee
       rw [vD]
       have:(args.toList.map fun x=>(st2.get x).strip) = args.toList.map fun x=>(st.get x).strip:=List.map_congr_left fun x hx=>by rw [BY x hx]
       rw [this]
      unfold bJ
      simp only [hg,ha.wanted hg,mg]
      rw [if_neg he]
      simp only [c9,mA,jQ]
      refine ⟨(ha.dst _).2 h1,r,fun hw=>?_,hk⟩
      obtain ⟨h4,h5⟩:=h2 hw
      exact ⟨⟨by rw [vD]; exact h4.1,fun x hx=>by rw [BY x hx]; exact h4.2 x hx⟩,by rw [ha.bx]; exact h5⟩
     ·exact h.elim
    ·rename_i c9
     have unf:∀ (K2:St -> Prop) (st2:St),dh ops o st st2 -> ((wb = true -> aK P true o K2 st2) /\ (wb = false -> aL st2 o.dst /\ K2 (st2.put o.dst (.dead .cU)))) -> bJ P true ops o K2 st2:=by
      intro K2 st2 ha hq
      unfold bJ
      simp only [hg,ha.wanted hg,mg]
      rw [if_neg he]
      exact hq
     cases wb
     ·obtain ⟨h1,h2⟩:=h.2 rfl
      exact gT _ h2 fun st2 K2 ha hk=>unf K2 st2 ha ⟨(fun h=>by cases h),fun _=>⟨(ha.dst _).2 h1,hk⟩⟩
     ·obtain ⟨T,h1,h2,h3⟩:=oo (ops:=ops) (h.1 rfl)
      exact ⟨T,h1,h2,fun st2 K2 ha hT=>unf K2 st2 ha ⟨fun _=>h3 st2 K2 ha hT,fun h=>by cases h⟩⟩
  ·exact h.elim
theorem vF {t:TypeId} {m k v:V} {K K2:St -> Prop} (hm:∀ s,K s -> K2 s) (h:p8 P st t m k v K):p8 P st t m k v K2:=by
 unfold p8 at h ⊢
 split at h
 ·split at h
  ·split at h
   ·exact ⟨h.1,h.2.1,hm _ h.2.2⟩
   ·exact h.elim
  ·exact h.elim
 ·exact h.elim
theorem DA {t:TypeId} {m k:V} {d:Option Tmp} {K K2:St -> Prop} (hm:∀ s,K s -> K2 s) (h:q0 P st t m k d K):q0 P st t m k d K2:=by
 unfold q0 at h ⊢
 split at h
 ·split at h
  ·split at h
   ·exact ⟨h.1,h.2.1,h.2.2.1,fun bs c q g1 g2 g3=>hm _ (h.2.2.2 bs c q g1 g2 g3)⟩
   ·exact h.elim
  ·exact h.elim
 ·exact h.elim
theorem zd {m s x:V} {K K2:St -> Prop} (hm:∀ s,K s -> K2 s) (h:jn st m s x K):jn st m s x K2:=by
 unfold jn at h ⊢
 split at h
 ·split at h
  ·obtain ⟨i,q',e,h1,h2,h3,h4⟩:=h
   exact ⟨i,q',e,h1,h2,h3,hm _ h4⟩
  ·exact h.elim
 ·exact h.elim
theorem DB {t:TypeId} {m k:V} {K K2:St -> Prop} (hm:∀ s,K s -> K2 s) (h:tk P st t m k K):tk P st t m k K2:=by
 unfold tk at h ⊢
 split at h
 ·split at h
  ·split at h
   ·exact ⟨h.1,h.2.1,hm _ h.2.2⟩
   ·exact h.elim
  ·exact h.elim
 ·exact h.elim
theorem DC {o:Option Tmp} {r:V} {name:String} {args:List V} {K K2:St -> Prop} (hm:∀ s,K s -> K2 s) (h:uQ P st o r name args K):uQ P st o r name args K2:=by
 unfold uQ at h ⊢
 split at h
 ·split at h
  ·obtain ⟨h1,h2,h3⟩:=h
   refine ⟨h1,h2,h3.1,fun β M w vs h4 h4g h5 h6=>(h3.2 β M w vs h4 h4g h5 h6).mono ?_⟩
   rintro e w' ⟨v,r,bx',β',h7,h8,h9⟩
   exact ⟨v,r,bx',β',h7,hm _ h8,h9⟩
  ·exact h.elim
 ·exact h.elim
theorem gH {d:Bool} {K K2:St -> Prop} (hm:∀ s,K s -> K2 s) (h:aK P d o K st):aK P d o K2 st:=by
 unfold aK at h ⊢
 split at h
 ·rename_i he
  rw [if_pos he]
  exact ⟨h.1,h.2.1,hm _ h.2.2⟩
 ·rename_i he
  rw [if_neg he]
  split at h
  ·split at h
   ·exact ⟨h.1,h.2.1,h.2.2.1,fun b hb=>hm _ (h.2.2.2 b hb)⟩
   ·exact h.elim
  ·exact ⟨h.1,h.2.1,h.2.2.1,fun b hb=>hm _ (h.2.2.2 b hb)⟩
  ·split at h
   ·split at h
    ·obtain ⟨h1,h2,h3,h4,h5,h6,h7⟩:=h
     exact ⟨h1,h2,h3,h4,h5,h6,fun b hb=>hm _ (h7 b hb)⟩
    ·exact h.elim
   ·exact h.elim
  ·split at h
   ·split at h
    ·obtain ⟨h1,h2,h3,h4,h5,h6,h7,h8,h9,qu,Ie⟩:=h
     exact ⟨h1,h2,h3,h4,h5,h6,h7,h8,h9,qu,fun b hb=>hm _ (Ie b hb)⟩
    ·exact h.elim
   ·exact h.elim
  ·split at h
   ·split at h
    ·obtain ⟨h1,h2,h3,h4,h5,h6,h7⟩:=h
     exact ⟨h1,h2,h3,h4,h5,h6,hm _ h7⟩
    ·exact h.elim
   ·exact h.elim
  ·exact ⟨h.1,h.2.1,fun b hb=>hm _ (h.2.2 b hb)⟩
  ·refine ⟨h.1,?_⟩
   have h:=h.2
   unfold q8 at h ⊢
   split at h
   ·split at h
    ·exact ⟨h.1,h.2.1,fun bs c b' h1 h2 h3 h4=>hm _ (h.2.2 bs c b' h1 h2 h3 h4)⟩
    ·exact h.elim
   ·exact h.elim
  ·refine ⟨h.1,?_⟩
   have h:=h.2
   unfold v8 at h ⊢
   split at h
   ·split at h
    ·split at h
     ·exact ⟨h.1,h.2.1,h.2.2.1,fun h1=>hm _ (h.2.2.2.1 h1),fun i q e h1 h2 h3=>hm _ (h.2.2.2.2 i q e h1 h2 h3)⟩
     ·exact h.elim
    ·exact h.elim
   ·exact h.elim
  ·refine ⟨h.1,?_⟩
   have h:=h.2
   unfold q9 at h ⊢
   split at h
   ·split at h
    ·split at h
     ·obtain ⟨h1,h2,i,e,pre,q,h3,h4,h5,h6⟩:=h
      exact ⟨h1,h2,i,e,pre,q,h3,h4,h5,hm _ h6⟩
     ·exact h.elim
    ·exact h.elim
   ·exact h.elim
  ·exact ⟨h.1,vF hm h.2⟩
  ·exact ⟨h.1,vF hm h.2⟩
  ·exact DA hm h
  ·exact ⟨h.1,zd hm h.2⟩
  ·split at h
   ·split at h
    ·obtain ⟨h1,h2,h3,h4,h5,h6,h7,h8⟩:=h
     exact ⟨h1,h2,h3,h4,h5,h6,h7,hm _ h8⟩
    ·exact h.elim
   ·exact h.elim
  ·split at h
   ·obtain ⟨h0,h⟩:=h
    refine ⟨h0,?_⟩
    unfold da at h ⊢
    split at h
    ·split at h
     ·obtain ⟨g1,g2,g3,g4,h⟩:=h
      refine ⟨g1,g2,g3,g4,?_⟩
      split at h
      ·exact ⟨h.1,h.2.1,fun b hb=>hm _ (h.2.2 b hb)⟩
      ·split at h
       ·obtain ⟨g5,g6,g7,g8,g9,g10,g11⟩:=h
        exact ⟨g5,g6,g7,g8,g9,g10,fun b hb=>hm _ (g11 b hb)⟩
       ·exact h.elim
      ·exact h.elim
     ·exact h.elim
    ·exact h.elim
   ·obtain ⟨h1,h2,h⟩:=h
    refine ⟨h1,h2,?_⟩
    unfold tj at h ⊢
    split at h
    ·split at h
     ·exact ⟨h.1,h.2.1,h.2.2.1,h.2.2.2.1,h.2.2.2.2.1,h.2.2.2.2.2.1,hm _ h.2.2.2.2.2.2⟩
     ·exact h.elim
    ·exact h.elim
   ·exact ⟨h.1,DB hm h.2⟩
   ·exact ⟨h.1,DC hm h.2⟩
   ·split at h
    ·obtain ⟨h1,h2,h3⟩:=h
     refine ⟨h1,h2,?_⟩
     split at h3
     ·rename_i hd
      obtain ⟨r,h4,h5⟩:=h3
      rw [if_pos hd]
      exact ⟨r,h4,hm _ h5⟩
     ·rename_i hd
      rw [if_neg hd]
      refine ⟨h3.1,fun β M w vs h4 h4g h5 h6=>(h3.2 β M w vs h4 h4g h5 h6).mono ?_⟩
      rintro e w' ⟨v,r,bx',β',h7,h8,h9⟩
      exact ⟨v,r,bx',β',h7,hm _ h8,h9⟩
    ·exact h.elim
   ·exact h.elim
  ·exact h.elim
theorem dk {d:Bool} {K K2:St -> Prop} (hm:∀ s,K s -> K2 s) (h:bJ P d ops o K st):bJ P d ops o K2 st:=by
 unfold bJ at h ⊢
 split at h
 ·exact gH hm h
 ·split at h
  ·split at h
   ·rename_i he
    rw [if_pos he]
    exact ⟨h.1,h.2.1,hm _ h.2.2⟩
   ·rename_i he
    rw [if_neg he]
    split at h
    ·split at h
     ·obtain ⟨h1,r,h2,h3⟩:=h
      exact ⟨h1,r,h2,hm _ h3⟩
     ·exact h.elim
    ·exact ⟨fun hw=>gH hm (h.1 hw),fun hw=>⟨(h.2 hw).1,hm _ (h.2 hw).2⟩⟩
  ·exact h.elim
end
end Go.Pl
namespace Go.Pl
open Go
def nT (o:Oper):Bool :=
 match o.op with
 | .move _ | .assign _ | .pick .. | .fieldAddr .. | .indexAddr .. | .field .. | .index .. | .extract .. | .binOp .. | .unOp .. | .slice .. | .makeFunc .. | .makeInterface .. | .typeAssert .. | .nilCheck _=>true
 | .convert s d _=>s != d
 | _=>false
def pI (o:Oper):Bool :=
 bV o.op || match o.op with
 | .call { callee:=.value _,.. }=>true
 | _=>false
def gJ (ops:Array Oper) (i j:Oper):Bool:=i.apart ops j && (nT i || nT j || (pI i && pI j))
def maskAt (ms:List Nat) (o:Oper):Nat:=o.after.toList.foldl (fun acc e=>if Region.binds .any e = true then acc ||| (2 ^ e.on ||| ms.getD e.on 0) else acc) 0
def iE:List Oper -> List Nat -> List Nat
 | [],ms=>ms
 | o :: os,ms=>iE os (ms ++ [maskAt ms o])
def dC (ops:Array Oper):List Nat:=iE ops.toList []
def tu (ops:Array Oper):Bool :=
 let ms:=dC ops
 (List.range ops.size).all fun k=>match ops[k]? with
  | some ok=>ok.after.all (fun e=>!Region.binds .any e || decide (e.on < k)) &&
   (List.range ops.size).all fun j=>decide (j <= k) || match ops[j]? with
    | some oj=>(ms.getD j 0).testBit k || gJ ops ok oj
    | none=>true
  | none=>true
section
variable {P:Program} {ops:Array Oper} {st:St}
theorem ia (st:St) (bx:aa) {d1 d2:Option Tmp} (v1 v2:V) (h:∀ d,d1 = some d -> d2 ≠ some d):(st.put d1 v1).at bx d2 v2 = (st.at bx d2 v2).put d1 v1:=by
 cases d1 with
 | none=>rfl
 | some a =>
   cases d2 with
   | none=>rfl
   | some b =>
     have bB:a ≠ b:=fun e=>h a rfl (by rw [e])
     simp only [St.at,St.put]
     congr 1
     funext y
     simp only [aB]
     by_cases e1:y = b <;> by_cases e2:y = a
     ·exact absurd (e2.symm.trans e1) bB
     ·simp [e1,Ne.symm bB]
     ·simp [e2,bB]
     ·simp [e1,e2]
theorem IH (st:St) (d:Option Tmp) (v:V):st.at st.bx d v = st.put d v:=rfl
theorem jH {o:Oper} {d:Option Tmp} {v:V} (h:∀ x,d = some x -> x ∉ o.looksAt ops):dh ops o st (st.put d v):=by
 cases d with
 | none=>exact ⟨fun _ _=>rfl,rfl,rfl⟩
 | some x=>exact ⟨fun t ht=>ae _ _ (fun e=>h x rfl (e ▸ ht)),rfl,rfl⟩
theorem iF {o:Oper} {d:Option Tmp} {v:V} (h:∀ x,d = some x -> x ∉ o.looksAt ops):dh ops o (st.put d v) st:=by
 obtain ⟨h1,h2,h3⟩:=jH (ops:=ops) (o:=o) (st:=st) (v:=v) h
 exact ⟨fun t ht=>(h1 t ht).symm,h2.symm,h3.symm⟩
theorem mB {o:Oper} (hs:pI o = true) {K:St -> Prop} (h:bJ P true ops o K st) :
 ∃ v,K (st.put o.dst v) /\ ∀ (st2:St) (K2:St -> Prop),dh ops o st st2 -> K2 (st2.put o.dst v) -> bJ P true ops o K2 st2:=by
 unfold bJ at h
 split at h
 ·rename_i hg
  unfold aK at h
  split at h
  ·rename_i he
   refine ⟨_,h.2.2,fun st2 K2 ha hk=>?_⟩
   unfold bJ
   simp only [hg]
   unfold aK
   rw [if_pos he,ha.ev]
   exact ⟨h.1,(ha.dst _).2 h.2.1,hk⟩
  ·rename_i he
   obtain ⟨dst,op,type,pos,after,guard⟩:=o
   simp only [pI,Bool.or_eq_true] at hs
   simp only at he hg
   rcases hs with hs | hs
   ·exact absurd hs he
   ·split at hs
    ·rename_i f args ts
     simp only at h
     split at h
     ·rename_i g vs jQ
      obtain ⟨h3,h4,h5⟩:=h
      rw [if_pos trivial] at h5
      obtain ⟨r,h6,h7⟩:=h5
      refine ⟨r,h7,fun st2 K2 ha hk=>?_⟩
      have vD:st2.get f = st.get f:=ha.get f (by simp [Op.operands,Call.operands])
      have BY:∀ x,x ∈ args.toList -> st2.get x = st.get x:=fun x hx=>ha.get x (by simp [Op.operands,Call.operands]; right; simpa using hx)
      have mA:callee st2 f args.toList = callee st f args.toList:=by
       unfold callee
       rw [vD]
       have:(args.toList.map fun x=>(st2.get x).strip) = args.toList.map fun x=>(st.get x).strip:=List.map_congr_left fun x hx=>by rw [BY x hx]
       rw [this]
      unfold bJ
      simp only [hg]
      unfold aK
      rw [if_neg he]
      simp only [mA,jQ,if_true]
      exact ⟨⟨by rw [vD]; exact h3.1,fun x hx=>by rw [BY x hx]; exact h3.2 x hx⟩,(ha.dst _).2 h4,r,by rw [ha.bx]; exact h6,hk⟩
     ·exact h.elim
    ·cases hs
 ·rename_i g want hg
  split at h
  ·rename_i wb mg
   split at h
   ·rename_i he
    refine ⟨_,h.2.2,fun st2 K2 ha hk=>?_⟩
    unfold bJ
    simp only [hg,ha.wanted hg,mg]
    rw [if_pos he,ha.ev]
    exact ⟨h.1,(ha.dst _).2 h.2.1,hk⟩
   ·rename_i he
    split at h
    ·rename_i f args ts c9
     split at h
     ·rename_i q vs jQ
      obtain ⟨h3,r,h4,h5⟩:=h
      refine ⟨_,h5,fun st2 K2 ha hk=>?_⟩
      have vD:st2.get f = st.get f:=ha.get f (by simp [c9,Op.operands,Call.operands])
      have BY:∀ x,x ∈ args.toList -> st2.get x = st.get x:=fun x hx=>ha.get x (by simp [c9,Op.operands,Call.operands]; right; simpa using hx)
      have mA:callee st2 f args.toList = callee st f args.toList:=by
       unfold callee
       rw [vD]
       have:(args.toList.map fun x=>(st2.get x).strip) = args.toList.map fun x=>(st.get x).strip:=List.map_congr_left fun x hx=>by rw [BY x hx]
       rw [this]
      unfold bJ
      simp only [hg,ha.wanted hg,mg]
      rw [if_neg he]
      simp only [c9,mA,jQ]
      refine ⟨(ha.dst _).2 h3,r,fun hw=>?_,hk⟩
      obtain ⟨h6,h7⟩:=h4 hw
      exact ⟨⟨by rw [vD]; exact h6.1,fun x hx=>by rw [BY x hx]; exact h6.2 x hx⟩,by rw [ha.bx]; exact h7⟩
     ·exact h.elim
    ·rename_i c9
     simp only [pI,Bool.or_eq_true] at hs
     rcases hs with hs | hs
     ·exact absurd hs he
     ·cases hs
  ·exact h.elim
theorem BZ {o:Oper} (h:nT o = true) (bx:aa):bV o.op = true /\ ev P { st with bx:=bx } o = ev P st o:=by
 obtain ⟨dst,op,type,pos,after,guard⟩:=o
 have hg:∀ x,({ st with bx:=bx }:St).get x = st.get x:=fun x=>by cases x <;> rfl
 have vC:∀ x:Option Operand,x.map ({ st with bx:=bx }:St).get = x.map st.get:=fun x=>by cases x <;> simp [hg]
 have Sc:({ st with bx:=bx }:St).get = st.get:=funext hg
 have hg4:∀ x,gv P { st with bx:=bx } x = gv P st x:=fun x=>by cases x <;> rfl
 cases op
 case slice t x lo hi mx=>refine ⟨rfl,?_⟩; cases mx <;> cases hi <;> simp only [ev,Sc]
 case indexAddr t x ix=>exact ⟨rfl,by simp only [ev,Sc]; rw [hg4]⟩
 case convert s d x=>exact ⟨h,by simp only [ev,Sc]⟩
 all_goals simp only [nT] at h
 all_goals first | (cases h; done) | (exact ⟨rfl,by simp only [ev,Sc]⟩) | (refine ⟨rfl,?_⟩; simp only [ev]; split <;> rw [Sc])
def Y0 (P:Program) (ops:Array Oper) (o:Oper) (st:St) (v:V):Prop :=
 match o.guard with
 | none=>(ev P st o).1 /\ v = (ev P st o).2
 | some (g,want)=>∃ wb,dV ops st g want = some wb /\ (wb = true -> (ev P st o).1) /\ v = eB wb (ev P st o).2
theorem Y0.fn {o:Oper} {v v':V} (h:Y0 P ops o st v) (h':Y0 P ops o st v'):v = v':=by
 unfold Y0 at h h'
 split at h
 ·rename_i hg; simp only [hg] at h'; rw [h.2,h'.2]
 ·rename_i hg
  simp only [hg] at h'
  obtain ⟨wb,h1,_,h2⟩:=h
  obtain ⟨wb',h3,_,h4⟩:=h'
  rw [h1] at h3
  injection h3 with h3
  subst h3
  rw [h2,h4]
theorem Ca {o:Oper} (hg:o.guard = none) {v:V}:Y0 P ops o st v ↔ (ev P st o).1 /\ v = (ev P st o).2:=by unfold Y0; simp only [hg]
theorem xk {o:Oper} {g:Nat} {want:Bool} (hg:o.guard = some (g,want)) {v:V}:Y0 P ops o st v ↔ ∃ wb,dV ops st g want = some wb /\ (wb = true -> (ev P st o).1) /\ v = eB wb (ev P st o).2:=by unfold Y0; simp only [hg]
theorem qB {o:Oper} (hc:nT o = true) {K:St -> Prop}:bJ P true ops o K st ↔ ∃ v,Y0 P ops o st v /\ aL st o.dst /\ K (st.put o.dst v):=by
 have he:=(BZ (P:=P) (st:=st) hc st.bx).1
 cases hg:o.guard with
 | none =>
   have e1:bJ P true ops o K st = ((ev P st o).1 /\ aL st o.dst /\ K (st.put o.dst (ev P st o).2)):=by
    unfold bJ aK
    simp only [hg]
    rw [if_pos he]
   rw [e1]
   constructor
   ·rintro ⟨h1,h2,h3⟩; exact ⟨_,(Ca hg).2 ⟨h1,rfl⟩,h2,h3⟩
   ·rintro ⟨v,h1,h2,h3⟩
    obtain ⟨h4,rfl⟩:=(Ca hg).1 h1
    exact ⟨h4,h2,h3⟩
 | some gw =>
   obtain ⟨g,want⟩:=gw
   cases mg:dV ops st g want with
   | none =>
     have e1:bJ P true ops o K st = False:=by
      unfold bJ
      simp only [hg,mg]
     rw [e1]
     constructor
     ·exact fun h=>h.elim
     ·rintro ⟨v,h1,_⟩
      obtain ⟨wb,h0,_⟩:=(xk hg).1 h1
      rw [mg] at h0
      cases h0
   | some wb =>
     have e1:bJ P true ops o K st = ((wb = true -> (ev P st o).1) /\ aL st o.dst /\ K (st.put o.dst (eB wb (ev P st o).2))):=by
      unfold bJ
      simp only [hg,mg]
      rw [if_pos he]
     rw [e1]
     constructor
     ·rintro ⟨h1,h2,h3⟩; exact ⟨_,(xk hg).2 ⟨wb,mg,h1,rfl⟩,h2,h3⟩
     ·rintro ⟨v,h1,h2,h3⟩
      obtain ⟨wb',h0,h4,rfl⟩:=(xk hg).1 h1
      rw [mg] at h0
      injection h0 with h0
      subst h0
      exact ⟨h4,h2,h3⟩
theorem Y0.agree {o:Oper} (hc:nT o = true) {st2:St} (hs:∀ t,t ∈ o.looksAt ops -> st2.sl t = st.sl t) (hn:st2.n = st.n) {v:V} (h:Y0 P ops o st v):Y0 P ops o st2 v:=by
 have ha:dh ops o st { st2 with bx:=st.bx }:=⟨hs,rfl,hn⟩
 have h1:ev P st2 o = ev P st o:=by
  have:=(BZ (P:=P) (st:={ st2 with bx:=st.bx }) hc st2.bx).2
  rw [<- ha.ev,<- this]
 unfold Y0 at h ⊢
 split
 ·rename_i hg; simp only [hg] at h; rw [h1]; exact h
 ·rename_i g want hg
  simp only [hg] at h
  obtain ⟨wb,h2,h3,h4⟩:=h
  refine ⟨wb,?_,by rw [h1]; exact h3,by rw [h1]; exact h4⟩
  have:=ha.wanted hg
  rw [<- h2,<- this]
  rfl
theorem mC {bx:aa} {d:Option Tmp} {v:V} {t:Nat} (h:d ≠ some t):(st.at bx d v).sl t = st.sl t:=by
 cases d with
 | none=>rfl
 | some x=>exact ae _ _ (fun e=>h (by rw [e]))
theorem uW {bx:aa} {d:Option Tmp} {v:V}:(st.at bx d v).n = st.n:=by cases d <;> rfl
theorem kF {bx:aa} {d e:Option Tmp} {v:V}:aL (st.at bx d v) e ↔ aL st e:=by cases e <;> simp [aL,uW]
theorem oO {i j:Oper} (h:gJ ops i j = true) {K:St -> Prop} (hh:bJ P true ops i (bJ P true ops j K) st):bJ P true ops j (bJ P true ops i K) st:=by
 simp only [gJ,Bool.and_eq_true,Bool.or_eq_true] at h
 obtain ⟨su,Ms⟩:=h
 obtain ⟨h1,h2,h3⟩:=Oper.apart_spec su
 have DD:∀ d,j.dst = some d -> i.dst ≠ some d:=fun d hd he=>h2 d he hd
 rcases Ms with (hc | hc) | ⟨hi,hj⟩
 ·
  obtain ⟨v,hy,hd,hk⟩:=(qB hc).1 hh
  obtain ⟨T,_,hT,Mt⟩:=hZ hk
  refine Mt st _ (iF h1) (fun bx u hu=>(qB hc).2 ⟨v,hy.agree hc (fun t ht=>mC (fun e=>h3 t e ht)) uW,kF.2 hd,?_⟩)
  have:=hT bx u hu
  rwa [ia st bx v u h2] at this
 ·
  obtain ⟨T,⟨aD,u0,h0⟩,hT,Mt⟩:=hZ hh
  obtain ⟨v,hy,hd,_⟩:=(qB hc).1 (hT aD u0 h0)
  have Cb:Y0 P ops j st v:=hy.agree hc (fun t ht=>(mC (fun e=>h1 t e ht)).symm) uW.symm
  refine (qB hc).2 ⟨v,Cb,kF.1 hd,Mt _ _ (jH h3) (fun bx u hu=>?_)⟩
  obtain ⟨v',Sd,_,hk⟩:=(qB hc).1 (hT bx u hu)
  have:v' = v:=(Sd.agree (st2:=st) hc (fun t ht=>(mC (fun e=>h1 t e ht)).symm) uW.symm).fn Cb
  subst this
  rw [ia st bx v' u DD]
  exact hk
 ·obtain ⟨v,hk,hv⟩:=mB hi hh
  obtain ⟨u,fJ,hu⟩:=mB hj hk
  refine hu st _ (iF h1) (hv _ _ (jH h3) ?_)
  have:=ia st st.bx v u h2
  have e1:(st.put i.dst v).at st.bx j.dst u = (st.put i.dst v).put j.dst u:=by cases i.dst <;> rfl
  rw [e1,IH] at this
  rw [<- this]
  exact fJ
def qC (P:Program) (ops:Array Oper) (K:St -> Prop):Nat -> Array Bool -> St -> Prop
 | 0,listed,st=>Region.ready .any ops listed = [] /\ K st
 | fuel + 1,listed,st=>(Region.ready .any ops listed = [] -> K st) /\
  ∀ i ∈ Region.ready .any ops listed,∃ o,ops[i]? = some o /\ bJ P true ops o (qC P ops K fuel (listed.setIfInBounds i true)) st
theorem pJ {ro:Option Nat} {n:Nat} {K:St -> Prop} {Q:Exit -> Act -> World -> Prop} {M:dR}:∀ (fuel:Nat) (listed:Array Bool) (st:St) (a:Act) (w:World) (β:Beta),qC P ops K fuel listed st -> Rs P β M st a w -> hH P β M st w K (Q .normal) ->
 wpAnyIn (rf ro) n P .any ops Q fuel listed a w
 | 0,listed,st,a,w,β,h,hr,hK=>⟨h.1,hK st β a w h.2 hr (Tr.refl _ _ _)⟩
 | fuel + 1,listed,st,a,w,β,h,hr,hK=>⟨fun h0=>hK st β a w (h.1 h0) hr (Tr.refl _ _ _),fun i hi=>by
  obtain ⟨o,ho,hg⟩:=h.2 i hi
  exact dT ho hg hr (fun st' β' a' w' hk de ht=>pJ fuel _ st' a' w' β' hk de (hK.trans ht))⟩
def fL (ms:List Nat) (j i:Nat):Prop:=(ms.getD j 0).testBit i = true
theorem ot (ms:List Nat) (i:Nat):∀ (es:List Edge) (acc:Nat),(es.foldl (fun acc e=>if Region.binds .any e = true then acc ||| (2 ^ e.on ||| ms.getD e.on 0) else acc) acc).testBit i = true ->
 acc.testBit i = true \/ ∃ e,e ∈ es /\ Region.binds .any e = true /\ (e.on = i \/ (ms.getD e.on 0).testBit i = true)
 | [],acc,h=>.inl h
 | e :: es,acc,h=>by
   simp only [List.foldl_cons] at h
   rcases ot ms i es _ h with h1 | ⟨e',h1,h2⟩
   ·split at h1
    ·rename_i hb
     simp only [Nat.testBit_or,Bool.or_eq_true,Nat.testBit_two_pow,decide_eq_true_eq] at h1
     rcases h1 with h1 | h1 | h1
     ·exact .inl h1
     ·exact .inr ⟨e,by simp,hb,.inl h1⟩
     ·exact .inr ⟨e,by simp,hb,.inr h1⟩
    ·exact .inl h1
   ·exact .inr ⟨e',by simp [h1],h2⟩
theorem mD:∀ (l:List Oper) (ms:List Nat),(∀ j,j < ms.length -> (iE l ms)[j]? = ms[j]?) /\ ∀ j o,l[j]? = some o -> (iE l ms)[ms.length + j]? = some (maskAt ((iE l ms).take (ms.length + j)) o)
 | [],ms=>⟨fun _ _=>rfl,fun j o h=>by simp at h⟩
 | o :: l,ms=>by
   obtain ⟨h1,h2⟩:=mD l (ms ++ [maskAt ms o])
   simp only [iE]
   refine ⟨fun j hj=>?_,fun j o' ho=>?_⟩
   ·rw [h1 j (by simp; omega),List.getElem?_append_left hj]
   ·match j,ho with
    | 0,ho =>
      simp at ho
      subst ho
      have e1:=h1 ms.length (by simp)
      have e2:(iE l (ms ++ [maskAt ms o])).take ms.length = ms:=by
       apply List.ext_getElem?
       intro k
       rw [List.getElem?_take]
       split
       ·rename_i hk
        rw [h1 k (by simp; omega),List.getElem?_append_left hk]
       ·rw [List.getElem?_eq_none (by omega)]
      rw [Nat.add_zero,e2,e1]
      simp
    | j + 1,ho =>
      have:=h2 j o' (by simpa using ho)
      simp only [List.length_append,List.length_singleton] at this
      rw [show ms.length + (j + 1) = ms.length + 1 + j by omega]
      exact this
theorem AL {j:Nat} {o:Oper} (h:ops[j]? = some o):(dC ops)[j]? = some (maskAt ((dC ops).take j) o):=by
 have:=(mD ops.toList []).2 j o (by simpa using h)
 simpa [dC] using this
def tv (ops:Array Oper) (listed:Array Bool):Prop:=∀ j o,ops[j]? = some o -> listed.getD j false = true -> ∀ e ∈ o.after,Region.binds .any e = true -> listed.getD e.on false = true
theorem ib {listed:Array Bool} (hc:tv ops listed):∀ (j:Nat) (o:Oper) (i:Nat),ops[j]? = some o -> (∀ e ∈ o.after,Region.binds .any e = true -> listed.getD e.on false = true) -> fL (dC ops) j i -> listed.getD i false = true:=by
 intro j
 induction j using Nat.strongRecOn with
 | _ j ih =>
   intro o i ho hd hw
   unfold fL at hw
   have hm:=AL ho
   rw [List.getD_eq_getElem?_getD,hm] at hw
   simp only [Option.getD_some,maskAt] at hw
   rcases ot _ i o.after.toList 0 hw with h1 | ⟨e,h1,h2,h3⟩
   ·simp at h1
   ·have hl:=hd e (by simpa using h1) h2
    rcases h3 with h3 | h3
    ·rw [<- h3]; exact hl
    ·by_cases dr:e.on < j
     ·have hlen:e.on < (dC ops).length:=by
       have:=(List.getElem?_eq_some_iff.1 hm).1
       omega
      have h4:fL (dC ops) e.on i:=by
       unfold fL
       rw [List.getD_eq_getElem?_getD,List.getElem?_take,if_pos dr] at h3
       rw [List.getD_eq_getElem?_getD]
       exact h3
      have Mu:e.on < ops.size:=by
       have:=(Array.getElem?_eq_some_iff.1 ho).1
       omega
      have EM:ops[e.on]? = some ops[e.on]:=Array.getElem?_eq_getElem Mu
      exact ih e.on dr _ i EM (hc e.on _ EM hl) h4
     ·rw [List.getD_eq_getElem?_getD,List.getElem?_take,if_neg dr] at h3
      simp at h3
theorem DE {K:St -> Prop} {i:Nat} {oi:Oper} (hi:ops[i]? = some oi):∀ (fuel:Nat) (listed:Array Bool) (st:St),tv ops listed ->
 (∀ j oj,ops[j]? = some oj -> j ≠ i -> listed.getD j true = false -> ¬ fL (dC ops) j i -> gJ ops oi oj = true) ->
 i ∈ Region.ready .any ops listed -> bJ P true ops oi (qC P ops K fuel (listed.setIfInBounds i true)) st -> qC P ops K (fuel + 1) listed st:=by
 intro fuel
 induction fuel with
 | zero =>
   intro listed st _ _ hr H
   refine ⟨fun h=>(by rw [h] at hr; cases hr),fun j hj=>?_⟩
   by_cases pv:j = i
   ·subst pv; exact ⟨oi,hi,H⟩
   ·obtain ⟨T,⟨bx,v,h0⟩,hT,_⟩:=hZ H
    have:=ready_mono hj pv
    rw [(hT bx v h0).1] at this
    cases this
 | succ fuel ih =>
   intro listed st jj mE hr H
   refine ⟨fun h=>(by rw [h] at hr; cases hr),fun j hj=>?_⟩
   by_cases pv:j = i
   ·subst pv; exact ⟨oi,hi,H⟩
   ·obtain ⟨xl,oj,ly,gr⟩:=mem_ready.1 hj
    have AM:=(mem_ready.1 hr).1
    have Ij:¬ fL (dC ops) j i:=fun hw=>by
     have h1:=ib jj j oj i ly gr hw
     rcases Nat.lt_or_ge i listed.size with h' | h'
     ·simp [h'] at h1 AM; rw [AM] at h1; cases h1
     ·simp [Array.getElem?_eq_none h'] at h1
    have su:=mE j oj ly pv xl Ij
    have h1:bJ P true ops oi (bJ P true ops oj (qC P ops K fuel ((listed.setIfInBounds i true).setIfInBounds j true))) st :=
     dk (fun s hs=>by
      obtain ⟨o',EM,hg⟩:=hs.2 j (ready_mono hj pv)
      rw [ly] at EM
      injection EM with EM
      subst EM
      exact hg) H
    have h2:=oO su h1
    refine ⟨oj,ly,dk (fun s hs=>?_) h2⟩
    refine ih (listed.setIfInBounds j true) s ?_ ?_ (ready_mono hr (Ne.symm pv)) ?_
    ·intro k ok hk AN e he hb
     by_cases ou:k = j
     ·subst ou
      rw [ly] at hk
      injection hk with hk
      subst hk
      exact getD_set_true (gr e he hb)
     ·rw [getD_set_ne false (Ne.symm ou)] at AN
      exact getD_set_true (jj k ok hk AN e he hb)
    ·intro k ok hk hki hun hnw'
     refine mE k ok hk hki ?_ hnw'
     by_cases AO:j = k
     ·subst AO; exact xl
     ·rw [getD_set_ne true AO] at hun; exact hun
    ·rw [Array.setIfInBounds_comm _ _ pv]
     exact hs
end
end Go.Pl
namespace Go.Pl
open Go
section
variable {P:Program} {ops:Array Oper} {M:dR}
theorem sv (h:tu ops = true) {k:Nat} {ok:Oper} (hk:ops[k]? = some ok) :
 (∀ e ∈ ok.after,Region.binds .any e = true -> e.on < k) /\ ∀ j oj,ops[j]? = some oj -> k < j -> ¬ fL (dC ops) j k -> gJ ops ok oj = true:=by
 have dr:=(Array.getElem?_eq_some_iff.1 hk).1
 simp only [tu,List.all_eq_true,List.mem_range] at h
 have h1:=h k dr
 simp only [hk,Bool.and_eq_true] at h1
 obtain ⟨h2,h3⟩:=h1
 refine ⟨fun e he hb=>?_,fun j oj hj ou hw=>?_⟩
 ·have:=Array.all_eq_true_iff_forall_mem.1 h2 e he
  simpa [hb] using this
 ·have lX:=(Array.getElem?_eq_some_iff.1 hj).1
  have h4:=List.all_eq_true.1 h3 j (List.mem_range.2 lX)
  simp only [hj,Bool.or_eq_true,decide_eq_true_eq] at h4
  rcases h4 with h4 | h4 | h4
  ·omega
  ·exact absurd h4 hw
  ·exact h4
theorem tw (hB:tu ops = true) {K:St -> Prop}:∀ (l:List Oper) (k:Nat) (listed:Array Bool) (st:St),(∀ j,l[j]? = ops[k + j]?) -> listed.size = ops.size -> k + l.length = ops.size -> (∀ j,j < ops.size -> (listed.getD j false = decide (j < k)) /\ (listed.getD j true = decide (j < k))) ->
 oL P true ops K l st -> qC P ops K l.length listed st
 | [],k,listed,st,hl,bW,hk,hlist,h=>by
   refine ⟨?_,h⟩
   apply List.eq_nil_iff_forall_not_mem.2
   intro j hj
   obtain ⟨h1,o,ho,_⟩:=mem_ready.1 hj
   have dr:=(Array.getElem?_eq_some_iff.1 ho).1
   rw [(hlist j dr).2] at h1
   simp at h1 hk
   omega
 | o :: l,k,listed,st,hl,bW,hk,hlist,h=>by
   have h0:ops[k]? = some o:=by simpa using (hl 0).symm
   have my:=(Array.getElem?_eq_some_iff.1 h0).1
   obtain ⟨I9,su⟩:=sv hB h0
   simp only [List.length_cons] at hk ⊢
   refine DE h0 l.length listed st ?_ ?_ ?_ ?_
   ·intro j oj hj lR e he hb
    have lX:=(Array.getElem?_eq_some_iff.1 hj).1
    rw [(hlist j lX).1] at lR
    have AO:j < k:=by simpa using lR
    have:=(sv hB hj).1 e he hb
    rw [(hlist e.on (by omega)).1]
    simp; omega
   ·intro j oj hj bB hun hw
    have lX:=(Array.getElem?_eq_some_iff.1 hj).1
    rw [(hlist j lX).2] at hun
    simp at hun
    exact su j oj hj (by omega) hw
   ·refine mem_ready.2 ⟨by rw [(hlist k my).2]; simp,o,h0,fun e he hb=>?_⟩
    have:=I9 e he hb
    rw [(hlist e.on (by omega)).1]
    simp; omega
   ·refine dk (fun s hs=>tw hB l (k + 1) _ s (fun j=>by have:=hl (j + 1); simpa [Nat.add_assoc,Nat.add_comm 1 j] using this) (by simpa using bW) (by omega) (fun j hj=>?_) hs) h
    by_cases e:k = j
    ·subst e
     have:k < listed.size:=by omega
     simp [this]
    ·rw [getD_set_ne false e,getD_set_ne true e,(hlist j hj).1,(hlist j hj).2]
     have:(j < k) ↔ (j < k + 1):=by omega
     simp [this]
def j9 (bx bx':aa) (v v':V):Prop:=∀ (β:Beta) (M:dR) (w:World) (u:Value),er β M bx w -> (∀ b,bx' b ≠ none -> bx b ≠ none) -> aP β w (Fz β M bx w) v u -> aP β w (Fz β M bx' w) v' u
def bX (bx bx':aa):Prop:=∀ b,bx' b = none \/ bx' b = bx b \/ (∃ es bs c,bx b = some (.kz es bs c) /\ bx' b = some (.map es)) \/ (∃ ty sz es n,0 < sz /\ bx b = some (.row ty sz es) /\ bx' b = some (.row ty sz (es.take n))) \/
 ∃ ty sz es j7,0 < sz /\ bx b = some (.row ty sz es) /\ bx' b = some (.row ty sz j7) /\ j7.length = es.length /\ ∀ (i:Nat) (e e':V),es[i]? = some e -> j7[i]? = some e' -> e'.cells.length = e.cells.length /\ ∀ (j:Nat) (c c':V),e.cells[j]? = some c -> e'.cells[j]? = some c' -> j9 bx bx' c c'
theorem bX.refl (bx:aa):bX bx bx:=fun _=>.inr (.inl rfl)
theorem bX.none_ (bx:aa):bX bx fun _=>none:=fun _=>.inl rfl
variable {β:Beta} {bx bx':aa} {w:World}
theorem bX.II (h:bX bx bx') {b:Nat} (hb:bx' b ≠ none):bx b ≠ none:=by
 rcases h b with h4 | h4 | ⟨es,bs,c,h4,h5⟩ | ⟨ty,sz,es,n,_,h4,_⟩ | ⟨ty,sz,es,j7,_,h4,_⟩
 ·exact absurd h4 hb
 ·rw [<- h4]; exact hb
 ·rw [h4]; simp
 ·rw [h4]; simp
 ·rw [h4]; simp
theorem bX.fz (h:bX bx bx') {k:Nat} (hk:Fz β M bx w k):Fz β M bx' w k:=by
 obtain ⟨h1,h2,h3⟩:=hk
 exact ⟨h1,h2,fun b hb he=>h3 b (h.II hb) he⟩
theorem er.sub (h:er β M bx w) (hs:bX bx bx'):er β M bx' w:=by
 refine ⟨h.fin,h.mlt,fun b box hb=>?_,fun b1 b2 k h1 h2 h3 h4=>h.inj b1 b2 k (hs.II h1) (hs.II h2) h3 h4⟩
 rcases hs b with h4 | h4 | ⟨es,bs,c,h4,h5⟩ | ⟨ty,sz,es,n,_,h4,h5⟩ | ⟨ty,sz,es,j7,_,h4,h5,h6,h7⟩
 ·rw [h4] at hb; cases hb
 ·rw [h4] at hb
  rcases h.live b box hb with h1 | ⟨k,h1,h2,h3,h4⟩
  ·exact .inl h1
  ·exact .inr ⟨k,h1,h2,h3,bn h4 rfl (fun _ _ h=>h) (fun k hk=>⟨hs.fz hk,rfl⟩) (fun _ _ h=>h)⟩
 ·rw [h5] at hb
  injection hb with hb
  subst hb
  rcases h.live b _ h4 with ⟨_,h1⟩ | ⟨k,h1,h2,h3,h6⟩
  ·exact h1.elim
  ·obtain ⟨ms,g1,g2,g3,g4,g5⟩:=bn h6 rfl (fun _ _ h=>h) (fun k hk=>⟨hs.fz hk,rfl⟩) (fun _ _ h=>h)
   exact .inr ⟨k,h1,h2,h3,ms,c,g1,g3,g4,g5⟩
 ·rw [h5] at hb
  injection hb with hb
  subst hb
  rcases h.live b _ h4 with ⟨h1,h2⟩ | ⟨k,h1,h2,h3,h6⟩
  ·have h2:es = []:=h2
   subst h2
   exact .inl ⟨h1,by simp [bF.empty]⟩
  ·obtain ⟨cur,fr,g1,g2,g3,g4⟩:=bn h6 rfl (fun _ _ h=>h) (fun k hk=>⟨hs.fz hk,rfl⟩) (fun _ _ h=>h)
   refine .inr ⟨k,h1,h2,h3,cur,fr,g1,g2,Nat.le_trans (Nat.mul_le_mul_right _ (by rw [List.length_take]; exact Nat.min_le_right _ _)) g3,fun i e he=>g4 i e ?_⟩
   rw [List.getElem?_take] at he
   split at he
   ·exact he
   ·cases he
 ·rw [h5] at hb
  injection hb with hb
  subst hb
  rcases h.live b _ h4 with ⟨h1,h2⟩ | ⟨k,h1,h2,h3,cur,fr,g1,g2,g3,g4⟩
  ·have h2:es = []:=h2
   subst h2
   exact .inl ⟨h1,List.eq_nil_of_length_eq_zero h6⟩
  ·refine .inr ⟨k,h1,h2,h3,cur,fr,g1,g2,by rw [h6]; exact g3,fun i e' nS=>?_⟩
   have hi:i < es.length:=by rw [<- h6]; exact (List.getElem?_eq_some_iff.1 nS).1
   have he:=List.getElem?_eq_getElem hi
   obtain ⟨q1,q2⟩:=h7 i _ e' he nS
   obtain ⟨r1,r2⟩:=g4 i _ he
   refine ⟨q1.trans r1,fun j c' ec=>?_⟩
   have hj:j < es[i].cells.length:=by rw [<- q1]; exact (List.getElem?_eq_some_iff.1 ec).1
   have hc:=List.getElem?_eq_getElem hj
   obtain ⟨s1,s2⟩:=r2 j _ hc
   exact ⟨s1,q2 j _ c' hc ec β M w _ h (fun b hb=>hs.II hb) s2⟩
theorem bX.tr (hs:bX bx bx'):Tr β bx w β bx' w:=by
 refine ⟨rfl,rfl,rfl,fun _=>Nat.le_refl _,fun ⟨b,ty,hb⟩=>⟨b,ty,?_⟩,Nat.le_refl _,fun _ _ _=>rfl,fun _ _ h=>h,fun _ _ h=>h,fun b k h1 h2=>.inl ⟨b,hs.II h1,h2⟩⟩
 rcases hs b with h4 | h4 | ⟨es,bs,c,h4,h5⟩ | ⟨mj,sz,es,n,h3,h4,h5⟩ | ⟨mj,sz,es,j7,h3,h4,h5,_⟩
 ·rw [h4] at hb; cases hb
 ·rw [<- h4]; exact hb
 ·rw [h5] at hb; cases hb
 ·rw [h5] at hb
  injection hb with hb
  injection hb with _ hb _
  omega
 ·rw [h5] at hb
  injection hb with hb
  injection hb with _ hb _
  omega
theorem bX.rep (hs:bX bx bx') {v:V} {u:Value} (h:aP β w (Fz β M bx w) v u):aP β w (Fz β M bx' w) v u :=
 h.mono (fun _ _ h=>h) (fun k hk=>⟨hs.fz hk,rfl⟩) (fun _ _ h=>h)
def cK (bx bx':aa):Nat -> V -> V
 | d + 1,.own b sz o n =>
   match bx b,bx' b with
   | some (.row _ eU es),none=>if sz = eU /\ 0 < sz /\ o + n <= es.length then .sl sz (((es.drop o).take n).map (cK bx bx' d)) else .cU
   | _,_=>.cU
 | d + 1,.agg cs=>.agg (cs.map (cK bx bx' d))
 | d + 1,.dc cs=>.dc (cs.map (cK bx bx' d))
 | d + 1,.iface t v=>.iface t (cK bx bx' d v)
 | d + 1,.fn f caps=>.fn f (caps.map (cK bx bx' d))
 | d + 1,.ptr b sz i o =>
   match bx b,bx' b with
   | some (.row _ eU es),none=>if sz = eU /\ i < es.length then .ep (cK bx bx' d (es.getD i .cU)) o else .cU
   | _,_=>.ptr b sz i o
 | _,v=>v
theorem fg (bx bx':aa) (d:Nat) (e:V):(cK bx bx' d e).cells.length = e.cells.length /\ ∀ (j:Nat) (c':V),(cK bx bx' d e).cells[j]? = some c' -> ∃ c d',d' <= d /\ e.cells[j]? = some c /\ c' = cK bx bx' d' c:=by
 have same:∀ e:V,e.cells.length = e.cells.length /\ ∀ (j:Nat) (c':V),e.cells[j]? = some c' -> ∃ c d',d' <= d /\ e.cells[j]? = some c /\ c' = cK bx bx' d' c :=
  fun e=>⟨rfl,fun j c' h=>⟨c',0,Nat.zero_le _,h,by simp [cK]⟩⟩
 have one:∀ e q:V,e.cells = [e] -> q.cells = [q] -> q = cK bx bx' d e -> q.cells.length = e.cells.length /\ ∀ (j:Nat) (c':V),q.cells[j]? = some c' -> ∃ c d',d' <= d /\ e.cells[j]? = some c /\ c' = cK bx bx' d' c:=by
  intro e q h1 h2 h3
  rw [h1,h2]
  refine ⟨rfl,fun j c' h=>?_⟩
  match j,h with
  | 0,h=>simp at h; subst h; exact ⟨e,d,Nat.le_refl _,rfl,h3⟩
  | j + 1,h=>simp at h
 cases d with
 | zero=>exact same e
 | succ d =>
   cases e with
   | own b sz o n =>
     refine one _ _ rfl ?_ rfl
     simp only [cK]
     split
     ·split <;> rfl
     ·rfl
   | agg cs =>
     refine ⟨by simp [cK,V.cells],fun j c' h=>?_⟩
     simp only [cK,V.cells,List.getElem?_map,Option.map_eq_some_iff] at h
     obtain ⟨c,hc,rfl⟩:=h
     exact ⟨c,d,Nat.le_succ _,hc,rfl⟩
   | dc cs=>exact one _ _ rfl rfl rfl
   | iface t v=>exact one _ _ rfl rfl rfl
   | fn f caps=>exact one _ _ rfl rfl rfl
   | ptr b sz i o =>
     refine one _ _ rfl ?_ rfl
     simp only [cK]
     split
     ·split <;> rfl
     ·rfl
   | _=>exact same _
theorem l4 (c8:er β M bx w) (hs:bX bx bx') (d:Nat):∀ (v:V) (u:Value),aP β w (Fz β M bx w) v u -> aP β w (Fz β M bx' w) (cK bx bx' d v) u:=by
 induction d using Nat.strongRecOn with
 | _ d ih =>
   intro v u h
   cases d with
   | zero=>simpa [cK] using hs.rep h
   | succ d =>
     cases h with
     | mi b sz hb =>
       simp only [cK]
       split
       ·rename_i ty eU es eK cz
        split
        ·rename_i hh
         have:=aP.sl (β:=β) (w:=w) (F:=Fz β M bx' w) sz [] none 0 (fun _=>undef) (Nat.le_refl _) (by simp) (fun h=>absurd rfl h) (fun e he=>by cases he) (fun i e j c he=>by simp at he) (fun i e j c he=>by simp at he)
         simpa using this
        ·exact .cU _
       ·exact .cU _
     | own b sz o n k cap m ty hb vr hm hn gZ =>
       simp only [cK]
       split
       ·rename_i mj eU es eK cz
        split
        ·rename_i hh
         obtain ⟨e1,eJ,hle⟩:=hh
         subst e1
         rcases c8.live b _ eK with ⟨h1,_⟩ | ⟨k',h1,my,hM,cur,fr,aU,iA,jj,au⟩
         ·rw [hb] at h1; cases h1
         ·rw [hb] at h1
          injection h1 with h1
          injection h1 with h1
          subst h1
          have hlen:(((es.drop o).take n).map (cK bx bx' d)).length = n:=by simp; omega
          have Mv:Fz β M bx' w k:=by
           refine ⟨my,hM,fun q hq he=>?_⟩
           have hqb:bx q ≠ none:=hs.II hq
           have:=c8.inj q b k hqb (by rw [eK]; simp) he hb
           subst this
           exact hq cz
          have eI:∀ i e',(((es.drop o).take n).map (cK bx bx' d))[i]? = some e' -> ∃ e,es[o + i]? = some e /\ i < n /\ e' = cK bx bx' d e:=by
           intro i e' he
           rw [List.getElem?_map,List.getElem?_take] at he
           split at he
           ·rename_i hi
            rw [List.getElem?_drop] at he
            simp only [Option.map_eq_some_iff] at he
            obtain ⟨e,h5,rfl⟩:=he
            exact ⟨e,h5,hi,rfl⟩
           ·simp at he
          have lY:=aP.sl (β:=β) (w:=w) (F:=Fz β M bx' w) sz (((es.drop o).take n).map (cK bx bx' d)) (some ⟨k,o * sz,none⟩) cap (fun m=>cur.getD (o * sz + m) undef) (by rw [hlen]; exact hn) (by omega) (fun _ h=>by cases h)
           (fun e' he=>by
            obtain ⟨i,hi⟩:=List.mem_iff_getElem?.1 he
            obtain ⟨e,h5,_,rfl⟩:=eI i e' hi
            rw [(fg bx bx' d e).1]
            exact (au _ e h5).1)
           (fun i e' j c he hc=>by
            obtain ⟨e,h5,hi,rfl⟩:=eI i e' he
            obtain ⟨c0,d',_,h6,_⟩:=(fg bx bx' d e).2 j c hc
            obtain ⟨h7,h8⟩:=au _ e h5
            have hj:j < sz:=by have:=(List.getElem?_eq_some_iff.1 h6).1; omega
            have h9:=(h8 j c0 h6).1
            have e2:(o + i) * sz + j = o * sz + (i * sz + j):=by rw [Nat.add_mul]; omega
            rw [e2] at h9
            have aR:o * sz + (i * sz + j) < cur.size:=by
             have:(o + i + 1) * sz <= es.length * sz:=Nat.mul_le_mul_right _ (List.getElem?_eq_some_iff.1 h5).1
             rw [Nat.succ_mul] at this
             omega
            refine ⟨_,rfl,Mv,?_,h9⟩
            rw [add_lit,cell_of_row w k _ cur mj fr aU]
            simp [aR])
           (fun i e' j c he hc=>by
            obtain ⟨e,h5,hi,rfl⟩:=eI i e' he
            obtain ⟨c0,d',R9,h6,rfl⟩:=(fg bx bx' d e).2 j c hc
            have h9:=((au _ e h5).2 j c0 h6).2
            have e2:(o + i) * sz + j = o * sz + (i * sz + j):=by rw [Nat.add_mul]; omega
            rw [e2] at h9
            exact ih d' (by omega) c0 _ h9)
          rw [hlen] at lY
          exact lY
        ·exact .cU _
       ·exact .cU _
     | agg cs us hl h1 hr =>
       simp only [cK]
       refine .agg _ _ (by simpa using hl) (fun i hi=>h1 i (by simpa using hi)) (fun i c hc=>?_)
       rw [List.getElem?_map] at hc
       simp only [Option.map_eq_some_iff] at hc
       obtain ⟨c',ec,rfl⟩:=hc
       exact ih d (Nat.lt_succ_self _) c' _ (hr i c' ec)
     | dc cs us hl hr =>
       simp only [cK]
       refine .dc _ _ (by simpa using hl) (fun i c hc=>?_)
       rw [List.getElem?_map] at hc
       simp only [Option.map_eq_some_iff] at hc
       obtain ⟨c',ec,rfl⟩:=hc
       exact ih d (Nat.lt_succ_self _) c' _ (hr i c' ec)
     | iface t v u h =>
       simp only [cK]
       exact .iface t _ u (ih d (Nat.lt_succ_self _) v u h)
     | cU=>exact .cU _
     | int=>exact .int _ _
     | bool=>exact .bool _
     | str=>exact .str _
     | aH=>exact .aH
     | sl sz es A cap u0 h1 h2 h3 h4 h5 h6=>exact hs.rep (.sl sz es A cap u0 h1 h2 h3 h4 h5 h6)
     | ptr b sz i o k hb =>
       simp only [cK]
       split
       ·rename_i mj eU es eK cz
        split
        ·rename_i hh
         obtain ⟨e1,hi⟩:=hh
         subst e1
         rcases c8.live b _ eK with ⟨h1,_⟩ | ⟨k',h1,my,hM,cur,fr,aU,iA,jj,au⟩
         ·rw [h1] at hb; cases hb
         ·rw [hb] at h1; injection h1 with h1; injection h1 with h1; subst h1
          have he:=List.getElem?_eq_getElem hi
          have hg:es.getD i .cU = es[i]:=by simp [List.getD,he]
          rw [hg]
          obtain ⟨hlen,qA⟩:=au i _ he
          have Mv:Fz β M bx' w k:=by
           refine ⟨my,hM,fun q hq he=>?_⟩
           have uL:bx q ≠ none:=hs.II hq
           have:=c8.inj q b k uL (by rw [eK]; simp) he hb
           subst this
           exact hq cz
          have lY:=aP.ep (β:=β) (w:=w) (F:=Fz β M bx' w) (cK bx bx' d es[i]) o ⟨k,i * sz,none⟩ (fun j=>cur.getD (i * sz + j) undef)
           (fun j c hc=>by
            obtain ⟨c0,d',_,h6,_⟩:=(fg bx bx' d es[i]).2 j c hc
            have hj:j < sz:=by have:=(List.getElem?_eq_some_iff.1 h6).1; omega
            have h9:=(qA j c0 h6).1
            have aR:i * sz + j < cur.size:=by
             have:(i + 1) * sz <= es.length * sz:=Nat.mul_le_mul_right _ hi
             rw [Nat.succ_mul] at this
             omega
            refine ⟨_,rfl,Mv,?_,h9⟩
            rw [add_lit,cell_of_row w k _ cur mj fr aU]
            simp [aR])
           (fun j c hc=>by
            obtain ⟨c0,d',R9,h6,rfl⟩:=(fg bx bx' d es[i]).2 j c hc
            exact ih d' (by omega) c0 _ (qA j c0 h6).2)
          rw [add_lit] at lY
          exact lY
        ·exact .cU _
       ·exact .ptr b sz i o k hb
     | ep e o a u0 h1 h2=>exact hs.rep (.ep e o a u0 h1 h2)
     | eD=>exact .eD
     | fn f caps us hl hr hy =>
       simp only [cK]
       refine .fn f _ _ (by simpa using hl) (fun i c hc=>?_) ?_
       ·rw [List.getElem?_map] at hc
        simp only [Option.map_eq_some_iff] at hc
        obtain ⟨c',ec,rfl⟩:=hc
        exact ih d (Nat.lt_succ_self _) c' _ (hr i c' ec)
       ·intro g r hf he
        rcases caps with _ | ⟨c,_ | ⟨c2,cs⟩⟩
        ·simp at he
        ·exact hy g c hf rfl
        ·simp at he
     | bm f r u h =>
       simp only [cK,List.map_cons,List.map_nil]
       exact .bm f _ _ (ih d (Nat.lt_succ_self _) r _ h)
     | gY=>exact .gY
     | ir=>exact .ir
     | mp b k hb=>exact .mp b k hb
     | gE=>exact .gE
     | dead v=>exact .dead v
     | yl b k hb=>exact .yl b k hb
end
end Go.Pl
namespace Go.Pl
open Go
structure jq (s s':St):Prop where
 n:s'.n <= s.n
 sl:∀ t,s'.sl t = .cU \/ s'.sl t = s.sl t \/ (∃ d,s'.sl t = cK s.bx s'.bx d (s.sl t)) \/ ∃ d,∀ β w F u,aP β w F (cK s.bx s'.bx d (s.sl t)) u -> aP β w F (s'.sl t) u
 bx:bX s.bx s'.bx
def jy (next:St -> Prop) (Q:Exit -> St -> Prop):Exit -> St -> Prop
 | .normal,st=>next st
 | e,st=>Q e st
def oP (id:Nat) (Q:Exit -> St -> Prop):Exit -> St -> Prop
 | .exit id',st=>if id' = id then Q .normal st else Q (.exit id') st
 | e,st=>Q e st
section
variable {P:Program} {M:dR}
theorem jq.rs {β:Beta} {s s':St} {a:Act} {w:World} (h:jq s s') (hr:Rs P β M s a w):Rs P β M s' a w:=by
 refine ⟨hr.ok.sub h.bx,fun t=>?_,Nat.le_trans h.n hr.sz,hr.df,hr.bs,hr.gl.imp fun _ _ hh=>h.bx.rep hh⟩
 rcases h.sl t with h1 | h1 | ⟨d,h1⟩ | ⟨d,h1⟩
 ·rw [h1]; exact .cU _
 ·rw [h1]; exact h.bx.rep (hr.sl t)
 ·rw [h1]; exact l4 hr.ok h.bx d _ _ (hr.sl t)
 ·exact h1 _ _ _ _ (l4 hr.ok h.bx d _ _ (hr.sl t))
structure ic (M M':dR) (w:World):Prop where
 le:∀ k o,M k = some o -> M' k = some o
 new:∀ k,M k = none -> M' k ≠ none -> w.heap.size <= k
 base:M'.base = M.base
 df:M'.df = M.df
theorem ic.refl (M:dR) (w:World):ic M M w:=⟨fun _ _ h=>h,fun _ h h'=>absurd h h',rfl,rfl⟩
theorem ic.trans {M M' M'':dR} {w w':World} (h:ic M M' w) (h':ic M' M'' w') (hs:w.heap.size <= w'.heap.size):ic M M'' w:=by
 refine ⟨fun k o hk=>h'.le k o (h.le k o hk),fun k h1 h2=>?_,h'.base.trans h.base,h'.df.trans h.df⟩
 cases hm:M' k with
 | none=>exact Nat.le_trans hs (h'.new k hm h2)
 | some o=>exact h.new k h1 (by rw [hm]; simp)
theorem er.shrink {β:Beta} {M M':dR} {bx:aa} {w:World} (h:er β M' bx w) (hm:∀ k o,M k = some o -> M' k = some o):er β M bx w:=by
 have hn:∀ k,M' k = none -> M k = none:=fun k hk=>by
  cases e:M k with
  | none=>rfl
  | some o=>rw [hm k o e] at hk; cases hk
 refine ⟨h.fin,fun k o hk=>h.mlt k o (hm k o hk),fun b box hb=>?_,h.inj⟩
 rcases h.live b box hb with h1 | ⟨k,h1,h2,h3,h4⟩
 ·exact .inl h1
 ·exact .inr ⟨k,h1,h2,hn k h3,bn h4 rfl (fun _ _ h=>h) (fun k hk=>⟨⟨hk.1,hn k hk.2.1,hk.2.2⟩,rfl⟩) (fun _ _ h=>h)⟩
theorem tx {β:Beta} {M M':dR} {bx:aa} {w:World} (hm:∀ k o,M k = some o -> M' k = some o) {v:V} {u:Value} (h:aP β w (Fz β M' bx w) v u):aP β w (Fz β M bx w) v u:=by
 have hn:∀ k,M' k = none -> M k = none:=fun k hk=>by
  cases e:M k with
  | none=>rfl
  | some o=>rw [hm k o e] at hk; cases hk
 exact h.mono (fun _ _ h=>h) (fun k hk=>⟨⟨hk.1,hn k hk.2.1,hk.2.2⟩,rfl⟩) (fun _ _ h=>h)
def qD (P:Program) (M:dR) (ro:Option Nat) (c:Code) (Q:Exit -> St -> Prop) (st:St):Prop :=
 ∀ (n:Nat) (β:Beta) (a:Act) (w:World),Rs P β M st a w -> c.wpIn (rf ro) n P (fun e a' w'=>∃ M' st' β',Q e st' /\ ic M M' w /\ Rs P β' M' st' a' w' /\ Tr β st.bx w β' st'.bx w') a w
theorem ze (hm:P.follows .mixedOrders = true) {ro:Option Nat} {id:Nat} {ops:Array Oper} {draw:Bool} {Q:Exit -> St -> Prop} {st:St} (hl:draw = true -> tu ops = true) (h:oL P draw ops (Q .normal) ops.toList st):qD P M ro (.region id ops draw) Q st:=by
 intro n β a w hr
 cases draw with
 | false =>
   refine wpIn_region ?_
   have h1:=pG (ro:=ro) (n:=n) (M:=M) (Q:=fun e a' w'=>∃ M' st' β',Q e st' /\ ic M M' w /\ Rs P β' M' st' a' w' /\ Tr β st.bx w β' st'.bx w') ops.toList 0 st a w β (fun j=>by simp) h hr (fun st' β' a' w' hk de ht=>⟨M,st',β',hk,ic.refl _ _,de,ht⟩)
   simpa [List.range_eq_range'] using h1
 | true =>
   refine wpIn_region_any hm ?_
   have de:Rs P β M st a w.drew:=⟨hr.ok.drew,fun t=>(Tr.drew hr.ok).rep (hr.sl t),hr.sz,hr.df,hr.bs,hr.gl.imp fun _ _ hh=>(Tr.drew hr.ok).rep hh⟩
   have IG:=hl rfl
   have h1:=tw (P:=P) IG ops.toList 0 (Array.replicate ops.size false) st (fun j=>by simp) (by simp) (by simp) (fun j hj=>by simp [hj]) h
   have h2:=pJ (ro:=ro) (n:=n) (M:=M) (Q:=fun e a' w'=>∃ M' st' β',Q e st' /\ ic M M' w /\ Rs P β' M' st' a' w' /\ Tr β st.bx w β' st'.bx w') _ _ st a w.drew β h1 de (fun st' β' a' w' hk sy ht=>⟨M,st',β',hk,ic.refl _ _,sy,(Tr.drew hr.ok).trans ht⟩)
   simpa using h2
def jr:Nat -> List V -> (Nat -> V)
 | _,[]=>fun _=>.cU
 | k,v :: vs=>aB (jr (k + 1) vs) k v
def bZ (n:Nat) (args:List V) (bx:aa):St:={ n:=n,sl:=jr 0 args,bx:=bx }
theorem n7:∀ (args:List V) (k t:Nat),jr k args t = if k <= t then args.getD (t - k) .cU else .cU
 | [],k,t=>by simp [jr]
 | v :: vs,k,t=>by
   simp only [jr,aB]
   by_cases h:t = k
   ·subst h; simp
   ·rw [if_neg h,n7 vs (k + 1) t]
    by_cases h1:k <= t
    ·rw [if_pos h1,if_pos (by omega)]
     have:t - k = (t - (k + 1)) + 1:=by omega
     rw [this]
     simp
    ·rw [if_neg h1,if_neg (by omega)]
def jb (P:Program) (st:St):ResultVar -> Ev
 | .tmp t=>(True,st.sl t)
 | .cell a t=>dM P st.bx t (st.sl a)
def kG (P:Program) (st:St) (rs:List ResultVar):V :=
 match rs with
 | [r]=>(jb P st r).2
 | rs=>.dc (rs.map fun r=>(jb P st r).2)
def Aw (P:Program) (rs:List ResultVar) (Kc:V -> aa -> Prop) (st:St):Prop :=
 (∀ r,r ∈ rs -> (jb P st r).1) /\ ∃ bx' r,bX st.bx bx' /\ (r = kG P st rs \/ ∃ d,r = cK st.bx bx' d (kG P st rs)) /\ Kc r bx'
theorem Fp {β:Beta} {w:World} {F:Nat -> Prop} {bx:aa} {t:TypeId} {x:V} {u:Value} (hc:(dM P bx t x).1) (hr:aP β w F x u):∃ ad,u = .pointer (some ad):=by
 unfold dM at hc
 split at hc
 ·rename_i e o hs
  have hl:x.az = true:=by unfold iz at hc; split at hc <;> exact hc.1
  exact yQ hr (.inr ⟨e,o,aG hl hs⟩)
 ·rename_i b sz i o hs
  split at hc
  ·have hl:x.az = true:=by unfold iz at hc; split at hc <;> exact hc.1.1
   exact yQ hr (.inl ⟨b,sz,i,o,aG hl hs⟩)
  ·exact hc.elim
 ·exact hc.elim
theorem IJ {β:Beta} {st:St} {a:Act} {w:World} (hr:Rs P β M st a w) {r:ResultVar} (hc:(jb P st r).1) :
 ∃ u,((match r with | .tmp t=>pure (a.tmps.getD t undef) | .cell q t=>do loadVar t (<- asAddr (a.tmps.getD q undef)):Sem Value)).run P w = .ok u w /\ aP β w (Fz β M st.bx w) (jb P st r).2 u:=by
 cases r with
 | tmp t=>exact ⟨_,rfl,hr.sl t⟩
 | cell q t =>
   have ec:(dM P st.bx t (st.sl q)).1:=hc
   obtain ⟨v,h1,h2⟩:=tf (P:=P) ec hr.ok.R7 (hr.sl q)
   obtain ⟨ad,had⟩:=Fp ec (hr.sl q)
   refine ⟨v,?_,h2⟩
   show (do loadVar t (<- asAddr (a.tmps.getD q undef)):Sem Value).run P w = _
   rw [had] at h1 ⊢
   exact h1
theorem zf {β:Beta} {st:St} {a:Act} {w:World} (hr:Rs P β M st a w):∀ (rs:List ResultVar),(∀ r,r ∈ rs -> (jb P st r).1) ->
 ∃ us:List Value,(rs.mapM fun | .tmp t=>pure (a.tmps.getD t undef) | .cell q t=>do loadVar t (<- asAddr (a.tmps.getD q undef)):Sem (List Value)).run P w = .ok us w /\ us.length = rs.length /\ ∀ (i:Nat) (r:ResultVar),rs[i]? = some r -> aP β w (Fz β M st.bx w) (jb P st r).2 (us.getD i undef)
 | [],_=>⟨[],rfl,rfl,fun i r h=>by simp at h⟩
 | r :: rs,hc=>by
   obtain ⟨u,h1,h2⟩:=IJ (P:=P) hr (hc r (by simp))
   obtain ⟨us,h3,h4,h5⟩:=zf hr rs (fun q hq=>hc q (by simp [hq]))
   refine ⟨u :: us,?_,by simp [h4],fun i q hq=>?_⟩
   ·rw [List.mapM_cons,Sem.run_bind,h1,Result.andThen_ok,Sem.run_bind,h3]
    rfl
   ·match i,hq with
    | 0,hq=>simp at hq; subst hq; simpa using h2
    | i + 1,hq=>simpa using h5 i q (by simpa using hq)
theorem uX {β:Beta} {st:St} {a:Act} {w:World} (hr:Rs P β M st a w) (fn:Func) (hc:∀ r,r ∈ fn.results.toList -> (jb P st r).1) :
 ∃ v,(results fn a.tmps).run P w = .ok v w /\ aP β w (Fz β M st.bx w) (kG P st fn.results.toList) v:=by
 obtain ⟨us,h1,h2,h3⟩:=zf (P:=P) hr fn.results.toList hc
 refine ⟨if h:us.toArray.size = 1 then us.toArray[0] else .tuple us.toArray,?_,?_⟩
 ·unfold results
  rw [Array.mapM_eq_mapM_toList,Sem.run_bind,Sem.run_map]
  erw [h1]
  rfl
 ·unfold kG
  split
  ·rename_i r hrs
   rw [hrs] at h2 h3
   have h4:=h3 0 r rfl
   match us,h2 with
   | [u],_=>simpa using h4
  ·rename_i bB
   have hlen:us.length ≠ 1:=by
    intro h
    rw [h2] at h
    match hq:fn.results.toList,h with
    | [r],_=>exact bB r hq
   rw [dif_neg (by simpa using hlen)]
   refine .dc _ _ (by simp [h2]) (fun i c ec=>?_)
   rw [List.getElem?_map] at ec
   simp only [Option.map_eq_some_iff] at ec
   obtain ⟨r,de,rfl⟩:=ec
   simpa using h3 i r de
theorem kV {w:World} {D k:Nat} {o':Obj} (hs:w.shape? D = none) {x:TypeId × Nat} (h:w.shape? k = some x):(w.putObj D o').shape? k = some x:=by
 by_cases e:k = D
 ·subst e; rw [hs] at h; cases h
 ·rw [bI (World.putObj_heap_other e)]; exact h
def dR.set (M:dR) (D:Nat) (x:Option Obj):dR:={ M with obj:=aB M.obj D x }
theorem dR.AP (M:dR) (D:Nat) (x:Option Obj):(M.set D x) D = x:=af _ _ _
theorem dR.mF (M:dR) {D k:Nat} (x:Option Obj) (h:k ≠ D):(M.set D x) k = M k:=ae _ _ h
theorem er.AQ {β:Beta} {M:dR} {bx:aa} {w:World} {D:Nat} {o o':Obj} {x:Option Obj} (h:er β M bx w) (hD:M D = some o) (hx:∀ y,x = some y -> y = o') (hs:w.shape? D = none) :
 er β (M.set D x) bx (w.putObj D o') /\ (∀ {v:V} {u:Value},aP β w (Fz β M bx w) v u -> aP β (w.putObj D o') (Fz β (M.set D x) bx (w.putObj D o')) v u):=by
 have dr:=h.oE hD
 have hF:∀ k,Fz β M bx w k -> Fz β (M.set D x) bx (w.putObj D o') k /\ (w.putObj D o').heap[k]? = w.heap[k]?:=by
  rintro k ⟨h1,h2,h3⟩
  have e:k ≠ D:=by rintro rfl; rw [h2] at hD; cases hD
  exact ⟨⟨by simpa using h1,by rw [dR.mF _ _ e]; exact h2,h3⟩,World.putObj_heap_other e⟩
 refine ⟨⟨h.fin,fun k y hk=>?_,fun b box hb=>?_,h.inj⟩,fun hr=>hr.mono (fun _ _ h=>h) hF (fun _ _ h=>kV hs h)⟩
 ·by_cases e:k = D
  ·subst e
   rw [dR.AP] at hk
   rw [hx y hk]
   exact World.putObj_heap_same dr
  ·rw [dR.mF _ _ e] at hk
   exact (World.putObj_heap_other e).trans (h.mlt k y hk)
 ·rcases h.live b box hb with h1 | ⟨k,h1,h2,h3,h4⟩
  ·exact .inl h1
  ·have e:k ≠ D:=by rintro rfl; rw [h3] at hD; cases hD
   exact .inr ⟨k,h1,by simpa using h2,by rw [dR.mF _ _ e]; exact h3,bn h4 (World.putObj_heap_other e) (fun _ _ h=>h) hF (fun _ _ h=>kV hs h)⟩
theorem Tr.AQ {β β':Beta} {bx bx':aa} {w w':World} {D:Nat} {o':Obj} (h:Tr β bx w β' bx' w') (hD:w.heap.size <= D) (hs:w'.shape? D = none):Tr β bx w β' bx' (w'.putObj D o') :=
 ⟨h.os,h.tape,h.output,h.drawn,h.A5,by simpa using h.size,fun k hk hb=>(World.putObj_heap_other (by omega)).trans (h.cw k hk hb),fun k x hx=>kV hs (h.shape k x hx),h.ext,h.news⟩
def Fq (P:Program) (M:dR) (f:FuncId) (args:List V) (bx:aa) (Kc:V -> aa -> Prop):Prop :=
 ∀ (β:Beta) (w:World) (vs:Array Value),er β M bx w -> p3 P β w (Fz β M bx w) -> vs.size = args.length ->
  (∀ (i:Nat) (c:V),args[i]? = some c -> aP β w (Fz β M bx w) c (vs.getD i undef)) ->
  Calls P f vs w fun e w'=>∃ v r bx' β',e = .returned v /\ Kc r bx' /\ er β' M bx' w' /\ Tr β bx w β' bx' w' /\ aP β' w' (Fz β' M bx' w') r v
theorem tz {M:dR} {fn:Func} {tmps:Array Value} {n:Nat} {β β':Beta} {bx:aa} {w:World} {st':St} {rest:List Deferred} {R:Ending -> World -> Prop} {cv:List V} {us:Array Value}
 (Dx:∀ (M':dR) (w':World),(∀ (i:Nat) (c:V),cv[i]? = some c -> aP β' w' (Fz β' M' st'.bx w') c (us.getD i undef)) -> (∀ k o,M k = some o -> M' k = some o) -> M'.base = w.heap.size -> M'.df = rest -> Rs P β' M' st' { tmps:=tmps,defers:=rest } w' -> Tr β bx w β' st'.bx w' -> LeavesInM Fence.wide n P fn tmps R rest .returning w') :
 ∀ (ms:List Deferred) (M':dR) (w':World),(∀ (i:Nat) (c:V),cv[i]? = some c -> aP β' w' (Fz β' M' st'.bx w') c (us.getD i undef)) -> (∀ k o,M k = some o -> M' k = some o) -> (∀ k o,M k = some o -> k < w.heap.size) -> M'.base = w.heap.size -> M'.df = rest -> Marks M'.base M'.obj ms -> Rs P β' M' st' { tmps:=tmps,defers:=ms ++ rest } w' -> Tr β bx w β' st'.bx w' ->
 LeavesInM Fence.wide n P fn tmps R (ms ++ rest) .returning w'
 | [],M',w',lZ,hm,dr,hB,Fs,BV,de,ht=>Dx M' w' lZ hm hB Fs de ht
 | d :: ds,M',w',lZ,hm,dr,hB,Fs,BV,de,ht=>by
   obtain ⟨D,rfl,hD1,hD2,hD3⟩:=BV
   have hh:=de.ok.mlt D _ hD2
   have hs:w'.shape? D = none:=by simp [World.shape?,hh]
   have lx:=de.ok.AQ (x:=none) (o':=.deferred none) hD2 (fun y hy=>by cases hy) hs
   refine ⟨by simp,.inl ⟨D,_,rfl,run_takeDeferred hh,tz Dx ds (M'.set D none) _ (fun i c hc=>lx.2 (lZ i c hc)) (fun k o hk=>?_) dr hB Fs hD3 ⟨lx.1,fun t=>lx.2 (de.sl t),de.sz,⟨ds,by rw [show (M'.set D none).df = M'.df from rfl,Fs],hD3⟩,by rw [World.putObj_size]; exact de.bs,de.gl.imp (fun _ _ hh=>lx.2 hh) (fun _ _ h=>kV hs h)⟩ (ht.AQ (by rw [<- hB]; exact hD1) hs)⟩⟩
   have ee:=dr k o hk
   rw [dR.mF _ _ (by rw [hB] at hD1; omega)]
   exact hm k o hk
theorem rk {M:dR} {fn:Func} {tmps:Array Value} {n:Nat} {β β':Beta} {bx:aa} {w:World} {st':St} {Kc:V -> aa -> Prop} (Mw:Aw P fn.results.toList Kc st')
 (ds:List Deferred) (M':dR) (w':World) (hm:∀ k o,M k = some o -> M' k = some o) (dr:∀ k o,M k = some o -> k < w.heap.size) (hB:M'.base = w.heap.size) (Fs:M'.df = []) (de:Rs P β' M' st' { tmps:=tmps,defers:=ds } w') (ht:Tr β bx w β' st'.bx w') :
 LeavesInM Fence.wide n P fn tmps (fun e w'=>∃ v r bx' β',e = .returned v /\ Kc r bx' /\ er β' M bx' w' /\ Tr β bx w β' bx' w' /\ aP β' w' (Fz β' M bx' w') r v) ds .returning w':=by
 obtain ⟨ms,uV,BV⟩:=de.df
 rw [Fs,List.append_nil] at uV
 dsimp only at uV
 subst uV
 have h:=tz (M:=M) (rest:=[]) (n:=n) (fn:=fn) (R:=fun e w'=>∃ v r bx' β',e = .returned v /\ Kc r bx' /\ er β' M bx' w' /\ Tr β bx w β' bx' w' /\ aP β' w' (Fz β' M bx' w') r v) (cv:=[]) (us:=#[]) (fun M' w' _ hm hB Fs de ht=>by
  obtain ⟨lY,bx',r,jo,PU,hk⟩:=Mw
  obtain ⟨v,h1,h2⟩:=uX (P:=P) de fn lY
  refine ⟨v,h1,v,r,bx',β',rfl,hk,(de.ok.shrink hm).sub jo,ht.trans jo.tr,?_⟩
  rcases PU with rfl | ⟨d,rfl⟩
  ·exact jo.rep (tx hm h2)
  ·exact l4 (de.ok.shrink hm) jo d _ _ (tx hm h2)) ds M' w' (fun i c hc=>by simp at hc) hm dr hB Fs BV (by rw [List.append_nil]; exact de) ht
 rw [List.append_nil] at h
 exact h
theorem uY {M:dR} {f:FuncId} {fn:Func} {c:Code} (hf:P.funcs[f]? = some fn) (hb:fn.body = some c)
 {args:List V} {bx:aa} {Kc:V -> aa -> Prop} (h:∀ B,qD P ⟨M.obj,B,[]⟩ none c (fun e st=>(e = .normal \/ e = .ret) /\ Aw P fn.results.toList Kc st) (bZ fn.ntmps args bx)):Fq P M f args bx Kc:=by
 intro β w vs c8 kN bW fK
 refine (callsIn_wide (n:=0)).1 (callsIn_of_wp_marks hf hb trivial ?_)
 have zg:er β ⟨M.obj,w.heap.size,[]⟩ bx w:=⟨c8.fin,c8.mlt,c8.live,c8.inj⟩
 have hr:Rs P β ⟨M.obj,w.heap.size,[]⟩ (bZ fn.ntmps args bx) { tmps:=vs ++ Array.replicate (fn.ntmps - vs.size) undef,defers:=[] } w:=by
  refine ⟨zg,fun t=>?_,by simp [bZ]; omega,⟨[],rfl,trivial⟩,Nat.le_refl _,kN⟩
  simp only [bZ,n7,Nat.zero_le,if_true,Nat.sub_zero]
  by_cases ht:t < args.length
  ·have h1:aP β w (Fz β ⟨M.obj,w.heap.size,[]⟩ bx w) args[t] (vs.getD t undef):=fK t args[t] (List.getElem?_eq_getElem ht)
   have h2:(vs ++ Array.replicate (fn.ntmps - vs.size) undef).getD t undef = vs.getD t undef:=by
    simp [Array.getElem?_append,show t < vs.size by omega]
   rw [h2]
   simpa [List.getD,List.getElem?_eq_getElem ht] using h1
  ·simp only [List.getD,List.getElem?_eq_none (Nat.le_of_not_lt ht),Option.getD_none]
   exact .cU _
 refine wpIn_mono (h _ 0 β _ w hr) ?_
 rintro e a' w' ⟨M',st',β',⟨he,Mw⟩,hx,de,ht⟩
 have fin:=rk (M:=M) (n:=0) Mw a'.defers M' w' hx.le (fun k o hk=>c8.oE hk) hx.base hx.df de ht
 rcases he with rfl | rfl
 ·exact fin
 ·exact fin
theorem lS {f:FuncId} {fn:Func} {c:Code} (hf:P.funcs[f]? = some fn) (hb:fn.body = some c) (hent:∀ vs w,(callFunc f vs).run P w = .ok (.enter f vs) w)
 {args:List V} {bx:aa} {Kc:V -> aa -> Prop} (h:∀ M,qD P M none c (fun e st=>(e = .normal \/ e = .ret) /\ Aw P fn.results.toList Kc st) (bZ fn.ntmps args bx)):aw P f args bx Kc :=
 ⟨hent,fun β M w vs c8 kN bW fK=>uY (M:=M) hf hb (fun B=>h ⟨M.obj,B,[]⟩) β w vs c8 kN bW fK⟩
end
end Go.Pl
namespace Go.Pl
open Go Classical
theorem iG {β:Beta} {M:dR} {bx:aa} {w:World} (h:er β M bx w) {b k:Nat} {box:bF} (hb:bx b = some box) (bQ:β b = some (some k)):k < w.heap.size /\ M k = none /\ od β w (Fz β M bx w) k box:=by
 rcases h.live b box hb with ⟨h1,_⟩ | ⟨k',h1,h2,h3,h4⟩
 ·rw [bQ] at h1; cases h1
 ·rw [bQ] at h1; injection h1 with h1; injection h1 with h1; subst h1
  exact ⟨h2,h3,h4⟩
def ov (bxc bxi:aa):aa:=fun b=>match bxi b with
 | some x=>some x
 | none=>bxc b
structure Dj (bxc bxi:aa):Prop where
 dj:∀ b,bxi b ≠ none -> bxc b = none
 ne:∀ b box,bxi b = some box -> ¬ box.empty
theorem gB {bxc bxi:aa} {b:Nat} (h:bxi b ≠ none):ov bxc bxi b = bxi b:=by
 unfold ov
 cases e:bxi b with
 | none=>exact absurd e h
 | some x=>rfl
theorem gC {bxc bxi:aa} {b:Nat} (h:bxi b = none):ov bxc bxi b = bxc b:=by
 unfold ov; rw [h]
section
variable {P:Program} {β:Beta} {M:dR} {bxc bxi:aa} {w:World}
noncomputable def mG (M:dR) (β:Beta) (bxi:aa) (w:World):dR :=
 { M with obj:=fun k=>if ∃ b,bxi b ≠ none /\ β b = some (some k) then w.heap[k]? else M k }
theorem qE (h:er β M (ov bxc bxi) w) (hd:Dj bxc bxi):er β (mG M β bxi w) bxc w /\ (∀ k,Fz β M (ov bxc bxi) w k ↔ Fz β (mG M β bxi w) bxc w k):=by
 have hb:∀ b box,bxc b = some box -> ov bxc bxi b = some box:=by
  intro b box hb
  have:bxi b = none:=by
   cases e:bxi b with
   | none=>rfl
   | some x=>rw [hd.dj b (by rw [e]; simp)] at hb; cases hb
  rw [gC this]; exact hb
 have Au:∀ k,(∃ b,bxi b ≠ none /\ β b = some (some k)) -> k < w.heap.size:=by
  rintro k ⟨b,h1,h2⟩
  obtain ⟨box,dP⟩:=Option.ne_none_iff_exists'.1 h1
  exact (iG h (by rw [gB h1]; exact dP) h2).1
 have hF:∀ k,Fz β M (ov bxc bxi) w k ↔ Fz β (mG M β bxi w) bxc w k:=by
  intro k
  constructor
  ·rintro ⟨h1,h2,h3⟩
   refine ⟨h1,?_,fun b aR he=>h3 b ?_ he⟩
   ·show (if ∃ b,bxi b ≠ none /\ β b = some (some k) then w.heap[k]? else M k) = none
    rw [if_neg]
    ·exact h2
    ·rintro ⟨b,h4,h5⟩
     exact h3 b (by rw [gB h4]; exact h4) h5
   ·obtain ⟨box,dP⟩:=Option.ne_none_iff_exists'.1 aR
    rw [hb b box dP]; simp
  ·rintro ⟨h1,h2,h3⟩
   have DD:(if ∃ b,bxi b ≠ none /\ β b = some (some k) then w.heap[k]? else M k) = none:=h2
   split at DD
   ·simp [h1] at DD
   ·rename_i pK
    refine ⟨h1,DD,fun b aR he=>?_⟩
    cases e:bxi b with
    | none=>rw [gC e] at aR; exact h3 b aR he
    | some x=>exact pK ⟨b,by rw [e]; simp,he⟩
 refine ⟨⟨h.fin,fun k o hk=>?_,fun b box dP=>?_,fun b b' k h1 h2 h3 h4=>?_⟩,hF⟩
 ·have jZ:(if ∃ b,bxi b ≠ none /\ β b = some (some k) then w.heap[k]? else M k) = some o:=hk
  split at jZ
  ·exact jZ
  ·exact h.mlt k o jZ
 ·rcases h.live b box (hb b box dP) with h1 | ⟨k,h1,h2,h3,h4⟩
  ·exact .inl h1
  ·refine .inr ⟨k,h1,h2,?_,bn h4 rfl (fun _ _ h=>h) (fun k hk=>⟨(hF k).1 hk,rfl⟩) (fun _ _ h=>h)⟩
   show (if ∃ b,bxi b ≠ none /\ β b = some (some k) then w.heap[k]? else M k) = none
   rw [if_neg]
   ·exact h3
   ·rintro ⟨b2,h5,h6⟩
    have:b = b2:=h.inj b b2 k (by rw [hb b box dP]; simp) (by rw [gB h5]; exact h5) h1 h6
    subst this
    rw [hd.dj b h5] at dP; cases dP
 ·obtain ⟨x1,iH⟩:=Option.ne_none_iff_exists'.1 h1
  obtain ⟨x2,cQ⟩:=Option.ne_none_iff_exists'.1 h2
  exact h.inj b b' k (by rw [hb b x1 iH]; simp) (by rw [hb b' x2 cQ]; simp) h3 h4
theorem tA (h:er β M (ov bxc bxi) w) (hd:Dj bxc bxi) {β':Beta} {bxc':aa} {w':World} (h':er β' (mG M β bxi w) bxc' w') (ht:Tr β bxc w β' bxc' w') :
 Dj bxc' bxi /\ er β' M (ov bxc' bxi) w' /\ Tr β (ov bxc bxi) w β' (ov bxc' bxi) w' /\ ∀ k,Fz β' (mG M β bxi w) bxc' w' k -> Fz β' M (ov bxc' bxi) w' k:=by
 obtain ⟨hw,hF⟩:=qE h hd
 have hi:∀ b,bxi b ≠ none -> ∃ k box,bxi b = some box /\ β b = some (some k) /\ k < w.heap.size /\ M k = none /\ od β w (Fz β M (ov bxc bxi) w) k box /\ (mG M β bxi w) k = w.heap[k]? /\ w'.heap[k]? = w.heap[k]?:=by
  intro b hb
  obtain ⟨box,dP⟩:=Option.ne_none_iff_exists'.1 hb
  rcases h.live b box (by rw [gB hb]; exact dP) with ⟨_,h1⟩ | ⟨k,h1,h2,h3,h4⟩
  ·exact absurd h1 (hd.ne b box dP)
  ·have he:(mG M β bxi w) k = w.heap[k]?:=by
    show (if ∃ b,bxi b ≠ none /\ β b = some (some k) then w.heap[k]? else M k) = _
    rw [if_pos ⟨b,hb,h1⟩]
   have hs:w.heap[k]? = some (w.heap[k]):=Array.getElem?_eq_getElem h2
   exact ⟨k,box,dP,h1,h2,h3,h4,he,(h'.mlt k _ (he.trans hs)).trans hs.symm⟩
 have Se:∀ k,(mG M β bxi w) k = none -> k < w.heap.size -> (¬ ∃ b,bxi b ≠ none /\ β b = some (some k)) /\ M k = none:=by
  intro k hk dr
  have jZ:(if ∃ b,bxi b ≠ none /\ β b = some (some k) then w.heap[k]? else M k) = none:=hk
  split at jZ
  ·simp [dr] at jZ
  ·rename_i pK; exact ⟨pK,jZ⟩
 have zh:∀ k,(mG M β bxi w) k = none -> (¬ ∃ b,bxi b ≠ none /\ β b = some (some k)) /\ M k = none:=by
  intro k hk
  rcases Nat.lt_or_ge k w.heap.size with dr | tg
  ·exact Se k hk dr
  ·refine ⟨fun ⟨b,h1,h2⟩=>?_,h.sU tg⟩
   obtain ⟨k2,box,_,h3,h4,_⟩:=hi b h1
   rw [h3] at h2; injection h2 with h2; injection h2 with h2; omega
 have XL:Dj bxc' bxi:=by
  refine ⟨fun b hb=>?_,hd.ne⟩
  obtain ⟨k,box,dP,h1,h2,h3,h4,h5,h6⟩:=hi b hb
  cases e:bxc' b with
  | none=>rfl
  | some x =>
    have:=(iG h' e (ht.ext _ _ h1)).2.1
    exact absurd ⟨b,hb,h1⟩ (Se k this h2).1
 have Sf:∀ k,Fz β' (mG M β bxi w) bxc' w' k -> Fz β' M (ov bxc' bxi) w' k:=by
  rintro k ⟨h1,h2,h3⟩
  refine ⟨h1,(zh k h2).2,fun b hb he=>?_⟩
  by_cases e:bxi b = none
  ·rw [gC e] at hb; exact h3 b hb he
  ·obtain ⟨k2,_,_,h5,_⟩:=hi b e
   have:=ht.ext _ _ h5
   rw [he] at this; injection this with this; injection this with this; subst this
   exact (zh k h2).1 ⟨b,e,h5⟩
 have Mx:∀ b box,ov bxc' bxi b = some box -> (bxi b ≠ none) \/ (bxi b = none /\ bxc' b = some box):=by
  intro b box hb
  by_cases e:bxi b = none
  ·rw [gC e] at hb; exact .inr ⟨e,hb⟩
  ·exact .inl e
 refine ⟨XL,⟨h'.fin,fun k o hk=>?_,fun b box hb=>?_,fun b b' k h1 h2 h3 h4=>?_⟩,?_,Sf⟩
 ·refine h'.mlt k o ?_
  show (if ∃ b,bxi b ≠ none /\ β b = some (some k) then w.heap[k]? else M k) = some o
  rw [if_neg]
  ·exact hk
  ·rintro ⟨b,h1,h2⟩
   obtain ⟨k2,box,_,h3,h4,h5,_⟩:=hi b h1
   rw [h3] at h2; injection h2 with h2; injection h2 with h2; subst h2
   rw [h5] at hk; cases hk
 ·rcases Mx b box hb with e | ⟨e,e2⟩
  ·obtain ⟨k,afx,h0,h1,h2,h3,h4,h5,h6⟩:=hi b e
   rw [gB e,h0] at hb
   injection hb with hb
   subst hb
   refine .inr ⟨k,ht.ext _ _ h1,Nat.lt_of_lt_of_le h2 ht.size,h3,bn h4 h6 ht.ext (fun k hk=>?_) ht.shape⟩
   obtain ⟨h7,h8⟩:=ht.fz ((hF k).1 hk)
   exact ⟨Sf k h7,h8⟩
  ·rcases h'.live b box e2 with h1 | ⟨k,h1,h2,h3,h4⟩
   ·exact .inl h1
   ·exact .inr ⟨k,h1,h2,(zh k h3).2,bn h4 rfl (fun _ _ h=>h) (fun k hk=>⟨Sf k hk,rfl⟩) (fun _ _ h=>h)⟩
 ·have side:∀ b,ov bxc' bxi b ≠ none -> β' b = some (some k) -> bxi b = none -> (mG M β bxi w) k = none:=by
   intro b hb he e
   rw [gC e] at hb
   obtain ⟨x,hx⟩:=Option.ne_none_iff_exists'.1 hb
   exact (iG h' hx he).2.1
  have side2:∀ b,bxi b ≠ none -> β' b = some (some k) -> β b = some (some k):=by
   intro b hb he
   obtain ⟨k2,_,_,h5,_⟩:=hi b hb
   rw [ht.ext _ _ h5] at he; rw [h5]; exact he
  by_cases e1:bxi b = none <;> by_cases e2:bxi b' = none
  ·rw [gC e1] at h1; rw [gC e2] at h2
   exact h'.inj b b' k h1 h2 h3 h4
  ·exact absurd ⟨b',e2,side2 b' e2 h4⟩ (zh k (side b h1 h3 e1)).1
  ·exact absurd ⟨b,e1,side2 b e1 h3⟩ (zh k (side b' h2 h4 e2)).1
  ·exact h.inj b b' k (by rw [gB e1]; exact e1) (by rw [gB e2]; exact e2) (side2 b e1 h3) (side2 b' e2 h4)
 ·have RE:Mk bxc -> Mk (ov bxc bxi):=fun ⟨b,ty,hb⟩=>⟨b,ty,by
   by_cases e:bxi b = none
   ·rw [gC e]; exact hb
   ·exact absurd hb (by rw [hd.dj b e]; simp)⟩
  refine ⟨ht.os,ht.tape,ht.output,fun hn=>ht.drawn (fun hm=>hn (RE hm)),fun ⟨b,ty,hb⟩=>?_,ht.size,fun k hk hb=>ht.cw k hk (fun b aR=>hb b ?_),ht.shape,ht.ext,fun b k hb he=>?_⟩
  ·by_cases e:bxi b = none
   ·rw [gC e] at hb
    exact RE (ht.A5 ⟨b,ty,hb⟩)
   ·rw [gB e] at hb
    exact ⟨b,ty,by rw [gB e]; exact hb⟩
  ·by_cases e:bxi b = none
   ·rw [gC e]; exact aR
   ·rw [gB e]; exact e
  ·by_cases e:bxi b = none
   ·rw [gC e] at hb
    rcases ht.news b k hb he with ⟨b2,h5,h6⟩ | h5
    ·refine .inl ⟨b2,?_,h6⟩
     by_cases e2:bxi b2 = none
     ·rw [gC e2]; exact h5
     ·rw [gB e2]; exact e2
    ·exact .inr h5
   ·obtain ⟨k2,_,_,h5,_⟩:=hi b e
    refine .inl ⟨b,by rw [gB e]; exact e,?_⟩
    rw [ht.ext _ _ h5] at he; rw [h5]; exact he
theorem aw.frame {f:FuncId} {args:List V} {Kc:V -> aa -> Prop} (h:aw P f args bxc Kc) (hd:Dj bxc bxi):aw P f args (ov bxc bxi) fun r bx'=>∃ bxc',Kc r bxc' /\ Dj bxc' bxi /\ bx' = ov bxc' bxi:=by
 refine ⟨h.1,fun β M w vs c8 kN jz mH=>?_⟩
 obtain ⟨hw,hF⟩:=qE c8 hd
 refine (h.2 β _ w vs hw (kN.imp fun _ _ hh=>hh.mono (fun _ _ h=>h) (fun k hk=>⟨(hF k).1 hk,rfl⟩) (fun _ _ h=>h)) jz (fun i c hc=>(mH i c hc).mono (fun _ _ h=>h) (fun k hk=>⟨(hF k).1 hk,rfl⟩) (fun _ _ h=>h))).mono ?_
 rintro e w' ⟨v,r,bx',β',rfl,hk,tp,jk,bO⟩
 obtain ⟨a1,a2,a3,a4⟩:=tA c8 hd tp jk
 exact ⟨v,r,_,β',rfl,⟨bx',hk,a1,rfl⟩,a2,a3,bO.mono (fun _ _ h=>h) (fun k hk=>⟨a4 k hk,rfl⟩) (fun _ _ h=>h)⟩
end
end Go.Pl
namespace Go.Pl
open Go
section
variable {β:Beta} {M:dR} {bx:aa} {w:World}
theorem Tr.fzx {β':Beta} {M':dR} {bx':aa} {w':World} (h:Tr β bx w β' bx' w') (hx:ic M M' w) {k:Nat} (hk:Fz β M bx w k):Fz β' M' bx' w' k /\ w'.heap[k]? = w.heap[k]?:=by
 obtain ⟨h1,h2⟩:=h.fz (M:=M) hk
 refine ⟨⟨h1.1,?_,h1.2.2⟩,h2⟩
 cases hm:M' k with
 | none=>rfl
 | some o =>
   have:=hx.new k hk.2.1 (by rw [hm]; simp)
   have:=hk.1
   omega
theorem Tr.Ft {β':Beta} {M':dR} {bx':aa} {w':World} (h:Tr β bx w β' bx' w') (hx:ic M M' w) {v:V} {u:Value} (hr:aP β w (Fz β M bx w) v u):aP β' w' (Fz β' M' bx' w') v u :=
 hr.mono h.ext (fun _ hk=>h.fzx hx hk) h.shape
theorem DF (h:er β M bx w) {b:Nat} (bQ:β b = none) (hb:bx b = none) (o:Obj) (box:bF) (RJ:∀ ty,some box ≠ some (.row ty 0 []))
 (dP:∀ F',(∀ k,Fz β M bx w k -> F' k /\ (w.alloc o).heap[k]? = w.heap[k]?) -> od (aB β b (some (some w.heap.size))) (w.alloc o) F' w.heap.size box) :
 er (aB β b (some (some w.heap.size))) M (aB bx b (some box)) (w.alloc o) /\
 Tr β bx w (aB β b (some (some w.heap.size))) (aB bx b (some box)) (w.alloc o):=by
 have iW:∀ b' x,β b' = some x -> aB β b (some (some w.heap.size)) b' = some x:=by
  intro b' x hx
  rw [ae _ _ (by rintro rfl; rw [bQ] at hx; cases hx)]; exact hx
 have hk:∀ k,k < w.heap.size -> (w.alloc o).heap[k]? = w.heap[k]?:=fun k hk=>Go.RowKit.Below.heap_alloc w _ k hk
 have hs:∀ k x,w.shape? k = some x -> (w.alloc o).shape? k = some x:=fun k x hx=>by
  have:k < w.heap.size:=by
   rcases Nat.lt_or_ge k w.heap.size with h1 | h1
   ·exact h1
   ·simp [World.shape?,Array.getElem?_eq_none h1] at hx
  rw [bI (hk k this)]; exact hx
 have hF:∀ k,Fz β M bx w k -> Fz (aB β b (some (some w.heap.size))) M (aB bx b (some box)) (w.alloc o) k /\ (w.alloc o).heap[k]? = w.heap[k]?:=by
  rintro k ⟨h1,h2,h3⟩
  refine ⟨⟨by simp; omega,h2,fun b' aR he=>?_⟩,hk k h1⟩
  by_cases e:b' = b
  ·subst e
   rw [af] at he
   injection he with he; injection he with he
   omega
  ·rw [ae _ _ e] at he aR
   exact h3 b' aR he
 constructor
 ·refine ⟨?_,fun k o' hM=>(Go.RowKit.Below.heap_alloc w _ k (h.oE hM)).trans (h.mlt k o' hM),fun b' box' aR=>?_,fun b1 b2 k h1 h2 h3 h4=>?_⟩
  ·obtain ⟨n,hn⟩:=h.fin
   refine ⟨max n (b + 1),fun b' aR=>?_⟩
   rw [ae _ _ (by omega)]
   exact hn b' (by omega)
  ·by_cases e:b' = b
   ·subst e
    rw [af] at aR
    injection aR with aR
    subst aR
    exact .inr ⟨w.heap.size,af _ _ _,by simp,h.sU (Nat.le_refl _),dP _ hF⟩
   ·rw [ae _ _ e] at aR
    rcases h.live b' box' aR with ⟨h1,h2⟩ | ⟨k,h1,h2,h3,h4⟩
    ·exact .inl ⟨iW _ _ h1,h2⟩
    ·exact .inr ⟨k,iW _ _ h1,by simp; omega,h3,bn h4 (hk k h2) iW hF hs⟩
  ·have old:∀ b',b' ≠ b -> aB bx b (some box) b' ≠ none -> aB β b (some (some w.heap.size)) b' = some (some k) -> β b' = some (some k) /\ bx b' ≠ none /\ k < w.heap.size:=by
    intro b' bB aR he
    rw [ae _ _ bB] at aR he
    refine ⟨he,aR,?_⟩
    obtain ⟨box,dP⟩:=Option.ne_none_iff_exists'.1 aR
    exact (iG h dP he).1
   by_cases e1:b1 = b <;> by_cases e2:b2 = b
   ·rw [e1,e2]
   ·obtain ⟨_,_,h5⟩:=old b2 e2 h2 h4
    rw [e1,af] at h3; injection h3 with h3; injection h3 with h3; omega
   ·obtain ⟨_,_,h5⟩:=old b1 e1 h1 h3
    rw [e2,af] at h4; injection h4 with h4; injection h4 with h4; omega
   ·obtain ⟨h5,h6,_⟩:=old b1 e1 h1 h3
    obtain ⟨h7,h8,_⟩:=old b2 e2 h2 h4
    exact h.inj b1 b2 k h6 h8 h5 h7
 ·refine ⟨rfl,rfl,rfl,fun _=>Nat.le_refl _,fun hm=>Mk.kA hm RJ,by simp,fun k h1 _=>hk k h1,hs,iW,fun b' k h1 h2=>?_⟩
  by_cases e:b' = b
  ·subst e
   rw [af] at h2
   injection h2 with h2; injection h2 with h2
   exact .inr (by omega)
  ·rw [ae _ _ e] at h1 h2
   exact .inl ⟨b',h1,h2⟩
theorem DG (h:er β M bx w) (o:Obj):er β (M.set w.heap.size (some o)) bx (w.alloc o) /\ Tr β bx w β bx (w.alloc o) /\ ic M (M.set w.heap.size (some o)) w:=by
 have hk:∀ k,k < w.heap.size -> (w.alloc o).heap[k]? = w.heap[k]?:=fun k hk=>Go.RowKit.Below.heap_alloc w _ k hk
 have ht:Tr β bx w β bx (w.alloc o):=Tr.grown h rfl rfl rfl (Nat.le_refl _) (by simp) (fun _ _ h=>h) hk
 have hx:ic M (M.set w.heap.size (some o)) w:=by
  refine ⟨fun k o' hM=>?_,fun k h1 h2=>?_,rfl,rfl⟩
  ·rw [dR.mF _ _ (by have:=h.oE hM; omega)]; exact hM
  ·by_cases e:k = w.heap.size
   ·omega
   ·rw [dR.mF _ _ e] at h2; exact absurd h1 h2
 refine ⟨⟨h.fin,fun k o' hM=>?_,fun b box hb=>?_,h.inj⟩,ht,hx⟩
 ·by_cases e:k = w.heap.size
  ·subst e; rw [dR.AP] at hM; rw [<- hM]; exact World.alloc_heap_new w o
  ·rw [dR.mF _ _ e] at hM
   exact (hk k (h.oE hM)).trans (h.mlt k o' hM)
 ·rcases h.live b box hb with h1 | ⟨k,h1,h2,h3,h4⟩
  ·exact .inl h1
  ·exact .inr ⟨k,h1,by simp; omega,by rw [dR.mF _ _ (by omega)]; exact h3,bn h4 (hk k h2) (fun _ _ h=>h) (fun k hk=>ht.fzx hx hk) ht.shape⟩
theorem IK (h:er β M bx w) {b k:Nat} {box:bF} (hb:bx b = some box) (bQ:β b = some (some k)) (hs:w.shape? k = none) (o':Obj) :
 er β M (aB bx b none) (w.putObj k o') /\ Tr β bx w β (aB bx b none) (w.putObj k o'):=by
 obtain ⟨dr,hM,_⟩:=iG h hb bQ
 have fc:∀ b',aB bx b none b' ≠ none -> bx b' ≠ none /\ b' ≠ b:=by
  intro b' aR
  by_cases e:b' = b
  ·subst e; simp [af] at aR
  ·rw [ae _ _ e] at aR; exact ⟨aR,e⟩
 have ht:Tr β bx w β (aB bx b none) (w.putObj k o') :=
  ⟨rfl,rfl,rfl,fun _=>Nat.le_refl _,fun hm=>Mk.kA hm (fun _ h=>by cases h),by simp,fun k' h1 h2=>World.putObj_heap_other (by rintro rfl; exact h2 b (by rw [hb]; simp) bQ),fun _ _ h=>kV hs h,fun _ _ h=>h,fun b' k' h1 h2=>.inl ⟨b',(fc b' h1).1,h2⟩⟩
 refine ⟨⟨h.fin,fun k' y hk=>(World.putObj_heap_other (by rintro rfl; rw [hM] at hk; cases hk)).trans (h.mlt k' y hk),fun b' box' aR=>?_,fun b1 b2 k h1 h2 h3 h4=>h.inj b1 b2 k (fc _ h1).1 (fc _ h2).1 h3 h4⟩,ht⟩
 have bB:=(fc b' (by rw [aR]; simp)).2
 rw [ae _ _ bB] at aR
 rcases h.live b' box' aR with h1 | ⟨k',h1,h2,h3,h4⟩
 ·exact .inl h1
 ·have e:k' ≠ k:=by rintro rfl; exact bB (h.inj b' b k' (by rw [aR]; simp) (by rw [hb]; simp) h1 bQ)
  exact .inr ⟨k',h1,by simpa using h2,h3,bn h4 (World.putObj_heap_other e) (fun _ _ h=>h) (fun _ hk=>ht.fz hk) ht.shape⟩
end
end Go.Pl
