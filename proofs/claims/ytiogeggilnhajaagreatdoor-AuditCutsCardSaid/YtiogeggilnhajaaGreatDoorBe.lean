/- Texts of the proof, put together: PlOut, PlLs, PlCv, PlTh, PlTf, PlGc, PlMr, PlDf, PlDg, PlCp, PlAb, PlTw, PlLawM, PlLawT. -/
import Derived.Test.YtiogeggilnhajaaGreatDoorBd
import Derived.ChangeArms
import Derived.OpenShut
import Derived.Carry
import Derived.ChangeSame
import Derived.JoinedCond
import Derived.Below
import Derived.Test.YtiogeggilnhajaaGreatDoorBc
import Derived.Shelf.Spec.SlicesInsert
import Derived.Lib.AppendZerosOnto
import Derived.Laws.NewBlocks
import Derived.Lib.LaidTab
import Derived.Lib.ItoaNum
set_option linter.unusedSimpArgs false
set_option linter.unusedVariables false
namespace Go.Pl
open Go Go.ChangeShapes Go.WideShapes Go.ChangeAt Go.RowKit
def qL (P:Program):List (Nat × TypeId) -> Nat -> Nat -> Bool
 | [],o,m=>o == m
 | (o',t) :: ps,o,m=>o' == o && qL P ps (o + aF P t) m
def gO (P:Program):Nat -> TypeId -> Bool
 | 0,_=>false
 | n + 1,t =>
   match P.underlying t with
   | some .bool | some (.int _) | some .string=>aF P t == 1
   | some (.slice e)=>aF P t == 1 && gO P n e
   | some (.struct fs)=>(fs.toList.all fun f=>gO P n f.type) && qL P (fs.toList.map fun f=>(f.offset,f.type)) 0 (aF P t)
   | some (.array m e)=>gO P n e && qL P ((List.range m).map fun i=>(i * aF P e,e)) 0 (aF P t)
   | _=>false
def Cs (P:Program) (e:TypeId) (xs:List V):V:=if dn P e = true then .agg xs else xs.getD 0 .cU
def eO (P:Program):Nat -> TypeId -> List V -> Prop
 | 0,_,_=>False
 | n + 1,t,xs=>xs.length = aF P t /\
   match bC P t with
   | .bool=>∃ b,xs = [.bool b]
   | .int k=>∃ i,xs = [.int k i] /\ (Lit.int k i).wf = true
   | .str=>∃ s,xs = [.str s] /\ s.length <= maxLen
   | .slice e=>∃ es,xs = [.sl (aF P e) es] /\ es.length <= maxLen /\ ∀ v,v ∈ es -> ∃ ys,v = Cs P e ys /\ eO P n e ys
   | .sW=>∀ f off ty,cZ P t f = some (off,ty) -> eO P n ty ((xs.drop off).take (aF P ty))
   | .arr m e=>∀ i,i < m -> eO P n e ((xs.drop (i * aF P e)).take (aF P e))
   | _=>False
section
variable {H:Type} {enc:TypeId × Value -> H} {P:Program} {w:World} {spare:Nat -> Bool} {held:Bool}
theorem DU {e:TypeId} {xs:List V} (h:xs.length = aF P e) (h1:dn P e = false -> ∃ v,xs = [v] /\ v.cells = [v]):(Cs P e xs).cells = xs:=by
 unfold Cs
 by_cases ht:dn P e = true
 ·rw [if_pos ht]; rfl
 ·rw [if_neg ht]
  obtain ⟨v,rfl,hv⟩:=h1 (by simpa using ht)
  simpa using hv
def jg (w:World) (k:Nat):Prop:=k < w.heap.size
theorem Bn {a:Addr} {u:Value} (h:w.cell? a = some u):a.block < w.heap.size:=by
 unfold World.cell? at h
 cases hh:w.heap[a.block]? with
 | none=>simp [hh] at h
 | some o=>exact (Array.getElem?_eq_some_iff.1 hh).1
theorem FJ (a:Addr) (i j:Nat):(a.add i).add j = a.add (i + j):=by
 unfold Addr.add
 by_cases hi:i = 0 <;> by_cases hj:j = 0 <;> simp [hi,hj,Nat.add_assoc]
theorem assemble {β:Beta} {n:Nat} {cs:List Value} (ih:∀ (fuel:Nat) (t:TypeId) (cs:List Value) (x:DataW H × List MemPlace),gO P n t = true -> DataW.trod enc P w 0 spare held fuel t cs = some x ->
 cs.length = aF P t /\ (∀ (j:Nat) (u:Value),cs[j]? = some u -> u.oneCell' = true) /\ ∃ xs:List V,xs.length = cs.length /\ (∀ (j:Nat) (u:Value) (v:V),cs[j]? = some u -> xs[j]? = some v -> aP β w (jg w) v u /\ v.cells = [v]) /\ eO P n t xs) :
 ∀ (ps:List (Nat × TypeId)) (o:Nat),qL P ps o cs.length = true -> (∀ p,p ∈ ps -> gO P n p.2 = true /\ ∃ fuel x,DataW.trod enc P w 0 spare held fuel p.2 ((cs.drop p.1).take (aF P p.2)) = some x) ->
  o <= cs.length /\ (∀ (j:Nat) (u:Value),cs[o + j]? = some u -> u.oneCell' = true) /\ ∃ xs:List V,xs.length = cs.length - o /\ (∀ (j:Nat) (u:Value) (v:V),cs[o + j]? = some u -> xs[j]? = some v -> aP β w (jg w) v u /\ v.cells = [v]) /\
   ∀ p,p ∈ ps -> o <= p.1 /\ eO P n p.2 ((xs.drop (p.1 - o)).take (aF P p.2))
 | [],o,h,_=>by
   simp only [qL,beq_iff_eq] at h
   subst h
   refine ⟨Nat.le_refl _,?_,[],by simp,?_,fun p hp=>by cases hp⟩
   ·intro j u hu
    rw [List.getElem?_eq_none (by omega)] at hu; cases hu
   ·intro j u v hu
    rw [List.getElem?_eq_none (by omega)] at hu; cases hu
 | (o',t) :: ps,o,h,hp=>by
   simp only [qL,Bool.and_eq_true,beq_iff_eq] at h
   obtain ⟨rfl,h⟩:=h
   obtain ⟨rX,fuel,x,hx⟩:=hp (o',t) (by simp)
   dsimp only at rX hx
   obtain ⟨g1,g2,xs1,g3,g4,g5⟩:=ih fuel t _ x rX hx
   obtain ⟨k1,k2,xs2,k3,k4,k5⟩:=assemble ih ps (o' + aF P t) h (fun p qZ=>hp p (by simp [qZ]))
   have Ct:xs1.length = aF P t:=by rw [g3,g1]
   have eI:∀ j,j < aF P t -> ((cs.drop o').take (aF P t))[j]? = cs[o' + j]?:=by
    intro j hj
    rw [List.getElem?_take,if_pos hj,List.getElem?_drop]
   refine ⟨by omega,?_,xs1 ++ xs2,by simp; omega,?_,?_⟩
   ·intro j u hu
    by_cases hj:j < aF P t
    ·exact g2 j u (by rw [eI j hj]; exact hu)
    ·refine k2 (j - aF P t) u ?_
     rw [<- hu]; congr 1; omega
   ·intro j u v hu hv
    by_cases hj:j < aF P t
    ·rw [List.getElem?_append_left (by omega)] at hv
     exact g4 j u v (by rw [eI j hj]; exact hu) hv
    ·rw [List.getElem?_append_right (by omega),Ct] at hv
     refine k4 (j - aF P t) u v ?_ hv
     rw [<- hu]; congr 1; omega
   ·intro p qZ
    rcases List.mem_cons.1 qZ with rfl | qZ
    ·refine ⟨Nat.le_refl _,?_⟩
     simp only [Nat.sub_self,List.drop_zero]
     rw [List.take_append_of_le_length (by omega),List.take_of_length_le (by omega)]
     exact g5
    ·obtain ⟨m1,m2⟩:=k5 p qZ
     refine ⟨by omega,?_⟩
     have:(xs1 ++ xs2).drop (p.1 - o') = xs2.drop (p.1 - (o' + aF P t)):=by
      rw [List.drop_append,List.drop_of_length_le (by omega),List.nil_append]
      congr 1
      omega
     rw [this]
     exact m2
theorem lC {β:Beta}:∀ (n:Nat) (fuel:Nat) (t:TypeId) (cs:List Value) (x:DataW H × List MemPlace),gO P n t = true -> DataW.trod enc P w 0 spare held fuel t cs = some x ->
 cs.length = aF P t /\ (∀ (j:Nat) (u:Value),cs[j]? = some u -> u.oneCell' = true) /\ ∃ xs:List V,xs.length = cs.length /\ (∀ (j:Nat) (u:Value) (v:V),cs[j]? = some u -> xs[j]? = some v -> aP β w (jg w) v u /\ v.cells = [v]) /\ eO P n t xs
 | 0,_,_,_,_,h,_=>by simp [gO] at h
 | n + 1,fuel,t,cs,x,h,ht=>by
   have one:∀ (u:Value) (v:V),cs = [u] -> u.oneCell' = true -> aP β w (jg w) v u -> v.cells = [v] -> aF P t = 1 -> eO P (n + 1) t [v] ->
    cs.length = aF P t /\ (∀ (j:Nat) (u:Value),cs[j]? = some u -> u.oneCell' = true) /\ ∃ xs:List V,xs.length = cs.length /\ (∀ (j:Nat) (u:Value) (v:V),cs[j]? = some u -> xs[j]? = some v -> aP β w (jg w) v u /\ v.cells = [v]) /\ eO P (n + 1) t xs:=by
    rintro u v rfl h1 h2 h3 h4 h5
    refine ⟨by simp [h4],?_,[v],rfl,?_,h5⟩
    ·intro j u' hj
     cases j with
     | zero=>simp at hj; subst hj; exact h1
     | succ j=>simp at hj
    ·intro j u' v' hj hv
     cases j with
     | zero=>simp at hj hv; subst hj hv; exact ⟨h2,h3⟩
     | succ j=>simp at hj
   unfold gO at h
   split at h
   ·rename_i hu
    obtain ⟨b,rfl,_⟩:=DataW.trod_bool hu ht
    have hs:aF P t = 1:=by simpa using h
    exact one _ (.bool b) rfl rfl (.bool b) rfl hs ⟨by simp [hs],by simp [bC,hu]⟩
   ·rename_i k hu
    obtain ⟨i,rfl,_,hw⟩:=DataW.trod_int hu ht
    have hs:aF P t = 1:=by simpa using h
    exact one _ (.int k i) rfl rfl (.int k i) rfl hs ⟨by simp [hs],by simpa [bC,hu] using hw⟩
   ·rename_i hu
    obtain ⟨s,rfl,_,hw⟩:=DataW.trod_string hu ht
    have hs:aF P t = 1:=by simpa using h
    refine one _ (.str s.data.toList) rfl rfl (.str s) rfl hs ⟨by simp [hs],?_⟩
    simp only [bC,hu]
    exact ⟨_,rfl,by simpa using hw⟩
   ·rename_i e hu
    simp only [Bool.and_eq_true,beq_iff_eq] at h
    obtain ⟨hs,he⟩:=h
    have hk:bC P t = .slice e:=by simp [bC,hu]
    rcases DataW.trod_slice hu ht with ⟨rfl,_⟩ | ⟨a,len,cap,elems,rest,m,_,rfl,_,hb,hl,hm,hlen,R2,_,_⟩
    ·refine one _ (.sl (aF P e) []) rfl rfl (pW _ _ _ _ _ .aH) rfl hs ⟨by simp [hs],?_⟩
     rw [hk]
     exact ⟨[],rfl,by simp,fun v hv=>by cases hv⟩
    ·have hex:∀ i,i < len -> ∃ (yD:List Value) (xs:List V),w.cells? 0 (a.add (i * P.cellsOf e)) (P.cellsOf e) = some yD /\ yD.length = aF P e /\ (∀ (j:Nat) (u:Value),yD[j]? = some u -> u.oneCell' = true) /\ xs.length = yD.length /\
      (∀ (j:Nat) (u:Value) (v:V),yD[j]? = some u -> xs[j]? = some v -> aP β w (jg w) v u /\ v.cells = [v]) /\ eO P n e xs:=by
      intro i hi
      have h1:=R2 i hi
      rw [List.getElem?_eq_getElem (by omega)] at h1
      obtain ⟨yD,h2,h3⟩:=Option.bind_eq_some_iff.1 h1
      obtain ⟨h4,h5,xs,h6,h7,h8⟩:=lC n _ _ _ _ he h3
      exact ⟨yD,xs,h2,h4,h5,h6,h7,h8⟩
     obtain ⟨f,hf⟩:=Go.Deep.choose_lt (α:=List Value × List V) (p:=fun i p=>w.cells? 0 (a.add (i * P.cellsOf e)) (P.cellsOf e) = some p.1 /\ p.1.length = aF P e /\ (∀ (j:Nat) (u:Value),p.1[j]? = some u -> u.oneCell' = true) /\ p.2.length = p.1.length /\
      (∀ (j:Nat) (u:Value) (v:V),p.1[j]? = some u -> p.2[j]? = some v -> aP β w (jg w) v u /\ v.cells = [v]) /\ eO P n e p.2) (fun i hi=>by
      obtain ⟨yD,xs,h⟩:=hex i hi
      exact ⟨(yD,xs),h⟩)
     have RV:∀ i,i < len -> (Cs P e (f i).2).cells = (f i).2:=by
      intro i hi
      obtain ⟨h1,h2,h3,h4,h5,h6⟩:=hf i hi
      refine DU (by omega) fun htg=>?_
      have htz:aF P e = 1:=by
       cases n with
       | zero=>exact h6.elim
       | succ n =>
         unfold gO at he
         unfold dn at htg
         split at he <;> simp_all
      obtain ⟨v,hv⟩:∃ v,(f i).2 = [v]:=by
       match hm:(f i).2,(show (f i).2.length = 1 by omega) with
       | [v],_=>exact ⟨v,rfl⟩
      obtain ⟨u,hu⟩:∃ u,(f i).1 = [u]:=by
       match hm:(f i).1,(show (f i).1.length = 1 by omega) with
       | [v],_=>exact ⟨v,rfl⟩
      exact ⟨v,hv,(h5 0 u v (by simp [hu]) (by simp [hv])).2⟩
     have bD:∀ i,i < len -> ∀ (j:Nat) (u:Value),(f i).1[j]? = some u -> w.cell? (a.add (i * aF P e + j)) = some u:=by
      intro i hi j u hu
      have h1:=(World.cells?_some (hf i hi).1).2
      have hj:j < P.cellsOf e:=by rw [<- h1.1]; exact (List.getElem?_eq_some_iff.1 hu).1
      have h2:=h1.2 j hj
      rw [FJ,hu] at h2
      exact h2
     let es:List V:=(List.range len).map fun i=>Cs P e (f i).2
     have aay:es.length = len:=by simp [es]
     have wU:∀ i e',es[i]? = some e' -> i < len /\ e' = Cs P e (f i).2:=by
      intro i e' h
      simp only [es,List.getElem?_map,Option.map_eq_some_iff] at h
      obtain ⟨k,h1,rfl⟩:=h
      have:=List.getElem?_eq_some_iff.1 h1
      obtain ⟨h2,h3⟩:=this
      simp at h2 h3
      subst h3
      exact ⟨h2,rfl⟩
     refine one _ (.sl (aF P e) es) rfl rfl ?_ rfl hs ⟨by simp [hs],?_⟩
     ·have bO:=aP.sl (β:=β) (w:=w) (F:=jg w) (aF P e) es (some a) cap (fun q=>(w.cell? (a.add q)).getD undef) (by omega) hm (by simp) ?_ ?_ ?_
      ·rwa [aay] at bO
      ·intro e' nS
       obtain ⟨i,hi⟩:=List.getElem?_of_mem nS
       obtain ⟨h1,rfl⟩:=wU i e' hi
       rw [RV i h1]
       have:=hf i h1
       omega
      ·intro i e' j c h1 h2
       obtain ⟨hi,rfl⟩:=wU i e' h1
       rw [RV i hi] at h2
       obtain ⟨g1,g2,g3,g4,g5,g6⟩:=hf i hi
       have hj:j < (f i).1.length:=by rw [<- g4]; exact (List.getElem?_eq_some_iff.1 h2).1
       have hu:=List.getElem?_eq_getElem hj
       have hc:=bD i hi j _ hu
       refine ⟨a,rfl,by rw [<- block_add a (i * aF P e + j)]; exact Bn hc,by rw [hc]; rfl,by rw [hc]; exact g3 j _ hu⟩
      ·intro i e' j c h1 h2
       obtain ⟨hi,rfl⟩:=wU i e' h1
       rw [RV i hi] at h2
       obtain ⟨g1,g2,g3,g4,g5,g6⟩:=hf i hi
       have hj:j < (f i).1.length:=by rw [<- g4]; exact (List.getElem?_eq_some_iff.1 h2).1
       have hu:=List.getElem?_eq_getElem hj
       have hc:=bD i hi j _ hu
       rw [hc]
       exact (g5 j _ _ hu h2).1
     ·rw [hk]
      refine ⟨es,rfl,by omega,fun v hv=>?_⟩
      obtain ⟨i,hi⟩:=List.getElem?_of_mem hv
      obtain ⟨h1,rfl⟩:=wU i v hi
      exact ⟨_,rfl,(hf i h1).2.2.2.2.2⟩
   ·rename_i fs hu
    simp only [Bool.and_eq_true,List.all_eq_true] at h
    obtain ⟨hp,hc⟩:=h
    obtain ⟨xs0,m,_,_,hlen,_,hf⟩:=DataW.trod_struct hu ht
    have hl:cs.length = aF P t:=hlen
    rw [<- hl] at hc
    obtain ⟨_,h2,xs,h3,h4,h5⟩:=assemble (β:=β) (fun fuel t cs x=>lC n fuel t cs x) _ 0 hc (fun p qZ=>by
     obtain ⟨f,bg,rfl⟩:=List.mem_map.1 qZ
     obtain ⟨i,hi⟩:=List.getElem?_of_mem bg
     refine ⟨hp f bg,m,?_⟩
     have:=hf i f (by simpa using hi)
     have h6:=(List.getElem?_eq_some_iff.1 hi).1
     rw [Array.length_toList] at h6
     obtain ⟨y,hy⟩:∃ y,xs0[i]? = some y:=⟨_,List.getElem?_eq_getElem (by omega)⟩
     exact ⟨y,by rw [hy] at this; exact this⟩)
    simp only [Nat.zero_add] at h2 h4
    refine ⟨hl,h2,xs,by omega,h4,by omega,?_⟩
    have hk:bC P t = .sW:=by simp [bC,hu]
    rw [hk]
    intro f off ty pY
    simp only [cZ,hu,Option.map_eq_some_iff,Prod.mk.injEq] at pY
    obtain ⟨fi,h6,rfl,rfl⟩:=pY
    have:=(h5 (fi.offset,fi.type) (List.mem_map.2 ⟨fi,by simpa using Array.mem_of_getElem? h6,rfl⟩)).2
    simpa using this
   ·rename_i m e hu
    simp only [Bool.and_eq_true] at h
    obtain ⟨hp,hc⟩:=h
    obtain ⟨xs0,q,_,_,hlen,RG,hf⟩:=DataW.trod_array hu ht
    have hl:cs.length = aF P t:=hlen
    rw [<- hl] at hc
    obtain ⟨_,h2,xs,h3,h4,h5⟩:=assemble (β:=β) (fun fuel t cs x=>lC n fuel t cs x) _ 0 hc (fun p qZ=>by
     obtain ⟨i,hi,rfl⟩:=List.mem_map.1 qZ
     have y9:i < m:=by simpa using hi
     refine ⟨hp,q,xs0[i],?_⟩
     rw [<- List.getElem?_eq_getElem (by omega)]
     exact hf i y9)
    simp only [Nat.zero_add] at h2 h4
    refine ⟨hl,h2,xs,by omega,h4,by omega,?_⟩
    have hk:bC P t = .arr m e:=by simp [bC,hu]
    rw [hk]
    intro i hi
    have:=(h5 (i * aF P e,e) (List.mem_map.2 ⟨i,by simpa using hi,rfl⟩)).2
    simpa using this
   ·cases h
def xy (P:Program) (n:Nat):List TypeId -> List V -> Prop
 | [],[]=>True
 | t :: ts,v :: vs=>(∃ xs,v = Cs P t xs /\ eO P n t xs) /\ xy P n ts vs
 | _,_=>False
theorem xz {n:Nat} {t:TypeId} {v:Value} {r:Reach} {base:Nat} (hp:gO P n t = true) (h:Value.okWide P w r base t v):(dn P t = true -> ∃ us,v = .agg us) /\ (dn P t = false -> v.cells = #[v]):=by
 cases n with
 | zero=>simp [gO] at hp
 | succ n =>
   unfold gO at hp
   have cell:(∀ cs,P.underlying t ≠ some (.struct cs)) -> (∀ m e,P.underlying t ≠ some (.array m e)) -> (P.underlying t = some .bool \/ (∃ k,P.underlying t = some (.int k)) \/ P.underlying t = some .string \/ ∃ e,P.underlying t = some (.slice e)) ->
    (dn P t = true -> ∃ us,v = .agg us) /\ (dn P t = false -> v.cells = #[v]):=by
    rintro _ _ (hu | ⟨k,hu⟩ | hu | ⟨e,hu⟩)
    all_goals
     have htg:dn P t = false:=by simp [dn,hu]
     refine ⟨fun h1=>(by rw [htg] at h1; cases h1),fun _=>?_⟩
     unfold Value.okWide at h
     rw [hu] at h
     unfold Cell.okWide at h
     rw [hu] at h
     cases v <;> first | rfl | (simp [Cell.ok,hu] at h)
   have agg:(∃ us,v = .agg us) -> dn P t = true -> (dn P t = true -> ∃ us,v = .agg us) /\ (dn P t = false -> v.cells = #[v]):=fun h1 h2=>⟨fun _=>h1,fun h3=>by rw [h2] at h3; cases h3⟩
   split at hp
   ·rename_i hu; exact cell (by simp [hu]) (by simp [hu]) (.inl hu)
   ·rename_i k hu; exact cell (by simp [hu]) (by simp [hu]) (.inr (.inl ⟨k,hu⟩))
   ·rename_i hu; exact cell (by simp [hu]) (by simp [hu]) (.inr (.inr (.inl hu)))
   ·rename_i e hu; exact cell (by simp [hu]) (by simp [hu]) (.inr (.inr (.inr ⟨e,hu⟩)))
   ·rename_i fs hu
    unfold Value.okWide at h
    rw [hu] at h
    obtain ⟨cs,rfl,_⟩:=h
    exact agg ⟨cs,rfl⟩ (by simp [dn,hu])
   ·rename_i m e hu
    unfold Value.okWide at h
    rw [hu] at h
    obtain ⟨cs,rfl,_⟩:=h
    exact agg ⟨cs,rfl⟩ (by simp [dn,hu])
   ·cases hp
theorem tQ {β:Beta} {n:Nat} {r:Reach} {base:Nat}:∀ (ts:List TypeId) (args:List Value) (ds:List (DataW H)) (ps:List MemPlace),(∀ t,t ∈ ts -> gO P n t = true) -> (∀ (j:Nat) (t:TypeId) (v:Value),ts[j]? = some t -> args[j]? = some v -> Value.okWide P w r base t v) ->
 DataW.TrodAll enc P w 0 spare held ts args ds ps -> ∃ vs:List V,vs.length = args.length /\ args.length = ts.length /\ ds.length = ts.length /\ (∀ (i:Nat) (v:V) (u:Value),vs[i]? = some v -> args[i]? = some u -> aP β w (jg w) v u) /\ xy P n ts vs
 | [],[],[],_,_,_,_=>⟨[],rfl,rfl,rfl,fun i v u h=>by simp at h,trivial⟩
 | t :: ts,u :: args,d :: ds,ps,hp,ho,h=>by
   obtain ⟨p,q,⟨fuel,h1⟩,h2,_⟩:=h
   have hpt:=hp t (by simp)
   obtain ⟨g1,g2,xs,g3,g4,g5⟩:=lC (β:=β) n fuel t _ _ hpt h1
   obtain ⟨k1,k2⟩:=xz hpt (ho 0 t u rfl rfl)
   obtain ⟨vs,m1,m2,m3,m4,m5⟩:=tQ ts args ds q (fun t ht=>hp t (by simp [ht])) (fun j t v h3 h4=>ho (j + 1) t v (by simpa using h3) (by simpa using h4)) h2
   refine ⟨Cs P t xs :: vs,by simp [m1],by simp [m2],by simp [m3],?_,⟨xs,rfl,g5⟩,m5⟩
   intro i v u' hv hu
   cases i with
   | succ i=>exact m4 i v u' (by simpa using hv) (by simpa using hu)
   | zero =>
     simp at hv hu
     subst hv hu
     unfold Cs
     by_cases ht:dn P t = true
     ·rw [if_pos ht]
      obtain ⟨us,rfl⟩:=k1 ht
      simp only [Value.cells] at g1 g2 g3 g4
      refine .agg xs us (by simpa using g3.symm) (fun i hi=>?_) (fun i c hc=>?_)
      ·have y9:i < us.size:=by simpa [g3] using hi
       have:=g2 i us[i] (by simp [y9])
       simpa [y9] using this
      ·have y9:i < us.size:=by have:=(List.getElem?_eq_some_iff.1 hc).1; simpa [g3] using this
       have:=(g4 i us[i] c (by simp [y9]) hc).1
       simpa [y9] using this
     ·rw [if_neg ht]
      have hc:=k2 (by simpa using ht)
      rw [hc] at g1 g2 g3 g4
      have hl:xs.length = 1:=by simpa using g3
      match xs,hl with
      | [x],_=>exact (g4 0 u x (by simp) (by simp)).1
 | [],_ :: _,_,_,_,_,h=>by simp [DataW.TrodAll] at h
 | [],[],_ :: _,_,_,_,h=>by simp [DataW.TrodAll] at h
 | _ :: _,[],_,_,_,_,h=>by simp [DataW.TrodAll] at h
 | _ :: _,_ :: _,[],_,_,_,h=>by simp [DataW.TrodAll] at h
theorem kH (hl:laidOutB P = true) {W W':World} (hb:Below W.heap.size W W'):∀ {ts:List TypeId} {vs:List Value} {ds:List (DataW H)} {ps:List MemPlace} {sp:Nat -> Bool},(∀ t,t ∈ ts -> P.readableRec t = true /\ t < P.types.size) -> (∀ x ∈ ps,x.block < W.heap.size /\ sp x.block = true) ->
 DataW.TrodAll enc P W 0 (fun _=>true) true ts vs ds ps -> DataW.TrodAll enc P W' 0 sp true ts vs ds ps
 | [],[],[],_,_,_,_,h=>h
 | t :: ts,v :: vs,d :: ds,ps,sp,ht,hp,h=>by
   obtain ⟨p,q,h1,h2,rfl⟩:=h
   obtain ⟨g1,g2⟩:=ht t (by simp)
   exact ⟨p,q,WideElems.Trod_stays hl g1 g2 h1 (fun x hx=>hb.same (hp x (by simp [hx])).1) (fun x hx=>(hp x (by simp [hx])).2),kH hl hb (fun t xr=>ht t (by simp [xr])) (fun x hx=>hp x (by simp [hx])) h2,rfl⟩
 | [],_ :: _,_,_,_,_,_,h=>by simp [DataW.TrodAll] at h
 | [],[],_ :: _,_,_,_,_,h=>by simp [DataW.TrodAll] at h
 | _ :: _,[],_,_,_,_,_,h=>by simp [DataW.TrodAll] at h
 | _ :: _,_ :: _,[],_,_,_,_,h=>by simp [DataW.TrodAll] at h
theorem eO.int {n:Nat} {t:TypeId} {k:IntKind} {xs:List V} (hk:bC P t = .int k) (h:eO P n t xs):∃ i,xs = [.int k i] /\ (Lit.int k i).wf = true:=by
 cases n with
 | zero=>exact h.elim
 | succ n=>obtain ⟨_,h⟩:=h; rw [hk] at h; exact h
theorem eO.bool {n:Nat} {t:TypeId} {xs:List V} (hk:bC P t = .bool) (h:eO P n t xs):∃ b,xs = [.bool b]:=by
 cases n with
 | zero=>exact h.elim
 | succ n=>obtain ⟨_,h⟩:=h; rw [hk] at h; exact h
theorem eO.str {n:Nat} {t:TypeId} {xs:List V} (hk:bC P t = .str) (h:eO P n t xs):∃ s,xs = [.str s] /\ s.length <= maxLen:=by
 cases n with
 | zero=>exact h.elim
 | succ n=>obtain ⟨_,h⟩:=h; rw [hk] at h; exact h
theorem eO.slice {α:Type} {r:α -> V} {n:Nat} {t e:TypeId} {xs:List V} (hk:bC P t = .slice e) (h:eO P (n + 1) t xs) (he:∀ ys,eO P n e ys -> ∃ a,Cs P e ys = r a):∃ l:List α,xs = [.sl (aF P e) (l.map r)] /\ l.length <= maxLen:=by
 obtain ⟨_,h⟩:=h
 rw [hk] at h
 obtain ⟨es,rfl,hlen,h⟩:=h
 have:∀ es:List V,(∀ v,v ∈ es -> ∃ ys,v = Cs P e ys /\ eO P n e ys) -> ∃ l:List α,es = l.map r:=by
  intro es
  induction es with
  | nil=>intro _; exact ⟨[],rfl⟩
  | cons v es ih =>
    intro h
    obtain ⟨l,rfl⟩:=ih fun v hv=>h v (by simp [hv])
    obtain ⟨ys,rfl,h2⟩:=h v (by simp)
    obtain ⟨a,ha⟩:=he ys h2
    exact ⟨a :: l,by simp [ha]⟩
 obtain ⟨l,rfl⟩:=this es h
 exact ⟨l,rfl,by simpa using hlen⟩
theorem eO.cZ {n:Nat} {t ty:TypeId} {f off:Nat} {xs:List V} (hk:bC P t = .sW) (h:eO P (n + 1) t xs) (hf:Go.Pl.cZ P t f = some (off,ty)):eO P n ty ((xs.drop off).take (aF P ty)):=by
 obtain ⟨_,h⟩:=h
 rw [hk] at h
 exact h f off ty hf
theorem eO.len {n:Nat} {t:TypeId} {xs:List V} (h:eO P n t xs):xs.length = aF P t:=by
 cases n with
 | zero=>exact h.elim
 | succ n=>exact h.1
theorem eO.arr {n m i:Nat} {t e:TypeId} {xs:List V} (hk:bC P t = .arr m e) (h:eO P (n + 1) t xs) (hi:i < m):eO P n e ((xs.drop (i * aF P e)).take (aF P e)):=by
 obtain ⟨_,h⟩:=h
 rw [hk] at h
 exact h i hi
theorem aaz {α:Type} {l:List α} (h:l.length = 1):∃ a,l = [a]:=by
 match l,h with
 | [a],_=>exact ⟨a,rfl⟩
theorem aa0 {α:Type} {l:List α} (h:l.length = 3):∃ a b c,l = [a,b,c]:=by
 match l,h with
 | [a,b,c],_=>exact ⟨a,b,c,rfl⟩
theorem aa1 {α:Type} {l:List α} (h:l.length = 4):∃ a b c d,l = [a,b,c,d]:=by
 match l,h with
 | [a,b,c,d],_=>exact ⟨a,b,c,d,rfl⟩
theorem Jm {n:Nat} {t:TypeId} {vs:List V} (h:xy P n [t] vs):∃ xs,vs = [Cs P t xs] /\ eO P n t xs:=by
 match vs,h with
 | [a],⟨⟨xs,h1,h2⟩,_⟩=>exact ⟨xs,by rw [h1],h2⟩
theorem x8 {t:TypeId} {xs:List V} (h:dn P t = true):Cs P t xs = .agg xs:=by simp [Cs,h]
end
end Go.Pl
namespace Go.Pl
open Go Go.RowKit
section
variable {P:Program} {β:Beta} {M:dR} {bx:aa} {w w':World}
theorem pZ {bx:aa} {b:Nat} (hb:bx b = none):aB bx b none = bx:=by
 funext c
 by_cases e:c = b
 ·subst e; rw [af,hb]
 ·rw [ae _ _ e]
theorem sD {F:Nat -> Prop} (s:List UInt8):aP β w F (.str s) (.string ⟨s.toArray⟩):=by
 have:=aP.str (β:=β) (w:=w) (F:=F) ⟨s.toArray⟩
 exact this
end
end Go.Pl
namespace Go.Pl
open Go
section
variable {P:Program}
end
end Go.Pl
namespace Go.Pl
open Go
section
variable {P:Program} {β:Beta} {M:dR} {bx bx':aa} {w:World}
theorem fzD (hd:∀ b,bx' b ≠ none -> bx b ≠ none) {k:Nat} (hk:Fz β M bx w k):Fz β M bx' w k:=by
 obtain ⟨h1,h2,h3⟩:=hk
 exact ⟨h1,h2,fun b hb he=>h3 b (hd b hb) he⟩
theorem Jn (hd:∀ b,bx' b ≠ none -> bx b ≠ none) {v:V} {u:Value} (h:aP β w (Fz β M bx w) v u):aP β w (Fz β M bx' w) v u :=
 h.mono (fun _ _ h=>h) (fun k hk=>⟨fzD hd hk,rfl⟩) (fun _ _ h=>h)
theorem FK (c8:er β M bx w) (hd:∀ b,bx' b ≠ none -> bx b ≠ none) (d:Nat):∀ (v:V) (u:Value),aP β w (Fz β M bx w) v u -> aP β w (Fz β M bx' w) (cK bx bx' d v) u:=by
 induction d using Nat.strongRecOn with
 | _ d ih =>
   intro v u h
   cases d with
   | zero=>simpa [cK] using (Jn hd) h
   | succ d =>
     cases h with
     | mi b sz hb =>
       simp only [cK]
       split
       ·rename_i ty eU es eK cz
        split
        ·rename_i hh
         have:=aP.sl (β:=β) (w:=w) (F:=Fz β M bx' w) sz [] none 0 (fun _=>undef) (Nat.le_refl _) (by simp) (fun h=>absurd rfl h) (fun e he=>by cases he) (fun i e j c he=>by simp at he) (fun i e j c he=>by simp at he)
         simpa using this
        ·exact .cU _
       ·exact .cU _
     | own b sz o n k cap m ty hb vr hm hn gZ =>
       simp only [cK]
       split
       ·rename_i mj eU es eK cz
        split
        ·rename_i hh
         obtain ⟨e1,eJ,hle⟩:=hh
         subst e1
         rcases c8.live b _ eK with ⟨h1,_⟩ | ⟨k',h1,my,hM,cur,fr,aU,iA,jj,au⟩
         ·rw [hb] at h1; cases h1
         ·rw [hb] at h1
          injection h1 with h1
          injection h1 with h1
          subst h1
          have hlen:(((es.drop o).take n).map (cK bx bx' d)).length = n:=by simp; omega
          have Mv:Fz β M bx' w k:=by
           refine ⟨my,hM,fun q hq he=>?_⟩
           have hqb:bx q ≠ none:=hd _ hq
           have:=c8.inj q b k hqb (by rw [eK]; simp) he hb
           subst this
           exact hq cz
          have eI:∀ i e',(((es.drop o).take n).map (cK bx bx' d))[i]? = some e' -> ∃ e,es[o + i]? = some e /\ i < n /\ e' = cK bx bx' d e:=by
           intro i e' he
           rw [List.getElem?_map,List.getElem?_take] at he
           split at he
           ·rename_i hi
            rw [List.getElem?_drop] at he
            simp only [Option.map_eq_some_iff] at he
            obtain ⟨e,h5,rfl⟩:=he
            exact ⟨e,h5,hi,rfl⟩
           ·simp at he
          have lY:=aP.sl (β:=β) (w:=w) (F:=Fz β M bx' w) sz (((es.drop o).take n).map (cK bx bx' d)) (some ⟨k,o * sz,none⟩) cap (fun m=>cur.getD (o * sz + m) undef) (by rw [hlen]; exact hn) (by omega) (fun _ h=>by cases h)
           (fun e' he=>by
            obtain ⟨i,hi⟩:=List.mem_iff_getElem?.1 he
            obtain ⟨e,h5,_,rfl⟩:=eI i e' hi
            rw [(fg bx bx' d e).1]
            exact (au _ e h5).1)
           (fun i e' j c he hc=>by
            obtain ⟨e,h5,hi,rfl⟩:=eI i e' he
            obtain ⟨c0,d',_,h6,_⟩:=(fg bx bx' d e).2 j c hc
            obtain ⟨h7,h8⟩:=au _ e h5
            have hj:j < sz:=by have:=(List.getElem?_eq_some_iff.1 h6).1; omega
            have h9:=(h8 j c0 h6).1
            have e2:(o + i) * sz + j = o * sz + (i * sz + j):=by rw [Nat.add_mul]; omega
            rw [e2] at h9
            have aR:o * sz + (i * sz + j) < cur.size:=by
             have:(o + i + 1) * sz <= es.length * sz:=Nat.mul_le_mul_right _ (List.getElem?_eq_some_iff.1 h5).1
             rw [Nat.succ_mul] at this
             omega
            refine ⟨_,rfl,Mv,?_,h9⟩
            rw [add_lit,cell_of_row w k _ cur mj fr aU]
            simp [aR])
           (fun i e' j c he hc=>by
            obtain ⟨e,h5,hi,rfl⟩:=eI i e' he
            obtain ⟨c0,d',R9,h6,rfl⟩:=(fg bx bx' d e).2 j c hc
            have h9:=((au _ e h5).2 j c0 h6).2
            have e2:(o + i) * sz + j = o * sz + (i * sz + j):=by rw [Nat.add_mul]; omega
            rw [e2] at h9
            exact ih d' (by omega) c0 _ h9)
          rw [hlen] at lY
          exact lY
        ·exact .cU _
       ·exact .cU _
     | agg cs us hl h1 hr =>
       simp only [cK]
       refine .agg _ _ (by simpa using hl) (fun i hi=>h1 i (by simpa using hi)) (fun i c hc=>?_)
       rw [List.getElem?_map] at hc
       simp only [Option.map_eq_some_iff] at hc
       obtain ⟨c',ec,rfl⟩:=hc
       exact ih d (Nat.lt_succ_self _) c' _ (hr i c' ec)
     | dc cs us hl hr =>
       simp only [cK]
       refine .dc _ _ (by simpa using hl) (fun i c hc=>?_)
       rw [List.getElem?_map] at hc
       simp only [Option.map_eq_some_iff] at hc
       obtain ⟨c',ec,rfl⟩:=hc
       exact ih d (Nat.lt_succ_self _) c' _ (hr i c' ec)
     | iface t v u h =>
       simp only [cK]
       exact .iface t _ u (ih d (Nat.lt_succ_self _) v u h)
     | cU=>exact .cU _
     | int=>exact .int _ _
     | bool=>exact .bool _
     | str=>exact .str _
     | aH=>exact .aH
     | sl sz es A cap u0 h1 h2 h3 h4 h5 h6=>exact (Jn hd) (.sl sz es A cap u0 h1 h2 h3 h4 h5 h6)
     | ptr b sz i o k hb =>
       simp only [cK]
       split
       ·rename_i mj eU es eK cz
        split
        ·rename_i hh
         obtain ⟨e1,hi⟩:=hh
         subst e1
         rcases c8.live b _ eK with ⟨h1,_⟩ | ⟨k',h1,my,hM,cur,fr,aU,iA,jj,au⟩
         ·rw [h1] at hb; cases hb
         ·rw [hb] at h1; injection h1 with h1; injection h1 with h1; subst h1
          have he:=List.getElem?_eq_getElem hi
          have hg:es.getD i .cU = es[i]:=by simp [List.getD,he]
          rw [hg]
          obtain ⟨hlen,qA⟩:=au i _ he
          have Mv:Fz β M bx' w k:=by
           refine ⟨my,hM,fun q hq he=>?_⟩
           have uL:bx q ≠ none:=hd _ hq
           have:=c8.inj q b k uL (by rw [eK]; simp) he hb
           subst this
           exact hq cz
          have lY:=aP.ep (β:=β) (w:=w) (F:=Fz β M bx' w) (cK bx bx' d es[i]) o ⟨k,i * sz,none⟩ (fun j=>cur.getD (i * sz + j) undef)
           (fun j c hc=>by
            obtain ⟨c0,d',_,h6,_⟩:=(fg bx bx' d es[i]).2 j c hc
            have hj:j < sz:=by have:=(List.getElem?_eq_some_iff.1 h6).1; omega
            have h9:=(qA j c0 h6).1
            have aR:i * sz + j < cur.size:=by
             have:(i + 1) * sz <= es.length * sz:=Nat.mul_le_mul_right _ hi
             rw [Nat.succ_mul] at this
             omega
            refine ⟨_,rfl,Mv,?_,h9⟩
            rw [add_lit,cell_of_row w k _ cur mj fr aU]
            simp [aR])
           (fun j c hc=>by
            obtain ⟨c0,d',R9,h6,rfl⟩:=(fg bx bx' d es[i]).2 j c hc
            exact ih d' (by omega) c0 _ (qA j c0 h6).2)
          rw [add_lit] at lY
          exact lY
        ·exact .cU _
       ·exact .ptr b sz i o k hb
     | ep e o a u0 h1 h2=>exact (Jn hd) (.ep e o a u0 h1 h2)
     | eD=>exact .eD
     | fn f caps us hl hr hy =>
       simp only [cK]
       refine .fn f _ _ (by simpa using hl) (fun i c hc=>?_) ?_
       ·rw [List.getElem?_map] at hc
        simp only [Option.map_eq_some_iff] at hc
        obtain ⟨c',ec,rfl⟩:=hc
        exact ih d (Nat.lt_succ_self _) c' _ (hr i c' ec)
       ·intro g r hf he
        rcases caps with _ | ⟨c,_ | ⟨c2,cs⟩⟩
        ·simp at he
        ·exact hy g c hf rfl
        ·simp at he
     | bm f r u h =>
       simp only [cK,List.map_cons,List.map_nil]
       exact .bm f _ _ (ih d (Nat.lt_succ_self _) r _ h)
     | gY=>exact .gY
     | ir=>exact .ir
     | mp b k hb=>exact .mp b k hb
     | gE=>exact .gE
     | dead v=>exact .dead v
     | yl b k hb=>exact .yl b k hb
end
end Go.Pl
namespace Go.Pl
open Go
section
variable {P:Program}
end
end Go.Pl
namespace Go.Pl
open Go
section
variable {P:Program}
def Tc (P:Program) (ops:Array Oper) (i0:Nat) (K:St -> Prop) (st:St):Prop :=
 match ops[i0]? with
 | some o=>(match o.guard with | some (g,want)=>dV ops st g want = some true | none=>False) /\ (∃ bx v,K (st.at bx o.dst v)) /\ aK P false o K st
 | none=>False
def TG (P:Program) (ops:Array Oper) (i0 i:Nat) (K:St -> Prop) (st:St):Prop :=
 if i = i0 then Tc P ops i0 K st else iJ P ops (fun _=>false) i K st
theorem TM {ops:Array Oper} {i0:Nat}:XM (TG P ops i0) where
 mono i K K2 st hm h:=by
  unfold TG at h ⊢
  split
  ·rename_i e
   rw [if_pos e] at h
   unfold Tc at h ⊢
   split at h
   ·obtain ⟨h1,⟨bx,v,h2⟩,h3⟩:=h
    exact ⟨h1,⟨bx,v,hm _ h2⟩,gH hm h3⟩
   ·exact h.elim
  ·rename_i e
   rw [if_neg e] at h
   exact n8.mono _ _ _ _ hm h
 live i K st h:=by
  unfold TG at h
  split at h
  ·unfold Tc at h
   split at h
   ·obtain ⟨_,⟨bx,v,h2⟩,_⟩:=h
    exact ⟨_,h2⟩
   ·exact h.elim
  ·exact n8.live _ _ _ h
theorem kv {T T':Nat -> (St -> Prop) -> St -> Prop} {K:St -> Prop}:∀ (n k:Nat) (st:St),(∀ i,k <= i -> i < k + n -> T i = T' i) -> eu T K k n st -> eu T' K k n st
 | 0,k,st,_,h=>h
 | n + 1,k,st,he,h=>by
   have e:T k = T' k:=he k (Nat.le_refl _) (by omega)
   have e2:eu T K (k + 1) n = eu T' K (k + 1) n:=by
    funext s
    exact propext ⟨kv n (k + 1) s fun i h1 h2=>he i (by omega) (by omega),kv n (k + 1) s fun i h1 h2=>(he i (by omega) (by omega)).symm⟩
   unfold eu at h ⊢
   rw [<- e,<- e2]
   exact h
theorem vP {T:Nat -> (St -> Prop) -> St -> Prop} {K:St -> Prop} {m:Nat}:∀ (n k:Nat) (st:St),eu T (eu T K (k + n) m) k n st = eu T K k (n + m) st
 | 0,k,st=>by simp [eu]
 | n + 1,k,st=>by
   have e:n + 1 + m = (n + m) + 1:=by omega
   rw [e]
   unfold eu
   have:eu T (eu T K (k + (n + 1)) m) (k + 1) n = eu T K (k + 1) (n + m):=by
    funext s
    rw [<- vP n (k + 1) s,show k + (n + 1) = k + 1 + n by omega]
   rw [this]
theorem mR {ops:Array Oper} {fl:Nat -> Bool} {K:St -> Prop}:∀ (l:List Oper) (ql:List bS) (k:Nat) (st:St),ql.map bS.jS = l.map (aC ops) -> (∀ j o,l[j]? = some o -> ops[k + j]? = some o) -> (∀ j q,ql[j]? = some q -> fl (k + j) = q.fz) -> lA P K ql st -> eu (iJ P ops fl) K k l.length st
 | [],[],k,st,_,_,_,h=>h
 | o :: l,q :: ql,k,st,hq,hl,hf,h=>by
   simp only [List.map_cons,List.cons.injEq] at hq
   have h0:ops[k]? = some o:=hl 0 o rfl
   exact n8.mono _ _ _ _ (fun s hs=>mR l ql (k + 1) s hq.2 (fun j o' hj=>by have:=hl (j + 1) o' (by simpa using hj); simpa [Nat.add_assoc,Nat.add_comm 1 j] using this) (fun j q' hj=>by have:=hf (j + 1) q' (by simpa using hj); simpa [Nat.add_assoc,Nat.add_comm 1 j] using this) hs) (zo hq.1 h0 (hf 0 q rfl) h)
 | [],q :: ql,k,st,hq,_,_,h=>by simp at hq
 | o :: l,[],k,st,hq,_,_,h=>by simp at hq
def Bo (c:Code) (pre:List bS) (q:bS) (rest:List bS):Prop :=
 match c with
 | .region _ ops true=>AX ops = true /\ (pre ++ q :: rest).map bS.jS = ops.toList.map (aC ops) /\ (zj ops).isEmpty = true /\ ((pre ++ rest).all fun x=>!x.fz) = true /\
  ((List.range ops.size).all fun j=>j == pre.length || (if j < pre.length then ((dC ops).getD pre.length 0).testBit j else ((dC ops).getD j 0).testBit pre.length)) = true
 | _=>False
theorem Jo (hm:P.follows .mixedOrders = true) {c:Code} {pre rest:List bS} {d s:Tmp} {f:FuncId} {args:Array Operand} {tys:Array TypeId} {want:Bool} (ks:List Nat)
 (hc:Bo c pre ⟨some d,.call { callee:=.value (.func f),args:=args,argTypes:=tys },some (s,want),false⟩ rest) {Q:Exit -> St -> Prop} {st:St}
 (h:lA P (fun s1=>((s1.sl s).strip = .bool want /\ (s1.sl s).az = true) /\ Cf P ⟨some d,.call { callee:=.value (.func f),args:=args,argTypes:=tys },none,true⟩ (fun s2=>lA P (fun s=>Q .normal (s.cw ks)) rest s2) s1) pre st):pw P (.raw c) Q st:=by
 unfold Bo at hc
 split at hc
 rotate_left
 ·exact hc.elim
 rename_i id ops
 obtain ⟨hD,iS,hU,sb,hW⟩:=hc
 intro M ro n β a w hr
 have hlen:ops.size = pre.length + (rest.length + 1):=by
  have:=congrArg List.length iS
  simp at this
  omega
 have hW':∀ j,j < ops.size -> j ≠ pre.length -> (if j < pre.length then fL (dC ops) pre.length j else fL (dC ops) j pre.length):=by
  intro j hj bB
  have:=List.all_eq_true.1 hW j (List.mem_range.2 hj)
  simp only [Bool.or_eq_true,beq_iff_eq] at this
  rcases this with this | this
  ·exact absurd this bB
  ·split
   ·rename_i dr; rw [if_pos dr] at this; exact this
   ·rename_i dr; rw [if_neg dr] at this; exact this
 obtain ⟨oc,hoc⟩:∃ oc,ops[pre.length]? = some oc:=⟨_,Array.getElem?_eq_getElem (by omega)⟩
 have vQ:aC ops oc = ⟨some d,.call { callee:=.value (.func f),args:=args,argTypes:=tys },some (s,want),false⟩:=by
  have e1:((pre ++ (⟨some d,.call { callee:=.value (.func f),args:=args,argTypes:=tys },some (s,want),false⟩:bS) :: rest).map bS.jS)[pre.length]? = some ⟨some d,.call { callee:=.value (.func f),args:=args,argTypes:=tys },some (s,want),false⟩:=by
   rw [List.getElem?_map,List.getElem?_append_right (Nat.le_refl _)]
   simp [bS.jS]
  rw [iS] at e1
  have e2:(ops.toList.map (aC ops))[pre.length]? = some (aC ops oc):=by simp [hoc]
  rw [e2] at e1
  injection e1
 obtain ⟨g,tt,vC,c9,KW⟩:∃ g,oc.guard = some (g,want) /\ (ops[g]?).bind (·.dst) = some s /\ oc.op = .call { callee:=.value (.func f),args:=args,argTypes:=tys } /\ oc.dst = some d:=by
  unfold aC at vQ
  split at vQ
  ·injection vQ with _ _ h3 _
   cases h3
  ·rename_i g w' hg
   split at vQ
   ·rename_i dd yC
    injection vQ with h1 h2 h3 _
    injection h3 with h3
    injection h3 with h3 h4
    subst h3 h4
    exact ⟨g,hg,yC,h2,h1⟩
   ·injection vQ with _ _ h3 _
    cases h3
 have M7:My ops (TG P ops pre.length):=by
  refine ⟨fun k ok hk=>(xu hD hk).1,fun k ok hk j oj hj ou hw K st hh=>?_⟩
  have AN:=(Array.getElem?_eq_some_iff.1 hk).1
  have lR:=(Array.getElem?_eq_some_iff.1 hj).1
  have DM:k ≠ pre.length:=by
   rintro rfl
   have:=hW' j lR (by omega)
   rw [if_neg (by omega)] at this
   exact hw this
  have Fe:j ≠ pre.length:=by
   rintro rfl
   have:=hW' k AN DM
   rw [if_pos ou] at this
   exact hw this
  have hT:∀ i,i ≠ pre.length -> TG P ops pre.length i = iJ P ops (fun _=>false) i:=fun i hi=>by funext K s; simp [TG,hi]
  rw [hT k DM,hT j Fe] at *
  refine Fx hk hj (.inl ?_) (fun h=>by simp at h) (fun h=>by simp at h) hh
  cases ha:(gJ ops ok oj || mI ops ok oj) with
  | true=>rfl
  | false =>
    have:=zp hk hj ou hw (by simp [ha])
    have he:zj ops = []:=by simpa using hU
    rw [he] at this
    cases this
 have TN:pre.map bS.jS = (ops.toList.take pre.length).map (aC ops):=by
  have:=congrArg (List.take pre.length) iS
  rw [List.map_append,List.take_left' (by simp),<- List.map_take] at this
  exact this
 have TO:rest.map bS.jS = (ops.toList.drop (pre.length + 1)).map (aC ops):=by
  have:=congrArg (List.drop (pre.length + 1)) iS
  rw [List.map_append,List.map_cons,List.drop_append,List.drop_of_length_le (by simp),<- List.map_drop] at this
  simpa using this
 have hfp:∀ q,q ∈ pre ++ rest -> q.fz = false:=fun q hq=>by simpa using List.all_eq_true.1 sb q hq
 have F4:eu (TG P ops pre.length) (fun s=>Q .normal (s.cw ks)) 0 ops.toList.length st:=by
  have e0:ops.toList.length = pre.length + (rest.length + 1):=by simpa using hlen
  rw [e0,<- vP pre.length 0 st]
  refine kv (T:=iJ P ops (fun _=>false)) pre.length 0 st (fun i h1 h2=>by funext K s; simp [TG,show i ≠ pre.length by omega]) ?_
  have Ct:(ops.toList.take pre.length).length = pre.length:=by rw [List.length_take]; simp; omega
  have YA:(ops.toList.drop (pre.length + 1)).length = rest.length:=by rw [List.length_drop]; simp; omega
  have h1:=mR (ops:=ops) (fl:=fun _=>false) (ops.toList.take pre.length) pre 0 st TN (fun j o hj=>by
   rw [List.getElem?_take] at hj
   split at hj
   ·simpa using hj
   ·cases hj) (fun j q hq=>(hfp q (by simp [List.mem_of_getElem? hq])).symm) h
  rw [Ct] at h1
  have yX:∀ (n k:Nat) (K K2:St -> Prop) (st:St),(∀ s,K s -> K2 s) -> eu (iJ P ops (fun _=>false)) K k n st -> eu (iJ P ops (fun _=>false)) K2 k n st:=by
   intro n
   induction n with
   | zero=>intro k K K2 st hm h; exact hm _ h
   | succ n ih=>intro k K K2 st hm h; exact n8.mono _ _ _ _ (fun s hs=>ih (k + 1) K K2 s hm hs) h
  refine yX _ _ _ _ _ (fun s1 KU=>?_) h1
  obtain ⟨⟨nA,hs3⟩,iZ⟩:=KU
  show TG P ops pre.length (0 + pre.length) (eu (TG P ops pre.length) (fun s=>Q .normal (s.cw ks)) (0 + pre.length + 1) rest.length) s1
  rw [Nat.zero_add]
  have hgo:∀ KR:St -> Prop,(∀ s2,lA P (fun s=>Q .normal (s.cw ks)) rest s2 -> KR s2) -> TG P ops pre.length pre.length KR s1:=by
   intro KR fJ
   unfold Cf at iZ
   rw [if_neg (by simp [mh,lenOf]),if_pos (by simp [jT])] at iZ
   obtain ⟨⟨bx,v,hx⟩,qv⟩:=iZ
   have hc3:=gH fJ qv
   have e:∀ K st,aK P false oc K st = aK P false (bS.oper ⟨some d,.call { callee:=.value (.func f),args:=args,argTypes:=tys },none,true⟩) K st:=by
    intro K st
    obtain ⟨odst,oop,otype,opos,oafter,oguard⟩:=oc
    simp only at c9 KW
    subst c9 KW
    rfl
   unfold TG
   rw [if_pos rfl]
   unfold Tc
   simp only [hoc,tt]
   refine ⟨?_,⟨bx,v,by rw [KW]; exact fJ _ hx⟩,by rw [e]; exact hc3⟩
   unfold dV
   rw [vC]
   simp only [nA,hs3]
   simp
  refine hgo _ fun s2 hh=>?_
  refine kv (T:=iJ P ops (fun _=>false)) rest.length (pre.length + 1) s2 (fun i h1 h2=>by funext K s; simp [TG,show i ≠ pre.length by omega]) ?_
  have h3:=mR (ops:=ops) (fl:=fun _=>false) (ops.toList.drop (pre.length + 1)) rest (pre.length + 1) s2 TO (fun j o hj=>by
   rw [List.getElem?_drop] at hj
   simpa using hj) (fun j q hq=>(hfp q (by simp [List.mem_of_getElem? hq])).symm) hh
  rwa [YA] at h3
 refine wpIn_region_any hm ?_
 have de:Rs P β M st a w.drew:=⟨hr.ok.drew,fun t=>(Tr.drew hr.ok).rep (hr.sl t),hr.sz,hr.df,hr.bs,hr.gl.imp fun _ _ hh=>(Tr.drew hr.ok).rep hh⟩
 have h1:=tB (K:=fun s=>Q .normal (s.cw ks)) TM M7 ops.toList.length 0 (Array.replicate ops.size false) st (by simp) (by simp) (fun j hj=>by simp [hj]) F4
 have h2:=oQ (P:=P) (ro:=ro) (n:=n) (M:=M) (ops:=ops) (Q:=fun e a' w'=>∃ M' st' β',Q e st' /\ ic M M' w /\ Rs P β' M' st' a' w' /\ Tr β st.bx w β' st'.bx w') (fun i o K st a w β K' hi h hr hK=>by
  unfold TG at h
  split at h
  ·rename_i e
   subst e
   unfold Tc at h
   simp only [hi] at h
   obtain ⟨ja,_,nt⟩:=h
   unfold wpOpIn
   simp only [hi]
   cases Rg:o.guard with
   | none=>simp [Rg] at ja
   | some gw =>
     obtain ⟨g',want'⟩:=gw
     simp only [Rg] at ja
     have hw:=nz Rg ja hr
     rw [if_pos hw]
     exact pE ro n (pF nt) (kp nt hr hK)
  ·exact Cj hi h hr hK) _ _ st a w.drew β h1 de (fun st' β' a' w' hk sy ht=>⟨M,_,β',hk,ic.refl _ _,(mN st' ks).rs sy,(Tr.drew hr.ok).trans ht⟩)
 simpa using h2
end
end Go.Pl
namespace Go.Pl
open Go
def Seen (n:Nat) (bs is seen:List Nat):Prop:=seen = is.map (fun i=>bs.getD i 0) /\ is.Nodup /\ ∀ i,i ∈ is -> i < n
theorem Seen.nil (n:Nat) (bs:List Nat):Seen n bs [] []:=⟨rfl,by simp,fun i h=>by cases h⟩
theorem Seen.next {n:Nat} {bs is seen:List Nat} (h:Seen n bs is seen) (hl:bs.length = n) {i q:Nat} (hq:bs[i]? = some q) (hs:¬ q ∈ seen):¬ i ∈ is /\ i < n /\ Seen n bs (is ++ [i]) (seen ++ [q]):=by
 obtain ⟨h1,h2,h3⟩:=h
 have hi:i < bs.length:=(List.getElem?_eq_some_iff.1 hq).1
 have hg:bs.getD i 0 = q:=by rw [List.getD_eq_getElem?_getD,hq]; rfl
 have hn:¬ i ∈ is:=fun hm=>hs (by rw [h1]; exact List.mem_map.2 ⟨i,hm,hg⟩)
 refine ⟨hn,by omega,by rw [h1,List.map_append,List.map_cons,List.map_nil,hg],?_,fun j hj=>?_⟩
 ·rw [List.nodup_append]
  exact ⟨h2,by simp,fun a ha b hb=>by simp at hb; subst hb; exact fun e=>hn (e ▸ ha)⟩
 ·rcases List.mem_append.1 hj with hj | hj
  ·exact h3 j hj
  ·simp at hj; omega
theorem Seen.all {n:Nat} {bs is seen:List Nat} (h:Seen n bs is seen) (hl:bs.length = n) (sk:bs.Nodup) (ha:∀ q,q ∈ bs -> q ∈ seen):is.Perm (List.range n):=by
 obtain ⟨h1,h2,h3⟩:=h
 refine (List.perm_ext_iff_of_nodup h2 List.nodup_range).2 fun i=>⟨fun hi=>List.mem_range.2 (h3 i hi),fun hi=>?_⟩
 have nR:i < bs.length:=by rw [hl]; exact List.mem_range.1 hi
 have hm:=ha bs[i] (List.getElem_mem nR)
 rw [h1] at hm
 obtain ⟨j,hj,he⟩:=List.mem_map.1 hm
 have lR:j < bs.length:=by rw [hl]; exact h3 j hj
 have e2:bs[j] = bs[i]:=by rw [<- he]; simp [lR]
 have:j = i:=by
  rcases Nat.lt_trichotomy j i with h | h | h
  ·exact absurd e2 ((List.pairwise_iff_getElem.1 sk) j i lR nR h)
  ·exact h
  ·exact absurd e2.symm ((List.pairwise_iff_getElem.1 sk) i j nR lR h)
 subst this
 exact hj
theorem Seen.len {n:Nat} {bs is seen:List Nat} (h:Seen n bs is seen):is.length <= n:=by
 have h1:is.length <= (List.range n).length:=List.Nodup.length_le_of_subset h.2.1 fun i hi=>List.mem_range.2 (h.2.2 i hi)
 simpa using h1
theorem Jp {bx bx':aa} {b:Nat} {es:List (V × V)} {bs:List Nat} {c:Nat} (h:bx b = some (.kz es bs c)) (hb:bx' b = some (.map es)) (ho:∀ d,d ≠ b -> bx' d = none \/ bx' d = bx d):bX bx bx':=fun d=>by
 by_cases e:d = b
 ·subst e; exact .inr (.inr (.inl ⟨es,bs,c,h,hb⟩))
 ·rcases ho d e with h | h
  ·exact .inl h
  ·exact .inr (.inl h)
theorem Jq {P:Program} {rs:List ResultVar} {Kc:V -> aa -> Prop} {st:St} {bx':aa} (h:∀ r,r ∈ rs -> (jb P st r).1) (hs:bX st.bx bx') (hk:Kc (kG P st rs) bx'):Aw P rs Kc st :=
 ⟨h,bx',_,hs,.inl rfl,hk⟩
end Go.Pl
namespace Go.Pl
open Go Go.RowKit
section
variable {P:Program}
theorem two {α:Type}:∀ {l:List α},l.length = 2 -> ∃ a b,l = [a,b]
 | [a,b],_=>⟨a,b,rfl⟩
end
end Go.Pl
namespace Go.Pl
open Go Go.RowKit
section
variable {P:Program}
theorem DV (hm:P.follows .mixedOrders = true) {M:dR} {n:Nat} {id:Nat} {ops:Array Oper} {Q:St -> Prop} {st:St} (hl:tu ops = true) {l:List bS} (iS:l.map bS.jS = ops.toList.map (aC ops)) (h:l9 P Q (kq ops) l st)
 {β:Beta} {a:Act} {w:World} (hr:Rs P β M st a w):(Code.region id ops true).wpIn (rf none) n P (fun e a' w'=>e = .normal /\ ∃ st' β',Q st' /\ Rs P β' M st' a' w' /\ Tr β st.bx w β' st'.bx w') a w:=by
 refine wpIn_region_any hm ?_
 have h:=mM ops.toList l 0 st (fun j=>by simp) (by simp) iS (by simpa using h)
 have de:Rs P β M st a w.drew:=⟨hr.ok.drew,fun t=>(Tr.drew hr.ok).rep (hr.sl t),hr.sz,hr.df,hr.bs,hr.gl.imp fun _ _ hh=>(Tr.drew hr.ok).rep hh⟩
 have h1:=mK (P:=P) oS hl ops.toList 0 (Array.replicate ops.size false) st (fun j=>by simp) (by simp) (by simp) (fun j hj=>by simp [hj]) h
 have h2:=iT (ro:=none) (n:=n) (M:=M) (Q:=fun e a' w'=>e = .normal /\ ∃ st' β',Q st' /\ Rs P β' M st' a' w' /\ Tr β st.bx w β' st'.bx w') (fun i o K st a w β K' hi h hr hK=>by
  obtain ⟨st',lZ,h⟩:=h
  exact kr hi h (lZ.rs hr) (fun st2 β' a' w' hk de ht=>hK _ _ _ _ hk de (lZ.bx.tr.trans ht))) _ _ st a w.drew β h1 de (fun st' β' a' w' hk sy ht=>⟨rfl,st',β',hk,sy,(Tr.drew hr.ok).trans ht⟩)
 simpa using h2
theorem z8 (hm:P.follows .mixedOrders = true) {g:FuncId} {gn:Func} {cg:Code} (vD:P.funcs[g]? = some gn) (Ic:gn.body = some cg) {so:List Bool} {lg:List bS} (N3:compile cg = erase (.ke so lg [])) (rZ:gn.results = #[])
 {args:List V} {bx:aa} {D:aa -> Prop} (h:l9 P (fun s=>D s.bx) so lg (bZ gn.ntmps args bx)) {β:Beta} {M:dR} {w:World} {vs:Array Value} (c8:er β M bx w) (kN:p3 P β w (Fz β M bx w)) (bW:vs.size = args.length)
 (fK:∀ (i:Nat) (c:V),args[i]? = some c -> aP β w (Fz β M bx w) c (vs.getD i undef)) {n:Nat} {u:FrameMode} :
 CallsDIn Fence.wide n P g vs u w (fun e u' w'=>u' = u /\ ∃ v β' bx',e = .returned v /\ D bx' /\ er β' M bx' w' /\ Tr β bx w β' bx' w'):=by
 obtain ⟨id,ops,rfl,hl,rfl,iS⟩:=pQ N3
 refine callsDIn_of_wp vD Ic trivial ?_
 have zg:er β ⟨M.obj,w.heap.size,[]⟩ bx w:=⟨c8.fin,c8.mlt,c8.live,c8.inj⟩
 have hr:Rs P β ⟨M.obj,w.heap.size,[]⟩ (bZ gn.ntmps args bx) { tmps:=vs ++ Array.replicate (gn.ntmps - vs.size) undef,defers:=[] } w:=by
  refine ⟨zg,fun t=>?_,by simp [bZ]; omega,⟨[],rfl,trivial⟩,Nat.le_refl _,kN⟩
  simp only [bZ,n7,Nat.zero_le,if_true,Nat.sub_zero]
  by_cases ht:t < args.length
  ·have h1:aP β w (Fz β ⟨M.obj,w.heap.size,[]⟩ bx w) args[t] (vs.getD t undef):=fK t args[t] (List.getElem?_eq_getElem ht)
   have h2:(vs ++ Array.replicate (gn.ntmps - vs.size) undef).getD t undef = vs.getD t undef:=by
    simp [Array.getElem?_append,show t < vs.size by omega]
   rw [h2]
   simpa [List.getD,List.getElem?_eq_getElem ht] using h1
  ·simp only [List.getD,List.getElem?_eq_none (Nat.le_of_not_lt ht),Option.getD_none]
   exact .cU _
 refine wpIn_mono (DV (n:=n) (id:=id) hm hl iS h hr) ?_
 rintro e a' w' ⟨rfl,st',β',hk,de,ht⟩
 obtain ⟨ms,uV,BV⟩:=de.df
 have Mi:ms = []:=by
  cases ms with
  | nil=>rfl
  | cons d ds =>
    obtain ⟨D,_,h1,h2,_⟩:=BV
    have:=c8.oE (k:=D) h2
    exact absurd h1 (by simp; omega)
 subst Mi
 refine ⟨by simpa using uV,.tuple #[],?_,.tuple #[],β',st'.bx,rfl,hk,⟨de.ok.fin,de.ok.mlt,de.ok.live,de.ok.inj⟩,ht⟩
 simp [results,rZ]
theorem se (hm:P.follows .mixedOrders = true) {M:dR} {f:FuncId} {fn:Func} {c:Code} (hf:P.funcs[f]? = some fn) (hb:fn.body = some c) (lY:fn.results = #[])
 {x y r:PC} {d:Tmp} {g:FuncId} {caps:Array Operand} (hc:compile c = erase (.seq x (.seq y (.seq (.bq false [⟨some d,.makeFunc (.func g) #[] caps,none,false⟩,⟨none,.defer { callee:=.value (.tmp d),args:=#[],argTypes:=#[] },none,false⟩] []) r))))
 {gn:Func} {cg:Code} (vD:P.funcs[g]? = some gn) (Ic:gn.body = some cg) {so:List Bool} {lg:List bS} (N3:compile cg = erase (.ke so lg [])) (rZ:gn.results = #[]) (tg:∀ vs w,(callFunc g vs).run P w = .ok (.enter g vs) w)
 {args:List V} {bx:aa} {D:aa -> Prop}
 (h:pw P (.seq x y) (fun e st=>e = .normal /\ dB P false ⟨some d,.makeFunc (.func g) #[] caps,none,false⟩ (fun st2=>∃ cv:List V,st2.sl d = .fn (.func g) cv /\
  pw P r (fun e2 st3=>(e2 = .normal \/ e2 = .ret) /\ l9 P (fun s=>∃ bx',bX s.bx bx' /\ D bx') so lg (bZ gn.ntmps cv st3.bx)) st2) st) (bZ fn.ntmps args bx)) :
 Fq P M f args bx (fun r bx'=>r = .dc [] /\ D bx'):=by
 intro β w vs c8 kN bW fK
 refine (callsIn_wide (n:=0)).1 (callsIn_of_wp_marks hf hb trivial ?_)
 have zg:er β ⟨M.obj,w.heap.size,[]⟩ bx w:=⟨c8.fin,c8.mlt,c8.live,c8.inj⟩
 have hr:Rs P β ⟨M.obj,w.heap.size,[]⟩ (bZ fn.ntmps args bx) { tmps:=vs ++ Array.replicate (fn.ntmps - vs.size) undef,defers:=[] } w:=by
  refine ⟨zg,fun t=>?_,by simp [bZ]; omega,⟨[],rfl,trivial⟩,Nat.le_refl _,kN⟩
  simp only [bZ,n7,Nat.zero_le,if_true,Nat.sub_zero]
  by_cases ht:t < args.length
  ·have h1:aP β w (Fz β ⟨M.obj,w.heap.size,[]⟩ bx w) args[t] (vs.getD t undef):=fK t args[t] (List.getElem?_eq_getElem ht)
   have h2:(vs ++ Array.replicate (fn.ntmps - vs.size) undef).getD t undef = vs.getD t undef:=by
    simp [Array.getElem?_append,show t < vs.size by omega]
   rw [h2]
   simpa [List.getD,List.getElem?_eq_getElem ht] using h1
  ·simp only [List.getD,List.getElem?_eq_none (Nat.le_of_not_lt ht),Option.getD_none]
   exact .cU _
 cases c <;> simp only [compile,erase,reduceCtorEq] at hc
 ·split at hc <;> first | (cases hc; done) | (split at hc <;> cases hc)
 rename_i cx c1
 injection hc with XQ hc
 cases c1 <;> simp only [compile,erase,reduceCtorEq] at hc
 ·split at hc <;> first | (cases hc; done) | (split at hc <;> cases hc)
 rename_i cy c2
 injection hc with hcy hc
 cases c2 <;> simp only [compile,erase,reduceCtorEq] at hc
 ·split at hc <;> first | (cases hc; done) | (split at hc <;> cases hc)
 rename_i cd cr
 injection hc with hcd hcr
 refine wpIn_seq (wpIn_mono (eM hm (ro:=none) x cx _ _ _ (.inl rfl) XQ h 0 β _ w hr) ?_)
 rintro e a1 w1 ⟨M1,st1,β1,hq,iH,ma,Ik⟩
 cases e with
 | normal =>
   refine wpIn_seq (wpIn_mono (eM hm (ro:=none) y cy M1 _ st1 (.inl rfl) hcy hq 0 β1 a1 w1 ma) ?_)
   rintro e2 a2 w2 ⟨M2,st2,β2,⟨rfl,Mr⟩,cQ,sy,zq⟩
   obtain ⟨id,ops,rfl,_,iS⟩:=rz hcd
   have N4:=iH.trans cQ Ik.size
   obtain ⟨o1,o2,Mu⟩:∃ o1 o2,ops.toList = [o1,o2]:=by
    have:ops.toList.length = 2:=by simpa using (congrArg List.length iS).symm
    exact two this
   have TP:ops = #[o1,o2]:=by rw [<- Array.toArray_toList (xs:=ops),Mu]
   subst TP
   simp only [List.map_cons,List.map_nil,List.cons.injEq,and_true] at iS
   obtain ⟨I5,N5⟩:=iS
   refine wpIn_seq (wpIn_region ?_)
   show wpOpsIn _ _ _ _ _ [0,1] _ _
   rw [wpOpsIn_cons]
   refine F1 I5 (by simp) Mr sy (fun st3 β3 a3 w3 hk DW PY=>?_)
   obtain ⟨cv,lZ,Jr⟩:=hk
   have FL:=DW.sl d
   rw [lZ] at FL
   generalize hud:a3.tmps.getD d undef = ud at FL
   cases FL with
   | fn _ _ us hlen mH =>
   rw [wpOpsIn_cons]
   obtain ⟨dst,op,ty,pos,after,guard⟩:=o2
   have vC:guard = none:=by
    cases guard with
    | none=>rfl
    | some gw =>
      obtain ⟨g1,w1⟩:=gw
      unfold aC at N5
      dsimp only at N5
      split at N5
      ·cases N5
      ·cases N5
   subst vC
   simp only [aC,bS.jS,bS.mk.injEq] at N5
   obtain ⟨rfl,rfl,_,_⟩:=N5
   have dX:(Oper.semAt (rf none).round a3.eval ⟨none,.defer { callee:=.value (.tmp d),args:=#[],argTypes:=#[] },ty,pos,after,none⟩).run P w3 = .ok (.defer { target:=.fn (.func g) us,args:=#[] }) w3:=by
    have he:a3.eval (.tmp d) = .func (.func g) #[] us:=by simpa [Act.eval] using hud
    simp [Oper.semAt,rf,Fence.wide,execOp,resolve,Deferred.ofValue,he]
   have hi:(#[o1,(⟨none,.defer { callee:=.value (.tmp d),args:=#[],argTypes:=#[] },ty,pos,after,none⟩:Oper)]:Array Oper)[1]? = some ⟨none,.defer { callee:=.value (.tmp d),args:=#[],argTypes:=#[] },ty,pos,after,none⟩:=by simp
   unfold wpOpIn
   simp only [hi]
   rw [if_pos (by simp [Region.wanted])]
   refine ⟨fun _ _=>trivial,?_⟩
   erw [dX]
   rw [Oper.uponIn_defer]
   obtain ⟨df,Fs⟩:∃ df:Deferred,df = { target:=.fn (.func g) us,args:=#[] }:=⟨_,rfl⟩
   rw [<- Fs]
   have aa2:Rs P β3 ⟨M2.obj,w3.heap.size,df :: a3.defers⟩ st3 { tmps:=a3.tmps,defers:=df :: a3.defers } w3 :=
    ⟨⟨DW.ok.fin,DW.ok.mlt,DW.ok.live,DW.ok.inj⟩,DW.sl,DW.sz,⟨[],rfl,trivial⟩,Nat.le_refl _,DW.gl⟩
   show Code.wpIn (rf none) 0 P cr _ { tmps:=a3.tmps,defers:=df :: a3.defers } w3
   refine wpIn_mono (eM hm (ro:=none) r cr _ _ _ (.inl rfl) hcr Jr 0 β3 _ w3 aa2) ?_
   rintro e4 a4 w4 ⟨M4,st4,β4,⟨he,jj⟩,Cu,YB,IX⟩
   obtain ⟨ms4,N6,aa3⟩:=YB.df
   rw [Cu.df] at N6
   obtain ⟨ms3,TQ,aa4⟩:=DW.df
   rw [N4.df,List.append_nil] at TQ
   have aa5:∀ (i:Nat) (c:V),cv[i]? = some c -> aP β4 w4 (Fz β4 M4 st4.bx w4) c (us.getD i undef):=fun i c hc=>IX.Ft Cu (mH i c hc)
   have aa6:∀ k o,M2 k = some o -> k < w3.heap.size:=fun k o hk=>DW.ok.oE hk
   have fin:LeavesInM Fence.wide 0 P fn a4.tmps (fun e w'=>∃ v r bx' β',e = .returned v /\ (r = V.dc [] /\ D bx') /\ er β' M bx' w' /\ Tr β bx w β' bx' w' /\ aP β' w' (Fz β' M bx' w') r v) a4.defers .returning w4:=by
    rw [N6]
    refine tz (M:=⟨M2.obj,w3.heap.size,df :: a3.defers⟩) (β:=β3) (w:=w3) (bx:=st3.bx) (β':=β4) (st':=st4) (cv:=cv) (us:=us) (fun M' w' hcv' R4 hB' hdf' de xr=>?_) ms4 M4 w4 aa5 Cu.le aa6 Cu.base Cu.df aa3 (by rw [<- N6]; exact YB) IX
    rw [Fs]
    refine ⟨by simp,.inr ⟨fun h=>by simp [Fence.wide] at h,_,_,g,us,rfl,by simp [invoke,tg],fun _ _=>trivial,?_⟩⟩
    refine CallsDIn.mono (z8 (D:=fun b=>∃ bx',bX b bx' /\ D bx') hm vD Ic N3 rZ jj de.ok de.gl hlen hcv') ?_
    rintro e5 u5 w5 ⟨rfl,v5,β5,jt,rfl,⟨qw,jo,hD⟩,hok5,ht5⟩
    show LeavesInM Fence.wide 0 P fn a4.tmps _ a3.defers .returning w5
    have DR:Tr β bx w β5 jt w5:=Ik.trans (zq.trans (PY.trans (xr.trans ht5)))
    refine rk (M:=M) (fn:=fn) (tmps:=a4.tmps) (n:=0) (β:=β) (β':=β5) (bx:=bx) (w:=w) (st':={ st4 with bx:=jt }) (Kc:=fun r bx'=>r = .dc [] /\ D bx') ?_ a3.defers ⟨M'.obj,w.heap.size,[]⟩ w5 (fun k o hk=>R4 k o (N4.le k o hk)) (fun k o hk=>c8.oE hk) rfl rfl ?_ DR
    ·refine ⟨fun r hr=>by simp [lY] at hr,qw,_,jo,.inl rfl,?_,hD⟩
     simp [lY,kG]
    ·refine ⟨⟨hok5.fin,hok5.mlt,hok5.live,hok5.inj⟩,fun t=>ht5.rep (de.sl t),de.sz,⟨ms3,by simpa using TQ,?_⟩,DR.size,de.gl.imp (fun _ _ hh=>ht5.rep hh) ht5.shape⟩
     have h5:Marks M2.base M'.obj ms3:=aa4.mono R4
     rw [N4.base] at h5
     exact h5
   rcases he with rfl | rfl
   ·exact fin
   ·exact fin
 | _=>exact absurd hq.1 (by simp)
end
end Go.Pl
namespace Go.Pl
open Go Go.Lib
variable {P:Program}
end Go.Pl
namespace Go.Pl
open Go
section
variable {P:Program}
def Cv (P:Program) (g:V) (w:Bool) (k:vt) (len:Nat) (ps:List (Nat × V)) (o:Option Tmp) (K:St -> Prop) (st:St):Prop :=
 match g.strip with
 | .bool c=>((g.az && (c == w)) = true -> Bj P k len ps o K st) /\ ((g.az && (c == w)) = false -> aL st o /\ K (st.put o (.dead .cU)))
 | _=>False
@[go_sem ↓] theorem Rh (d:Bool) (o:Option Tmp) (t:TypeId) (len:Nat) (parts:Array (Nat × Operand)) (s:Nat) (w:Bool) (K:St -> Prop) (st:St):dB P d ⟨o,.buildSlice t len parts,some (s,w),false⟩ K st = Cv P (st.sl s) w (bC P t) len (jV st parts.toList) o K st:=by
 have e0:dB P d ⟨o,.buildSlice t len parts,none,false⟩ K st = Bj P (bC P t) len (jV st parts.toList) o K st:=by simp only [go_sem]
 have e1:aK P d (bS.oper ⟨o,.buildSlice t len parts,some (s,w),false⟩) K st = Bj P (bC P t) len (jV st parts.toList) o K st:=by
  rw [<- e0]; rfl
 unfold Cv
 show fm P d ⟨o,.buildSlice t len parts,some (s,w),false⟩ K st = _
 unfold fm
 simp only [yieldOf]
 generalize (st.sl s).strip = v
 cases v <;> try rfl
 rename_i c
 have bB:bV (Op.buildSlice t len parts) = false:=rfl
 simp only [bB,Bool.false_eq_true,if_false]
 unfold ek pP
 simp only [bB,Bool.false_eq_true,if_false]
 rw [e1]
 exact propext ⟨fun h=>h.elim id (fun h=>h.2),fun h=>.inl h⟩
@[go_sem] theorem N7 (c w:Bool) (k:vt) (len:Nat) (ps:List (Nat × V)) (o:Option Tmp) (K:St -> Prop) (st:St):Cv P (.bool c) w k len ps o K st = (((c == w) = true -> Bj P k len ps o K st) /\ ((c == w) = false -> aL st o /\ K (st.put o (.dead .cU)))):=by
 simp only [Cv,tL,vN,Bool.true_and]
end
end Go.Pl
namespace Go.Pl
open Go
section
variable {P:Program}
theorem j9.refl (bx bx':aa) (v:V):j9 bx bx' v v:=fun _ _ _ _ _ hd h=>Jn hd h
theorem j9.cK (bx bx':aa) (d:Nat) (v:V):j9 bx bx' v (Go.Pl.cK bx bx' d v):=fun _ _ _ _ c8 hd h=>FK c8 hd d _ _ h
theorem j9.wk {bx bx':aa} {v v1 v2:V} (h:j9 bx bx' v v1) (hw:Wk v1 v2):j9 bx bx' v v2:=fun β M w u c8 hd hr=>hw _ _ _ _ (h β M w u c8 hd hr)
theorem j9.own {bx bx':aa} {b sz n:Nat} {ty:TypeId} {es:List V} (h:bx b = some (.row ty sz es)) (h':bx' b = none) (hs:0 < sz) (hn:n = es.length):j9 bx bx' (.own b sz 0 n) (.sl sz es):=by
 have:=j9.cK bx bx' 1 (.own b sz 0 n)
 rwa [fe h h' hs hn] at this
theorem j9.aH (bx bx':aa) (sz:Nat):j9 bx bx' .aH (.sl sz []):=(j9.refl bx bx' .aH).wk (pW sz)
theorem j9.agg {bx bx':aa} {cs yD:List V} (hl:yD.length = cs.length) (h:∀ (j:Nat) (c c':V),cs[j]? = some c -> yD[j]? = some c' -> j9 bx bx' c c'):j9 bx bx' (.agg cs) (.agg yD):=by
 intro β M w u c8 hd hr
 cases hr with
 | agg _ us h1 h2 h3 =>
   refine .agg yD us (h1.trans hl.symm) (fun i hi=>h2 i (by omega)) fun i c' ec=>?_
   have hi:i < cs.length:=by rw [<- hl]; exact (List.getElem?_eq_some_iff.1 ec).1
   have hc:=List.getElem?_eq_getElem hi
   exact h i _ c' hc ec β M w _ c8 hd (h3 i _ hc)
def FM (bx bx':aa) (e e':V):Prop:=e'.cells.length = e.cells.length /\ ∀ (j:Nat) (c c':V),e.cells[j]? = some c -> e'.cells[j]? = some c' -> j9 bx bx' c c'
theorem FM.refl (bx bx':aa) (e:V):FM bx bx' e e:=⟨rfl,fun j c c' h1 h2=>by rw [h1] at h2; injection h2 with h2; rw [h2]; exact .refl _ _ _⟩
theorem FM.agg {bx bx':aa} {cs yD:List V} (hl:yD.length = cs.length) (h:∀ (j:Nat) (c c':V),cs[j]? = some c -> yD[j]? = some c' -> j9 bx bx' c c'):FM bx bx' (.agg cs) (.agg yD):=⟨hl,h⟩
theorem DX {bx bx':aa} {b:Nat} {ty:TypeId} {sz:Nat} {es j7:List V} (hz:0 < sz) (hb:bx b = some (.row ty sz es)) (aR:bx' b = some (.row ty sz j7)) (hl:j7.length = es.length)
 (hc:∀ (i:Nat) (e e':V),es[i]? = some e -> j7[i]? = some e' -> FM bx bx' e e') (ho:∀ d,d ≠ b -> bx' d = none \/ bx' d = bx d):bX bx bx':=fun d=>by
 by_cases e:d = b
 ·subst e; exact .inr (.inr (.inr (.inr ⟨ty,sz,es,j7,hz,hb,aR,hl,hc⟩)))
 ·rcases ho d e with h | h
  ·exact .inl h
  ·exact .inr (.inl h)
theorem aw.less {f:FuncId} {args args':List V} {bx bx':aa} {Kc:V -> aa -> Prop} (hs:bX bx bx') (hl:args.length = args'.length)
 (ha:∀ (i:Nat) (c c':V),args[i]? = some c -> args'[i]? = some c' -> j9 bx bx' c c') (h:aw P f args' bx' Kc):aw P f args bx Kc:=by
 refine ⟨h.1,fun β M w vs c8 kN jz bO=>?_⟩
 refine (h.2 β M w vs (c8.sub hs) (kN.imp fun _ _ hh=>hs.rep hh) (jz.trans hl) (fun i c' ec=>?_)).mono ?_
 ·have hi:i < args.length:=by rw [hl]; exact (List.getElem?_eq_some_iff.1 ec).1
  have hc:=List.getElem?_eq_getElem hi
  exact ha i _ c' hc ec β M w _ c8 (fun b hb=>hs.II hb) (bO i _ hc)
 ·rintro e w' ⟨v,r,bx2,β2,rfl,hk,N8,ht,FN⟩
  exact ⟨v,r,bx2,β2,rfl,hk,N8,hs.tr.trans ht,FN⟩
theorem aw.post {f:FuncId} {args:List V} {bx:aa} {Kc K2:V -> aa -> Prop} (h:aw P f args bx Kc) (hs:∀ r bP,Kc r bP -> ∃ r' bx2,bX bP bx2 /\ j9 bP bx2 r r' /\ K2 r' bx2):aw P f args bx K2:=by
 refine ⟨h.1,fun β M w vs c8 kN jz bO=>(h.2 β M w vs c8 kN jz bO).mono ?_⟩
 rintro e w' ⟨v,r,bP,β1,rfl,hk,zg,ht,TR⟩
 obtain ⟨r',bx2,h1,h2,h3⟩:=hs r bP hk
 exact ⟨v,r',bx2,β1,rfl,h3,zg.sub h1,ht.trans h1.tr,h2 _ _ _ _ zg (fun b hb=>h1.II hb) TR⟩
end
end Go.Pl
namespace Go.Pl
open Go Go.RowKit Go.ChangeShapes Go.WideShapes Go.ChangeAt
def L0:aa:=fun b=>if b = 0 then some (.row 0 0 []) else none
section
variable {H:Type} {enc:TypeId × Value -> H} {P:Program} {w:World} {spare:Nat -> Bool} {held:Bool}
end
end Go.Pl
namespace Go.Pl
open Go Go.RowKit Go.ChangeShapes Go.WideShapes Go.ChangeAt
section
variable {H:Type} {enc:TypeId × Value -> H} {P:Program} {w:World} {spare:Nat -> Bool} {held:Bool}
theorem x9 {g:Nat} {name:String} {k:IntKind} {zs:List Int} (hg:P.globalNamed name = some g) {W:World} (ht:Lib.TabIs P W name k zs) {β:Beta} {b:Nat} (bQ:β b = some (some g)) (hl:zs.length <= maxLen) :
 aP β W (jg W) (.ep (.agg (zs.map (.int k))) 0) (.pointer (some ⟨g,0,none⟩)) /\ aP β W (jg W) (.own b 1 0 zs.length) (.slice (some ⟨g,0,none⟩) zs.length zs.length) /\ ∃ ty,W.shape? g = some (ty,zs.length):=by
 unfold Lib.TabIs World.var? at ht
 rw [hg] at ht
 simp only [Option.bind_some] at ht
 cases hh:W.heap[g]? with
 | none=>rw [hh] at ht; cases ht
 | some o =>
   rw [hh] at ht
   cases o with
   | cells cur ty fr =>
     simp only [Option.some.injEq] at ht
     have dr:g < W.heap.size:=(Array.getElem?_eq_some_iff.1 hh).1
     have bW:cur.size = zs.length:=by rw [ht]; simp
     have aU:∀ j,j < zs.length -> cur[j]? = some (.int k (zs.getD j 0)):=by
      intro j hj
      rw [ht]
      simp [hj]
     have wV:∀ j,(⟨g,0,none⟩:Addr).add j = ⟨g,j,none⟩:=fun j=>by unfold Addr.add; by_cases h:j = 0 <;> simp [h]
     refine ⟨?_,?_,ty,by rw [bN hh,bW]⟩
     ·have:=aP.ep (β:=β) (w:=W) (F:=jg W) (.agg (zs.map (.int k))) 0 ⟨g,0,none⟩ (fun j=>.int k (zs.getD j 0)) (fun j c hc=>?_) (fun j c hc=>?_)
      ·rw [wV] at this; exact this
      ·simp only [V.cells,List.getElem?_map,Option.map_eq_some_iff] at hc
       obtain ⟨i,hi,rfl⟩:=hc
       have hj:j < zs.length:=(List.getElem?_eq_some_iff.1 hi).1
       exact ⟨_,rfl,dr,by rw [wV]; simp only [World.cell?,hh]; simpa using aU j hj,rfl⟩
      ·simp only [V.cells,List.getElem?_map,Option.map_eq_some_iff] at hc
       obtain ⟨i,hi,rfl⟩:=hc
       have:zs.getD j 0 = i:=by simp [List.getD,hi]
       rw [this]
       exact .int _ _
     ·have:=aP.own (β:=β) (w:=W) (F:=jg W) b 1 0 zs.length g zs.length cur.size ty bQ (bN hh) (by omega) (Nat.le_refl _) (by simpa using hl)
      simpa using this
   | _=>simp at ht
def Bp (g1 g2 g3:Nat):Beta:=fun b=>if b = 0 then some none else if b = 1 then some (some g1) else if b = 2 then some (some g2) else if b = 3 then some (some g3) else none
theorem FO {g1 g2 g3:Nat} (h1:P.globalNamed "internal/strconv.uint64pow10" = some g1) (h2:P.globalNamed "math/bits.deBruijn64tab" = some g2) (h3:P.globalNamed "strings.asciiSpace" = some g3) {W:World} (t1:Lib.TabIs P W "internal/strconv.uint64pow10" .u64 Lib.pow10Tab)
 (t2:Lib.TabIs P W "math/bits.deBruijn64tab" .u8 [0,1,56,2,57,49,28,3,61,58,42,50,38,29,17,4,62,47,59,36,45,43,51,22,53,39,33,30,24,18,12,5,63,55,48,27,60,41,37,16,46,35,44,21,52,32,23,11,54,26,40,15,34,20,31,10,25,14,19,9,13,8,7,6]) (t3:Lib.TabIs P W "strings.asciiSpace" .u8 Lib.asciiSpaceTab):p3 P (Bp g1 g2 g3) W (jg W):=by
 have r1:=x9 h1 t1 (β:=Bp g1 g2 g3) (b:=1) rfl (by decide)
 have r2:=x9 h2 t2 (β:=Bp g1 g2 g3) (b:=2) rfl (by decide)
 have r3:=x9 h3 t3 (β:=Bp g1 g2 g3) (b:=3) rfl (by rw [Lib.asciiSpaceTab_length]; decide)
 have e1:(List.range 20).map (fun i=>V.int .u64 ((10 ^ i:Nat):Int)) = Lib.pow10Tab.map (.int .u64):=by unfold Lib.pow10Tab; rw [List.map_map]; rfl
 intro g
 unfold Ma yJ
 by_cases k1:g = g1
 ·subst k1
  rw [List.find?_cons_of_pos (by simpa using h1)]
  rw [e1]
  refine ⟨r1.1,fun vs jz=>⟨1,?_⟩⟩
  injection jz with jz _
  injection jz with jz
  subst jz
  exact ⟨by simpa using r1.2.1,by simpa using r1.2.2⟩
 ·rw [List.find?_cons_of_neg (by simp [h1]; exact fun e=>k1 e.symm)]
  by_cases k2:g = g2
  ·subst k2
   rw [List.find?_cons_of_pos (by simpa using h2)]
   refine ⟨r2.1,fun vs jz=>⟨2,?_⟩⟩
   injection jz with jz _
   injection jz with jz
   subst jz
   exact ⟨by simpa using r2.2.1,by simpa using r2.2.2⟩
  ·rw [List.find?_cons_of_neg (by simp [h2]; exact fun e=>k2 e.symm)]
   by_cases k3:g = g3
   ·subst k3
    rw [List.find?_cons_of_pos (by simpa using h3)]
    refine ⟨r3.1,fun vs jz=>⟨3,?_⟩⟩
    injection jz with jz _
    injection jz with jz
    subst jz
    exact ⟨by simpa using r3.2.1,by simpa using r3.2.2⟩
   ·rw [List.find?_cons_of_neg (by simp [h3]; exact fun e=>k3 e.symm)]
    exact ⟨.cU _,fun vs h=>by cases h⟩
theorem vb {f:FuncId} {fn:Func} {s:ChangeSpec} {apart fresh handsOn again:Bool} {W:World} {args:Array Value} {ds gs:List (DataW H)} {before:List MemPlace} {base:Nat} {r:Reach} (n:Nat) {tb:TypeId}
 (hl:laidOutB P = true) (XP:(fn.params.toList.all fun t=>gO P n t && P.readableRec t && decide (t < P.types.size)) = true) (hv:s.vars = [])
 (hfn:∀ ds:List (DataW H),ds.length = fn.params.toList.length -> s.fn H (ds ++ []) = { results:=[.lit (.bool true)],args:=ds }) (TS:fn.resultTypes = #[tb]) (htb:P.underlying tb = some .bool)
 (hval:∀ (j:Nat) t v,fn.params[j]? = some t -> args[j]? = some v -> Value.okWide P W r base t v)
 (hW:DataW.Whole enc P fn.params.toList s.vars apart W args.toList ds gs before)
 {B:Beta} {nB:Nat} (Ri:B 0 = some none) (hBn:∀ b,nB <= b -> B b = none) (kN:p3 P B W (jg W))
 (hc:∀ vs:List V,xy P n fn.params.toList vs -> aw P f vs L0 fun r _=>r = .bool true) :
 Calls P f args W fun e W'=>∃ v,e = .returned v /\ s.post enc P fn apart fresh handsOn again W args v W':=by
 have hW0:=hW
 obtain ⟨p,q,hA,hV,hpq,sb,sk⟩:=hW
 rw [hv] at hV
 have R5:gs = [] /\ q = []:=by
  cases gs with
  | nil=>exact ⟨rfl,hV⟩
  | cons=>simp [DataW.TrodVars] at hV
 obtain ⟨rfl,rfl⟩:=R5
 rw [List.append_nil] at hpq
 subst hpq
 have N9:∀ t,t ∈ fn.params.toList -> gO P n t = true /\ P.readableRec t = true /\ t < P.types.size:=by
  intro t ht
  have:=List.all_eq_true.1 XP t ht
  simpa [Bool.and_eq_true,and_assoc] using this
 obtain ⟨vs,h1,h2,h3,h4,h5⟩:=tQ (β:=fun _=>none) (n:=n) (r:=r) (base:=base) fn.params.toList args.toList ds before (fun t ht=>(N9 t ht).1) (fun j t v a b=>hval j t v (by simpa using a) (by simpa using b)) hA
 let M:dR:=⟨fun _=>none,W.heap.size,[]⟩
 have pt:∀ b,L0 b ≠ none -> b = 0:=fun b hb=>by
  unfold L0 at hb
  split at hb
  ·assumption
  ·exact absurd rfl hb
 have c8:er B M L0 W:=⟨⟨nB,hBn⟩,fun k o h=>(by cases h),fun b box h=>(by
  have h0:=pt b (by rw [h]; simp)
  subst h0
  have:box = .row 0 0 []:=by simpa [L0] using h.symm
  subst this
  exact .inl ⟨Ri,rfl⟩),fun b b' k h h' _ _=>by rw [pt b h,pt b' h']⟩
 have hF:∀ k,Fz B M L0 W k ↔ jg W k:=fun k=>⟨fun h=>h.1,fun h=>⟨h,rfl,fun b hb he=>by
  have h0:=pt b hb
  subst h0
  rw [Ri] at he
  cases he⟩⟩
 have dr:=hA.lt
 refine ((hc vs h5).2 B M W args c8 (kN.imp fun _ _ hh=>hh.mono (fun _ _ h=>h) (fun k hk=>⟨(hF k).2 hk,rfl⟩) (fun _ _ h=>h)) (by simpa using h1.symm) (fun i c hi=>?_)).mono ?_
 ·have y9:i < args.size:=by have:=(List.getElem?_eq_some_iff.1 hi).1; simpa [h1] using this
  have:=h4 i c args[i] hi (by simp [y9])
  have:=this.mono (β':=B) (w':=W) (F':=Fz B M L0 W) (fun _ _ h=>by cases h) (fun k hk=>⟨(hF k).2 hk,rfl⟩) (fun _ _ h=>h)
  simpa [y9] using this
 ·rintro e W' ⟨v,r',bx',β',rfl,rfl,tp,jk,bO⟩
  cases bO
  have hb:Below W.heap.size W W':=⟨jk.os,jk.tape,jk.output,jk.size,fun k hk=>jk.cw k hk fun b hb he=>by
   have h0:=pt b hb
   subst h0
   rw [Ri] at he
   cases he⟩
  refine ⟨_,rfl,ds,[],before,[],before,[],hW0,?_,?_,?_,hb.frame _,fun _=>?_⟩
  ·rw [hfn ds h3,TS]
   exact trodAll_cons_mk (⟨1,by simp [DataW.trod,Value.cells,htb]⟩:DataW.Trod enc P _ _ _ _ _ (.bool true) (.lit (.bool true)) []) trodAll_mk0
  ·rw [hfn ds h3]
   exact kH hl hb (fun t ht=>(N9 t ht).2) (fun x hx=>⟨dr x hx,by simpa using dr x hx⟩) hA
  ·rw [hv]
   have:(s.fn H (ds ++ [])).vars = []:=by rw [hfn ds h3]
   rw [this]; rfl
  ·refine ⟨RowKit.ok_one TS rfl (RowKit.okWide_bool_mk htb _),_,[],[] ++ before,⟨[] ++ before,[],trodAll_append (kH hl hb (fun t ht=>(N9 t ht).2) (fun x hx=>⟨dr x hx,rfl⟩) hA) (ds:=[.lit (.bool true)]) (p:=[]) ?_,?_,by simp,?_,?_⟩,?_⟩
   ·rw [TS]; exact trodAll_cons_mk (⟨1,by simp [DataW.trod,Value.cells,htb]⟩:DataW.Trod enc P _ _ _ _ _ (.bool true) (.lit (.bool true)) []) trodAll_mk0
   ·rw [hv]; rfl
   ·intro b off hp
    have qZ:MemPlace.cell b off ∈ before:=by simpa using hp
    rw [hb.frozen (p:=⟨b,off,none⟩) (dr _ qZ)]
    exact sb b off qZ
   ·intro ha; simpa using sk ha
   ·intro p hp _; simpa using hp
end
end Go.Pl
