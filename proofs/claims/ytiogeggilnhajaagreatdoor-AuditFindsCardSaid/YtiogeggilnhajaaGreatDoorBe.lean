/- Texts of the proof, put together: PlOut, PlLs, PlCv, PlTh, PlTf, PlGc, PlMr, PlDf, PlDg, PlCp, PlAb, PlLawM, PlLawT. -/
import Derived.Test.YtiogeggilnhajaaGreatDoorBd
import Derived.ChangeArms
import Derived.OpenShut
import Derived.Carry
import Derived.ChangeSame
import Derived.JoinedCond
import Derived.Below
import Derived.Test.YtiogeggilnhajaaGreatDoorBc
import Derived.Shelf.Spec.SlicesInsert
import Derived.Lib.AppendZerosOnto
import Derived.Laws.NewBlocks
import Derived.Lib.LaidTab
import Derived.Lib.ItoaNum
set_option linter.unusedSimpArgs false
set_option linter.unusedVariables false
namespace Go.Pl
open Go Go.ChangeShapes Go.WideShapes Go.ChangeAt Go.RowKit
def qn (P : Program) : List (Nat × TypeId) -> Nat -> Nat -> Bool
 | [],o,m=>o == m
 | (o',t) :: ps,o,m=>o' == o && qn P ps (o + aE P t) m
def gD (P : Program) : Nat -> TypeId -> Bool
 | 0,_=>false
 | n + 1,t =>
   match P.underlying t with
   | some .bool | some (.int _) | some .string=>aE P t == 1
   | some (.slice e)=>aE P t == 1 && gD P n e
   | some (.struct fs)=>(fs.toList.all fun f=>gD P n f.type) && qn P (fs.toList.map fun f=>(f.offset,f.type)) 0 (aE P t)
   | some (.array m e)=>gD P n e && qn P ((List.range m).map fun i=>(i * aE P e,e)) 0 (aE P t)
   | _=>false
def BV (P : Program) (e : TypeId) (xs : List V) : V:=if db P e = true then .agg xs else xs.getD 0 .cX
def eD (P : Program) : Nat -> TypeId -> List V -> Prop
 | 0,_,_=>False
 | n + 1,t,xs=>xs.length = aE P t /\
   match bu P t with
   | .bool=>∃ b,xs = [.bool b]
   | .int k=>∃ i,xs = [.int k i] /\ (Lit.int k i).wf = true
   | .str=>∃ s,xs = [.str s] /\ s.length <= maxLen
   | .slice e=>∃ es,xs = [.sl (aE P e) es] /\ es.length <= maxLen /\ ∀ v,v ∈ es -> ∃ ys,v = BV P e ys /\ eD P n e ys
   | .s7=>∀ f off ty,cz P t f = some (off,ty) -> eD P n ty ((xs.drop off).take (aE P ty))
   | .arr m e=>∀ i,i < m -> eD P n e ((xs.drop (i * aE P e)).take (aE P e))
   | _=>False
section
variable {H : Type} {enc : TypeId × Value -> H} {P : Program} {w : World} {spare : Nat -> Bool} {held : Bool}
theorem DD {e : TypeId} {xs : List V} (h : xs.length = aE P e) (h1 : db P e = false -> ∃ v,xs = [v] /\ v.cells = [v]) : (BV P e xs).cells = xs:=by
 unfold BV
 by_cases ht : db P e = true
 ·rw [if_pos ht]; rfl
 ·rw [if_neg ht]
  obtain ⟨v,rfl,hv⟩:=h1 (by simpa using ht)
  simpa using hv
def iW (w : World) (k : Nat) : Prop:=k < w.heap.size
theorem AN {a : Addr} {u : Value} (h : w.cell? a = some u) : a.block < w.heap.size:=by
 unfold World.cell? at h
 cases hh : w.heap[a.block]? with
 | none=>simp [hh] at h
 | some o=>exact (Array.getElem?_eq_some_iff.1 hh).1
theorem Fw (a : Addr) (i j : Nat) : (a.add i).add j = a.add (i + j):=by
 unfold Addr.add
 by_cases hi : i = 0 <;> by_cases hj : j = 0 <;> simp [hi,hj,Nat.add_assoc]
theorem assemble {β : Beta} {n : Nat} {cs : List Value} (ih : ∀ (fuel : Nat) (t : TypeId) (cs : List Value) (x : DataW H × List MemPlace),gD P n t = true -> DataW.trod enc P w 0 spare held fuel t cs = some x ->
 cs.length = aE P t /\ (∀ (j : Nat) (u : Value),cs[j]? = some u -> u.oneCell' = true) /\ ∃ xs : List V,xs.length = cs.length /\ (∀ (j : Nat) (u : Value) (v : V),cs[j]? = some u -> xs[j]? = some v -> aP β w (iW w) v u /\ v.cells = [v]) /\ eD P n t xs) :
 ∀ (ps : List (Nat × TypeId)) (o : Nat),qn P ps o cs.length = true -> (∀ p,p ∈ ps -> gD P n p.2 = true /\ ∃ fuel x,DataW.trod enc P w 0 spare held fuel p.2 ((cs.drop p.1).take (aE P p.2)) = some x) ->
  o <= cs.length /\ (∀ (j : Nat) (u : Value),cs[o + j]? = some u -> u.oneCell' = true) /\ ∃ xs : List V,xs.length = cs.length - o /\ (∀ (j : Nat) (u : Value) (v : V),cs[o + j]? = some u -> xs[j]? = some v -> aP β w (iW w) v u /\ v.cells = [v]) /\
   ∀ p,p ∈ ps -> o <= p.1 /\ eD P n p.2 ((xs.drop (p.1 - o)).take (aE P p.2))
 | [],o,h,_=>by
   simp only [qn,beq_iff_eq] at h
   subst h
   refine ⟨Nat.le_refl _,?_,[],by simp,?_,fun p hp=>by cases hp⟩
   ·intro j u hu
    rw [List.getElem?_eq_none (by omega)] at hu; cases hu
   ·intro j u v hu
    rw [List.getElem?_eq_none (by omega)] at hu; cases hu
 | (o',t) :: ps,o,h,hp=>by
   simp only [qn,Bool.and_eq_true,beq_iff_eq] at h
   obtain ⟨rfl,h⟩:=h
   obtain ⟨r7,fuel,x,hx⟩:=hp (o',t) (by simp)
   dsimp only at r7 hx
   obtain ⟨g1,g2,xs1,g3,g4,g5⟩:=ih fuel t _ x r7 hx
   obtain ⟨k1,k2,xs2,k3,k4,k5⟩:=assemble ih ps (o' + aE P t) h (fun p qA=>hp p (by simp [qA]))
   have BW : xs1.length = aE P t:=by rw [g3,g1]
   have eX : ∀ j,j < aE P t -> ((cs.drop o').take (aE P t))[j]? = cs[o' + j]?:=by
    intro j hj
    rw [List.getElem?_take,if_pos hj,List.getElem?_drop]
   refine ⟨by omega,?_,xs1 ++ xs2,by simp; omega,?_,?_⟩
   ·intro j u hu
    by_cases hj : j < aE P t
    ·exact g2 j u (by rw [eX j hj]; exact hu)
    ·refine k2 (j - aE P t) u ?_
     rw [<- hu]; congr 1; omega
   ·intro j u v hu hv
    by_cases hj : j < aE P t
    ·rw [List.getElem?_append_left (by omega)] at hv
     exact g4 j u v (by rw [eX j hj]; exact hu) hv
    ·rw [List.getElem?_append_right (by omega),BW] at hv
     refine k4 (j - aE P t) u v ?_ hv
     rw [<- hu]; congr 1; omega
   ·intro p qA
    rcases List.mem_cons.1 qA with rfl | qA
    ·refine ⟨Nat.le_refl _,?_⟩
     simp only [Nat.sub_self,List.drop_zero]
     rw [List.take_append_of_le_length (by omega),List.take_of_length_le (by omega)]
     exact g5
    ·obtain ⟨m1,m2⟩:=k5 p qA
     refine ⟨by omega,?_⟩
     have : (xs1 ++ xs2).drop (p.1 - o') = xs2.drop (p.1 - (o' + aE P t)):=by
      rw [List.drop_append,List.drop_of_length_le (by omega),List.nil_append]
      congr 1
      omega
     rw [this]
     exact m2
theorem lk {β : Beta} : ∀ (n : Nat) (fuel : Nat) (t : TypeId) (cs : List Value) (x : DataW H × List MemPlace),gD P n t = true -> DataW.trod enc P w 0 spare held fuel t cs = some x ->
 cs.length = aE P t /\ (∀ (j : Nat) (u : Value),cs[j]? = some u -> u.oneCell' = true) /\ ∃ xs : List V,xs.length = cs.length /\ (∀ (j : Nat) (u : Value) (v : V),cs[j]? = some u -> xs[j]? = some v -> aP β w (iW w) v u /\ v.cells = [v]) /\ eD P n t xs
 | 0,_,_,_,_,h,_=>by simp [gD] at h
 | n + 1,fuel,t,cs,x,h,ht=>by
   have one : ∀ (u : Value) (v : V),cs = [u] -> u.oneCell' = true -> aP β w (iW w) v u -> v.cells = [v] -> aE P t = 1 -> eD P (n + 1) t [v] ->
    cs.length = aE P t /\ (∀ (j : Nat) (u : Value),cs[j]? = some u -> u.oneCell' = true) /\ ∃ xs : List V,xs.length = cs.length /\ (∀ (j : Nat) (u : Value) (v : V),cs[j]? = some u -> xs[j]? = some v -> aP β w (iW w) v u /\ v.cells = [v]) /\ eD P (n + 1) t xs:=by
    rintro u v rfl h1 h2 h3 h4 h5
    refine ⟨by simp [h4],?_,[v],rfl,?_,h5⟩
    ·intro j u' hj
     cases j with
     | zero=>simp at hj; subst hj; exact h1
     | succ j=>simp at hj
    ·intro j u' v' hj hv
     cases j with
     | zero=>simp at hj hv; subst hj hv; exact ⟨h2,h3⟩
     | succ j=>simp at hj
   unfold gD at h
   split at h
   ·rename_i hu
    obtain ⟨b,rfl,_⟩:=DataW.trod_bool hu ht
    have hs : aE P t = 1:=by simpa using h
    exact one _ (.bool b) rfl rfl (.bool b) rfl hs ⟨by simp [hs],by simp [bu,hu]⟩
   ·rename_i k hu
    obtain ⟨i,rfl,_,hw⟩:=DataW.trod_int hu ht
    have hs : aE P t = 1:=by simpa using h
    exact one _ (.int k i) rfl rfl (.int k i) rfl hs ⟨by simp [hs],by simpa [bu,hu] using hw⟩
   ·rename_i hu
    obtain ⟨s,rfl,_,hw⟩:=DataW.trod_string hu ht
    have hs : aE P t = 1:=by simpa using h
    refine one _ (.str s.data.toList) rfl rfl (.str s) rfl hs ⟨by simp [hs],?_⟩
    simp only [bu,hu]
    exact ⟨_,rfl,by simpa using hw⟩
   ·rename_i e hu
    simp only [Bool.and_eq_true,beq_iff_eq] at h
    obtain ⟨hs,he⟩:=h
    have hk : bu P t = .slice e:=by simp [bu,hu]
    rcases DataW.trod_slice hu ht with ⟨rfl,_⟩ | ⟨a,len,cap,elems,rest,m,_,rfl,_,hb,hl,hm,hlen,QN,_,_⟩
    ·refine one _ (.sl (aE P e) []) rfl rfl (wR _ _ _ _ _ .aI) rfl hs ⟨by simp [hs],?_⟩
     rw [hk]
     exact ⟨[],rfl,by simp,fun v hv=>by cases hv⟩
    ·have hex : ∀ i,i < len -> ∃ (IH : List Value) (xs : List V),w.cells? 0 (a.add (i * P.cellsOf e)) (P.cellsOf e) = some IH /\ IH.length = aE P e /\ (∀ (j : Nat) (u : Value),IH[j]? = some u -> u.oneCell' = true) /\ xs.length = IH.length /\
      (∀ (j : Nat) (u : Value) (v : V),IH[j]? = some u -> xs[j]? = some v -> aP β w (iW w) v u /\ v.cells = [v]) /\ eD P n e xs:=by
      intro i hi
      have h1:=QN i hi
      rw [List.getElem?_eq_getElem (by omega)] at h1
      obtain ⟨IH,h2,h3⟩:=Option.bind_eq_some_iff.1 h1
      obtain ⟨h4,h5,xs,h6,h7,h8⟩:=lk n _ _ _ _ he h3
      exact ⟨IH,xs,h2,h4,h5,h6,h7,h8⟩
     obtain ⟨f,hf⟩:=Go.Deep.choose_lt (α:=List Value × List V) (p:=fun i p=>w.cells? 0 (a.add (i * P.cellsOf e)) (P.cellsOf e) = some p.1 /\ p.1.length = aE P e /\ (∀ (j : Nat) (u : Value),p.1[j]? = some u -> u.oneCell' = true) /\ p.2.length = p.1.length /\
      (∀ (j : Nat) (u : Value) (v : V),p.1[j]? = some u -> p.2[j]? = some v -> aP β w (iW w) v u /\ v.cells = [v]) /\ eD P n e p.2) (fun i hi=>by
      obtain ⟨IH,xs,h⟩:=hex i hi
      exact ⟨(IH,xs),h⟩)
     have Rj : ∀ i,i < len -> (BV P e (f i).2).cells = (f i).2:=by
      intro i hi
      obtain ⟨h1,h2,h3,h4,h5,h6⟩:=hf i hi
      refine DD (by omega) fun htg=>?_
      have htz : aE P e = 1:=by
       cases n with
       | zero=>exact h6.elim
       | succ n =>
         unfold gD at he
         unfold db at htg
         split at he <;> simp_all
      obtain ⟨v,hv⟩ : ∃ v,(f i).2 = [v]:=by
       match hm : (f i).2,(show (f i).2.length = 1 by omega) with
       | [v],_=>exact ⟨v,rfl⟩
      obtain ⟨u,hu⟩ : ∃ u,(f i).1 = [u]:=by
       match hm : (f i).1,(show (f i).1.length = 1 by omega) with
       | [v],_=>exact ⟨v,rfl⟩
      exact ⟨v,hv,(h5 0 u v (by simp [hu]) (by simp [hv])).2⟩
     have bA : ∀ i,i < len -> ∀ (j : Nat) (u : Value),(f i).1[j]? = some u -> w.cell? (a.add (i * aE P e + j)) = some u:=by
      intro i hi j u hu
      have h1:=(World.cells?_some (hf i hi).1).2
      have hj : j < P.cellsOf e:=by rw [<- h1.1]; exact (List.getElem?_eq_some_iff.1 hu).1
      have h2:=h1.2 j hj
      rw [Fw,hu] at h2
      exact h2
     let es : List V:=(List.range len).map fun i=>BV P e (f i).2
     have aae : es.length = len:=by simp [es]
     have wu : ∀ i e',es[i]? = some e' -> i < len /\ e' = BV P e (f i).2:=by
      intro i e' h
      simp only [es,List.getElem?_map,Option.map_eq_some_iff] at h
      obtain ⟨k,h1,rfl⟩:=h
      have:=List.getElem?_eq_some_iff.1 h1
      obtain ⟨h2,h3⟩:=this
      simp at h2 h3
      subst h3
      exact ⟨h2,rfl⟩
     refine one _ (.sl (aE P e) es) rfl rfl ?_ rfl hs ⟨by simp [hs],?_⟩
     ·have bN:=aP.sl (β:=β) (w:=w) (F:=iW w) (aE P e) es (some a) cap (fun q=>(w.cell? (a.add q)).getD undef) (by omega) hm (by simp) ?_ ?_ ?_
      ·rwa [aae] at bN
      ·intro e' tX
       obtain ⟨i,hi⟩:=List.getElem?_of_mem tX
       obtain ⟨h1,rfl⟩:=wu i e' hi
       rw [Rj i h1]
       have:=hf i h1
       omega
      ·intro i e' j c h1 h2
       obtain ⟨hi,rfl⟩:=wu i e' h1
       rw [Rj i hi] at h2
       obtain ⟨g1,g2,g3,g4,g5,g6⟩:=hf i hi
       have hj : j < (f i).1.length:=by rw [<- g4]; exact (List.getElem?_eq_some_iff.1 h2).1
       have hu:=List.getElem?_eq_getElem hj
       have hc:=bA i hi j _ hu
       refine ⟨a,rfl,by rw [<- block_add a (i * aE P e + j)]; exact AN hc,by rw [hc]; rfl,by rw [hc]; exact g3 j _ hu⟩
      ·intro i e' j c h1 h2
       obtain ⟨hi,rfl⟩:=wu i e' h1
       rw [Rj i hi] at h2
       obtain ⟨g1,g2,g3,g4,g5,g6⟩:=hf i hi
       have hj : j < (f i).1.length:=by rw [<- g4]; exact (List.getElem?_eq_some_iff.1 h2).1
       have hu:=List.getElem?_eq_getElem hj
       have hc:=bA i hi j _ hu
       rw [hc]
       exact (g5 j _ _ hu h2).1
     ·rw [hk]
      refine ⟨es,rfl,by omega,fun v hv=>?_⟩
      obtain ⟨i,hi⟩:=List.getElem?_of_mem hv
      obtain ⟨h1,rfl⟩:=wu i v hi
      exact ⟨_,rfl,(hf i h1).2.2.2.2.2⟩
   ·rename_i fs hu
    simp only [Bool.and_eq_true,List.all_eq_true] at h
    obtain ⟨hp,hc⟩:=h
    obtain ⟨xs0,m,_,_,hlen,_,hf⟩:=DataW.trod_struct hu ht
    have hl : cs.length = aE P t:=hlen
    rw [<- hl] at hc
    obtain ⟨_,h2,xs,h3,h4,h5⟩:=assemble (β:=β) (fun fuel t cs x=>lk n fuel t cs x) _ 0 hc (fun p qA=>by
     obtain ⟨f,bg,rfl⟩:=List.mem_map.1 qA
     obtain ⟨i,hi⟩:=List.getElem?_of_mem bg
     refine ⟨hp f bg,m,?_⟩
     have:=hf i f (by simpa using hi)
     have h6:=(List.getElem?_eq_some_iff.1 hi).1
     rw [Array.length_toList] at h6
     obtain ⟨y,hy⟩ : ∃ y,xs0[i]? = some y:=⟨_,List.getElem?_eq_getElem (by omega)⟩
     exact ⟨y,by rw [hy] at this; exact this⟩)
    simp only [Nat.zero_add] at h2 h4
    refine ⟨hl,h2,xs,by omega,h4,by omega,?_⟩
    have hk : bu P t = .s7:=by simp [bu,hu]
    rw [hk]
    intro f off ty tY
    simp only [cz,hu,Option.map_eq_some_iff,Prod.mk.injEq] at tY
    obtain ⟨fi,h6,rfl,rfl⟩:=tY
    have:=(h5 (fi.offset,fi.type) (List.mem_map.2 ⟨fi,by simpa using Array.mem_of_getElem? h6,rfl⟩)).2
    simpa using this
   ·rename_i m e hu
    simp only [Bool.and_eq_true] at h
    obtain ⟨hp,hc⟩:=h
    obtain ⟨xs0,q,_,_,hlen,QX,hf⟩:=DataW.trod_array hu ht
    have hl : cs.length = aE P t:=hlen
    rw [<- hl] at hc
    obtain ⟨_,h2,xs,h3,h4,h5⟩:=assemble (β:=β) (fun fuel t cs x=>lk n fuel t cs x) _ 0 hc (fun p qA=>by
     obtain ⟨i,hi,rfl⟩:=List.mem_map.1 qA
     have yh : i < m:=by simpa using hi
     refine ⟨hp,q,xs0[i],?_⟩
     rw [<- List.getElem?_eq_getElem (by omega)]
     exact hf i yh)
    simp only [Nat.zero_add] at h2 h4
    refine ⟨hl,h2,xs,by omega,h4,by omega,?_⟩
    have hk : bu P t = .arr m e:=by simp [bu,hu]
    rw [hk]
    intro i hi
    have:=(h5 (i * aE P e,e) (List.mem_map.2 ⟨i,by simpa using hi,rfl⟩)).2
    simpa using this
   ·cases h
def wT (P : Program) (n : Nat) : List TypeId -> List V -> Prop
 | [],[]=>True
 | t :: ts,v :: vs=>(∃ xs,v = BV P t xs /\ eD P n t xs) /\ wT P n ts vs
 | _,_=>False
theorem wU {n : Nat} {t : TypeId} {v : Value} {r : Reach} {base : Nat} (hp : gD P n t = true) (h : Value.okWide P w r base t v) : (db P t = true -> ∃ us,v = .agg us) /\ (db P t = false -> v.cells = #[v]):=by
 cases n with
 | zero=>simp [gD] at hp
 | succ n =>
   unfold gD at hp
   have cell : (∀ cs,P.underlying t ≠ some (.struct cs)) -> (∀ m e,P.underlying t ≠ some (.array m e)) -> (P.underlying t = some .bool \/ (∃ k,P.underlying t = some (.int k)) \/ P.underlying t = some .string \/ ∃ e,P.underlying t = some (.slice e)) ->
    (db P t = true -> ∃ us,v = .agg us) /\ (db P t = false -> v.cells = #[v]):=by
    rintro _ _ (hu | ⟨k,hu⟩ | hu | ⟨e,hu⟩)
    all_goals
     have htg : db P t = false:=by simp [db,hu]
     refine ⟨fun h1=>(by rw [htg] at h1; cases h1),fun _=>?_⟩
     unfold Value.okWide at h
     rw [hu] at h
     unfold Cell.okWide at h
     rw [hu] at h
     cases v <;> first | rfl | (simp [Cell.ok,hu] at h)
   have agg : (∃ us,v = .agg us) -> db P t = true -> (db P t = true -> ∃ us,v = .agg us) /\ (db P t = false -> v.cells = #[v]):=fun h1 h2=>⟨fun _=>h1,fun h3=>by rw [h2] at h3; cases h3⟩
   split at hp
   ·rename_i hu; exact cell (by simp [hu]) (by simp [hu]) (.inl hu)
   ·rename_i k hu; exact cell (by simp [hu]) (by simp [hu]) (.inr (.inl ⟨k,hu⟩))
   ·rename_i hu; exact cell (by simp [hu]) (by simp [hu]) (.inr (.inr (.inl hu)))
   ·rename_i e hu; exact cell (by simp [hu]) (by simp [hu]) (.inr (.inr (.inr ⟨e,hu⟩)))
   ·rename_i fs hu
    unfold Value.okWide at h
    rw [hu] at h
    obtain ⟨cs,rfl,_⟩:=h
    exact agg ⟨cs,rfl⟩ (by simp [db,hu])
   ·rename_i m e hu
    unfold Value.okWide at h
    rw [hu] at h
    obtain ⟨cs,rfl,_⟩:=h
    exact agg ⟨cs,rfl⟩ (by simp [db,hu])
   ·cases hp
theorem tn {β : Beta} {n : Nat} {r : Reach} {base : Nat} : ∀ (ts : List TypeId) (args : List Value) (ds : List (DataW H)) (ps : List MemPlace),(∀ t,t ∈ ts -> gD P n t = true) -> (∀ (j : Nat) (t : TypeId) (v : Value),ts[j]? = some t -> args[j]? = some v -> Value.okWide P w r base t v) ->
 DataW.TrodAll enc P w 0 spare held ts args ds ps -> ∃ vs : List V,vs.length = args.length /\ args.length = ts.length /\ ds.length = ts.length /\ (∀ (i : Nat) (v : V) (u : Value),vs[i]? = some v -> args[i]? = some u -> aP β w (iW w) v u) /\ wT P n ts vs
 | [],[],[],_,_,_,_=>⟨[],rfl,rfl,rfl,fun i v u h=>by simp at h,trivial⟩
 | t :: ts,u :: args,d :: ds,ps,hp,ho,h=>by
   obtain ⟨p,q,⟨fuel,h1⟩,h2,_⟩:=h
   have hpt:=hp t (by simp)
   obtain ⟨g1,g2,xs,g3,g4,g5⟩:=lk (β:=β) n fuel t _ _ hpt h1
   obtain ⟨k1,k2⟩:=wU hpt (ho 0 t u rfl rfl)
   obtain ⟨vs,m1,m2,m3,m4,m5⟩:=tn ts args ds q (fun t ht=>hp t (by simp [ht])) (fun j t v h3 h4=>ho (j + 1) t v (by simpa using h3) (by simpa using h4)) h2
   refine ⟨BV P t xs :: vs,by simp [m1],by simp [m2],by simp [m3],?_,⟨xs,rfl,g5⟩,m5⟩
   intro i v u' hv hu
   cases i with
   | succ i=>exact m4 i v u' (by simpa using hv) (by simpa using hu)
   | zero =>
     simp at hv hu
     subst hv hu
     unfold BV
     by_cases ht : db P t = true
     ·rw [if_pos ht]
      obtain ⟨us,rfl⟩:=k1 ht
      simp only [Value.cells] at g1 g2 g3 g4
      refine .agg xs us (by simpa using g3.symm) (fun i hi=>?_) (fun i c hc=>?_)
      ·have yh : i < us.size:=by simpa [g3] using hi
       have:=g2 i us[i] (by simp [yh])
       simpa [yh] using this
      ·have yh : i < us.size:=by have:=(List.getElem?_eq_some_iff.1 hc).1; simpa [g3] using this
       have:=(g4 i us[i] c (by simp [yh]) hc).1
       simpa [yh] using this
     ·rw [if_neg ht]
      have hc:=k2 (by simpa using ht)
      rw [hc] at g1 g2 g3 g4
      have hl : xs.length = 1:=by simpa using g3
      match xs,hl with
      | [x],_=>exact (g4 0 u x (by simp) (by simp)).1
 | [],_ :: _,_,_,_,_,h=>by simp [DataW.TrodAll] at h
 | [],[],_ :: _,_,_,_,h=>by simp [DataW.TrodAll] at h
 | _ :: _,[],_,_,_,_,h=>by simp [DataW.TrodAll] at h
 | _ :: _,_ :: _,[],_,_,_,h=>by simp [DataW.TrodAll] at h
theorem kr (hl : laidOutB P = true) {W W' : World} (hb : Below W.heap.size W W') : ∀ {ts : List TypeId} {vs : List Value} {ds : List (DataW H)} {ps : List MemPlace} {sp : Nat -> Bool},(∀ t,t ∈ ts -> P.readableRec t = true /\ t < P.types.size) -> (∀ x ∈ ps,x.block < W.heap.size /\ sp x.block = true) ->
 DataW.TrodAll enc P W 0 (fun _=>true) true ts vs ds ps -> DataW.TrodAll enc P W' 0 sp true ts vs ds ps
 | [],[],[],_,_,_,_,h=>h
 | t :: ts,v :: vs,d :: ds,ps,sp,ht,hp,h=>by
   obtain ⟨p,q,h1,h2,rfl⟩:=h
   obtain ⟨g1,g2⟩:=ht t (by simp)
   exact ⟨p,q,WideElems.Trod_stays hl g1 g2 h1 (fun x hx=>hb.same (hp x (by simp [hx])).1) (fun x hx=>(hp x (by simp [hx])).2),kr hl hb (fun t wM=>ht t (by simp [wM])) (fun x hx=>hp x (by simp [hx])) h2,rfl⟩
 | [],_ :: _,_,_,_,_,_,h=>by simp [DataW.TrodAll] at h
 | [],[],_ :: _,_,_,_,_,h=>by simp [DataW.TrodAll] at h
 | _ :: _,[],_,_,_,_,_,h=>by simp [DataW.TrodAll] at h
 | _ :: _,_ :: _,[],_,_,_,_,h=>by simp [DataW.TrodAll] at h
theorem eD.int {n : Nat} {t : TypeId} {k : IntKind} {xs : List V} (hk : bu P t = .int k) (h : eD P n t xs) : ∃ i,xs = [.int k i] /\ (Lit.int k i).wf = true:=by
 cases n with
 | zero=>exact h.elim
 | succ n=>obtain ⟨_,h⟩:=h; rw [hk] at h; exact h
theorem eD.bool {n : Nat} {t : TypeId} {xs : List V} (hk : bu P t = .bool) (h : eD P n t xs) : ∃ b,xs = [.bool b]:=by
 cases n with
 | zero=>exact h.elim
 | succ n=>obtain ⟨_,h⟩:=h; rw [hk] at h; exact h
theorem eD.str {n : Nat} {t : TypeId} {xs : List V} (hk : bu P t = .str) (h : eD P n t xs) : ∃ s,xs = [.str s] /\ s.length <= maxLen:=by
 cases n with
 | zero=>exact h.elim
 | succ n=>obtain ⟨_,h⟩:=h; rw [hk] at h; exact h
theorem eD.slice {α : Type} {r : α -> V} {n : Nat} {t e : TypeId} {xs : List V} (hk : bu P t = .slice e) (h : eD P (n + 1) t xs) (he : ∀ ys,eD P n e ys -> ∃ a,BV P e ys = r a) : ∃ l : List α,xs = [.sl (aE P e) (l.map r)] /\ l.length <= maxLen:=by
 obtain ⟨_,h⟩:=h
 rw [hk] at h
 obtain ⟨es,rfl,hlen,h⟩:=h
 have : ∀ es : List V,(∀ v,v ∈ es -> ∃ ys,v = BV P e ys /\ eD P n e ys) -> ∃ l : List α,es = l.map r:=by
  intro es
  induction es with
  | nil=>intro _; exact ⟨[],rfl⟩
  | cons v es ih =>
    intro h
    obtain ⟨l,rfl⟩:=ih fun v hv=>h v (by simp [hv])
    obtain ⟨ys,rfl,h2⟩:=h v (by simp)
    obtain ⟨a,ha⟩:=he ys h2
    exact ⟨a :: l,by simp [ha]⟩
 obtain ⟨l,rfl⟩:=this es h
 exact ⟨l,rfl,by simpa using hlen⟩
theorem eD.cz {n : Nat} {t ty : TypeId} {f off : Nat} {xs : List V} (hk : bu P t = .s7) (h : eD P (n + 1) t xs) (hf : Go.Pl.cz P t f = some (off,ty)) : eD P n ty ((xs.drop off).take (aE P ty)):=by
 obtain ⟨_,h⟩:=h
 rw [hk] at h
 exact h f off ty hf
theorem eD.len {n : Nat} {t : TypeId} {xs : List V} (h : eD P n t xs) : xs.length = aE P t:=by
 cases n with
 | zero=>exact h.elim
 | succ n=>exact h.1
theorem eD.arr {n m i : Nat} {t e : TypeId} {xs : List V} (hk : bu P t = .arr m e) (h : eD P (n + 1) t xs) (hi : i < m) : eD P n e ((xs.drop (i * aE P e)).take (aE P e)):=by
 obtain ⟨_,h⟩:=h
 rw [hk] at h
 exact h i hi
theorem Tg {α : Type} {l : List α} (h : l.length = 1) : ∃ a,l = [a]:=by
 match l,h with
 | [a],_=>exact ⟨a,rfl⟩
theorem aaf {α : Type} {l : List α} (h : l.length = 3) : ∃ a b c,l = [a,b,c]:=by
 match l,h with
 | [a,b,c],_=>exact ⟨a,b,c,rfl⟩
theorem aag {α : Type} {l : List α} (h : l.length = 4) : ∃ a b c d,l = [a,b,c,d]:=by
 match l,h with
 | [a,b,c,d],_=>exact ⟨a,b,c,d,rfl⟩
theorem BX {n : Nat} {t : TypeId} {vs : List V} (h : wT P n [t] vs) : ∃ xs,vs = [BV P t xs] /\ eD P n t xs:=by
 match vs,h with
 | [a],⟨⟨xs,h1,h2⟩,_⟩=>exact ⟨xs,by rw [h1],h2⟩
theorem rW {t : TypeId} {xs : List V} (h : db P t = true) : BV P t xs = .agg xs:=by simp [BV,h]
end
end Go.Pl
namespace Go.Pl
open Go Go.RowKit
section
variable {P : Program} {β : Beta} {M : dP} {bx : aa} {w w' : World}
theorem zd {bx : aa} {b : Nat} (hb : bx b = none) : aA bx b none = bx:=by
 funext c
 by_cases e : c = b
 ·subst e; rw [af,hb]
 ·rw [ae _ _ e]
theorem rX {F : Nat -> Prop} (s : List UInt8) : aP β w F (.str s) (.string ⟨s.toArray⟩):=by
 have:=aP.str (β:=β) (w:=w) (F:=F) ⟨s.toArray⟩
 exact this
end
end Go.Pl
namespace Go.Pl
open Go
section
variable {P : Program}
end
end Go.Pl
namespace Go.Pl
open Go
section
variable {P : Program} {β : Beta} {M : dP} {bx bx' : aa} {w : World}
end
end Go.Pl
namespace Go.Pl
open Go
section
variable {P : Program}
end
end Go.Pl
namespace Go.Pl
open Go
section
variable {P : Program}
def Tc (P : Program) (ops : Array Oper) (i0 : Nat) (K : St -> Prop) (st : St) : Prop :=
 match ops[i0]? with
 | some o=>(match o.guard with | some (g,want)=>dQ ops st g want = some true | none=>False) /\ (∃ bx v,K (st.at bx o.dst v)) /\ aH P false o K st
 | none=>False
def TG (P : Program) (ops : Array Oper) (i0 i : Nat) (K : St -> Prop) (st : St) : Prop :=
 if i = i0 then Tc P ops i0 K st else iA P ops (fun _=>false) i K st
theorem Th {ops : Array Oper} {i0 : Nat} : WV (TG P ops i0) where
 mono i K K2 st hm h:=by
  unfold TG at h ⊢
  split
  ·rename_i e
   rw [if_pos e] at h
   unfold Tc at h ⊢
   split at h
   ·obtain ⟨h1,⟨bx,v,h2⟩,h3⟩:=h
    exact ⟨h1,⟨bx,v,hm _ h2⟩,gB hm h3⟩
   ·exact h.elim
  ·rename_i e
   rw [if_neg e] at h
   exact mY.mono _ _ _ _ hm h
 live i K st h:=by
  unfold TG at h
  split at h
  ·unfold Tc at h
   split at h
   ·obtain ⟨_,⟨bx,v,h2⟩,_⟩:=h
    exact ⟨_,h2⟩
   ·exact h.elim
  ·exact mY.live _ _ _ h
theorem ka {T T' : Nat -> (St -> Prop) -> St -> Prop} {K : St -> Prop} : ∀ (n k : Nat) (st : St),(∀ i,k <= i -> i < k + n -> T i = T' i) -> ec T K k n st -> ec T' K k n st
 | 0,k,st,_,h=>h
 | n + 1,k,st,he,h=>by
   have e : T k = T' k:=he k (Nat.le_refl _) (by omega)
   have e2 : ec T K (k + 1) n = ec T' K (k + 1) n:=by
    funext s
    exact propext ⟨ka n (k + 1) s fun i h1 h2=>he i (by omega) (by omega),ka n (k + 1) s fun i h1 h2=>(he i (by omega) (by omega)).symm⟩
   unfold ec at h ⊢
   rw [<- e,<- e2]
   exact h
theorem ve {T : Nat -> (St -> Prop) -> St -> Prop} {K : St -> Prop} {m : Nat} : ∀ (n k : Nat) (st : St),ec T (ec T K (k + n) m) k n st = ec T K k (n + m) st
 | 0,k,st=>by simp [ec]
 | n + 1,k,st=>by
   have e : n + 1 + m = (n + m) + 1:=by omega
   rw [e]
   unfold ec
   have : ec T (ec T K (k + (n + 1)) m) (k + 1) n = ec T K (k + 1) (n + m):=by
    funext s
    rw [<- ve n (k + 1) s,show k + (n + 1) = k + 1 + n by omega]
   rw [this]
theorem mz {ops : Array Oper} {fl : Nat -> Bool} {K : St -> Prop} : ∀ (l : List Oper) (ql : List bO) (k : Nat) (st : St),ql.map bO.jD = l.map (aB ops) -> (∀ j o,l[j]? = some o -> ops[k + j]? = some o) -> (∀ j q,ql[j]? = some q -> fl (k + j) = q.fz) -> lh P K ql st -> ec (iA P ops fl) K k l.length st
 | [],[],k,st,_,_,_,h=>h
 | o :: l,q :: ql,k,st,hq,hl,hf,h=>by
   simp only [List.map_cons,List.cons.injEq] at hq
   have h0 : ops[k]? = some o:=hl 0 o rfl
   exact mY.mono _ _ _ _ (fun s hs=>mz l ql (k + 1) s hq.2 (fun j o' hj=>by have:=hl (j + 1) o' (by simpa using hj); simpa [Nat.add_assoc,Nat.add_comm 1 j] using this) (fun j q' hj=>by have:=hf (j + 1) q' (by simpa using hj); simpa [Nat.add_assoc,Nat.add_comm 1 j] using this) hs) (yP hq.1 h0 (hf 0 q rfl) h)
 | [],q :: ql,k,st,hq,_,_,h=>by simp at hq
 | o :: l,[],k,st,hq,_,_,h=>by simp at hq
def AO (c : Code) (pre : List bO) (q : bO) (rest : List bO) : Prop :=
 match c with
 | .region _ ops true=>A6 ops = true /\ (pre ++ q :: rest).map bO.jD = ops.toList.map (aB ops) /\ (yK ops).isEmpty = true /\ ((pre ++ rest).all fun x=>!x.fz) = true /\
  ((List.range ops.size).all fun j=>j == pre.length || (if j < pre.length then ((dx ops).getD pre.length 0).testBit j else ((dx ops).getD j 0).testBit pre.length)) = true
 | _=>False
theorem II (hm : P.follows .mixedOrders = true) {c : Code} {pre rest : List bO} {d s : Tmp} {f : FuncId} {args : Array Operand} {tys : Array TypeId} {want : Bool} (ks : List Nat)
 (hc : AO c pre ⟨some d,.call { callee:=.value (.func f),args:=args,argTypes:=tys },some (s,want),false⟩ rest) {Q : Exit -> St -> Prop} {st : St}
 (h : lh P (fun s1=>((s1.sl s).strip = .bool want /\ (s1.sl s).ax = true) /\ BJ P ⟨some d,.call { callee:=.value (.func f),args:=args,argTypes:=tys },none,true⟩ (fun s2=>lh P (fun s=>Q .normal (s.ch ks)) rest s2) s1) pre st) : pw P (.raw c) Q st:=by
 unfold AO at hc
 split at hc
 rotate_left
 ·exact hc.elim
 rename_i id ops
 obtain ⟨hD,iJ,hU,rC,hW⟩:=hc
 intro M ro n β a w hr
 have hlen : ops.size = pre.length + (rest.length + 1):=by
  have:=congrArg List.length iJ
  simp at this
  omega
 have hW' : ∀ j,j < ops.size -> j ≠ pre.length -> (if j < pre.length then fC (dx ops) pre.length j else fC (dx ops) j pre.length):=by
  intro j hj bp
  have:=List.all_eq_true.1 hW j (List.mem_range.2 hj)
  simp only [Bool.or_eq_true,beq_iff_eq] at this
  rcases this with this | this
  ·exact absurd this bp
  ·split
   ·rename_i dt; rw [if_pos dt] at this; exact this
   ·rename_i dt; rw [if_neg dt] at this; exact this
 obtain ⟨oc,hoc⟩ : ∃ oc,ops[pre.length]? = some oc:=⟨_,Array.getElem?_eq_getElem (by omega)⟩
 have vg : aB ops oc = ⟨some d,.call { callee:=.value (.func f),args:=args,argTypes:=tys },some (s,want),false⟩:=by
  have e1 : ((pre ++ (⟨some d,.call { callee:=.value (.func f),args:=args,argTypes:=tys },some (s,want),false⟩ : bO) :: rest).map bO.jD)[pre.length]? = some ⟨some d,.call { callee:=.value (.func f),args:=args,argTypes:=tys },some (s,want),false⟩:=by
   rw [List.getElem?_map,List.getElem?_append_right (Nat.le_refl _)]
   simp [bO.jD]
  rw [iJ] at e1
  have e2 : (ops.toList.map (aB ops))[pre.length]? = some (aB ops oc):=by simp [hoc]
  rw [e2] at e1
  injection e1
 obtain ⟨g,sQ,yE,cm,HB⟩ : ∃ g,oc.guard = some (g,want) /\ (ops[g]?).bind (·.dst) = some s /\ oc.op = .call { callee:=.value (.func f),args:=args,argTypes:=tys } /\ oc.dst = some d:=by
  unfold aB at vg
  split at vg
  ·injection vg with _ _ h3 _
   cases h3
  ·rename_i g w' hg
   split at vg
   ·rename_i dd yk
    injection vg with h1 h2 h3 _
    injection h3 with h3
    injection h3 with h3 h4
    subst h3 h4
    exact ⟨g,hg,yk,h2,h1⟩
   ·injection vg with _ _ h3 _
    cases h3
 have LU : LN ops (TG P ops pre.length):=by
  refine ⟨fun k ok hk=>(wO hD hk).1,fun k ok hk j oj hj pR hw K st hh=>?_⟩
  have Dy:=(Array.getElem?_eq_some_iff.1 hk).1
  have lB:=(Array.getElem?_eq_some_iff.1 hj).1
  have EY : k ≠ pre.length:=by
   rintro rfl
   have:=hW' j lB (by omega)
   rw [if_neg (by omega)] at this
   exact hw this
  have EE : j ≠ pre.length:=by
   rintro rfl
   have:=hW' k Dy EY
   rw [if_pos pR] at this
   exact hw this
  have hT : ∀ i,i ≠ pre.length -> TG P ops pre.length i = iA P ops (fun _=>false) i:=fun i hi=>by funext K s; simp [TG,hi]
  rw [hT k EY,hT j EE] at *
  refine EX hk hj (.inl ?_) (fun h=>by simp at h) (fun h=>by simp at h) hh
  cases ha : (gC ops ok oj || mg ops ok oj) with
  | true=>rfl
  | false =>
    have:=yQ hk hj pR hw (by simp [ha])
    have he : yK ops = []:=by simpa using hU
    rw [he] at this
    cases this
 have Ti : pre.map bO.jD = (ops.toList.take pre.length).map (aB ops):=by
  have:=congrArg (List.take pre.length) iJ
  rw [List.map_append,List.take_left' (by simp),<- List.map_take] at this
  exact this
 have Tj : rest.map bO.jD = (ops.toList.drop (pre.length + 1)).map (aB ops):=by
  have:=congrArg (List.drop (pre.length + 1)) iJ
  rw [List.map_append,List.map_cons,List.drop_append,List.drop_of_length_le (by simp),<- List.map_drop] at this
  simpa using this
 have hfp : ∀ q,q ∈ pre ++ rest -> q.fz = false:=fun q hq=>by simpa using List.all_eq_true.1 rC q hq
 have Ff : ec (TG P ops pre.length) (fun s=>Q .normal (s.ch ks)) 0 ops.toList.length st:=by
  have e0 : ops.toList.length = pre.length + (rest.length + 1):=by simpa using hlen
  rw [e0,<- ve pre.length 0 st]
  refine ka (T:=iA P ops (fun _=>false)) pre.length 0 st (fun i h1 h2=>by funext K s; simp [TG,show i ≠ pre.length by omega]) ?_
  have BW : (ops.toList.take pre.length).length = pre.length:=by rw [List.length_take]; simp; omega
  have XI : (ops.toList.drop (pre.length + 1)).length = rest.length:=by rw [List.length_drop]; simp; omega
  have h1:=mz (ops:=ops) (fl:=fun _=>false) (ops.toList.take pre.length) pre 0 st Ti (fun j o hj=>by
   rw [List.getElem?_take] at hj
   split at hj
   ·simpa using hj
   ·cases hj) (fun j q hq=>(hfp q (by simp [List.mem_of_getElem? hq])).symm) h
  rw [BW] at h1
  have y8 : ∀ (n k : Nat) (K K2 : St -> Prop) (st : St),(∀ s,K s -> K2 s) -> ec (iA P ops (fun _=>false)) K k n st -> ec (iA P ops (fun _=>false)) K2 k n st:=by
   intro n
   induction n with
   | zero=>intro k K K2 st hm h; exact hm _ h
   | succ n ih=>intro k K K2 st hm h; exact mY.mono _ _ _ _ (fun s hs=>ih (k + 1) K K2 s hm hs) h
  refine y8 _ _ _ _ _ (fun s1 Kr=>?_) h1
  obtain ⟨⟨na,ZS⟩,iR⟩:=Kr
  show TG P ops pre.length (0 + pre.length) (ec (TG P ops pre.length) (fun s=>Q .normal (s.ch ks)) (0 + pre.length + 1) rest.length) s1
  rw [Nat.zero_add]
  have hgo : ∀ KR : St -> Prop,(∀ s2,lh P (fun s=>Q .normal (s.ch ks)) rest s2 -> KR s2) -> TG P ops pre.length pre.length KR s1:=by
   intro KR fJ
   unfold BJ at iR
   rw [if_neg (by simp [mi,lenOf]),if_pos (by simp [jE])] at iR
   obtain ⟨⟨bx,v,hx⟩,tW⟩:=iR
   have hc3:=gB fJ tW
   have e : ∀ K st,aH P false oc K st = aH P false (bO.oper ⟨some d,.call { callee:=.value (.func f),args:=args,argTypes:=tys },none,true⟩) K st:=by
    intro K st
    obtain ⟨odst,oop,otype,opos,oafter,oguard⟩:=oc
    simp only at cm HB
    subst cm HB
    rfl
   unfold TG
   rw [if_pos rfl]
   unfold Tc
   simp only [hoc,sQ]
   refine ⟨?_,⟨bx,v,by rw [HB]; exact fJ _ hx⟩,by rw [e]; exact hc3⟩
   unfold dQ
   rw [yE]
   simp only [na,ZS]
   simp
  refine hgo _ fun s2 hh=>?_
  refine ka (T:=iA P ops (fun _=>false)) rest.length (pre.length + 1) s2 (fun i h1 h2=>by funext K s; simp [TG,show i ≠ pre.length by omega]) ?_
  have h3:=mz (ops:=ops) (fl:=fun _=>false) (ops.toList.drop (pre.length + 1)) rest (pre.length + 1) s2 Tj (fun j o hj=>by
   rw [List.getElem?_drop] at hj
   simpa using hj) (fun j q hq=>(hfp q (by simp [List.mem_of_getElem? hq])).symm) hh
  rwa [XI] at h3
 refine wpIn_region_any hm ?_
 have cJ : Rs P β M st a w.drew:=⟨hr.ok.drew,fun t=>(Tr.drew hr.ok).rep (hr.sl t),hr.sz,hr.df,hr.bs,hr.gl.imp fun _ _ hh=>(Tr.drew hr.ok).rep hh⟩
 have h1:=sX (K:=fun s=>Q .normal (s.ch ks)) Th LU ops.toList.length 0 (Array.replicate ops.size false) st (by simp) (by simp) (fun j hj=>by simp [hj]) Ff
 have h2:=o7 (P:=P) (ro:=ro) (n:=n) (M:=M) (ops:=ops) (Q:=fun e a' w'=>∃ M' st' β',Q e st' /\ hH M M' w /\ Rs P β' M' st' a' w' /\ Tr β st.bx w β' st'.bx w') (fun i o K st a w β K' hi h hr hK=>by
  unfold TG at h
  split at h
  ·rename_i e
   subst e
   unfold Tc at h
   simp only [hi] at h
   obtain ⟨jd,_,pQ⟩:=h
   unfold wpOpIn
   simp only [hi]
   cases Q3 : o.guard with
   | none=>simp [Q3] at jd
   | some gw =>
     obtain ⟨g',want'⟩:=gw
     simp only [Q3] at jd
     have hw:=mW Q3 jd hr
     rw [if_pos hw]
     exact ph ro n (pj pQ) (jW pQ hr hK)
  ·exact BN hi h hr hK) _ _ st a w.drew β h1 cJ (fun st' β' a' w' hk rR ht=>⟨M,_,β',hk,hH.refl _ _,(mo st' ks).rs rR,(Tr.drew hr.ok).trans ht⟩)
 simpa using h2
end
end Go.Pl
namespace Go.Pl
open Go
def Seen (n : Nat) (bs is seen : List Nat) : Prop:=seen = is.map (fun i=>bs.getD i 0) /\ is.Nodup /\ ∀ i,i ∈ is -> i < n
theorem Seen.nil (n : Nat) (bs : List Nat) : Seen n bs [] []:=⟨rfl,by simp,fun i h=>by cases h⟩
theorem Seen.next {n : Nat} {bs is seen : List Nat} (h : Seen n bs is seen) (hl : bs.length = n) {i q : Nat} (hq : bs[i]? = some q) (hs : ¬ q ∈ seen) : ¬ i ∈ is /\ i < n /\ Seen n bs (is ++ [i]) (seen ++ [q]):=by
 obtain ⟨h1,h2,h3⟩:=h
 have hi : i < bs.length:=(List.getElem?_eq_some_iff.1 hq).1
 have hg : bs.getD i 0 = q:=by rw [List.getD_eq_getElem?_getD,hq]; rfl
 have hn : ¬ i ∈ is:=fun hm=>hs (by rw [h1]; exact List.mem_map.2 ⟨i,hm,hg⟩)
 refine ⟨hn,by omega,by rw [h1,List.map_append,List.map_cons,List.map_nil,hg],?_,fun j hj=>?_⟩
 ·rw [List.nodup_append]
  exact ⟨h2,by simp,fun a ha b hb=>by simp at hb; subst hb; exact fun e=>hn (e ▸ ha)⟩
 ·rcases List.mem_append.1 hj with hj | hj
  ·exact h3 j hj
  ·simp at hj; omega
theorem Seen.all {n : Nat} {bs is seen : List Nat} (h : Seen n bs is seen) (hl : bs.length = n) (rO : bs.Nodup) (ha : ∀ q,q ∈ bs -> q ∈ seen) : is.Perm (List.range n):=by
 obtain ⟨h1,h2,h3⟩:=h
 refine (List.perm_ext_iff_of_nodup h2 List.nodup_range).2 fun i=>⟨fun hi=>List.mem_range.2 (h3 i hi),fun hi=>?_⟩
 have n7 : i < bs.length:=by rw [hl]; exact List.mem_range.1 hi
 have hm:=ha bs[i] (List.getElem_mem n7)
 rw [h1] at hm
 obtain ⟨j,hj,he⟩:=List.mem_map.1 hm
 have lB : j < bs.length:=by rw [hl]; exact h3 j hj
 have e2 : bs[j] = bs[i]:=by rw [<- he]; simp [lB]
 have : j = i:=by
  rcases Nat.lt_trichotomy j i with h | h | h
  ·exact absurd e2 ((List.pairwise_iff_getElem.1 rO) j i lB n7 h)
  ·exact h
  ·exact absurd e2.symm ((List.pairwise_iff_getElem.1 rO) i j n7 lB h)
 subst this
 exact hj
theorem Seen.len {n : Nat} {bs is seen : List Nat} (h : Seen n bs is seen) : is.length <= n:=by
 have h1 : is.length <= (List.range n).length:=List.Nodup.length_le_of_subset h.2.1 fun i hi=>List.mem_range.2 (h.2.2 i hi)
 simpa using h1
theorem IJ {bx bx' : aa} {b : Nat} {es : List (V × V)} {bs : List Nat} {c : Nat} (h : bx b = some (.kg es bs c)) (hb : bx' b = some (.map es)) (ho : ∀ d,d ≠ b -> bx' d = none \/ bx' d = bx d) : cj bx bx':=fun d=>by
 by_cases e : d = b
 ·subst e; exact .inr (.inr (.inl ⟨es,bs,c,h,hb⟩))
 ·rcases ho d e with h | h
  ·exact .inl h
  ·exact .inr (.inl h)
theorem IK {P : Program} {rs : List ResultVar} {Kc : V -> aa -> Prop} {st : St} {bx' : aa} (h : ∀ r,r ∈ rs -> (iS P st r).1) (hs : cj st.bx bx') (hk : Kc (kq P st rs) bx') : zZ P rs Kc st :=
 ⟨h,bx',_,hs,.inl rfl,hk⟩
end Go.Pl
namespace Go.Pl
open Go Go.RowKit
section
variable {P : Program}
theorem two {α : Type} : ∀ {l : List α},l.length = 2 -> ∃ a b,l = [a,b]
 | [a,b],_=>⟨a,b,rfl⟩
end
end Go.Pl
namespace Go.Pl
open Go Go.RowKit
section
variable {P : Program}
theorem DE (hm : P.follows .mixedOrders = true) {M : dP} {n : Nat} {id : Nat} {ops : Array Oper} {Q : St -> Prop} {st : St} (hl : sR ops = true) {l : List bO} (iJ : l.map bO.jD = ops.toList.map (aB ops)) (h : lf P Q (jX ops) l st)
 {β : Beta} {a : Act} {w : World} (hr : Rs P β M st a w) : (Code.region id ops true).wpIn (rf none) n P (fun e a' w'=>e = .normal /\ ∃ st' β',Q st' /\ Rs P β' M st' a' w' /\ Tr β st.bx w β' st'.bx w') a w:=by
 refine wpIn_region_any hm ?_
 have h:=mn ops.toList l 0 st (fun j=>by simp) (by simp) iJ (by simpa using h)
 have cJ : Rs P β M st a w.drew:=⟨hr.ok.drew,fun t=>(Tr.drew hr.ok).rep (hr.sl t),hr.sz,hr.df,hr.bs,hr.gl.imp fun _ _ hh=>(Tr.drew hr.ok).rep hh⟩
 have h1:=mj (P:=P) o9 hl ops.toList 0 (Array.replicate ops.size false) st (fun j=>by simp) (by simp) (by simp) (fun j hj=>by simp [hj]) h
 have h2:=iK (ro:=none) (n:=n) (M:=M) (Q:=fun e a' w'=>e = .normal /\ ∃ st' β',Q st' /\ Rs P β' M st' a' w' /\ Tr β st.bx w β' st'.bx w') (fun i o K st a w β K' hi h hr hK=>by
  obtain ⟨st',lI,h⟩:=h
  exact jY hi h (lI.rs hr) (fun st2 β' a' w' hk cJ ht=>hK _ _ _ _ hk cJ (lI.bx.tr.trans ht))) _ _ st a w.drew β h1 cJ (fun st' β' a' w' hk rR ht=>⟨rfl,st',β',hk,rR,(Tr.drew hr.ok).trans ht⟩)
 simpa using h2
theorem ze (hm : P.follows .mixedOrders = true) {g : FuncId} {gn : Func} {cg : Code} (uV : P.funcs[g]? = some gn) (H8 : gn.body = some cg) {so : List Bool} {lg : List bO} (MP : compile cg = erase (.jP so lg [])) (rA : gn.results = #[])
 {args : List V} {bx : aa} {D : aa -> Prop} (h : lf P (fun s=>D s.bx) so lg (bW gn.ntmps args bx)) {β : Beta} {M : dP} {w : World} {vs : Array Value} (cY : eu β M bx w) (l9 : oU P β w (Fz β M bx w)) (bV : vs.size = args.length)
 (fB : ∀ (i : Nat) (c : V),args[i]? = some c -> aP β w (Fz β M bx w) c (vs.getD i undef)) {n : Nat} {u : FrameMode} :
 CallsDIn Fence.wide n P g vs u w (fun e u' w'=>u' = u /\ ∃ v β' bx',e = .returned v /\ D bx' /\ eu β' M bx' w' /\ Tr β bx w β' bx' w'):=by
 obtain ⟨id,ops,rfl,hl,rfl,iJ⟩:=p4 MP
 refine callsDIn_of_wp uV H8 trivial ?_
 have ES : eu β ⟨M.obj,w.heap.size,[]⟩ bx w:=⟨cY.fin,cY.mlt,cY.live,cY.inj⟩
 have hr : Rs P β ⟨M.obj,w.heap.size,[]⟩ (bW gn.ntmps args bx) { tmps:=vs ++ Array.replicate (gn.ntmps - vs.size) undef,defers:=[] } w:=by
  refine ⟨ES,fun t=>?_,by simp [bW]; omega,⟨[],rfl,trivial⟩,Nat.le_refl _,l9⟩
  simp only [bW,mX,Nat.zero_le,if_true,Nat.sub_zero]
  by_cases ht : t < args.length
  ·have h1 : aP β w (Fz β ⟨M.obj,w.heap.size,[]⟩ bx w) args[t] (vs.getD t undef):=fB t args[t] (List.getElem?_eq_getElem ht)
   have h2 : (vs ++ Array.replicate (gn.ntmps - vs.size) undef).getD t undef = vs.getD t undef:=by
    simp [Array.getElem?_append,show t < vs.size by omega]
   rw [h2]
   simpa [List.getD,List.getElem?_eq_getElem ht] using h1
  ·simp only [List.getD,List.getElem?_eq_none (Nat.le_of_not_lt ht),Option.getD_none]
   exact .cX _
 refine wpIn_mono (DE (n:=n) (id:=id) hm hl iJ h hr) ?_
 rintro e a' w' ⟨rfl,st',β',hk,cJ,ht⟩
 obtain ⟨ms,uq,B8⟩:=cJ.df
 have L7 : ms = []:=by
  cases ms with
  | nil=>rfl
  | cons d ds =>
    obtain ⟨D,_,h1,h2,_⟩:=B8
    have:=cY.nW (k:=D) h2
    exact absurd h1 (by simp; omega)
 subst L7
 refine ⟨by simpa using uq,.tuple #[],?_,.tuple #[],β',st'.bx,rfl,hk,⟨cJ.ok.fin,cJ.ok.mlt,cJ.ok.live,cJ.ok.inj⟩,ht⟩
 simp [results,rA]
theorem rH (hm : P.follows .mixedOrders = true) {M : dP} {f : FuncId} {fn : Func} {c : Code} (hf : P.funcs[f]? = some fn) (hb : fn.body = some c) (rD : fn.results = #[])
 {x y r : PC} {d : Tmp} {g : FuncId} {caps : Array Operand} (hc : compile c = erase (.seq x (.seq y (.seq (.bn false [⟨some d,.makeFunc (.func g) #[] caps,none,false⟩,⟨none,.defer { callee:=.value (.tmp d),args:=#[],argTypes:=#[] },none,false⟩] []) r))))
 {gn : Func} {cg : Code} (uV : P.funcs[g]? = some gn) (H8 : gn.body = some cg) {so : List Bool} {lg : List bO} (MP : compile cg = erase (.jP so lg [])) (rA : gn.results = #[]) (ue : ∀ vs w,(callFunc g vs).run P w = .ok (.enter g vs) w)
 {args : List V} {bx : aa} {D : aa -> Prop}
 (h : pw P (.seq x y) (fun e st=>e = .normal /\ du P false ⟨some d,.makeFunc (.func g) #[] caps,none,false⟩ (fun st2=>∃ cv : List V,st2.sl d = .fn (.func g) cv /\
  pw P r (fun e2 st3=>(e2 = .normal \/ e2 = .ret) /\ lf P (fun s=>∃ bx',cj s.bx bx' /\ D bx') so lg (bW gn.ntmps cv st3.bx)) st2) st) (bW fn.ntmps args bx)) :
 EP P M f args bx (fun r bx'=>r = .dh [] /\ D bx'):=by
 intro β w vs cY l9 bV fB
 refine (callsIn_wide (n:=0)).1 (callsIn_of_wp_marks hf hb trivial ?_)
 have ES : eu β ⟨M.obj,w.heap.size,[]⟩ bx w:=⟨cY.fin,cY.mlt,cY.live,cY.inj⟩
 have hr : Rs P β ⟨M.obj,w.heap.size,[]⟩ (bW fn.ntmps args bx) { tmps:=vs ++ Array.replicate (fn.ntmps - vs.size) undef,defers:=[] } w:=by
  refine ⟨ES,fun t=>?_,by simp [bW]; omega,⟨[],rfl,trivial⟩,Nat.le_refl _,l9⟩
  simp only [bW,mX,Nat.zero_le,if_true,Nat.sub_zero]
  by_cases ht : t < args.length
  ·have h1 : aP β w (Fz β ⟨M.obj,w.heap.size,[]⟩ bx w) args[t] (vs.getD t undef):=fB t args[t] (List.getElem?_eq_getElem ht)
   have h2 : (vs ++ Array.replicate (fn.ntmps - vs.size) undef).getD t undef = vs.getD t undef:=by
    simp [Array.getElem?_append,show t < vs.size by omega]
   rw [h2]
   simpa [List.getD,List.getElem?_eq_getElem ht] using h1
  ·simp only [List.getD,List.getElem?_eq_none (Nat.le_of_not_lt ht),Option.getD_none]
   exact .cX _
 cases c <;> simp only [compile,erase,reduceCtorEq] at hc
 ·split at hc <;> first | (cases hc; done) | (split at hc <;> cases hc)
 rename_i cx c1
 injection hc with WZ hc
 cases c1 <;> simp only [compile,erase,reduceCtorEq] at hc
 ·split at hc <;> first | (cases hc; done) | (split at hc <;> cases hc)
 rename_i cy c2
 injection hc with hcy hc
 cases c2 <;> simp only [compile,erase,reduceCtorEq] at hc
 ·split at hc <;> first | (cases hc; done) | (split at hc <;> cases hc)
 rename_i cd cr
 injection hc with hcd hcr
 refine wpIn_seq (wpIn_mono (eC hm (ro:=none) x cx _ _ _ (.inl rfl) WZ h 0 β _ w hr) ?_)
 rintro e a1 w1 ⟨M1,st1,β1,hq,jg,lJ,HF⟩
 cases e with
 | normal =>
   refine wpIn_seq (wpIn_mono (eC hm (ro:=none) y cy M1 _ st1 (.inl rfl) hcy hq 0 β1 a1 w1 lJ) ?_)
   rintro e2 a2 w2 ⟨M2,st2,β2,⟨rfl,LH⟩,di,rR,yR⟩
   obtain ⟨id,ops,rfl,_,iJ⟩:=qG hcd
   have MQ:=jg.trans di HF.size
   obtain ⟨o1,o2,LK⟩ : ∃ o1 o2,ops.toList = [o1,o2]:=by
    have : ops.toList.length = 2:=by simpa using (congrArg List.length iJ).symm
    exact two this
   have Tk : ops = #[o1,o2]:=by rw [<- Array.toArray_toList (xs:=ops),LK]
   subst Tk
   simp only [List.map_cons,List.map_nil,List.cons.injEq,and_true] at iJ
   obtain ⟨Ib,MR⟩:=iJ
   refine wpIn_seq (wpIn_region ?_)
   show wpOpsIn _ _ _ _ _ [0,1] _ _
   rw [wpOpsIn_cons]
   refine Fb Ib (by simp) LH rR (fun st3 β3 a3 w3 hk DF Ps=>?_)
   obtain ⟨cv,lI,IL⟩:=hk
   have Fx:=DF.sl d
   rw [lI] at Fx
   generalize hud : a3.tmps.getD d undef = ud at Fx
   cases Fx with
   | fn _ _ us hlen mf =>
   rw [wpOpsIn_cons]
   obtain ⟨dst,op,ty,pos,after,guard⟩:=o2
   have yE : guard = none:=by
    cases guard with
    | none=>rfl
    | some gw =>
      obtain ⟨g1,w1⟩:=gw
      unfold aB at MR
      dsimp only at MR
      split at MR
      ·cases MR
      ·cases MR
   subst yE
   simp only [aB,bO.jD,bO.mk.injEq] at MR
   obtain ⟨rfl,rfl,_,_⟩:=MR
   have dS : (Oper.semAt (rf none).round a3.eval ⟨none,.defer { callee:=.value (.tmp d),args:=#[],argTypes:=#[] },ty,pos,after,none⟩).run P w3 = .ok (.defer { target:=.fn (.func g) us,args:=#[] }) w3:=by
    have he : a3.eval (.tmp d) = .func (.func g) #[] us:=by simpa [Act.eval] using hud
    simp [Oper.semAt,rf,Fence.wide,execOp,resolve,Deferred.ofValue,he]
   have hi : (#[o1,(⟨none,.defer { callee:=.value (.tmp d),args:=#[],argTypes:=#[] },ty,pos,after,none⟩ : Oper)] : Array Oper)[1]? = some ⟨none,.defer { callee:=.value (.tmp d),args:=#[],argTypes:=#[] },ty,pos,after,none⟩:=by simp
   unfold wpOpIn
   simp only [hi]
   rw [if_pos (by simp [Region.wanted])]
   refine ⟨fun _ _=>trivial,?_⟩
   erw [dS]
   rw [Oper.uponIn_defer]
   obtain ⟨df,ER⟩ : ∃ df : Deferred,df = { target:=.fn (.func g) us,args:=#[] }:=⟨_,rfl⟩
   rw [<- ER]
   have aah : Rs P β3 ⟨M2.obj,w3.heap.size,df :: a3.defers⟩ st3 { tmps:=a3.tmps,defers:=df :: a3.defers } w3 :=
    ⟨⟨DF.ok.fin,DF.ok.mlt,DF.ok.live,DF.ok.inj⟩,DF.sl,DF.sz,⟨[],rfl,trivial⟩,Nat.le_refl _,DF.gl⟩
   show Code.wpIn (rf none) 0 P cr _ { tmps:=a3.tmps,defers:=df :: a3.defers } w3
   refine wpIn_mono (eC hm (ro:=none) r cr _ _ _ (.inl rfl) hcr IL 0 β3 _ w3 aah) ?_
   rintro e4 a4 w4 ⟨M4,st4,β4,⟨he,jn⟩,BY,XJ,Iz⟩
   obtain ⟨ms4,MS,aai⟩:=XJ.df
   rw [BY.df] at MS
   obtain ⟨ms3,Tl,aaj⟩:=DF.df
   rw [MQ.df,List.append_nil] at Tl
   have aak : ∀ (i : Nat) (c : V),cv[i]? = some c -> aP β4 w4 (Fz β4 M4 st4.bx w4) c (us.getD i undef):=fun i c hc=>Iz.ET BY (mf i c hc)
   have aal : ∀ k o,M2 k = some o -> k < w3.heap.size:=fun k o hk=>DF.ok.nW hk
   have fin : LeavesInM Fence.wide 0 P fn a4.tmps (fun e w'=>∃ v r bx' β',e = .returned v /\ (r = V.dh [] /\ D bx') /\ eu β' M bx' w' /\ Tr β bx w β' bx' w' /\ aP β' w' (Fz β' M bx' w') r v) a4.defers .returning w4:=by
    rw [MS]
    refine sV (M:=⟨M2.obj,w3.heap.size,df :: a3.defers⟩) (β:=β3) (w:=w3) (bx:=st3.bx) (β':=β4) (st':=st4) (cv:=cv) (us:=us) (fun M' w' hcv' QO hB' hdf' cJ wM=>?_) ms4 M4 w4 aak BY.le aal BY.base BY.df aai (by rw [<- MS]; exact XJ) Iz
    rw [ER]
    refine ⟨by simp,.inr ⟨fun h=>by simp [Fence.wide] at h,_,_,g,us,rfl,by simp [invoke,ue],fun _ _=>trivial,?_⟩⟩
    refine CallsDIn.mono (ze (D:=fun b=>∃ bx',cj b bx' /\ D bx') hm uV H8 MP rA jn cJ.ok cJ.gl hlen hcv') ?_
    rintro e5 u5 w5 ⟨rfl,v5,β5,kd,rfl,⟨rI,jB,hD⟩,hok5,ht5⟩
    show LeavesInM Fence.wide 0 P fn a4.tmps _ a3.defers .returning w5
    have DA : Tr β bx w β5 kd w5:=HF.trans (yR.trans (Ps.trans (wM.trans ht5)))
    refine qD (M:=M) (fn:=fn) (tmps:=a4.tmps) (n:=0) (β:=β) (β':=β5) (bx:=bx) (w:=w) (st':={ st4 with bx:=kd }) (Kc:=fun r bx'=>r = .dh [] /\ D bx') ?_ a3.defers ⟨M'.obj,w.heap.size,[]⟩ w5 (fun k o hk=>QO k o (MQ.le k o hk)) (fun k o hk=>cY.nW hk) rfl rfl ?_ DA
    ·refine ⟨fun r hr=>by simp [rD] at hr,rI,_,jB,.inl rfl,?_,hD⟩
     simp [rD,kq]
    ·refine ⟨⟨hok5.fin,hok5.mlt,hok5.live,hok5.inj⟩,fun t=>ht5.rep (cJ.sl t),cJ.sz,⟨ms3,by simpa using Tl,?_⟩,DA.size,cJ.gl.imp (fun _ _ hh=>ht5.rep hh) ht5.shape⟩
     have h5 : Marks M2.base M'.obj ms3:=aaj.mono QO
     rw [MQ.base] at h5
     exact h5
   rcases he with rfl | rfl
   ·exact fin
   ·exact fin
 | _=>exact absurd hq.1 (by simp)
end
end Go.Pl
namespace Go.Pl
open Go Go.Lib
variable {P : Program}
end Go.Pl
namespace Go.Pl
open Go
section
variable {P : Program}
def BZ (P : Program) (g : V) (w : Bool) (k : uJ) (len : Nat) (ps : List (Nat × V)) (o : Option Tmp) (K : St -> Prop) (st : St) : Prop :=
 match g.strip with
 | .bool c=>((g.ax && (c == w)) = true -> AJ P k len ps o K st) /\ ((g.ax && (c == w)) = false -> aJ st o /\ K (st.put o (.dead .cX)))
 | _=>False
@[go_sem ↓] theorem Q4 (d : Bool) (o : Option Tmp) (t : TypeId) (len : Nat) (parts : Array (Nat × Operand)) (s : Nat) (w : Bool) (K : St -> Prop) (st : St) : du P d ⟨o,.buildSlice t len parts,some (s,w),false⟩ K st = BZ P (st.sl s) w (bu P t) len (jG st parts.toList) o K st:=by
 have e0 : du P d ⟨o,.buildSlice t len parts,none,false⟩ K st = AJ P (bu P t) len (jG st parts.toList) o K st:=by simp only [go_sem]
 have e1 : aH P d (bO.oper ⟨o,.buildSlice t len parts,some (s,w),false⟩) K st = AJ P (bu P t) len (jG st parts.toList) o K st:=by
  rw [<- e0]; rfl
 unfold BZ
 show eZ P d ⟨o,.buildSlice t len parts,some (s,w),false⟩ K st = _
 unfold eZ
 simp only [yieldOf]
 generalize (st.sl s).strip = v
 cases v <;> try rfl
 rename_i c
 have bp : bU (Op.buildSlice t len parts) = false:=rfl
 simp only [bp,Bool.false_eq_true,if_false]
 unfold dX p3
 simp only [bp,Bool.false_eq_true,if_false]
 rw [e1]
 exact propext ⟨fun h=>h.elim id (fun h=>h.2),fun h=>.inl h⟩
@[go_sem] theorem MT (c w : Bool) (k : uJ) (len : Nat) (ps : List (Nat × V)) (o : Option Tmp) (K : St -> Prop) (st : St) : BZ P (.bool c) w k len ps o K st = (((c == w) = true -> AJ P k len ps o K st) /\ ((c == w) = false -> aJ st o /\ K (st.put o (.dead .cX)))):=by
 simp only [BZ,ti,vd,Bool.true_and]
end
end Go.Pl
namespace Go.Pl
open Go Go.RowKit Go.ChangeShapes Go.WideShapes Go.ChangeAt
def IM : aa:=fun b=>if b = 0 then some (.row 0 0 []) else none
section
variable {H : Type} {enc : TypeId × Value -> H} {P : Program} {w : World} {spare : Nat -> Bool} {held : Bool}
end
end Go.Pl
namespace Go.Pl
open Go Go.RowKit Go.ChangeShapes Go.WideShapes Go.ChangeAt
section
variable {H : Type} {enc : TypeId × Value -> H} {P : Program} {w : World} {spare : Nat -> Bool} {held : Bool}
theorem wV {g : Nat} {name : String} {k : IntKind} {zs : List Int} (hg : P.globalNamed name = some g) {W : World} (ht : Lib.TabIs P W name k zs) {β : Beta} {b : Nat} (bL : β b = some (some g)) (hl : zs.length <= maxLen) :
 aP β W (iW W) (.ep (.agg (zs.map (.int k))) 0) (.pointer (some ⟨g,0,none⟩)) /\ aP β W (iW W) (.own b 1 0 zs.length) (.slice (some ⟨g,0,none⟩) zs.length zs.length) /\ ∃ ty,W.shape? g = some (ty,zs.length):=by
 unfold Lib.TabIs World.var? at ht
 rw [hg] at ht
 simp only [Option.bind_some] at ht
 cases hh : W.heap[g]? with
 | none=>rw [hh] at ht; cases ht
 | some o =>
   rw [hh] at ht
   cases o with
   | cells cur ty fr =>
     simp only [Option.some.injEq] at ht
     have dt : g < W.heap.size:=(Array.getElem?_eq_some_iff.1 hh).1
     have bV : cur.size = zs.length:=by rw [ht]; simp
     have aV : ∀ j,j < zs.length -> cur[j]? = some (.int k (zs.getD j 0)):=by
      intro j hj
      rw [ht]
      simp [hj]
     have wx : ∀ j,(⟨g,0,none⟩ : Addr).add j = ⟨g,j,none⟩:=fun j=>by unfold Addr.add; by_cases h : j = 0 <;> simp [h]
     refine ⟨?_,?_,ty,by rw [bJ hh,bV]⟩
     ·have:=aP.ep (β:=β) (w:=W) (F:=iW W) (.agg (zs.map (.int k))) 0 ⟨g,0,none⟩ (fun j=>.int k (zs.getD j 0)) (fun j c hc=>?_) (fun j c hc=>?_)
      ·rw [wx] at this; exact this
      ·simp only [V.cells,List.getElem?_map,Option.map_eq_some_iff] at hc
       obtain ⟨i,hi,rfl⟩:=hc
       have hj : j < zs.length:=(List.getElem?_eq_some_iff.1 hi).1
       exact ⟨_,rfl,dt,by rw [wx]; simp only [World.cell?,hh]; simpa using aV j hj,rfl⟩
      ·simp only [V.cells,List.getElem?_map,Option.map_eq_some_iff] at hc
       obtain ⟨i,hi,rfl⟩:=hc
       have : zs.getD j 0 = i:=by simp [List.getD,hi]
       rw [this]
       exact .int _ _
     ·have:=aP.own (β:=β) (w:=W) (F:=iW W) b 1 0 zs.length g zs.length cur.size ty bL (bJ hh) (by omega) (Nat.le_refl _) (by simpa using hl)
      simpa using this
   | _=>simp at ht
def AP (g1 g2 g3 : Nat) : Beta:=fun b=>if b = 0 then some none else if b = 1 then some (some g1) else if b = 2 then some (some g2) else if b = 3 then some (some g3) else none
theorem Fy {g1 g2 g3 : Nat} (h1 : P.globalNamed "internal/strconv.uint64pow10" = some g1) (h2 : P.globalNamed "math/bits.deBruijn64tab" = some g2) (h3 : P.globalNamed "strings.asciiSpace" = some g3) {W : World} (t1 : Lib.TabIs P W "internal/strconv.uint64pow10" .u64 Lib.pow10Tab)
 (t2 : Lib.TabIs P W "math/bits.deBruijn64tab" .u8 [0,1,56,2,57,49,28,3,61,58,42,50,38,29,17,4,62,47,59,36,45,43,51,22,53,39,33,30,24,18,12,5,63,55,48,27,60,41,37,16,46,35,44,21,52,32,23,11,54,26,40,15,34,20,31,10,25,14,19,9,13,8,7,6]) (t3 : Lib.TabIs P W "strings.asciiSpace" .u8 Lib.asciiSpaceTab) : oU P (AP g1 g2 g3) W (iW W):=by
 have r1:=wV h1 t1 (β:=AP g1 g2 g3) (b:=1) rfl (by decide)
 have r2:=wV h2 t2 (β:=AP g1 g2 g3) (b:=2) rfl (by decide)
 have r3:=wV h3 t3 (β:=AP g1 g2 g3) (b:=3) rfl (by rw [Lib.asciiSpaceTab_length]; decide)
 have e1 : (List.range 20).map (fun i=>V.int .u64 ((10 ^ i : Nat) : Int)) = Lib.pow10Tab.map (.int .u64):=by unfold Lib.pow10Tab; rw [List.map_map]; rfl
 intro g
 unfold Ly yr
 by_cases k1 : g = g1
 ·subst k1
  rw [List.find?_cons_of_pos (by simpa using h1)]
  rw [e1]
  refine ⟨r1.1,fun vs ju=>⟨1,?_⟩⟩
  injection ju with ju _
  injection ju with ju
  subst ju
  exact ⟨by simpa using r1.2.1,by simpa using r1.2.2⟩
 ·rw [List.find?_cons_of_neg (by simp [h1]; exact fun e=>k1 e.symm)]
  by_cases k2 : g = g2
  ·subst k2
   rw [List.find?_cons_of_pos (by simpa using h2)]
   refine ⟨r2.1,fun vs ju=>⟨2,?_⟩⟩
   injection ju with ju _
   injection ju with ju
   subst ju
   exact ⟨by simpa using r2.2.1,by simpa using r2.2.2⟩
  ·rw [List.find?_cons_of_neg (by simp [h2]; exact fun e=>k2 e.symm)]
   by_cases k3 : g = g3
   ·subst k3
    rw [List.find?_cons_of_pos (by simpa using h3)]
    refine ⟨r3.1,fun vs ju=>⟨3,?_⟩⟩
    injection ju with ju _
    injection ju with ju
    subst ju
    exact ⟨by simpa using r3.2.1,by simpa using r3.2.2⟩
   ·rw [List.find?_cons_of_neg (by simp [h3]; exact fun e=>k3 e.symm)]
    exact ⟨.cX _,fun vs h=>by cases h⟩
theorem nM {f : FuncId} {fn : Func} {s : ChangeSpec} {apart fresh handsOn again : Bool} {W : World} {args : Array Value} {ds gs : List (DataW H)} {before : List MemPlace} {base : Nat} {r : Reach} (n : Nat) {tb : TypeId}
 (hl : laidOutB P = true) (WY : (fn.params.toList.all fun t=>gD P n t && P.readableRec t && decide (t < P.types.size)) = true) (hv : s.vars = [])
 (hfn : ∀ ds : List (DataW H),ds.length = fn.params.toList.length -> s.fn H (ds ++ []) = { results:=[.lit (.bool true)],args:=ds }) (Tm : fn.resultTypes = #[tb]) (htb : P.underlying tb = some .bool)
 (hval : ∀ (j : Nat) t v,fn.params[j]? = some t -> args[j]? = some v -> Value.okWide P W r base t v)
 (hW : DataW.Whole enc P fn.params.toList s.vars apart W args.toList ds gs before)
 {B : Beta} {nB : Nat} (Q5 : B 0 = some none) (hBn : ∀ b,nB <= b -> B b = none) (l9 : oU P B W (iW W))
 (hc : ∀ vs : List V,wT P n fn.params.toList vs -> aw P f vs IM fun r _=>r = .bool true) :
 Calls P f args W fun e W'=>∃ v,e = .returned v /\ s.post enc P fn apart fresh handsOn again W args v W':=by
 have hW0:=hW
 obtain ⟨p,q,hA,hV,hpq,rC,rO⟩:=hW
 rw [hv] at hV
 have QP : gs = [] /\ q = []:=by
  cases gs with
  | nil=>exact ⟨rfl,hV⟩
  | cons=>simp [DataW.TrodVars] at hV
 obtain ⟨rfl,rfl⟩:=QP
 rw [List.append_nil] at hpq
 subst hpq
 have MU : ∀ t,t ∈ fn.params.toList -> gD P n t = true /\ P.readableRec t = true /\ t < P.types.size:=by
  intro t ht
  have:=List.all_eq_true.1 WY t ht
  simpa [Bool.and_eq_true,and_assoc] using this
 obtain ⟨vs,h1,h2,h3,h4,h5⟩:=tn (β:=fun _=>none) (n:=n) (r:=r) (base:=base) fn.params.toList args.toList ds before (fun t ht=>(MU t ht).1) (fun j t v a b=>hval j t v (by simpa using a) (by simpa using b)) hA
 let M : dP:=⟨fun _=>none,W.heap.size,[]⟩
 have oP : ∀ b,IM b ≠ none -> b = 0:=fun b hb=>by
  unfold IM at hb
  split at hb
  ·assumption
  ·exact absurd rfl hb
 have cY : eu B M IM W:=⟨⟨nB,hBn⟩,fun k o h=>(by cases h),fun b box h=>(by
  have h0:=oP b (by rw [h]; simp)
  subst h0
  have : box = .row 0 0 []:=by simpa [IM] using h.symm
  subst this
  exact .inl ⟨Q5,rfl⟩),fun b b' k h h' _ _=>by rw [oP b h,oP b' h']⟩
 have hF : ∀ k,Fz B M IM W k ↔ iW W k:=fun k=>⟨fun h=>h.1,fun h=>⟨h,rfl,fun b hb he=>by
  have h0:=oP b hb
  subst h0
  rw [Q5] at he
  cases he⟩⟩
 have dt:=hA.lt
 refine ((hc vs h5).2 B M W args cY (l9.imp fun _ _ hh=>hh.mono (fun _ _ h=>h) (fun k hk=>⟨(hF k).2 hk,rfl⟩) (fun _ _ h=>h)) (by simpa using h1.symm) (fun i c hi=>?_)).mono ?_
 ·have yh : i < args.size:=by have:=(List.getElem?_eq_some_iff.1 hi).1; simpa [h1] using this
  have:=h4 i c args[i] hi (by simp [yh])
  have:=this.mono (β':=B) (w':=W) (F':=Fz B M IM W) (fun _ _ h=>by cases h) (fun k hk=>⟨(hF k).2 hk,rfl⟩) (fun _ _ h=>h)
  simpa [yh] using this
 ·rintro e W' ⟨v,r',bx',β',rfl,rfl,sO,ja,bN⟩
  cases bN
  have hb : Below W.heap.size W W':=⟨ja.os,ja.tape,ja.output,ja.size,fun k hk=>ja.ch k hk fun b hb he=>by
   have h0:=oP b hb
   subst h0
   rw [Q5] at he
   cases he⟩
  refine ⟨_,rfl,ds,[],before,[],before,[],hW0,?_,?_,?_,hb.frame _,fun _=>?_⟩
  ·rw [hfn ds h3,Tm]
   exact trodAll_cons_mk (⟨1,by simp [DataW.trod,Value.cells,htb]⟩ : DataW.Trod enc P _ _ _ _ _ (.bool true) (.lit (.bool true)) []) trodAll_mk0
  ·rw [hfn ds h3]
   exact kr hl hb (fun t ht=>(MU t ht).2) (fun x hx=>⟨dt x hx,by simpa using dt x hx⟩) hA
  ·rw [hv]
   have : (s.fn H (ds ++ [])).vars = []:=by rw [hfn ds h3]
   rw [this]; rfl
  ·refine ⟨RowKit.ok_one Tm rfl (RowKit.okWide_bool_mk htb _),_,[],[] ++ before,⟨[] ++ before,[],trodAll_append (kr hl hb (fun t ht=>(MU t ht).2) (fun x hx=>⟨dt x hx,rfl⟩) hA) (ds:=[.lit (.bool true)]) (p:=[]) ?_,?_,by simp,?_,?_⟩,?_⟩
   ·rw [Tm]; exact trodAll_cons_mk (⟨1,by simp [DataW.trod,Value.cells,htb]⟩ : DataW.Trod enc P _ _ _ _ _ (.bool true) (.lit (.bool true)) []) trodAll_mk0
   ·rw [hv]; rfl
   ·intro b off hp
    have qA : MemPlace.cell b off ∈ before:=by simpa using hp
    rw [hb.frozen (p:=⟨b,off,none⟩) (dt _ qA)]
    exact rC b off qA
   ·intro ha; simpa using rO ha
   ·intro p hp _; simpa using hp
end
end Go.Pl
