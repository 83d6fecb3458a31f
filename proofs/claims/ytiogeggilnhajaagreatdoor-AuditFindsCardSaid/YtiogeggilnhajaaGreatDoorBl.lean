/- Texts of the proof, put together: XI, XJ, XY, XB, WA, WE, WB, WD, WF. -/
import Derived.Test.YtiogeggilnhajaaGreatDoorBj
import Derived.Test.YtiogeggilnhajaaGreatDoorBk
import Derived.Test.YtiogeggilnhajaaGreatDoorRows
import Derived.Test.YtiogeggilnhajaaGreatDoorTie
import Derived.Test.YtiogeggilnhajaaGreatDoorCards
import Derived.Test.YtiogeggilnhajaaGreatDoorBe
import Derived.WalkKit
import Derived.ProofKit
import Derived.Lay
import Derived.LaidOnce
import Derived.SevenTiedAt
set_option maxHeartbeats 8000000
set_option linter.unusedVariables false
set_option linter.unusedSimpArgs false
set_option maxRecDepth 100000
namespace Go.Proofs
open Go Go.Pl Go.RowKit Go.Shelf Tryz
end Go.Proofs
namespace Go.Proofs
open Go Go.Pl Tryz
theorem CO {L : List fb} {l : List Ex} {n : Int} (h : Ei L l n = false) : L.length <= 20 /\ ((l.length : Int) <= n \/ 2000 < l.length) /\ l.length <= 2010:=by
 unfold Ei at h
 simp only [Bool.or_eq_false_iff,Bool.and_eq_false_iff,decide_eq_false_iff_not] at h
 omega
end Go.Proofs
namespace Go.Proofs.YtiogeggilnhajaaGreatDoor
open Go Go.Pl Go.Proofs Tryz
open Go.ChangeShapes Go.WideShapes Go.ChangeAt Go.RowKit
theorem own : ownKnob prog.godebug = none:=by kernel_rfl
theorem len8 {α : Type} {l : List α} (h : l.length = 8) : ∃ a b c d e f g i,l = [a,b,c,d,e,f,g,i]:=by
 obtain _ | ⟨a,_ | ⟨b,_ | ⟨c,_ | ⟨d,_ | ⟨e,_ | ⟨f,_ | ⟨g,_ | ⟨i,_ | ⟨j,l⟩⟩⟩⟩⟩⟩⟩⟩⟩:=l <;> simp at h
 exact ⟨a,b,c,d,e,f,g,i,rfl⟩
theorem Hq {n : Nat} {xs : List V} (h : eD prog n 3 xs) : ∃ i : Int,xs = [iI i] /\ -9223372036854775808 <= i /\ i <= 9223372036854775807:=by
 obtain ⟨i,rfl,hw⟩:=h.int aam
 simp [Lit.wf,IntKind.min,IntKind.max,IntKind.signed,IntKind.bits] at hw
 exact ⟨i,rfl,by omega⟩
theorem Ep {n : Nat} {xs : List V} (h : eD prog n 2 xs) : ∃ i : Int,xs = [iI i]:=by
 obtain ⟨i,rfl,hw⟩:=h.int Tn
 exact ⟨i,rfl⟩
theorem hasB {n : Nat} {xs : List V} (h : eD prog n 4 xs) : ∃ b : Bool,xs = [.bool b]:=h.bool aao
theorem OK {n : Nat} {xs : List V} (h : eD prog (n + 1) 111 xs) : ∃ m : fb,.agg xs = bT m:=by
 obtain ⟨x,y,z,u,rfl⟩:=aag (h.len.trans AR)
 have h0:=h.cz wX F8
 have h1:=h.cz wX F9
 have h2:=h.cz wX FA
 have h3:=h.cz wX FB
 rw [IN] at h0 h1
 rw [AQ] at h2 h3
 obtain ⟨a,ha,_⟩:=Hq h0
 obtain ⟨b,hb,_⟩:=Hq h1
 obtain ⟨c,hc⟩:=Ep h2
 obtain ⟨d,hd⟩:=Ep h3
 simp at ha hb hc hd
 subst ha hb hc hd
 exact ⟨⟨a,b,c,d⟩,rfl⟩
theorem JX {n : Nat} {xs : List V} (h : eD prog (n + 2) 22 xs) : ∃ l : List fb,xs = [.sl 4 (l.map bT)]:=by
 obtain ⟨l,h,hl⟩:=eD.slice (r:=bT) KN h fun ys hy=>by
  obtain ⟨f,hf⟩:=OK hy
  exact ⟨f,by rw [rW Jd]; exact hf⟩
 rw [AR] at h
 exact ⟨l,h⟩
theorem iL {P : Program} {W : World} {name : String} {k : IntKind} {zs : List Int} {g : Nat} {t e : TypeId} {n : Nat}
 (hg : P.globalNamed name = some g) (ga : (P.globals[g]?).map (·.type) = some t) (ht : P.underlying t = some (.array n e)) (he : P.underlying e = some (.int k)) (HR : P.cellsOf e = 1) (hct : P.cellsOf t = n) :
 ∀ (laid : List (String × DataW Unit)) (ps : List MemPlace),(name,Lib.tabData k zs) ∈ laid -> DataW.LaidVars P W laid ps -> Lib.TabIs P W name k zs
 | [],_,hm,_=>by simp at hm
 | (n',d') :: r,ps,hm,h=>by
   obtain ⟨g',t',cs,fuel,p,q,yi,wM,adw,hd,hr,_⟩:=h
   rcases List.mem_cons.1 hm with e1 | e1
   ·injection e1 with e1 e2
    subst e1 e2
    obtain rfl:=Option.some.inj (hg.symm.trans yi)
    obtain rfl:=Option.some.inj (ga.symm.trans wM)
    unfold Lib.TabIs
    rw [adw,<- Lib.cells_of_tab ht he HR hct hd]
   ·exact iL hg ga ht he HR hct r q e1 hr
def adx : List Int:=[0,1,56,2,57,49,28,3,61,58,42,50,38,29,17,4,62,47,59,36,45,43,51,22,53,39,33,30,24,18,12,5,63,55,48,27,60,41,37,16,46,35,44,21,52,32,23,11,54,26,40,15,34,20,31,10,25,14,19,9,13,8,7,6]
theorem Hr : (Rows.laid_math_bits_deBruijn64tab : DataW Unit) = Lib.tabData .u8 adx:=by kernel_rfl
theorem Hs : (Rows.laid_internal_strconv_uint64pow10 : DataW Unit) = Lib.tabData .u64 Lib.pow10Tab:=by kernel_rfl
theorem JY : (Rows.laid_strings_asciiSpace : DataW Unit) = Lib.tabData .u8 Lib.asciiSpaceTab:=by kernel_rfl
theorem Ht {g1 g2 g3 : Nat} : ∀ b,4 <= b -> AP g1 g2 g3 b = none:=fun b hb=>by unfold AP; rw [if_neg (by omega),if_neg (by omega),if_neg (by omega),if_neg (by omega)]
theorem CP {laid : List (String × DataW Unit)} (h1 : ("math/bits.deBruijn64tab",(Rows.laid_math_bits_deBruijn64tab : DataW Unit)) ∈ laid) (h2 : ("internal/strconv.uint64pow10",(Rows.laid_internal_strconv_uint64pow10 : DataW Unit)) ∈ laid) (h0 : ("strings.asciiSpace",(Rows.laid_strings_asciiSpace : DataW Unit)) ∈ laid)
 (hp : (laid.all fun x=>x.2.handleName?.isNone) = true) {W : World} (h : laidMetH prog laid W) : oU prog (AP 2 4 0) W (iW W):=by
 rw [MakeChecks.laidMetH_plain _ _ _ hp] at h
 obtain ⟨ps,h3,_⟩:=h
 rw [Hr] at h1
 rw [Hs] at h2
 rw [JY] at h0
 exact Fy (by kernel_rfl) (by kernel_rfl) (by kernel_rfl)
  (iL (g:=2) (t:=275) (e:=255) (n:=20) (by kernel_rfl) (by kernel_rfl) (by kernel_rfl) (by kernel_rfl) (by kernel_rfl) (by kernel_rfl) laid ps h2 h3)
  (iL (g:=4) (t:=288) (e:=5) (n:=64) (by kernel_rfl) (by kernel_rfl) (by kernel_rfl) (by kernel_rfl) (by kernel_rfl) (by kernel_rfl) laid ps h1 h3)
  (iL (g:=0) (t:=166) (e:=5) (n:=256) (by kernel_rfl) (by kernel_rfl) (by kernel_rfl) (by kernel_rfl) (by kernel_rfl) (by kernel_rfl) laid ps h0 h3)
end Go.Proofs.YtiogeggilnhajaaGreatDoor
namespace Go.Proofs
open Go Go.Pl Tryz
def bZ {α : Type} (l : List (Int × α)) (k : Int) (d : α) : α:=match jS l k with | some j=>(l.getD j (0,d)).2 | none=>d
theorem tQ {α : Type} (p : Int × α) (l : List (Int × α)) (k : Int) : jS (p :: l) k = if p.1 = k then some 0 else (jS l k).map (· + 1):=by
 unfold jS
 rw [List.findIdx?_cons]
 by_cases h : p.1 = k <;> simp [h]
theorem fS {α : Type} (p : Int × α) (l : List (Int × α)) (k : Int) (d : α) : bZ (p :: l) k d = if p.1 = k then p.2 else bZ l k d:=by
 unfold bZ
 rw [tQ]
 by_cases h : p.1 = k
 ·rw [if_pos h,if_pos h]; rfl
 ·rw [if_neg h,if_neg h]
  cases jS l k <;> rfl
theorem qw {α : Type} (p : Int × α) (l : List (Int × α)) (k : Int) (x : α) : jk (p :: l) k x = if p.1 = k then (k,x) :: l else p :: jk l k x:=by
 unfold jk
 rw [tQ]
 by_cases h : p.1 = k
 ·rw [if_pos h,if_pos h]; rfl
 ·rw [if_neg h,if_neg h]
  cases jS l k <;> rfl
theorem qx {α : Type} (p : Int × α) (l : List (Int × α)) (k : Int) : nC (p :: l) k = if p.1 = k then l else p :: nC l k:=by
 unfold nC
 rw [tQ]
 by_cases h : p.1 = k
 ·rw [if_pos h,if_pos h]; rfl
 ·rw [if_neg h,if_neg h]
  cases jS l k <;> rfl
theorem tR {α : Type} (k : Int) (x d : α) (c : Int) : ∀ l : List (Int × α),bZ (jk l k x) c d = if c = k then x else bZ l c d
 | []=>by
   show bZ [(k,x)] c d = _
   rw [fS]
   by_cases h : c = k
   ·rw [if_pos h,if_pos h.symm]
   ·rw [if_neg h,if_neg (fun e=>h e.symm)]
 | p :: l=>by
   rw [qw]
   have ih:=tR k x d c l
   by_cases h : p.1 = k
   ·rw [if_pos h,fS,fS]
    by_cases h2 : c = k
    ·rw [if_pos h2,if_pos h2.symm]
    ·rw [if_neg h2,if_neg (fun e=>h2 e.symm),if_neg (fun e=>h2 (e.symm.trans h))]
   ·rw [if_neg h,fS,fS,ih]
    by_cases h2 : p.1 = c
    ·rw [if_pos h2,if_pos h2,if_neg (fun e=>h (h2.trans e))]
    ·rw [if_neg h2,if_neg h2]
theorem vL {α : Type} (c : Int) (d : α) : ∀ l : List (Int × α),c ∉ l.map (·.1) -> bZ l c d = d
 | [],_=>rfl
 | p :: l,h=>by
   simp only [List.map_cons,List.mem_cons,not_or] at h
   rw [fS,if_neg (fun e=>h.1 e.symm),vL c d l h.2]
theorem tS {α : Type} (k : Int) (d : α) (c : Int) : ∀ l : List (Int × α),(l.map (·.1)).Nodup -> bZ (nC l k) c d = if c = k then d else bZ l c d
 | [],_=>by
   show d = _
   split <;> rfl
 | p :: l,hn=>by
   simp only [List.map_cons,List.nodup_cons] at hn
   rw [qx]
   have ih:=tS k d c l hn.2
   by_cases h : p.1 = k
   ·rw [if_pos h,fS]
    by_cases h2 : c = k
    ·rw [if_pos h2]
     exact vL _ _ _ (by rw [h2,<- h]; exact hn.1)
    ·rw [if_neg h2,if_neg (fun e=>h2 (e.symm.trans h))]
   ·rw [if_neg h,fS,fS,ih]
    by_cases h2 : p.1 = c
    ·rw [if_pos h2,if_pos h2,if_neg (fun e=>h (h2.trans e))]
    ·rw [if_neg h2,if_neg h2]
theorem tT {α : Type} (k : Int) (x : α) (c : Int) : ∀ l : List (Int × α),c ∈ (jk l k x).map (·.1) ↔ c = k \/ c ∈ l.map (·.1)
 | []=>by show c ∈ [k] ↔ _; simp
 | p :: l=>by
   rw [qw]
   have ih:=tT k x c l
   by_cases h : p.1 = k
   ·rw [if_pos h]
    simp only [List.map_cons,List.mem_cons,h]
    exact ⟨fun q=>q.elim .inl fun q=>.inr (.inr q),fun q=>q.elim .inl fun q=>q⟩
   ·rw [if_neg h]
    simp only [List.map_cons,List.mem_cons]
    rw [ih]
    constructor
    ·rintro (q | q | q)
     ·exact .inr (.inl q)
     ·exact .inl q
     ·exact .inr (.inr q)
    ·rintro (q | q | q)
     ·exact .inr (.inl q)
     ·exact .inl q
     ·exact .inr (.inr q)
theorem tU {α : Type} (k : Int) (c : Int) : ∀ l : List (Int × α),(l.map (·.1)).Nodup -> (c ∈ (nC l k).map (·.1) ↔ c ≠ k /\ c ∈ l.map (·.1))
 | [],_=>by show c ∈ [] ↔ _; simp
 | p :: l,hn=>by
   simp only [List.map_cons,List.nodup_cons] at hn
   rw [qx]
   have ih:=tU k c l hn.2
   by_cases h : p.1 = k
   ·rw [if_pos h]
    simp only [List.map_cons,List.mem_cons]
    constructor
    ·intro q
     exact ⟨fun e=>hn.1 (by rw [h,<- e]; exact q),.inr q⟩
    ·rintro ⟨q1,q2 | q2⟩
     ·exact absurd (q2.trans h) q1
     ·exact q2
   ·rw [if_neg h]
    simp only [List.map_cons,List.mem_cons]
    rw [ih]
    constructor
    ·rintro (q | q)
     ·exact ⟨fun e=>h (q.symm.trans e),.inl q⟩
     ·exact ⟨q.1,.inr q.2⟩
    ·rintro ⟨q1,q2 | q2⟩
     ·exact .inl q2
     ·exact .inr ⟨q1,q2⟩
theorem vM {α : Type} (k : Int) (x : α) : ∀ l : List (Int × α),(l.map (·.1)).Nodup -> ((jk l k x).map (·.1)).Nodup
 | [],_=>by show [k].Nodup; simp
 | p :: l,hn=>by
   simp only [List.map_cons,List.nodup_cons] at hn
   rw [qw]
   by_cases h : p.1 = k
   ·rw [if_pos h]
    simp only [List.map_cons,List.nodup_cons]
    exact ⟨by rw [<- h]; exact hn.1,hn.2⟩
   ·rw [if_neg h]
    simp only [List.map_cons,List.nodup_cons]
    refine ⟨fun q=>?_,vM k x l hn.2⟩
    rcases (tT k x p.1 l).1 q with q | q
    ·exact h q
    ·exact hn.1 q
theorem vN {α : Type} (k : Int) : ∀ l : List (Int × α),(l.map (·.1)).Nodup -> ((nC l k).map (·.1)).Nodup
 | [],_=>by show ([] : List Int).Nodup; simp
 | p :: l,hn=>by
   simp only [List.map_cons,List.nodup_cons] at hn
   rw [qx]
   by_cases h : p.1 = k
   ·rw [if_pos h]; exact hn.2
   ·rw [if_neg h]
    simp only [List.map_cons,List.nodup_cons]
    exact ⟨fun q=>hn.1 ((tU k p.1 l hn.2).1 q).2,vN k l hn.2⟩
def Hu : IP:=⟨true,false,false⟩
def By : IP:=⟨false,true,false⟩
def QH : IP:=⟨false,false,true⟩
structure PL (bl : List (List Int × List Int)) (lz : List (Option Int)) (bz : List (Int × IP)) (wh : List (Int × Int)) : Prop where
 ng : ∀ (c : Int) (i : Nat) b,bl[i]? = some b -> (c ∈ b.1 ↔ (bZ bz c dB).au = true /\ bZ wh c 0 = i)
 ik : ∀ (c : Int) (i : Nat) b,bl[i]? = some b -> (c ∈ b.2 ↔ (bZ bz c dB).waits = true /\ bZ wh c 0 = i)
 QI : ∀ c,some c ∈ lz ↔ (bZ bz c dB).aU = true
 one : ∀ c,bZ bz c dB = dB \/ bZ bz c dB = Hu \/ bZ bz c dB = By \/ bZ bz c dB = QH
 QJ : ∀ c,c ∈ bz.map (·.1) ↔ bZ bz c dB ≠ dB
 rng : ∀ c,(bZ bz c dB).au = true \/ (bZ bz c dB).waits = true -> ∃ i : Nat,i < bl.length /\ bZ wh c 0 = i
 Zy : ∀ (i j : Nat) c,lz[i]? = some (some c) -> lz[j]? = some (some c) -> i = j
 Lt : ∀ b,b ∈ bl -> b.1.Nodup
 key : (bz.map (·.1)).Nodup
theorem PL.to {bl : List (List Int × List Int)} {lz : List (Option Int)} {bz : List (Int × IP)} {wh : List (Int × Int)} (h : PL bl lz bz wh) {call : Int} {bk : Nat} (cZ : bk < bl.length) {q : IP} (hq : q = dB \/ q = Hu \/ q = By \/ q = QH)
 {bl' : List (List Int × List Int)} {lz' : List (Option Int)} {bz' : List (Int × IP)} {wh' : List (Int × Int)}
 (hz : bz' = if q = dB then nC bz call else jk bz call q) (hw : wh' = if q = dB then wh else jk wh call bk)
 (hlen : bl'.length = bl.length)
 (hd : ∀ (i : Nat) b b',bl[i]? = some b -> bl'[i]? = some b' -> (∀ c,c ≠ call -> (c ∈ b'.1 ↔ c ∈ b.1) /\ (c ∈ b'.2 ↔ c ∈ b.2)) /\ (call ∈ b'.1 ↔ q.au = true /\ bk = i) /\ (call ∈ b'.2 ↔ q.waits = true /\ bk = i) /\ b'.1.Nodup)
 (hl : ∀ c,c ≠ call -> (some c ∈ lz' ↔ some c ∈ lz)) (iJ : some call ∈ lz' ↔ q.aU = true)
 (hu : ∀ (i j : Nat) c,lz'[i]? = some (some c) -> lz'[j]? = some (some c) -> i = j) : PL bl' lz' bz' wh':=by
 have gz : ∀ c,bZ bz' c dB = if c = call then q else bZ bz c dB:=fun c=>by
  rw [hz]
  by_cases e : q = dB
  ·rw [if_pos e,tS _ _ _ _ h.key,e]
  ·rw [if_neg e,tR]
 have gw : ∀ c,bZ wh' c 0 = if q = dB then bZ wh c 0 else if c = call then (bk : Int) else bZ wh c 0:=fun c=>by
  rw [hw]
  by_cases e : q = dB
  ·rw [if_pos e,if_pos e]
  ·rw [if_neg e,if_neg e,tR]
 have gk : ∀ c,c ∈ bz'.map (·.1) ↔ if c = call then q ≠ dB else c ∈ bz.map (·.1):=fun c=>by
  rw [hz]
  by_cases e : q = dB
  ·rw [if_pos e,tU _ _ _ h.key]
   by_cases e2 : c = call
   ·rw [if_pos e2]; exact ⟨fun x=>absurd e2 x.1,fun x=>absurd e x⟩
   ·rw [if_neg e2]; exact ⟨fun x=>x.2,fun x=>⟨e2,x⟩⟩
  ·rw [if_neg e,tT]
   by_cases e2 : c = call
   ·rw [if_pos e2]; exact ⟨fun _=>e,fun _=>.inl e2⟩
   ·rw [if_neg e2]; exact ⟨fun x=>x.elim (fun y=>absurd y e2) fun y=>y,.inr⟩
 have hold : ∀ (i : Nat) b',bl'[i]? = some b' -> ∃ b,bl[i]? = some b:=fun i b' hb=>by
  have:=(List.getElem?_eq_some_iff.1 hb).1
  exact ⟨bl[i],List.getElem?_eq_getElem (by omega)⟩
 have qd0 : q.au = true \/ q.waits = true -> q ≠ dB:=by rintro (e | e) e2 <;> rw [e2] at e <;> cases e
 refine ⟨fun c i b' aQ=>?_,fun c i b' aQ=>?_,fun c=>?_,fun c=>?_,fun c=>?_,fun c hc=>?_,hu,fun b' aQ=>?_,?_⟩
 ·obtain ⟨b,hb⟩:=hold i b' aQ
  obtain ⟨h1,h2,h3,h4⟩:=hd i b b' hb aQ
  rw [gz,gw]
  by_cases e : c = call
  ·rw [if_pos e,e,h2]
   constructor
   ·rintro ⟨a,a2⟩
    exact ⟨a,by rw [if_neg (qd0 (.inl a)),if_pos rfl,a2]⟩
   ·rintro ⟨a,a2⟩
    rw [if_neg (qd0 (.inl a)),if_pos rfl] at a2
    exact ⟨a,by omega⟩
  ·rw [if_neg e,if_neg e,(h1 c e).1,h.ng c i b hb]
   split <;> exact Iff.rfl
 ·obtain ⟨b,hb⟩:=hold i b' aQ
  obtain ⟨h1,h2,h3,h4⟩:=hd i b b' hb aQ
  rw [gz,gw]
  by_cases e : c = call
  ·rw [if_pos e,e,h3]
   constructor
   ·rintro ⟨a,a2⟩
    exact ⟨a,by rw [if_neg (qd0 (.inr a)),if_pos rfl,a2]⟩
   ·rintro ⟨a,a2⟩
    rw [if_neg (qd0 (.inr a)),if_pos rfl] at a2
    exact ⟨a,by omega⟩
  ·rw [if_neg e,if_neg e,(h1 c e).2,h.ik c i b hb]
   split <;> exact Iff.rfl
 ·rw [gz]
  by_cases e : c = call
  ·rw [if_pos e,e,iJ]
  ·rw [if_neg e,hl c e,h.QI]
 ·rw [gz]
  by_cases e : c = call
  ·rw [if_pos e]; exact hq
  ·rw [if_neg e]; exact h.one c
 ·rw [gz,gk]
  by_cases e : c = call
  ·rw [if_pos e,if_pos e]
  ·rw [if_neg e,if_neg e]; exact h.QJ c
 ·rw [gz] at hc
  rw [gw,hlen]
  by_cases e : c = call
  ·rw [if_pos e] at hc
   rw [if_neg (qd0 hc),if_pos e]
   exact ⟨bk,cZ,rfl⟩
  ·rw [if_neg e] at hc
   rw [if_neg e]
   split <;> exact h.rng c hc
 ·obtain ⟨i,hi,rfl⟩:=List.getElem_of_mem aQ
  have h5:=List.getElem?_eq_getElem hi
  obtain ⟨b,hb⟩:=hold i _ h5
  exact (hd i b _ hb h5).2.2.2
 ·rw [hz]
  split
  ·exact vN _ _ h.key
  ·exact vM _ _ _ h.key
def fX (ak : List RC) (i : Nat) : Nat:=(ak.filter fun c=>c.bk == (i : Int) && c.st != 5).length
def fI (ak : List RC) (i : Nat) (b : RB) : IB:=⟨b.down,b.gL,b.aK,b.au.length,fX ak i,b.waits⟩
def jL (c : RC) : IC:=⟨c.num,c.bk,c.aU,c.born,if c.st = 5 then c.fin else -1,c.bK,c.read,c.st,c.call,c.since⟩
def nF (r : RR) : Int × IR:=(r.call,⟨r.idem,r.ended,r.aM,if r.aM = 0 then -1 else r.at_,r.bK⟩)
def eR (c : RC) : Option Int:=if c.st = 1 then some c.call else none
def pP (b : RB) : List Int × List Int:=(b.au,b.waits)
structure bX (N : Nat) (w : RW) (s : IW) : Prop where
 aL : s.aL = w.aL
 most : s.most = w.most
 now : s.now = w.now
 stop : s.stop = w.stop
 ev : s.at_ = w.ev
 aG : s.aG = w.aG
 len : s.ah.length = w.ah.length
 bk : ∀ (i : Nat) b,w.ah[i]? = some b -> s.ah[i]? = some (fI w.ak i b)
 ak : s.ak = w.ak.map jL
 aD : s.aD = w.aD.map nF
 pk : ∀ r,r ∈ w.aD -> 0 <= r.aM /\ r.aM <= N
 uI : ∀ b,b ∈ w.ah -> 0 <= b.aK
 cb : ∀ c,c ∈ w.ak -> ∃ i : Nat,i < w.ah.length /\ c.bk = i
 nU : (w.ak.map (·.num)).Nodup
 pl : PL (w.ah.map pP) (w.ak.map eR) s.busy s.nj
theorem bX.mono {N M : Nat} {w : RW} {s : IW} (h : bX N w s) (hm : N <= M) : bX M w s :=
 ⟨h.aL,h.most,h.now,h.stop,h.ev,h.aG,h.len,h.bk,h.ak,h.aD,fun r hr=>by have:=h.pk r hr; omega,h.uI,h.cb,h.nU,h.pl⟩
theorem bX.fault {N : Nat} {w : RW} {s : IW} (h : bX N w s) (k : Int) : bX N (w.fault k) (s.fault k) :=
 ⟨h.aL,h.most,h.now,h.stop,h.ev,by unfold RW.fault IW.fault; dsimp only; rw [h.aG,h.ev],h.len,h.bk,h.ak,h.aD,h.pk,h.uI,h.cb,h.nU,h.pl⟩
theorem bX.ai {N : Nat} {w : RW} {s : IW} (h : bX N w s) (c : Bool) (k : Int) : bX N (w.ai c k) (s.ai c k):=by
 cases c
 ·exact h
 ·exact h.fault k
theorem bX.find {N : Nat} {w : RW} {s : IW} (h : bX N w s) (c : Int) : jS s.aD c = dp w c:=by
 unfold jS dp
 rw [h.aD,List.findIdx?_map]
 rfl
theorem nt {w : RW} {c : Int} {i : Nat} (h : dp w c = some i) : ∃ hi : i < w.aD.length,w.aD[i].call = c:=by
 unfold dp at h
 rw [List.findIdx?_eq_some_iff_getElem] at h
 obtain ⟨hj,h1,_⟩:=h
 exact ⟨hj,by simpa using h1⟩
theorem bX.rq {N : Nat} {w : RW} {s : IW} (h : bX N w s) {i : Nat} (hi : i < w.aD.length) : s.aD.getD i (0,nO) = nF w.aD[i] /\ w.aD.getD i z1 = w.aD[i]:=by
 rw [h.aD]
 simp [hi]
theorem bX.cn {N : Nat} {w : RW} {s : IW} (h : bX N w s) {i : Nat} (hi : i < w.ak.length) : s.ak.getD i kv = jL w.ak[i] /\ w.ak.getD i yn = w.ak[i]:=by
 rw [h.ak]
 simp [hi]
theorem bX.rL {N : Nat} {w : RW} {s : IW} (h : bX N w s) {i : Nat} (hi : i < w.ah.length) : s.ah.getD i fZ = fI w.ak i w.ah[i] /\ w.ah.getD i gx = w.ah[i]:=by
 have h1:=h.bk i w.ah[i] (List.getElem?_eq_getElem hi)
 rw [List.getD_eq_getElem?_getD,h1]
 simp [hi]
theorem bX.there {N : Nat} {w : RW} {s : IW} (h : bX N w s) (x : Ev) : fV s x = eQ w x.conn x.bk:=by
 have e1 : (s.ak.map (·.num)).findIdx? (· == x.conn) = w.ak.findIdx? (fun c=>c.num == x.conn):=by
  rw [h.ak,List.map_map,List.findIdx?_map]; rfl
 unfold fV eQ
 rw [e1]
 cases hf : w.ak.findIdx? (fun c=>c.num == x.conn) with
 | none =>
   rw [List.findIdx?_eq_none_iff] at hf
   dsimp only
   symm
   rw [List.findIdx?_eq_none_iff]
   intro c hc
   rw [hf c hc]; rfl
 | some i =>
   rw [List.findIdx?_eq_some_iff_getElem] at hf
   obtain ⟨hi,h1,h2⟩:=hf
   dsimp only
   rw [(h.cn hi).1]
   show (if w.ak[i].st = 5 \/ w.ak[i].bk ≠ (x.bk : Int) then none else some i) = _
   split
   ·rename_i h3
    symm
    rw [List.findIdx?_eq_none_iff]
    intro c hc
    obtain ⟨j,hj,rfl⟩:=List.getElem_of_mem hc
    by_cases e : w.ak[j].num = x.conn
    ·have Ii : i = j:=by
      have h4 : w.ak[i].num = x.conn:=by simpa using h1
      have:=(List.nodup_iff_pairwise_ne.1 h.nU)
      rw [List.pairwise_iff_getElem] at this
      rcases Nat.lt_trichotomy i j with h5 | h5 | h5
      ·exact (this i j (by simpa using hi) (by simpa using hj) h5 (by rw [List.getElem_map,List.getElem_map,h4,e])).elim
      ·exact h5
      ·exact (this j i (by simpa using hj) (by simpa using hi) h5 (by rw [List.getElem_map,List.getElem_map,h4,e])).elim
     subst Ii
     rcases h3 with h3 | h3
     ·simp [h3]
     ·simp [h3]
    ·simp [e]
   ·rename_i h3
    symm
    rw [List.findIdx?_eq_some_iff_getElem]
    have h4 : w.ak[i].num = x.conn:=by simpa using h1
    have h5 : ¬ w.ak[i].st = 5:=fun e=>h3 (.inl e)
    have h6 : w.ak[i].bk = (x.bk : Int):=Classical.byContradiction fun e=>h3 (.inr e)
    refine ⟨hi,by simp [h4,h5,h6],fun j hj=>?_⟩
    have:=h2 j hj
    simp at this
    simp [this]
theorem kP {w : RW} {n : Int} {b : Int} {i : Nat} (h : eQ w n b = some i) : ∃ hi : i < w.ak.length,w.ak[i].num = n /\ w.ak[i].bk = b /\ w.ak[i].st ≠ 5:=by
 unfold eQ at h
 rw [List.findIdx?_eq_some_iff_getElem] at h
 obtain ⟨hj,h1,_⟩:=h
 simp at h1
 exact ⟨hj,h1.1.1,h1.1.2,h1.2⟩
theorem bX.own {N : Nat} {w : RW} {s : IW} (h : bX N w s) (x : Ev) : lq s x = ku w x:=by
 unfold lq ku
 rw [h.there]
 cases ht : eQ w x.conn x.bk with
 | none=>rfl
 | some i =>
   obtain ⟨hi,_⟩:=kP ht
   dsimp only
   rw [(h.cn hi).1,List.getElem?_eq_getElem hi]
   rfl
theorem ya {w : RW} {x : Ev} {i : Nat} (h : ku w x = some i) : ∃ hi : i < w.ak.length,w.ak[i].num = x.conn /\ w.ak[i].bk = x.bk /\ w.ak[i].st = 1 /\ w.ak[i].call = x.call:=by
 unfold ku at h
 split at h
 ·rename_i j hj
  obtain ⟨hi,h1,h2,h3⟩:=kP hj
  rw [List.getElem?_eq_getElem hi] at h
  dsimp only at h
  split at h
  ·rename_i h4
   injection h with h
   subst h
   exact ⟨hi,h1,h2,h4.1,h4.2⟩
  ·cases h
 ·cases h
theorem bX.dw {N : Nat} {w : RW} {s : IW} (_ : bX N w s) {i : Nat} (hi : i < w.ah.length) : (w.ah.map pP)[i]? = some (w.ah[i].au,w.ah[i].waits):=by
 rw [List.getElem?_map,List.getElem?_eq_getElem hi]; rfl
theorem bX.busy {N : Nat} {w : RW} {s : IW} (h : bX N w s) (c : Int) : mD w c = (jS s.busy c).isSome:=by
 rw [Bool.eq_iff_iff,pL,h.pl.QJ]
 unfold mD
 simp only [Bool.or_eq_true,List.any_eq_true,decide_eq_true_eq,Bool.and_eq_true,beq_iff_eq]
 constructor
 ·rintro (⟨b,hb,h1⟩ | ⟨d,hd,h1,h2⟩)
  ·obtain ⟨i,hi,rfl⟩:=List.getElem_of_mem hb
   rcases h1 with h1 | h1
   ·intro e; have:=((h.pl.ng c i _ (h.dw hi)).1 h1).1; rw [e] at this; cases this
   ·intro e; have:=((h.pl.ik c i _ (h.dw hi)).1 h1).1; rw [e] at this; cases this
  ·intro e
   have:=(h.pl.QI c).1 (List.mem_map.2 ⟨d,hd,by unfold eR; rw [if_pos h1,h2]⟩)
   rw [e] at this; cases this
 ·intro e
  have hr:=h.pl.rng c
  rcases h.pl.one c with h1 | h1 | h1 | h1
  ·exact absurd h1 e
  ·obtain ⟨i,hi,h2⟩:=hr (.inl (by rw [h1]; rfl))
   rw [List.length_map] at hi
   exact .inl ⟨w.ah[i],List.getElem_mem hi,.inl ((h.pl.ng c i _ (h.dw hi)).2 ⟨by rw [h1]; rfl,h2⟩)⟩
  ·obtain ⟨i,hi,h2⟩:=hr (.inr (by rw [h1]; rfl))
   rw [List.length_map] at hi
   exact .inl ⟨w.ah[i],List.getElem_mem hi,.inr ((h.pl.ik c i _ (h.dw hi)).2 ⟨by rw [h1]; rfl,h2⟩)⟩
  ·obtain ⟨d,hd,h2⟩:=List.mem_map.1 ((h.pl.QI c).2 (by rw [h1]; rfl))
   unfold eR at h2
   split at h2
   ·rename_i h3
    injection h2 with h2
    exact .inr ⟨d,hd,h3,h2⟩
   ·cases h2
theorem bX.ready {N : Nat} {w : RW} {s : IW} (h : bX N w s) (c : Int) : fF s c = if dr w c then dp w c else none:=by
 unfold fF dr
 rw [h.find,h.busy]
 cases hf : dp w c with
 | none=>rfl
 | some i =>
   obtain ⟨hi,_⟩:=nt hf
   dsimp only
   simp only [(h.rq hi).1,List.getElem?_eq_getElem hi]
   show (if (w.aD[i].ended || (jS s.busy c).isSome) = true then none else some i) = _
   cases w.aD[i].ended <;> cases (jS s.busy c).isSome <;> rfl
theorem bX.free {N : Nat} {w : RW} {s : IW} (h : bX N w s) {c : Int} (hr : dr w c = true) : bZ s.busy c dB = dB:=by
 have h1 : mD w c = false:=by
  unfold dr at hr
  split at hr
  ·simp only [Bool.and_eq_true] at hr; simpa using hr.2
  ·cases hr
 rw [h.busy] at h1
 have h2 : ¬ (c ∈ s.busy.map (·.1)):=fun h3=>by rw [<- pL,h1] at h3; cases h3
 rw [h.pl.QJ] at h2
 exact Classical.byContradiction h2
theorem mQ {w : RW} {c : Int} (hr : dr w c = true) : ∃ i,dp w c = some i:=by
 unfold dr at hr
 split at hr
 ·exact ⟨_,‹_›⟩
 ·cases hr
theorem bX.ady {N : Nat} {w : RW} {s : IW} (h : bX N w s) (x : Ev) : (match fF s x.call with | some i=>decide ((s.aD.getD i (0,nO)).2.at_ = x.bk) | none=>false) = jj w x.call x.bk:=by
 rw [h.ready]
 unfold jj
 cases hr : dr w x.call
 ·rfl
 ·obtain ⟨i,hf⟩:=mQ hr
  obtain ⟨hi,_⟩:=nt hf
  simp only [if_true,hf,Option.bind_some,List.getElem?_eq_getElem hi,(h.rq hi).1,Bool.true_and]
  show decide ((if w.aD[i].aM = 0 then (-1 : Int) else w.aD[i].at_) = x.bk) = _
  have:=h.pk _ (List.getElem_mem hi)
  by_cases e : w.aD[i].aM = 0
  ·rw [if_pos e,e]
   simp
  ·rw [if_neg e]
   have : 0 < w.aD[i].aM:=by omega
   simp [this]
theorem bX.waits {N : Nat} {w : RW} {s : IW} (h : bX N w s) (x : Ev) (hx : x.bk < w.ah.length) : gE s x = decide (x.call ∈ w.ah[x.bk].waits):=by
 rw [Bool.eq_iff_iff,decide_eq_true_eq,h.pl.ik x.call x.bk _ (h.dw hx)]
 unfold gE
 rw [Bool.and_eq_true,decide_eq_true_eq]
 exact Iff.rfl
theorem bX.may {N : Nat} {w : RW} {s : IW} (h : bX N w s) (x : Ev) (hx : x.bk < w.ah.length) : oF s x = (decide (x.call ∈ w.ah[x.bk].waits) || jj w x.call x.bk):=by
 unfold oF
 rw [h.waits x hx]
 exact congrArg (_ || ·) (h.ady x)
theorem bX.first {N : Nat} {w : RW} {s : IW} (h : bX N w s) (x : Ev) (hx : x.bk < w.ah.length) : fW s x = fj w x:=by
 unfold fW fj
 rw [List.getElem?_eq_getElem hx,h.bk x.bk _ (List.getElem?_eq_getElem hx)]
 rfl
theorem gF (s : IW) (x : Ev) (q : IP) : aW s x q = { s with busy:=if q = dB then nC s.busy x.call else jk s.busy x.call q,nj:=if q = dB then s.nj else jk s.nj x.call x.bk }:=by
 unfold aW
 split <;> rfl
theorem gO {l : List Int} {n c : Int} : c ∈ aY l n ↔ c ∈ l /\ c ≠ n:=by
 unfold aY
 rw [List.mem_filter]
 simp
theorem Bz {l : List Int} (n : Int) (h : l.Nodup) : (aY l n).Nodup:=by
 unfold aY
 exact (List.filter_sublist).nodup h
theorem Hv {l : List Int} {n : Int} (h : l.Nodup) (hm : n ∈ l) : ((aY l n).length : Int) = l.length - 1:=by
 induction l with
 | nil=>simp at hm
 | cons a l ih =>
   rw [List.nodup_cons] at h
   unfold aY
   by_cases e : a = n
   ·rw [List.filter_cons_of_neg (by simp [e])]
    have : l.filter (· != n) = l:=by
     rw [List.filter_eq_self]
     intro b hb
     simp
     rintro rfl
     exact h.1 (by rw [e]; exact hb)
    rw [this,List.length_cons]; omega
   ·rw [List.filter_cons_of_pos (by simp [e])]
    have h2:=ih h.2 (by rcases List.mem_cons.1 hm with h | h; exact absurd h.symm e; exact h)
    unfold aY at h2
    rw [List.length_cons,List.length_cons]; omega
theorem yc {N : Nat} {w : RW} {s : IW} (h : bX N w s) {k : Nat} (hk : k < w.ah.length) (cns' : List RC) (hc : ∀ i,i ≠ k -> fX cns' i = fX w.ak i) (b' : RB) {ib' : IB} (he : ib' = fI cns' k b') :
 ∀ (i : Nat) b,(w.ah.set k b')[i]? = some b -> (s.ah.set k ib')[i]? = some (fI cns' i b):=by
 intro i b hb
 rw [List.getElem?_set] at hb ⊢
 by_cases e : k = i
 ·subst e
  rw [if_pos rfl,if_pos hk] at hb
  injection hb with hb
  subst hb
  rw [if_pos rfl,if_pos (by rw [h.len]; exact hk),he]
 ·rw [if_neg e] at hb ⊢
  rw [h.bk i b hb]
  unfold fI
  rw [hc i (fun e2=>e e2.symm)]
theorem OL {N : Nat} {w : RW} {s : IW} (h : bX N w s) (cns' : List RC) (hc : ∀ i,fX cns' i = fX w.ak i) : ∀ (i : Nat) b,w.ah[i]? = some b -> s.ah[i]? = some (fI cns' i b):=by
 intro i b hb
 rw [h.bk i b hb]
 unfold fI
 rw [hc i]
theorem CQ {N : Nat} {w : RW} {s : IW} (h : bX N w s) {k : Nat} {b' : RB} (hb : 0 <= b'.aK) : ∀ b,b ∈ w.ah.set k b' -> 0 <= b.aK:=by
 intro b hm
 rcases List.mem_or_eq_of_mem_set hm with h1 | h1
 ·exact h.uI b h1
 ·rw [h1]; exact hb
theorem OM {w : RW} {k : Nat} {b' : RB} (hk : k < w.ah.length) (hb : pP b' = pP w.ah[k]) : (w.ah.set k b').map pP = w.ah.map pP:=by
 rw [List.map_set,hb]
 apply List.ext_getElem?
 intro i
 rw [List.getElem?_set]
 split
 ·rename_i e
  subst e
  simp [hk]
 ·rfl
theorem bX.aO {N : Nat} {w : RW} {s : IW} (h : bX N w s) {k : Nat} (hk : k < w.ah.length) (b' : RB) (hb : pP b' = pP w.ah[k]) (hp : 0 <= b'.aK) {ib' : IB} (he : ib' = fI w.ak k b') : bX N (w.aO k b') (s.aO k ib') :=
 ⟨h.aL,h.most,h.now,h.stop,h.ev,h.aG,by unfold IW.aO RW.aO; dsimp only; rw [List.length_set,List.length_set,h.len],yc h hk w.ak (fun _ _=>rfl) b' he,h.ak,h.aD,h.pk,CQ h hp,fun c hc=>by unfold RW.aO; dsimp only; rw [List.length_set]; exact h.cb c hc,h.nU,by unfold IW.aO RW.aO; dsimp only; rw [OM hk hb]; exact h.pl⟩
theorem yd {ak : List RC} {i : Nat} (hi : i < ak.length) (c' : RC) (j : Nat) : (fX (ak.set i c') j : Int) = fX ak j - (if ak[i].bk = (j : Int) /\ ak[i].st ≠ 5 then 1 else 0) + (if c'.bk = (j : Int) /\ c'.st ≠ 5 then 1 else 0):=by
 unfold fX
 rw [<- List.countP_eq_length_filter,<- List.countP_eq_length_filter,List.countP_set hi]
 have h1 : (if (ak[i].bk == (j : Int) && ak[i].st != 5) = true then 1 else 0) <= List.countP (fun c=>c.bk == (j : Int) && c.st != 5) ak:=by
  split
  ·rename_i h
   exact List.countP_pos_iff.2 ⟨ak[i],List.getElem_mem hi,h⟩
  ·exact Nat.zero_le _
 have e1 : ((ak[i].bk == (j : Int) && ak[i].st != 5) = true) ↔ (ak[i].bk = (j : Int) /\ ak[i].st ≠ 5):=by simp
 have e2 : ((c'.bk == (j : Int) && c'.st != 5) = true) ↔ (c'.bk = (j : Int) /\ c'.st ≠ 5):=by simp
 simp only [e1,e2] at h1 ⊢
 by_cases a : ak[i].bk = (j : Int) /\ ak[i].st ≠ 5 <;> by_cases b : c'.bk = (j : Int) /\ c'.st ≠ 5
 ·rw [if_pos a] at h1; rw [if_pos a,if_pos b,if_pos a,if_pos b]; omega
 ·rw [if_pos a] at h1; rw [if_pos a,if_neg b,if_pos a,if_neg b]; omega
 ·rw [if_neg a,if_pos b,if_neg a,if_pos b]; omega
 ·rw [if_neg a,if_neg b,if_neg a,if_neg b]; omega
theorem nu {ak : List RC} {i : Nat} (hi : i < ak.length) {c' : RC} (hn : c'.num = ak[i].num) : (ak.set i c').map (·.num) = ak.map (·.num):=by
 rw [List.map_set,hn]
 apply List.ext_getElem?
 intro j
 rw [List.getElem?_set]
 split
 ·rename_i e
  subst e
  simp [hi]
 ·rfl
theorem Hw {ak : List RC} {i : Nat} (hi : i < ak.length) {c' : RC} (hn : eR c' = eR ak[i]) : (ak.set i c').map eR = ak.map eR:=by
 rw [List.map_set,hn]
 apply List.ext_getElem?
 intro j
 rw [List.getElem?_set]
 split
 ·rename_i e
  subst e
  simp [hi]
 ·rfl
theorem bX.ba {N : Nat} {w : RW} {s : IW} (h : bX N w s) {i : Nat} (hi : i < w.ak.length) (c' : RC) (h1 : c'.num = w.ak[i].num) (h2 : c'.bk = w.ak[i].bk) (h3 : eR c' = eR w.ak[i]) (h4 : w.ak[i].st ≠ 5) (h5 : c'.st ≠ 5) {ic' : IC} (he : ic' = jL c') : bX N (w.ba i c') (s.ba i ic'):=by
 refine ⟨h.aL,h.most,h.now,h.stop,h.ev,h.aG,h.len,OL h _ fun j=>?_,?_,h.aD,h.pk,h.uI,fun c hc=>?_,?_,?_⟩
 ·have:=yd hi c' j
  rw [h2] at this
  simp only [ne_eq,h4,h5,not_false_eq_true,and_true] at this
  show fX (w.ak.set i c') j = _
  omega
 ·show s.ak.set i ic' = (w.ak.set i c').map jL
  rw [h.ak,he,List.map_set]
 ·rcases List.mem_or_eq_of_mem_set hc with h6 | h6
  ·exact h.cb c h6
  ·rw [h6,h2]; exact h.cb _ (List.getElem_mem hi)
 ·show ((w.ak.set i c').map (·.num)).Nodup
  rw [nu hi h1]; exact h.nU
 ·show PL (w.ah.map pP) ((w.ak.set i c').map eR) s.busy s.nj
  rw [Hw hi h3]; exact h.pl
theorem bX.dO {N : Nat} {w : RW} {s : IW} (h : bX N w s) {i : Nat} (hi : i < w.aD.length) (r' : RR) (h1 : r'.call = w.aD[i].call) (h2 : 0 <= r'.aM /\ r'.aM <= (N : Int) + 1) {ir' : IR} (he : ir' = (nF r').2) : bX (N + 1) (w.dO i r') (s.dO i ir'):=by
 refine ⟨h.aL,h.most,h.now,h.stop,h.ev,h.aG,h.len,h.bk,h.ak,?_,fun r hr=>?_,h.uI,h.cb,h.nU,h.pl⟩
 ·show s.aD.set i ((s.aD.getD i (0,nO)).1,ir') = (w.aD.set i r').map nF
  rw [(h.rq hi).1,h.aD,he,List.map_set]
  show _ = (w.aD.map nF).set i (r'.call,(nF r').2)
  rw [h1]; rfl
 ·rcases List.mem_or_eq_of_mem_set hr with h3 | h3
  ·have:=h.pk r h3; omega
  ·rw [h3]; omega
def SS (N : Nat) (z : RW × Bool) (z' : IW × Bool) : Prop:=z'.2 = z.2 /\ bX (N + 1) z.1 z'.1
theorem bX.ss {N : Nat} {w : RW} {s : IW} (h : bX N w s) (b : Bool) : SS N (w,b) (s,b):=⟨rfl,h.mono (Nat.le_succ _)⟩
theorem ON (w : RW) (c : Bool) (k : Int) : (w.ai c k).ah = w.ah /\ (w.ai c k).ak = w.ak /\ (w.ai c k).aD = w.aD /\ (w.ai c k).aL = w.aL /\ (w.ai c k).now = w.now /\ (w.ai c k).most = w.most /\ (w.ai c k).stop = w.stop:=by
 cases c <;> exact ⟨rfl,rfl,rfl,rfl,rfl,rfl,rfl⟩
theorem bX.kM {N : Nat} {w : RW} {s : IW} (h : bX N w s) {k : Nat} (hk : k < w.ah.length) (b' : RB) (hb : pP b' = pP (w.ah.getD k gx)) (hp : 0 <= b'.aK) {ib' : IB} (he : ib' = fI w.ak k b') : bX N (w.aO k b') (s.aO k ib') :=
 h.aO hk b' (by rw [(h.rL hk).2] at hb; exact hb) hp he
theorem bX.vt {N : Nat} {w : RW} {s : IW} (h : bX N w s) {i : Nat} (hi : i < w.aD.length) (r' : RR) (h1 : r'.call = (w.aD.getD i z1).call) (h2 : 0 <= r'.aM /\ r'.aM <= (N : Int) + 1) {ir' : IR} (he : ir' = (nF r').2) : bX (N + 1) (w.dO i r') (s.dO i ir') :=
 h.dO hi r' (by rw [(h.rq hi).2] at h1; exact h1) h2 he
theorem bX.Lu {N : Nat} {w : RW} {s : IW} (h : bX N w s) {i : Nat} (hi : i < w.ak.length) (c' : RC) (h0 : c'.num = (w.ak.getD i yn).num /\ c'.bk = (w.ak.getD i yn).bk /\ eR c' = eR (w.ak.getD i yn)) (h4 : (w.ak.getD i yn).st ≠ 5) (h5 : c'.st ≠ 5) {ic' : IC} (he : ic' = jL c') : bX N (w.ba i c') (s.ba i ic'):=by
 rw [(h.cn hi).2] at h0 h4
 exact h.ba hi c' h0.1 h0.2.1 h0.2.2 h4 h5 he
theorem JZ {N : Nat} {w : RW} {s : IW} (h : bX N w s) (x : Ev) : SS N (if (dp w x.call).isSome || w.stop then (w,false) else ({ w with aD:=w.aD ++ [⟨x.call,x.yes,0,0,0,false⟩] },true)) (oH s x):=by
 unfold oH
 rw [h.find,h.stop]
 split
 ·exact h.ss false
 ·refine ⟨rfl,⟨h.aL,h.most,h.now,rfl,h.ev,h.aG,h.len,h.bk,h.ak,?_,fun r hr=>?_,h.uI,h.cb,h.nU,h.pl⟩⟩
  ·show s.aD ++ _ = (w.aD ++ _).map nF
   rw [h.aD,List.map_append]; rfl
  ·rcases List.mem_append.1 hr with h1 | h1
   ·have:=h.pk r h1; omega
   ·rw [List.mem_singleton.1 h1]
    exact ⟨Int.le_refl _,by show (0 : Int) <= _; omega⟩
theorem OO {N : Nat} {w : RW} {s : IW} (h : bX N w s) (x : Ev) (hx : x.bk < w.ah.length) : SS N (w.aO x.bk { w.ah.getD x.bk gx with down:=!x.yes },true) (zu s x):=by
 unfold zu
 refine ⟨rfl,(h.kM hx { w.ah.getD x.bk gx with down:=!x.yes } rfl ?_ ?_).mono (Nat.le_succ _)⟩
 ·show 0 <= (w.ah.getD x.bk gx).aK
  rw [(h.rL hx).2]; exact h.uI _ (List.getElem_mem hx)
 ·rw [(h.rL hx).1,(h.rL hx).2]; rfl
theorem OP {N : Nat} {w : RW} {s : IW} (h : bX N w s) (x : Ev) (hx : x.bk < w.ah.length) : SS N (w.aO x.bk { w.ah.getD x.bk gx with gL:=x.n,aK:=0 },true) (zv s x):=by
 unfold zv
 refine ⟨rfl,(h.kM hx { w.ah.getD x.bk gx with gL:=x.n,aK:=0 } rfl (Int.le_refl _) ?_).mono (Nat.le_succ _)⟩
 rw [(h.rL hx).1,(h.rL hx).2]; rfl
theorem Hy {N : Nat} {w : RW} {s : IW} (h : bX N w s) (x : Ev) (hx : x.bk < w.ah.length) : SS N (jz w x) (kf s x):=by
 unfold kf jz
 rw [h.find]
 cases hf : dp w x.call with
 | none=>exact h.ss false
 | some i =>
   obtain ⟨hi,_⟩:=nt hf
   dsimp only
   rw [(h.rq hi).1,(h.rq hi).2,(h.rL hx).1]
   have hr : ((nF w.aD[i]).2.at_ ≠ (x.bk : Int)) ↔ (w.aD[i].aM = 0 \/ w.aD[i].at_ ≠ x.bk):=by
    show ((if w.aD[i].aM = 0 then (-1 : Int) else w.aD[i].at_) ≠ x.bk) ↔ _
    by_cases e : w.aD[i].aM = 0
    ·rw [if_pos e]; exact ⟨fun _=>.inl e,fun _=>by omega⟩
    ·rw [if_neg e]; exact ⟨.inr,fun q=>q.elim (fun q=>absurd q e) fun q=>q⟩
   by_cases c1 : w.aD[i].aM = 0 \/ w.aD[i].at_ ≠ x.bk
   ·rw [if_pos c1,if_pos (hr.2 c1)]; exact h.ss false
   ·rw [if_neg c1,if_neg (fun q=>c1 (hr.1 q)),(h.rL hx).2]
    show SS N (if w.ah[x.bk].aK = x.call then _ else _) (if w.ah[x.bk].aK = x.call then _ else _)
    by_cases c2 : w.ah[x.bk].aK = x.call
    ·rw [if_pos c2,if_pos c2]
     exact ⟨rfl,(h.aO hx { w.ah[x.bk] with aK:=0,gL:=if x.yes then 0 else 1 } rfl (Int.le_refl _) rfl).mono (Nat.le_succ _)⟩
    ·rw [if_neg c2,if_neg c2]; exact h.ss true
theorem OQ {N : Nat} {w : RW} {s : IW} (h : bX N w s) (hN : N <= 100000) (x : Ev) (hx : x.bk < w.ah.length) (hc : 1 <= x.call) : SS N (qY w x) (qV s x):=by
 unfold qV qY
 rw [h.ready]
 cases hr : dr w x.call
 ·exact h.ss false
 ·obtain ⟨i,hf⟩:=mQ hr
  obtain ⟨hi,_⟩:=nt hf
  have hpk:=h.pk _ (List.getElem_mem hi)
  have afo:=h.uI _ (List.getElem_mem hx)
  simp only [if_true,hf,Option.getD_some]
  rw [(h.rq hi).1,(h.rq hi).2,(h.rL hx).1,(h.rL hx).2]
  have hw : ck (w.aD[i].aM + 1) = w.aD[i].aM + 1:=ij (by omega)
  have h1:=h.ai (w.ah[x.bk].down || decide (w.ah[x.bk].gL = 1)) 7
  obtain ⟨f1,f2,f3,_⟩:=ON w (w.ah[x.bk].down || decide (w.ah[x.bk].gL = 1)) 7
  refine ⟨rfl,?_⟩
  have e8 : (decide (0 < (fI w.ak x.bk w.ah[x.bk]).aK) && decide ((fI w.ak x.bk w.ah[x.bk]).aK ≠ x.call)) = (decide (w.ah[x.bk].aK ≠ 0) && decide (w.ah[x.bk].aK ≠ x.call)):=by
   show (decide (0 < w.ah[x.bk].aK) && _) = _
   congr 1
   rw [Bool.eq_iff_iff,decide_eq_true_eq,decide_eq_true_eq]; omega
  have h2 : bX N (if w.ah[x.bk].gL = 2 then ((w.ai (w.ah[x.bk].down || decide (w.ah[x.bk].gL = 1)) 7).ai (decide (w.ah[x.bk].aK ≠ 0) && decide (w.ah[x.bk].aK ≠ x.call)) 8).aO x.bk { w.ah[x.bk] with aK:=x.call } else w.ai (w.ah[x.bk].down || decide (w.ah[x.bk].gL = 1)) 7)
   (if (fI w.ak x.bk w.ah[x.bk]).gL = 2 then ((s.ai (w.ah[x.bk].down || decide (w.ah[x.bk].gL = 1)) 7).ai (decide (0 < (fI w.ak x.bk w.ah[x.bk]).aK) && decide ((fI w.ak x.bk w.ah[x.bk]).aK ≠ x.call)) 8).aO x.bk { fI w.ak x.bk w.ah[x.bk] with aK:=x.call } else s.ai (w.ah[x.bk].down || decide (w.ah[x.bk].gL = 1)) 7):=by
   rw [e8]
   show bX N _ (if w.ah[x.bk].gL = 2 then _ else _)
   by_cases c : w.ah[x.bk].gL = 2
   ·rw [if_pos c,if_pos c]
    have h3:=h1.ai (decide (w.ah[x.bk].aK ≠ 0) && decide (w.ah[x.bk].aK ≠ x.call)) 8
    obtain ⟨g1,g2,_⟩:=ON (w.ai (w.ah[x.bk].down || decide (w.ah[x.bk].gL = 1)) 7) (decide (w.ah[x.bk].aK ≠ 0) && decide (w.ah[x.bk].aK ≠ x.call)) 8
    refine h3.kM (by rw [g1,f1]; exact hx) { w.ah[x.bk] with aK:=x.call } ?_ (by show 0 <= x.call; omega) ?_
    ·rw [g1,f1,(h.rL hx).2]; rfl
    ·rw [g2,f2]; rfl
   ·rw [if_neg c,if_neg c]; exact h1
  have h4 : (if w.ah[x.bk].gL = 2 then ((w.ai (w.ah[x.bk].down || decide (w.ah[x.bk].gL = 1)) 7).ai (decide (w.ah[x.bk].aK ≠ 0) && decide (w.ah[x.bk].aK ≠ x.call)) 8).aO x.bk { w.ah[x.bk] with aK:=x.call } else w.ai (w.ah[x.bk].down || decide (w.ah[x.bk].gL = 1)) 7).aD = w.aD:=by
   split
   ·show ((w.ai _ 7).ai _ 8).aD = _
    rw [(ON _ _ 8).2.2.1,f3]
   ·exact f3
  have e9 : decide (s.most < (nF w.aD[i]).2.aM) = decide (w.most < w.aD[i].aM):=by rw [h.most]; rfl
  rw [e9]
  have h5:=h2.ai (decide (w.most < w.aD[i].aM)) 10
  refine h5.vt ?_ { w.aD[i] with aM:=ck (w.aD[i].aM + 1),at_:=x.bk } ?_ ?_ ?_
  ·rw [(ON _ _ 10).2.2.1,h4]; exact hi
  ·rw [(ON _ _ 10).2.2.1,h4,(h.rq hi).2]
  ·show 0 <= ck (w.aD[i].aM + 1) /\ ck (w.aD[i].aM + 1) <= _
   rw [hw]; omega
  ·show _ = (⟨_,_,ck (w.aD[i].aM + 1),if ck (w.aD[i].aM + 1) = 0 then (-1 : Int) else (x.bk : Int),_⟩ : IR)
   rw [if_neg (by rw [hw]; omega)]; rfl
theorem WK {N : Nat} {w : RW} {s : IW} (h : bX N w s) (x : Ev) : SS N (if dr w x.call then (w.dO ((dp w x.call).getD 0) { w.aD.getD ((dp w x.call).getD 0) z1 with ended:=true },true) else (w,false)) (xE s x):=by
 unfold xE
 rw [h.ready]
 cases hr : dr w x.call
 ·exact h.ss false
 ·obtain ⟨i,hf⟩:=mQ hr
  obtain ⟨hi,_⟩:=nt hf
  have hpk:=h.pk _ (List.getElem_mem hi)
  simp only [if_true,hf,Option.getD_some]
  rw [(h.rq hi).1,(h.rq hi).2]
  refine ⟨rfl,h.dO hi { w.aD[i] with ended:=true } rfl ?_ rfl⟩
  show 0 <= w.aD[i].aM /\ w.aD[i].aM <= _
  omega
theorem OR {N : Nat} {w : RW} {s : IW} (h : bX N w s) : SS N (if w.stop then (w,false) else ({ w with stop:=true },true)) (tw s):=by
 unfold tw
 cases hs : w.stop
 ·exact ⟨by show (!s.stop) = true; rw [h.stop,hs]; rfl,⟨h.aL,h.most,h.now,rfl,h.ev,h.aG,h.len,h.bk,h.ak,h.aD,fun r hr=>by have:=h.pk r hr; omega,h.uI,h.cb,h.nU,h.pl⟩⟩
 ·exact ⟨by show (!s.stop) = false; rw [h.stop,hs]; rfl,⟨h.aL,h.most,h.now,by show true = w.stop; rw [hs],h.ev,h.aG,h.len,h.bk,h.ak,h.aD,fun r hr=>by have:=h.pk r hr; omega,h.uI,h.cb,h.nU,h.pl⟩⟩
theorem zT {ak : List RC} {i : Nat} : fX ak i = 0 ↔ ∀ c,c ∈ ak -> c.bk = i -> c.st = 5:=by
 unfold fX
 rw [<- List.countP_eq_length_filter,List.countP_eq_zero]
 constructor
 ·intro h c hc hb
  have:=h c hc
  simpa [hb] using this
 ·intro h c hc
  have:=h c hc
  simp
  exact this
theorem bX.left {N : Nat} {w : RW} {s : IW} (h : bX N w s) : zz s = tA w:=by
 have e3 : s.aD.any mK = w.aD.any vy:=by rw [h.aD,List.any_map]; rfl
 have e12 : (decide (0 < s.busy.length) || s.ah.any qX) = (w.ah.any qZ || w.ak.any pJ):=by
  rw [Bool.eq_iff_iff]
  simp only [Bool.or_eq_true,List.any_eq_true,decide_eq_true_eq]
  constructor
  ·rintro (h1 | ⟨b,hb,h1⟩)
   ·obtain ⟨q,hq⟩:=List.exists_mem_of_length_pos h1
    have h2:=h.busy q.1
    have h3 : (jS s.busy q.1).isSome = true:=(pL _ _).2 (List.mem_map_of_mem hq)
    rw [h3] at h2
    unfold mD at h2
    simp only [Bool.or_eq_true,List.any_eq_true,decide_eq_true_eq,Bool.and_eq_true,beq_iff_eq] at h2
    rcases h2 with ⟨b,hb,h4⟩ | ⟨d,hd,h4,_⟩
    ·refine .inl ⟨b,hb,?_⟩
     unfold qZ
     rw [decide_eq_true_eq]
     rcases h4 with h4 | h4
     ·have:=List.length_pos_of_mem h4; omega
     ·have:=List.length_pos_of_mem h4; omega
    ·exact .inr ⟨d,hd,by unfold pJ; rw [h4]; rfl⟩
   ·obtain ⟨i,hi,rfl⟩:=List.getElem_of_mem hb
    rw [h.len] at hi
    have h2:=h.bk i _ (List.getElem?_eq_getElem hi)
    rw [List.getElem?_eq_getElem (by rw [h.len]; exact hi)] at h2
    injection h2 with h2
    rw [h2] at h1
    unfold qX fI at h1
    simp only [decide_eq_true_eq] at h1
    by_cases hz : fX w.ak i = 0
    ·omega
    ·rw [zT] at hz
     have : ∃ c,c ∈ w.ak /\ ¬ c.st = 5:=by
      refine Classical.byContradiction fun q=>hz fun c hc _=>Classical.byContradiction fun q2=>q ⟨c,hc,q2⟩
     obtain ⟨c,hc,h5⟩:=this
     exact .inr ⟨c,hc,by unfold pJ; simp [h5]⟩
  ·rintro (⟨b,hb,h1⟩ | ⟨c,hc,h1⟩)
   ·obtain ⟨i,hi,rfl⟩:=List.getElem_of_mem hb
    unfold qZ at h1
    rw [decide_eq_true_eq] at h1
    left
    have : ∃ n,n ∈ s.busy.map (·.1):=by
     by_cases hd : 0 < w.ah[i].au.length
     ·obtain ⟨n,hn⟩:=List.exists_mem_of_length_pos hd
      refine ⟨n,(h.pl.QJ n).2 fun e=>?_⟩
      have:=((h.pl.ng n i _ (h.dw hi)).1 hn).1; rw [e] at this; cases this
     ·obtain ⟨n,hn⟩:=List.exists_mem_of_length_pos (show 0 < w.ah[i].waits.length by omega)
      refine ⟨n,(h.pl.QJ n).2 fun e=>?_⟩
      have:=((h.pl.ik n i _ (h.dw hi)).1 hn).1; rw [e] at this; cases this
    obtain ⟨n,hn⟩:=this
    have:=List.length_pos_of_mem hn
    rwa [List.length_map] at this
   ·right
    obtain ⟨i,hi,hb⟩:=h.cb c hc
    have h2:=h.bk i _ (List.getElem?_eq_getElem hi)
    refine ⟨_,List.mem_of_getElem? h2,?_⟩
    unfold qX fI
    rw [decide_eq_true_eq]
    show (0 : Int) < (fX w.ak i : Int)
    have : fX w.ak i ≠ 0:=fun q=>by
     have:=zT.1 q c hc hb
     unfold pJ at h1
     simp [this] at h1
    omega
 unfold zz tA
 rw [e12,e3]
theorem OS {N : Nat} {w : RW} {s : IW} (h : bX N w s) : SS N (if w.stop then (w.ai (tA w) 11,true) else (w,false)) (pG s):=by
 unfold pG
 rw [h.stop,h.left]
 cases w.stop
 ·exact h.ss false
 ·exact (h.ai _ 11).ss true
theorem PL.only {bl : List (List Int × List Int)} {lz : List (Option Int)} {bz : List (Int × IP)} {wh : List (Int × Int)} (h : PL bl lz bz wh) {call : Int} {bk : Nat} (hp : bZ bz call dB = dB \/ ((bZ bz call dB = Hu \/ bZ bz call dB = By) /\ bZ wh call 0 = bk)) :
 (∀ (i : Nat) b,i ≠ bk -> bl[i]? = some b -> call ∉ b.1 /\ call ∉ b.2) /\ some call ∉ lz:=by
 refine ⟨fun i b hi hb=>⟨fun hm=>?_,fun hm=>?_⟩,fun hm=>?_⟩
 ·have h1:=(h.ng call i b hb).1 hm
  rcases hp with hp | ⟨_,hp⟩
  ·rw [hp] at h1; cases h1.1
  ·omega
 ·have h1:=(h.ik call i b hb).1 hm
  rcases hp with hp | ⟨_,hp⟩
  ·rw [hp] at h1; cases h1.1
  ·omega
 ·have h1:=(h.QI call).1 hm
  rcases hp with hp | ⟨hp | hp,_⟩ <;> rw [hp] at h1 <;> cases h1
theorem PL.CR {bl : List (List Int × List Int)} {lz : List (Option Int)} {bz : List (Int × IP)} {wh : List (Int × Int)} (h : PL bl lz bz wh) {call : Int} (hp : bZ bz call dB = dB) {i : Nat} {b : List Int × List Int} (hb : bl[i]? = some b) : call ∉ b.1 /\ call ∉ b.2:=by
 refine ⟨fun hm=>?_,fun hm=>?_⟩
 ·have h1:=((h.ng call i b hb).1 hm).1; rw [hp] at h1; cases h1
 ·have h1:=((h.ik call i b hb).1 hm).1; rw [hp] at h1; cases h1
theorem PL.Zz {bl : List (List Int × List Int)} {lz : List (Option Int)} {bz : List (Int × IP)} {wh : List (Int × Int)} (h : PL bl lz bz wh) {call : Int} {i : Nat} {b : List Int × List Int} (hb : bl[i]? = some b) (hm : call ∈ b.1) : bZ bz call dB = Hu /\ bZ wh call 0 = i /\ call ∉ b.2:=by
 obtain ⟨h1,h2⟩:=(h.ng call i b hb).1 hm
 have h3 : bZ bz call dB = Hu:=by rcases h.one call with e | e | e | e <;> rw [e] at h1 <;> first | exact e | cases h1
 refine ⟨h3,h2,fun h4=>?_⟩
 have h5:=((h.ik call i b hb).1 h4).1
 rw [h3] at h5; cases h5
theorem PL.Z0 {bl : List (List Int × List Int)} {lz : List (Option Int)} {bz : List (Int × IP)} {wh : List (Int × Int)} (h : PL bl lz bz wh) {call : Int} {i : Nat} {b : List Int × List Int} (hb : bl[i]? = some b) (hm : call ∈ b.2) : bZ bz call dB = By /\ bZ wh call 0 = i /\ call ∉ b.1:=by
 obtain ⟨h1,h2⟩:=(h.ik call i b hb).1 hm
 have h3 : bZ bz call dB = By:=by rcases h.one call with e | e | e | e <;> rw [e] at h1 <;> first | exact e | cases h1
 refine ⟨h3,h2,fun h4=>?_⟩
 have h5:=((h.ng call i b hb).1 h4).1
 rw [h3] at h5; cases h5
theorem bX.move {N : Nat} {w : RW} {s : IW} (h : bX N w s) (call : Int) {k : Nat} (hk : k < w.ah.length) (b' : RB) (hp : 0 <= b'.aK) (cns' : List RC) {ib' : IB} (he : ib' = fI cns' k b') {q : IP} (hq : q = dB \/ q = Hu \/ q = By \/ q = QH)
 (Di : bZ s.busy call dB = dB \/ bZ s.busy call dB = QH \/ ((bZ s.busy call dB = Hu \/ bZ s.busy call dB = By) /\ bZ s.nj call 0 = k))
 (hd : ∀ c,c ≠ call -> (c ∈ b'.au ↔ c ∈ w.ah[k].au) /\ (c ∈ b'.waits ↔ c ∈ w.ah[k].waits))
 (hd2 : (call ∈ b'.au ↔ q.au = true) /\ (call ∈ b'.waits ↔ q.waits = true)) (rO : b'.au.Nodup)
 (qy : ∀ i,i ≠ k -> fX cns' i = fX w.ak i) (adz : (cns'.map (·.num)).Nodup) (Aa : ∀ c,c ∈ cns' -> ∃ i : Nat,i < w.ah.length /\ c.bk = i)
 (hl : ∀ c,c ≠ call -> (some c ∈ cns'.map eR ↔ some c ∈ w.ak.map eR)) (iJ : some call ∈ cns'.map eR ↔ q.aU = true)
 (hu : ∀ (i j : Nat) c,(cns'.map eR)[i]? = some (some c) -> (cns'.map eR)[j]? = some (some c) -> i = j)
 {w' : RW} {s' : IW} (o : List Int) (hw : w' = { w with ah:=w.ah.set k b',ak:=cns' }) (hs : s' = { s with ah:=s.ah.set k ib',ak:=cns'.map jL,ord:=o,busy:=if q = dB then nC s.busy call else jk s.busy call q,nj:=if q = dB then s.nj else jk s.nj call k }) : bX N w' s':=by
 subst hw hs
 refine ⟨h.aL,h.most,h.now,h.stop,h.ev,h.aG,by dsimp only; rw [List.length_set,List.length_set,h.len],yc h hk cns' qy b' he,rfl,h.aD,h.pk,CQ h hp,fun c hc=>by dsimp only; rw [List.length_set]; exact Aa c hc,adz,?_⟩
 refine h.pl.to (call:=call) (bk:=k) (by rw [List.length_map]; exact hk) hq rfl rfl (by simp) (fun i b b2 hb c9=>?_) hl iJ hu
 have hi : i < w.ah.length:=by have:=(List.getElem?_eq_some_iff.1 hb).1; rwa [List.length_map] at this
 have rG:=hb
 rw [h.dw hi] at hb
 injection hb with hb
 dsimp only at c9
 rw [List.getElem?_map,List.getElem?_set] at c9
 by_cases e : k = i
 ·subst e
  rw [if_pos rfl,if_pos hk] at c9
  injection c9 with c9
  subst hb c9
  exact ⟨hd,⟨fun m=>⟨hd2.1.1 m,rfl⟩,fun m=>hd2.1.2 m.1⟩,⟨fun m=>⟨hd2.2.1 m,rfl⟩,fun m=>hd2.2.2 m.1⟩,rO⟩
 ·rw [if_neg e,List.getElem?_eq_getElem hi] at c9
  injection c9 with c9
  subst hb c9
  have nK : call ∉ w.ah[i].au /\ call ∉ w.ah[i].waits:=by
   refine ⟨fun hm=>?_,fun hm=>?_⟩
   ·have h1:=(h.pl.ng call i _ rG).1 hm
    rcases Di with hp | hp | ⟨_,hp⟩
    ·rw [hp] at h1; cases h1.1
    ·rw [hp] at h1; cases h1.1
    ·omega
   ·have h1:=(h.pl.ik call i _ rG).1 hm
    rcases Di with hp | hp | ⟨_,hp⟩
    ·rw [hp] at h1; cases h1.1
    ·rw [hp] at h1; cases h1.1
    ·omega
  exact ⟨fun c _=>⟨Iff.rfl,Iff.rfl⟩,⟨fun m=>absurd m nK.1,fun m=>absurd m.2 e⟩,⟨fun m=>absurd m nK.2,fun m=>absurd m.2 e⟩,h.pl.Lt _ (List.mem_of_getElem? rG)⟩
theorem bX.CS {N : Nat} {w : RW} {s : IW} (h : bX N w s) (call : Int) {k : Nat} (hk : k < w.ah.length) (b' : RB) (hp : 0 <= b'.aK) {ib' : IB} (he : ib' = fI w.ak k b') {q : IP} (hq : q = dB \/ q = Hu \/ q = By)
 (Di : bZ s.busy call dB = dB \/ ((bZ s.busy call dB = Hu \/ bZ s.busy call dB = By) /\ bZ s.nj call 0 = k))
 (hd : ∀ c,c ≠ call -> (c ∈ b'.au ↔ c ∈ w.ah[k].au) /\ (c ∈ b'.waits ↔ c ∈ w.ah[k].waits))
 (hd2 : (call ∈ b'.au ↔ q.au = true) /\ (call ∈ b'.waits ↔ q.waits = true)) (rO : b'.au.Nodup)
 {w' : RW} {s' : IW} (hw : w' = { w with ah:=w.ah.set k b' }) (hs : s' = { s with ah:=s.ah.set k ib',busy:=if q = dB then nC s.busy call else jk s.busy call q,nj:=if q = dB then s.nj else jk s.nj call k }) : bX N w' s':=by
 refine h.move call hk b' hp w.ak he (q:=q) (by rcases hq with e | e | e <;> simp [e]) (Di.elim .inl fun a=>.inr (.inr a)) hd hd2 rO (fun _ _=>rfl) h.nU h.cb (fun _ _=>Iff.rfl) ?_ h.pl.Zy s.ord (by rw [hw]) (by rw [hs,h.ak])
 refine ⟨fun m=>absurd m (h.pl.only Di).2,fun m=>?_⟩
 rcases hq with e | e | e <;> rw [e] at m <;> cases m
theorem OT {N : Nat} {w : RW} {s : IW} (h : bX N w s) (x : Ev) (hx : x.bk < w.ah.length) : SS N (if jj w x.call x.bk then ((w.aO x.bk { w.ah.getD x.bk gx with waits:=(w.ah.getD x.bk gx).waits ++ [x.call] }).ai (decide ((w.aL.getD x.bk DU).queue < ((w.ah.getD x.bk gx).waits.length + 1 : Nat))) 3,true) else (w,false)) (pC s x):=by
 unfold pC
 rw [h.waits x hx,h.may x hx,(h.rL hx).1,(h.rL hx).2,h.aL]
 cases hm : jj w x.call x.bk
 ·have : (decide (x.call ∈ w.ah[x.bk].waits) || !(decide (x.call ∈ w.ah[x.bk].waits) || false)) = true:=by cases decide (x.call ∈ w.ah[x.bk].waits) <;> rfl
  rw [if_pos this]
  exact h.ss false
 ·have hr : dr w x.call = true:=by unfold jj at hm; simp only [Bool.and_eq_true] at hm; exact hm.1
  have lY:=h.free hr
  obtain ⟨f1,f2⟩:=h.pl.CR lY (h.dw hx)
  dsimp only at f1 f2
  have e0 : decide (x.call ∈ w.ah[x.bk].waits) = false:=by simp [f2]
  rw [e0,if_pos rfl,if_neg (by simp)]
  refine ⟨rfl,(bX.ai ?_ _ 3).mono (Nat.le_succ _)⟩
  rw [gF]
  refine h.CS x.call hx { w.ah[x.bk] with waits:=w.ah[x.bk].waits ++ [x.call] } (show 0 <= w.ah[x.bk].aK from h.uI _ (List.getElem_mem hx)) rfl (q:=By) (by simp) (.inl lY) (fun c hc=>⟨Iff.rfl,?_⟩) ⟨?_,?_⟩ (h.pl.Lt _ (List.mem_of_getElem? (h.dw hx))) rfl rfl
  ·show c ∈ w.ah[x.bk].waits ++ [x.call] ↔ _
   simp [hc]
  ·exact ⟨fun m=>absurd m f1,fun m=>by cases m⟩
  ·show x.call ∈ w.ah[x.bk].waits ++ [x.call] ↔ _
   simp [By]
theorem Ka {N : Nat} {w : RW} {s : IW} (h : bX N w s) (x : Ev) (hx : x.bk < w.ah.length) : SS N (if x.call ∈ (w.ah.getD x.bk gx).waits then (w.aO x.bk { w.ah.getD x.bk gx with waits:=aY (w.ah.getD x.bk gx).waits x.call },true) else (w,false)) (mG s x):=by
 unfold mG bG
 rw [h.waits x hx,(h.rL hx).1,(h.rL hx).2]
 by_cases hm : x.call ∈ w.ah[x.bk].waits
 ·rw [if_pos hm,if_pos (by simpa using hm)]
  obtain ⟨g1,g2,g3⟩:=h.pl.Z0 (h.dw hx) hm
  dsimp only at g3
  refine ⟨rfl,bX.mono ?_ (Nat.le_succ _)⟩
  rw [gF]
  refine h.CS x.call hx { w.ah[x.bk] with waits:=aY w.ah[x.bk].waits x.call } (show 0 <= w.ah[x.bk].aK from h.uI _ (List.getElem_mem hx)) rfl (q:=dB) (by simp) (.inr ⟨.inr g1,g2⟩) (fun c hc=>⟨Iff.rfl,?_⟩) ⟨?_,?_⟩ (h.pl.Lt _ (List.mem_of_getElem? (h.dw hx))) rfl rfl
  ·show c ∈ aY w.ah[x.bk].waits x.call ↔ _
   rw [gO]; exact ⟨fun m=>m.1,fun m=>⟨m,hc⟩⟩
  ·exact ⟨fun m=>absurd m g3,fun m=>by cases m⟩
  ·show x.call ∈ aY w.ah[x.bk].waits x.call ↔ _
   rw [gO]; exact ⟨fun m=>absurd rfl m.2,fun m=>by cases m⟩
 ·rw [if_neg hm,if_neg (by simpa using hm)]
  exact h.ss false
theorem vP {N : Nat} {w : RW} {s : IW} (h : bX N w s) (bV : ∀ b,b ∈ w.ah -> b.au.length <= 100000) (x : Ev) (hx : x.bk < w.ah.length) : (aZ s x).2 = decide (x.call ∈ w.ah[x.bk].au) /\ (x.call ∈ w.ah[x.bk].au -> bX N (w.aO x.bk { w.ah[x.bk] with au:=aY w.ah[x.bk].au x.call }) (aZ s x).1 /\ bZ (aZ s x).1.busy x.call dB = dB /\ (aZ s x).1.ak = s.ak /\ (aZ s x).1.ord = s.ord) /\ (x.call ∉ w.ah[x.bk].au -> (aZ s x).1 = s):=by
 have hb : x.call ∈ w.ah[x.bk].au ↔ (iE s x.call).au = true /\ jx s x.call = x.bk:=h.pl.ng x.call x.bk _ (h.dw hx)
 unfold aZ
 by_cases hm : x.call ∈ w.ah[x.bk].au
 ·rw [if_pos (hb.1 hm)]
  obtain ⟨g1,g2,g3⟩:=h.pl.Zz (h.dw hx) hm
  dsimp only at g3
  refine ⟨by simp [hm],fun _=>?_,fun q=>absurd hm q⟩
  have hs:=bV _ (List.getElem_mem hx)
  have rO : w.ah[x.bk].au.Nodup:=h.pl.Lt _ (List.mem_of_getElem? (h.dw hx))
  dsimp only
  rw [gF,(h.rL hx).1]
  refine ⟨?_,?_,rfl,rfl⟩
  ·refine h.CS x.call hx { w.ah[x.bk] with au:=aY w.ah[x.bk].au x.call } (show 0 <= w.ah[x.bk].aK from h.uI _ (List.getElem_mem hx)) ?_ (q:=dB) (by simp) (.inr ⟨.inl g1,g2⟩) (fun c hc=>⟨?_,Iff.rfl⟩) ⟨?_,?_⟩ (Bz _ rO) rfl rfl
   ·unfold fI
    dsimp only
    rw [Hv rO hm]
    rw [show ck ((w.ah[x.bk].au.length : Int) - 1) = (w.ah[x.bk].au.length : Int) - 1 from ij (by omega)]
   ·show c ∈ aY w.ah[x.bk].au x.call ↔ _
    rw [gO]; exact ⟨fun m=>m.1,fun m=>⟨m,hc⟩⟩
   ·show x.call ∈ aY w.ah[x.bk].au x.call ↔ _
    rw [gO]; exact ⟨fun m=>absurd rfl m.2,fun m=>by cases m⟩
   ·exact ⟨fun m=>absurd m g3,fun m=>by cases m⟩
  ·dsimp only
   rw [if_pos rfl,tS _ _ _ _ h.pl.key,if_pos rfl]
 ·rw [if_neg (fun q=>hm (hb.2 q))]
  exact ⟨by simp [hm],fun q=>absurd q hm,fun _=>rfl⟩
theorem Er {N : Nat} {w : RW} {s : IW} (h : bX N w s) (bV : ∀ b,b ∈ w.ah -> b.au.length <= 100000) (x : Ev) (hx : x.bk < w.ah.length) : SS N (if x.call ∈ (w.ah.getD x.bk gx).au then (w.aO x.bk { w.ah.getD x.bk gx with au:=aY (w.ah.getD x.bk gx).au x.call },true) else (w,false)) (aZ s x):=by
 obtain ⟨h1,h2,h3⟩:=vP h bV x hx
 rw [(h.rL hx).2]
 by_cases hm : x.call ∈ w.ah[x.bk].au
 ·rw [if_pos hm]
  exact ⟨by rw [h1]; simp [hm],(h2 hm).1.mono (Nat.le_succ _)⟩
 ·rw [if_neg hm]
  exact ⟨by rw [h1]; simp [hm],by rw [h3 hm]; exact h.mono (Nat.le_succ _)⟩
theorem Hz {α : Type} {l : List α} {k : Nat} (hk : k < l.length) (a d : α) : (l.set k a).getD k d = a:=by
 rw [List.getD_eq_getElem?_getD,List.getElem?_set,if_pos rfl,if_pos hk]; rfl
theorem B3 (ak : List RC) (i : Nat) : fX ak i <= ak.length:=List.length_filter_le _ _
theorem H0 {N : Nat} {w : RW} {s : IW} (h : bX N w s) (bV : ∀ b,b ∈ w.ah -> b.au.length <= 100000) (hcz : w.ak.length <= 100000) (x : Ev) (hx : x.bk < w.ah.length) (hp : bZ s.busy x.call dB = dB \/ (bZ s.busy x.call dB = By /\ bZ s.nj x.call 0 = x.bk)) :
 bX N ((w.aO x.bk { w.ah[x.bk] with waits:=aY w.ah[x.bk].waits x.call }).aO x.bk { w.ah[x.bk] with waits:=aY w.ah[x.bk].waits x.call,au:=w.ah[x.bk].au ++ [x.call] })
  ((aW (bG s x) x ⟨true,false,false⟩).aO x.bk { (aW (bG s x) x ⟨true,false,false⟩).ah.getD x.bk fZ with au:=ck (((aW (bG s x) x ⟨true,false,false⟩).ah.getD x.bk fZ).au + 1) }) /\
 ck (ck (((aW (bG s x) x ⟨true,false,false⟩).ah.getD x.bk fZ).au + 1) + ((aW (bG s x) x ⟨true,false,false⟩).ah.getD x.bk fZ).cp) = qM ((w.aO x.bk { w.ah[x.bk] with waits:=aY w.ah[x.bk].waits x.call }).aO x.bk { w.ah[x.bk] with waits:=aY w.ah[x.bk].waits x.call,au:=w.ah[x.bk].au ++ [x.call] }) x.bk:=by
 have WS : x.bk < s.ah.length:=by rw [h.len]; exact hx
 have hs:=bV _ (List.getElem_mem hx)
 have rO : w.ah[x.bk].au.Nodup:=h.pl.Lt _ (List.mem_of_getElem? (h.dw hx))
 have OU : x.call ∉ w.ah[x.bk].au:=by
  rcases hp with hp | hp
  ·exact (h.pl.CR hp (h.dw hx)).1
  ·intro hm
   have:=(h.pl.Zz (h.dw hx) hm).1
   rw [hp.1] at this; cases this
 have e1 : (aW (bG s x) x ⟨true,false,false⟩).ah.getD x.bk fZ = { fI w.ak x.bk w.ah[x.bk] with waits:=aY w.ah[x.bk].waits x.call }:=by
  rw [gF]
  unfold bG
  dsimp only
  rw [Hz WS,(h.rL hx).1]; rfl
 rw [e1]
 have Rl:=B3 w.ak x.bk
 have e2 : ck (((w.ah[x.bk].au.length : Nat) : Int) + 1) = (w.ah[x.bk].au.length : Int) + 1:=ij (by omega)
 constructor
 ·refine h.CS x.call hx { w.ah[x.bk] with waits:=aY w.ah[x.bk].waits x.call,au:=w.ah[x.bk].au ++ [x.call] } (show 0 <= w.ah[x.bk].aK from h.uI _ (List.getElem_mem hx)) (ib':={ fI w.ak x.bk w.ah[x.bk] with waits:=aY w.ah[x.bk].waits x.call,au:=ck ((w.ah[x.bk].au.length : Int) + 1) }) ?_ (q:=Hu) (by simp) (hp.elim .inl fun q=>.inr ⟨.inr q.1,q.2⟩) (fun c hc=>⟨?_,?_⟩) ⟨?_,?_⟩ ?_ ?_ ?_
  ·unfold fI
   dsimp only
   rw [e2]
   simp
  ·show c ∈ w.ah[x.bk].au ++ [x.call] ↔ _
   simp [hc]
  ·show c ∈ aY w.ah[x.bk].waits x.call ↔ _
   rw [gO]; exact ⟨fun m=>m.1,fun m=>⟨m,hc⟩⟩
  ·show x.call ∈ w.ah[x.bk].au ++ [x.call] ↔ _
   simp [Hu]
  ·show x.call ∈ aY w.ah[x.bk].waits x.call ↔ _
   rw [gO]; exact ⟨fun m=>absurd rfl m.2,fun m=>by cases m⟩
  ·show (w.ah[x.bk].au ++ [x.call]).Nodup
   rw [List.nodup_append]
   exact ⟨rO,by simp,fun a ha b hb=>by rw [List.mem_singleton.1 hb]; rintro rfl; exact OU ha⟩
  ·unfold RW.aO
   dsimp only
   rw [List.set_set]
  ·rw [gF]
   unfold bG IW.aO
   dsimp only
   rw [List.set_set]; rfl
 ·have e3 : ((w.aO x.bk { w.ah[x.bk] with waits:=aY w.ah[x.bk].waits x.call }).aO x.bk { w.ah[x.bk] with waits:=aY w.ah[x.bk].waits x.call,au:=w.ah[x.bk].au ++ [x.call] }).ah[x.bk]? = some { w.ah[x.bk] with waits:=aY w.ah[x.bk].waits x.call,au:=w.ah[x.bk].au ++ [x.call] }:=by
   unfold RW.aO
   dsimp only
   rw [List.getElem?_set,if_pos rfl,if_pos (by rw [List.length_set]; exact hx)]
  unfold qM
  rw [e3]
  show ck (ck ((w.ah[x.bk].au.length : Int) + 1) + (fX w.ak x.bk : Int)) = (((w.ah[x.bk].au ++ [x.call]).length + fX w.ak x.bk : Nat) : Int)
  rw [e2,show ck ((w.ah[x.bk].au.length : Int) + 1 + (fX w.ak x.bk : Int)) = _ from ij (by omega)]
  simp
theorem zU {N : Nat} {w : RW} {s : IW} (c1 : bX N w s) {a b m : Int} (c2 : a = b) : bX (N + 1) (w.ai (decide (m < b)) 2) (s.ai (decide (m < a)) 2):=by
 rw [c2]
 exact (c1.ai _ 2).mono (Nat.le_succ _)
theorem OV {N : Nat} {w : RW} {s : IW} (h : bX N w s) (bV : ∀ b,b ∈ w.ah -> b.au.length <= 100000) (hcz : w.ak.length <= 100000) (x : Ev) (hx : x.bk < w.ah.length) (h5 : x.kind = 5) : SS N (er w x) (qU s x):=by
 unfold er qU
 rw [if_neg (by omega),if_neg (by omega),if_pos h5,h.may x hx,h.first x hx,(h.rL hx).2,h.aL]
 by_cases hm : x.call ∈ w.ah[x.bk].waits \/ jj w x.call x.bk = true
 ·have e0 : (decide (x.call ∈ w.ah[x.bk].waits) || jj w x.call x.bk) = true:=by simpa using hm
  rw [if_pos e0,if_pos hm]
  have hp : bZ s.busy x.call dB = dB \/ (bZ s.busy x.call dB = By /\ bZ s.nj x.call 0 = x.bk):=by
   rcases hm with hm | hm
   ·obtain ⟨g1,g2,_⟩:=h.pl.Z0 (h.dw hx) hm
    exact .inr ⟨g1,g2⟩
   ·have hr : dr w x.call = true:=by unfold jj at hm; simp only [Bool.and_eq_true] at hm; exact hm.1
    exact .inl (h.free hr)
  have h1:=h.ai (fj w x) 9
  generalize fj w x = c0 at h1 ⊢
  cases c0
  ·obtain ⟨c1,c2⟩:=H0 (w:=w) (s:=s) h1 bV hcz x hx hp
   exact ⟨rfl,zU c1 c2⟩
  ·obtain ⟨c1,c2⟩:=H0 (w:=w.fault 9) (s:=s.fault 9) h1 bV hcz x hx hp
   exact ⟨rfl,zU c1 c2⟩
 ·have e0 : (decide (x.call ∈ w.ah[x.bk].waits) || jj w x.call x.bk) = false:=by simpa using hm
  rw [if_neg hm,e0,if_neg (by simp)]
  exact h.ss false
theorem zV {ak : List RC} {i : Nat} (hi : i < ak.length) (c' : RC) (h2 : c'.bk = ak[i].bk) (h4 : ak[i].st ≠ 5) (h5 : c'.st ≠ 5) (j : Nat) : fX (ak.set i c') j = fX ak j:=by
 have:=yd hi c' j
 rw [h2] at this
 simp only [ne_eq,h4,h5,not_false_eq_true,and_true] at this
 omega
theorem OW {L : List (Option Int)} {i : Nat} {c : Int} (hi : L[i]? = some none) (hn : some c ∉ L) (hu : ∀ (i j : Nat) c,L[i]? = some (some c) -> L[j]? = some (some c) -> i = j) :
 (∀ d,d ≠ c -> (some d ∈ L.set i (some c) ↔ some d ∈ L)) /\ some c ∈ L.set i (some c) /\ ∀ (j k : Nat) d,(L.set i (some c))[j]? = some (some d) -> (L.set i (some c))[k]? = some (some d) -> j = k:=by
 have n7:=(List.getElem?_eq_some_iff.1 hi).1
 refine ⟨fun d hd=>⟨fun m=>?_,fun m=>?_⟩,List.mem_iff_getElem?.2 ⟨i,by rw [List.getElem?_set,if_pos rfl,if_pos n7]⟩,fun j k d h1 h2=>?_⟩
 ·rcases List.mem_or_eq_of_mem_set m with m | m
  ·exact m
  ·injection m with m; exact absurd m hd
 ·obtain ⟨j,hj⟩:=List.mem_iff_getElem?.1 m
  refine List.mem_iff_getElem?.2 ⟨j,?_⟩
  rw [List.getElem?_set,if_neg]
  ·exact hj
  ·rintro rfl; rw [hi] at hj; cases hj
 ·rw [List.getElem?_set] at h1 h2
  split at h1
  ·rename_i e1
   injection h1 with h1
   injection h1 with h1
   split at h2
   ·rename_i e2; rw [<- e1,<- e2]
   ·exact absurd (List.mem_iff_getElem?.2 ⟨k,by rw [h1]; exact h2⟩) hn
  ·split at h2
   ·injection h2 with h2
    injection h2 with h2
    exact absurd (List.mem_iff_getElem?.2 ⟨j,by rw [h2]; exact h1⟩) hn
   ·exact hu j k d h1 h2
theorem OX {L : List (Option Int)} {i : Nat} {c : Int} (hi : L[i]? = some (some c)) (hu : ∀ (i j : Nat) c,L[i]? = some (some c) -> L[j]? = some (some c) -> i = j) :
 (∀ d,d ≠ c -> (some d ∈ L.set i none ↔ some d ∈ L)) /\ some c ∉ L.set i none /\ ∀ (j k : Nat) d,(L.set i none)[j]? = some (some d) -> (L.set i none)[k]? = some (some d) -> j = k:=by
 have n7:=(List.getElem?_eq_some_iff.1 hi).1
 have old : ∀ (j : Nat) d,(L.set i none)[j]? = some (some d) -> L[j]? = some (some d) /\ i ≠ j:=fun j d h=>by
  rw [List.getElem?_set] at h
  split at h
  ·cases h
  ·exact ⟨h,‹_›⟩
 refine ⟨fun d hd=>⟨fun m=>?_,fun m=>?_⟩,fun m=>?_,fun j k d h1 h2=>hu j k d (old j d h1).1 (old k d h2).1⟩
 ·obtain ⟨j,hj⟩:=List.mem_iff_getElem?.1 m
  exact List.mem_iff_getElem?.2 ⟨j,(old j d hj).1⟩
 ·obtain ⟨j,hj⟩:=List.mem_iff_getElem?.1 m
  refine List.mem_iff_getElem?.2 ⟨j,?_⟩
  rw [List.getElem?_set,if_neg]
  ·exact hj
  ·rintro rfl; rw [hi] at hj; injection hj with hj; injection hj with hj; exact hd hj.symm
 ·obtain ⟨j,hj⟩:=List.mem_iff_getElem?.1 m
  obtain ⟨h1,h2⟩:=old j c hj
  exact h2 (hu i j c hi h1)
theorem tV {N : Nat} {w : RW} {s : IW} (h : bX N w s) (x : Ev) (hx : x.bk < w.ah.length) {i : Nat} (hi : i < w.ak.length) (h1 : w.ak[i].st ≠ 1) (h5 : w.ak[i].st ≠ 5) (hb : w.ak[i].bk = x.bk) (hp : bZ s.busy x.call dB = dB \/ (bZ s.busy x.call dB = By /\ bZ s.nj x.call 0 = x.bk)) :
 bX N ((w.aO x.bk { w.ah[x.bk] with waits:=aY w.ah[x.bk].waits x.call }).ba i { w.ak[i] with st:=1,call:=x.call,aU:=ck (w.ak[i].aU + 1) }) (jr (bG s x) i x):=by
 have Lv : (w.ak.map eR)[i]? = some none:=by
  rw [List.getElem?_map,List.getElem?_eq_getElem hi]
  show some (eR w.ak[i]) = _
  unfold eR; rw [if_neg h1]
 have nK:=(h.pl.only (call:=x.call) (bk:=x.bk) (hp.elim .inl fun q=>.inr ⟨.inr q.1,q.2⟩)).2
 obtain ⟨l1,l2,l3⟩:=OW Lv nK h.pl.Zy
 have OU : x.call ∉ w.ah[x.bk].au:=by
  rcases hp with hp | hp
  ·exact (h.pl.CR hp (h.dw hx)).1
  ·intro hm
   have:=(h.pl.Zz (h.dw hx) hm).1
   rw [hp.1] at this; cases this
 obtain ⟨c',gP⟩ : ∃ c' : RC,({ w.ak[i] with st:=1,call:=x.call,aU:=ck (w.ak[i].aU + 1) } : RC) = c':=⟨_,rfl⟩
 have q1 : c'.num = w.ak[i].num /\ c'.bk = w.ak[i].bk /\ c'.st = 1 /\ c'.call = x.call:=by rw [<- gP]; exact ⟨rfl,rfl,rfl,rfl⟩
 have q2 : ({ jL w.ak[i] with st:=1,call:=x.call,aU:=ck ((jL w.ak[i]).aU + 1) } : IC) = jL c':=by
  rw [<- gP]
  unfold jL
  dsimp only
  rw [if_neg h5,if_neg (by omega)]
 rw [gP]
 have gW : (w.ak.set i c').map eR = (w.ak.map eR).set i (some x.call):=by rw [List.map_set]; congr 1; unfold eR; rw [if_pos q1.2.2.1,q1.2.2.2]
 have qy : ∀ j,fX (w.ak.set i c') j = fX w.ak j:=fun j=>zV hi c' q1.2.1 h5 (by rw [q1.2.2.1]; omega) j
 refine h.move x.call hx { w.ah[x.bk] with waits:=aY w.ah[x.bk].waits x.call } (show 0 <= w.ah[x.bk].aK from h.uI _ (List.getElem_mem hx)) (w.ak.set i c') (ib':={ fI w.ak x.bk w.ah[x.bk] with waits:=aY w.ah[x.bk].waits x.call }) ?_ (q:=QH) (by simp) ?_ (fun c hc=>⟨Iff.rfl,?_⟩) ⟨?_,?_⟩ (h.pl.Lt _ (List.mem_of_getElem? (h.dw hx))) (fun j _=>qy j) ?_ ?_ ?_ ?_ ?_ s.ord ?_ ?_
 ·unfold fI
  dsimp only
  rw [qy]
 ·rcases hp with hp | hp
  ·exact .inl hp
  ·exact .inr (.inr ⟨.inr hp.1,hp.2⟩)
 ·show c ∈ aY w.ah[x.bk].waits x.call ↔ _
  rw [gO]; exact ⟨fun m=>m.1,fun m=>⟨m,hc⟩⟩
 ·exact ⟨fun m=>absurd m OU,fun m=>by cases m⟩
 ·show x.call ∈ aY w.ah[x.bk].waits x.call ↔ _
  rw [gO]; exact ⟨fun m=>absurd rfl m.2,fun m=>by cases m⟩
 ·rw [nu hi q1.1]; exact h.nU
 ·intro c hc
  rcases List.mem_or_eq_of_mem_set hc with h6 | h6
  ·exact h.cb c h6
  ·rw [h6,q1.2.1]; exact h.cb _ (List.getElem_mem hi)
 ·rw [gW]; exact l1
 ·rw [gW]; exact ⟨fun _=>rfl,fun _=>l2⟩
 ·rw [gW]; exact l3
 ·rfl
 ·unfold jr
  rw [gF]
  unfold bG
  dsimp only
  rw [(h.cn hi).1,(h.rL hx).1,h.ak,List.map_set,<- q2]
  rfl
theorem H2 {N : Nat} {w : RW} {s : IW} (h : bX N w s) (x : Ev) (hx : x.bk < w.ah.length) (hm : x.call ∈ w.ah[x.bk].waits \/ jj w x.call x.bk = true) : bZ s.busy x.call dB = dB \/ (bZ s.busy x.call dB = By /\ bZ s.nj x.call 0 = x.bk):=by
 rcases hm with hm | hm
 ·obtain ⟨g1,g2,_⟩:=h.pl.Z0 (h.dw hx) hm
  exact .inr ⟨g1,g2⟩
 ·have hr : dr w x.call = true:=by unfold jj at hm; simp only [Bool.and_eq_true] at hm; exact hm.1
  exact .inl (h.free hr)
theorem Kb {N : Nat} {w : RW} {s : IW} (h : bX N w s) (x : Ev) (hx : x.bk < w.ah.length) : SS N (ly w x) (mJ s x):=by
 unfold ly mJ
 rw [h.may x hx,h.first x hx,h.there,(h.rL hx).2,h.aL]
 by_cases hm : x.call ∈ w.ah[x.bk].waits \/ jj w x.call x.bk = true
 ·have e0 : (decide (x.call ∈ w.ah[x.bk].waits) || jj w x.call x.bk) = true:=by simpa using hm
  rw [if_pos e0,if_pos hm]
  have hp:=H2 h x hx hm
  cases ht : eQ w x.conn x.bk with
  | none=>exact (h.fault 4).ss true
  | some i =>
    obtain ⟨hi,t1,t2,t3⟩:=kP ht
    dsimp only
    rw [(h.cn hi).1,(h.cn hi).2]
    show SS N _ (if w.ak[i].st = 4 then _ else if w.ak[i].st = 1 then _ else _)
    by_cases c4 : w.ak[i].st = 4
    ·rw [if_pos c4,if_pos c4]; exact (h.fault 4).ss true
    rw [if_neg c4,if_neg c4]
    by_cases c1 : w.ak[i].st = 1
    ·rw [if_pos c1,if_pos c1]; exact (h.fault 1).ss true
    rw [if_neg c1,if_neg c1]
    have e1 : (decide ((w.aL.getD x.bk ⟨0,0,0,0⟩).xu <= ck (s.now - (jL w.ak[i]).born)) || (decide ((jL w.ak[i]).st = 2) && decide ((w.aL.getD x.bk ⟨0,0,0,0⟩).idle <= ck (s.now - (jL w.ak[i]).since)))) = (decide ((w.aL.getD x.bk DU).xu <= ck (w.now - w.ak[i].born)) || (decide (w.ak[i].st = 2) && decide ((w.aL.getD x.bk DU).idle <= ck (w.now - w.ak[i].since)))):=by rw [h.now]; rfl
    rw [e1]
    generalize (decide ((w.aL.getD x.bk DU).xu <= ck (w.now - w.ak[i].born)) || (decide (w.ak[i].st = 2) && decide ((w.aL.getD x.bk DU).idle <= ck (w.now - w.ak[i].since)))) = f5
    have h2:=(h.ai (fj w x) 9).ai f5 5
    generalize fj w x = f9 at h2 ⊢
    refine ⟨rfl,bX.mono ?_ (Nat.le_succ _)⟩
    cases f9 <;> cases f5
    ·exact tV (w:=w) (s:=s) h2 x hx hi c1 t3 t2 hp
    ·exact tV (w:=w.fault 5) (s:=s.fault 5) h2 x hx hi c1 t3 t2 hp
    ·exact tV (w:=w.fault 9) (s:=s.fault 9) h2 x hx hi c1 t3 t2 hp
    ·exact tV (w:=(w.fault 9).fault 5) (s:=(s.fault 9).fault 5) h2 x hx hi c1 t3 t2 hp
 ·have e0 : (decide (x.call ∈ w.ah[x.bk].waits) || jj w x.call x.bk) = false:=by simpa using hm
  rw [if_neg hm,e0,if_neg (by simp)]
  exact h.ss false
theorem kQ {α : Type} {l : List α} {k : Nat} (hk : k < l.length) : l.set k l[k] = l:=by
 apply List.ext_getElem?
 intro i
 rw [List.getElem?_set]
 split
 ·rename_i e; subst e; simp [hk]
 ·rfl
theorem vQ {l : List Int} {n : Int} (h : n ∉ l) : aY l n = l:=by
 unfold aY
 rw [List.filter_eq_self]
 intro a ha
 simp
 rintro rfl
 exact h ha
theorem WL {N : Nat} {w : RW} {s : IW} (h : bX N w s) (hcz : w.ak.length <= 100000) (x : Ev) (hx : x.bk < w.ah.length) (hn : x.conn ∉ w.ak.map (·.num)) :
 bX N { w with ak:=w.ak ++ [⟨x.conn,x.bk,3,0,w.now,0,0,0,0,0⟩] } (({ s with ak:=s.ak ++ [(⟨x.conn,x.bk,0,s.now,-1,0,0,3,0,0⟩ : IC)],ord:=s.ord ++ [x.conn] } : IW).aO x.bk { s.ah.getD x.bk fZ with cp:=ck ((s.ah.getD x.bk fZ).cp + 1) }):=by
 have qy : ∀ j,fX (w.ak ++ [⟨x.conn,x.bk,3,0,w.now,0,0,0,0,0⟩]) j = fX w.ak j + if x.bk = j then 1 else 0:=fun j=>by
  unfold fX
  rw [List.filter_append,List.length_append]
  congr 1
  by_cases e : x.bk = j
  ·rw [if_pos e,e]; simp
  ·rw [if_neg e]
   have : ¬ (x.bk : Int) = j:=by omega
   simp [this]
 have jn:=B3 w.ak x.bk
 have Lv : (w.ak ++ [(⟨x.conn,x.bk,3,0,w.now,0,0,0,0,0⟩ : RC)]).map eR = w.ak.map eR ++ [none]:=by rw [List.map_append]; rfl
 refine ⟨h.aL,h.most,h.now,h.stop,h.ev,h.aG,?_,?_,?_,h.aD,h.pk,h.uI,fun c hc=>?_,?_,?_⟩
 ·unfold IW.aO
  dsimp only
  rw [List.length_set,h.len]
 ·have:=yc h hx (w.ak ++ [⟨x.conn,x.bk,3,0,w.now,0,0,0,0,0⟩]) (fun j hj=>by rw [qy,if_neg (fun e=>hj e.symm)]; rfl) w.ah[x.bk] (ib':={ s.ah.getD x.bk fZ with cp:=ck ((s.ah.getD x.bk fZ).cp + 1) }) (by
   rw [(h.rL hx).1]
   unfold fI
   dsimp only
   rw [qy,if_pos rfl,show ck ((fX w.ak x.bk : Int) + 1) = _ from ij (by omega)]
   simp)
  rw [kQ hx] at this
  exact this
 ·show s.ak ++ _ = (w.ak ++ _).map jL
  rw [h.ak,List.map_append,h.now]; rfl
 ·rcases List.mem_append.1 hc with h1 | h1
  ·exact h.cb c h1
  ·rw [List.mem_singleton.1 h1]; exact ⟨x.bk,hx,rfl⟩
 ·show ((w.ak ++ _).map (·.num)).Nodup
  rw [List.map_append,List.nodup_append]
  exact ⟨h.nU,by simp,fun a ha b hb=>by simp at hb; rw [hb]; rintro rfl; exact hn ha⟩
 ·show PL (w.ah.map pP) ((w.ak ++ [(⟨x.conn,x.bk,3,0,w.now,0,0,0,0,0⟩ : RC)]).map eR) s.busy s.nj
  rw [Lv]
  have hp:=h.pl
  refine ⟨hp.ng,hp.ik,fun c=>?_,hp.one,hp.QJ,hp.rng,fun i j c h1 h2=>?_,hp.Lt,hp.key⟩
  ·rw [<- hp.QI c]; simp
  ·have dt : ∀ k,(w.ak.map eR ++ [none])[k]? = some (some c) -> (w.ak.map eR)[k]? = some (some c):=fun k hk=>by
    rw [List.getElem?_append] at hk
    split at hk
    ·exact hk
    ·rw [List.getElem?_singleton] at hk
     split at hk <;> cases hk
   exact hp.Zy i j c (dt i h1) (dt j h2)
theorem OY {N : Nat} {w : RW} {s : IW} (h : bX N w s) (bV : ∀ b,b ∈ w.ah -> b.au.length <= 100000) (hcz : w.ak.length <= 100000) (x : Ev) (hx : x.bk < w.ah.length) : SS N (pI w x) (qW s x):=by
 obtain ⟨d1,d2,d3⟩:=vP h bV x hx
 have e1 : (s.ak.map (·.num)).findIdx? (· == x.conn) = w.ak.findIdx? (fun c=>c.num == x.conn):=by
  rw [h.ak,List.map_map,List.findIdx?_map]; rfl
 unfold pI qW
 rw [e1,(h.rL hx).2]
 by_cases hm : x.call ∈ w.ah[x.bk].au
 rotate_left
 ·rw [if_neg hm]
  cases w.ak.findIdx? (fun c=>c.num == x.conn) with
  | some i=>exact h.ss false
  | none =>
    dsimp only
    rw [d1,d3 hm]
    simp only [hm,decide_false]
    exact h.ss false
 ·rw [if_pos hm]
  cases hf : w.ak.findIdx? (fun c=>c.num == x.conn) with
  | some i =>
    rw [List.findIdx?_eq_some_iff_getElem] at hf
    obtain ⟨hi,hf,_⟩:=hf
    have : w.ak.any (fun c=>c.num == x.conn) = true:=List.any_eq_true.2 ⟨_,List.getElem_mem hi,hf⟩
    rw [if_pos this]
    exact h.ss false
  | none =>
    rw [List.findIdx?_eq_none_iff] at hf
    have : ¬ w.ak.any (fun c=>c.num == x.conn) = true:=fun q=>by
     obtain ⟨c,hc,q⟩:=List.any_eq_true.1 q
     rw [hf c hc] at q; cases q
    rw [if_neg this]
    dsimp only
    rw [d1,show decide (x.call ∈ w.ah[x.bk].au) = true by simpa using hm,if_pos (rfl : true = true)]
    obtain ⟨g1,g2,g3,g4⟩:=d2 hm
    refine ⟨rfl,?_⟩
    generalize (aZ s x).1 = s1 at g1 g2 g3 g4 ⊢
    obtain ⟨w1,jd⟩ : ∃ w1,w.aO x.bk { w.ah[x.bk] with au:=aY w.ah[x.bk].au x.call } = w1:=⟨_,rfl⟩
    have jN : w1.now = w.now /\ w1.ak = w.ak /\ w1.ah.length = w.ah.length:=by rw [<- jd]; exact ⟨rfl,rfl,List.length_set⟩
    rw [jd] at g1 ⊢
    have hn : x.conn ∉ w1.ak.map (·.num):=fun q=>by
     rw [jN.2.1] at q
     obtain ⟨c,hc,q⟩:=List.mem_map.1 q
     have:=hf c hc
     simp [q] at this
    have jg : x.bk < w1.ah.length:=by rw [jN.2.2]; exact hx
    have ha:=WL g1 (by rw [jN.2.1]; exact hcz) x jg hn
    rw [<- jN.1]
    cases hy : x.yes
    ·exact ha.mono (Nat.le_succ _)
    ·refine bX.mono ?_ (Nat.le_succ _)
     show bX N { w1 with ak:=w1.ak ++ [⟨x.conn,x.bk,1,x.call,w1.now,0,0,1,0,0⟩] } (jr (({ s1 with ak:=s1.ak ++ [(⟨x.conn,x.bk,0,s1.now,-1,0,0,3,0,0⟩ : IC)],ord:=s1.ord ++ [x.conn] } : IW).aO x.bk { s1.ah.getD x.bk fZ with cp:=ck ((s1.ah.getD x.bk fZ).cp + 1) }) s1.ak.length x)
     have hl : s1.ak.length = w1.ak.length:=by rw [g1.ak,List.length_map]
     rw [hl]
     have hbz : bZ (({ s1 with ak:=s1.ak ++ [(⟨x.conn,x.bk,0,s1.now,-1,0,0,3,0,0⟩ : IC)],ord:=s1.ord ++ [x.conn] } : IW).aO x.bk { s1.ah.getD x.bk fZ with cp:=ck ((s1.ah.getD x.bk fZ).cp + 1) }).busy x.call dB = dB:=g2
     generalize (({ s1 with ak:=s1.ak ++ [(⟨x.conn,x.bk,0,s1.now,-1,0,0,3,0,0⟩ : IC)],ord:=s1.ord ++ [x.conn] } : IW).aO x.bk { s1.ah.getD x.bk fZ with cp:=ck ((s1.ah.getD x.bk fZ).cp + 1) }) = s3 at ha hbz ⊢
     obtain ⟨w2,QG⟩ : ∃ w2 : RW,({ w1 with ak:=w1.ak ++ [(⟨x.conn,x.bk,3,0,w1.now,0,0,0,0,0⟩ : RC)] } : RW) = w2:=⟨_,rfl⟩
     rw [QG] at ha
     have di : x.bk < w2.ah.length:=by rw [<- QG]; exact jg
     have tW : w2.ak = w1.ak ++ [(⟨x.conn,x.bk,3,0,w1.now,0,0,0,0,0⟩ : RC)]:=by rw [<- QG]
     have lM : w1.ak.length < w2.ak.length:=by rw [tW]; simp
     have yE : w2.ak[w1.ak.length] = (⟨x.conn,x.bk,3,0,w1.now,0,0,0,0,0⟩ : RC):=by simp [tW]
     have ht:=tV ha x di lM (by rw [yE]; show (3 : Int) ≠ 1; omega) (by rw [yE]; show (3 : Int) ≠ 5; omega) (by rw [yE]) (.inl hbz)
     have HE:=(ha.pl.CR hbz (ha.dw di)).2
     dsimp only at HE
     have e5 : bG s3 x = s3:=by
      unfold bG
      rw [(ha.rL di).1]
      have : ({ fI w2.ak x.bk w2.ah[x.bk] with waits:=vp (fI w2.ak x.bk w2.ah[x.bk]).waits x.call } : IB) = fI w2.ak x.bk w2.ah[x.bk]:=by
       have e6 : vp (fI w2.ak x.bk w2.ah[x.bk]).waits x.call = w2.ah[x.bk].waits:=vQ HE
       rw [e6]; rfl
      rw [this]
      have e7:=ha.bk x.bk _ (List.getElem?_eq_getElem di)
      obtain ⟨h9,r9⟩:=List.getElem?_eq_some_iff.1 e7
      rw [<- r9,kQ h9]
     have e6 : w2.aO x.bk { w2.ah[x.bk] with waits:=aY w2.ah[x.bk].waits x.call } = w2:=by
      unfold RW.aO
      rw [vQ HE,kQ di]
     rw [e5,e6,yE] at ht
     have e7 : w2.ba w1.ak.length { (⟨x.conn,x.bk,3,0,w1.now,0,0,0,0,0⟩ : RC) with st:=1,call:=x.call,aU:=ck ((0 : Int) + 1) } = { w1 with ak:=w1.ak ++ [⟨x.conn,x.bk,1,x.call,w1.now,0,0,1,0,0⟩] }:=by
      rw [<- QG]
      unfold RW.ba
      dsimp only
      rw [List.set_append_right _ _ (Nat.le_refl _),Nat.sub_self]
      rfl
     rw [<- e7]
     exact ht
theorem OZ {N : Nat} {w : RW} {s : IW} (h : bX N w s) (x : Ev) (hx : x.bk < w.ah.length) : SS N (match ku w x with | none=>(w,false) | some i=>(w.ba i { w.ak.getD i yn with st:=if x.yes then 3 else 4,call:=0 },true)) (qO s x):=by
 unfold qO
 rw [h.own]
 cases ho : ku w x with
 | none=>exact h.ss false
 | some i =>
   obtain ⟨hi,t1,t2,t3,t4⟩:=ya ho
   dsimp only
   rw [(h.cn hi).1,(h.cn hi).2]
   refine ⟨rfl,bX.mono ?_ (Nat.le_succ _)⟩
   obtain ⟨st',iq⟩ : ∃ st' : Int,(if x.yes then (3 : Int) else 4) = st':=⟨_,rfl⟩
   have Pb : st' ≠ 1 /\ st' ≠ 5:=by rw [<- iq]; cases x.yes <;> simp
   dsimp only
   rw [iq]
   obtain ⟨c',gP⟩ : ∃ c' : RC,({ w.ak[i] with st:=st',call:=0 } : RC) = c':=⟨_,rfl⟩
   have q1 : c'.num = w.ak[i].num /\ c'.bk = w.ak[i].bk /\ c'.st = st':=by rw [<- gP]; exact ⟨rfl,rfl,rfl⟩
   have q2 : ({ jL w.ak[i] with st:=st',call:=0 } : IC) = jL c':=by
    rw [<- gP]
    unfold jL
    dsimp only
    rw [if_neg (by omega),if_neg Pb.2]
   rw [gP,q2]
   have Lv : (w.ak.map eR)[i]? = some (some x.call):=by
    rw [List.getElem?_map,List.getElem?_eq_getElem hi]
    show some (eR w.ak[i]) = _
    unfold eR; rw [if_pos t3,t4]
   obtain ⟨l1,l2,l3⟩:=OX Lv h.pl.Zy
   have gW : (w.ak.set i c').map eR = (w.ak.map eR).set i none:=by rw [List.map_set]; congr 1; unfold eR; rw [if_neg (by rw [q1.2.2]; exact Pb.1)]
   have qy : ∀ j,fX (w.ak.set i c') j = fX w.ak j:=fun j=>zV hi c' q1.2.1 (by omega) (by rw [q1.2.2]; exact Pb.2) j
   have r7 : bZ s.busy x.call dB = QH:=by
    have:=(h.pl.QI x.call).1 (List.mem_iff_getElem?.2 ⟨i,Lv⟩)
    rcases h.pl.one x.call with e | e | e | e <;> rw [e] at this <;> first | exact e | cases this
   refine h.move x.call hx w.ah[x.bk] (h.uI _ (List.getElem_mem hx)) (w.ak.set i c') (ib':=fI w.ak x.bk w.ah[x.bk]) (by unfold fI; rw [qy]) (q:=dB) (by simp) (.inr (.inl r7)) (fun c hc=>⟨Iff.rfl,Iff.rfl⟩) ⟨?_,?_⟩ (h.pl.Lt _ (List.mem_of_getElem? (h.dw hx))) (fun j _=>qy j) ?_ ?_ ?_ ?_ ?_ s.ord ?_ ?_
   ·refine ⟨fun m=>?_,fun m=>by cases m⟩
    have:=(h.pl.Zz (h.dw hx) m).1
    rw [r7] at this; cases this
   ·refine ⟨fun m=>?_,fun m=>by cases m⟩
    have:=(h.pl.Z0 (h.dw hx) m).1
    rw [r7] at this; cases this
   ·rw [nu hi q1.1]; exact h.nU
   ·intro c hc
    rcases List.mem_or_eq_of_mem_set hc with h6 | h6
    ·exact h.cb c h6
    ·rw [h6,q1.2.1]; exact h.cb _ (List.getElem_mem hi)
   ·rw [gW]; exact l1
   ·rw [gW]; exact ⟨fun m=>absurd m l2,fun m=>by cases m⟩
   ·rw [gW]; exact l3
   ·rw [kQ hx]; rfl
   ·rw [gF]
    have e7:=h.bk x.bk _ (List.getElem?_eq_getElem hx)
    obtain ⟨h9,r9⟩:=List.getElem?_eq_some_iff.1 e7
    rw [<- r9,kQ h9]
    unfold IW.ba
    dsimp only
    rw [h.ak,List.map_set]
theorem Pc {N : Nat} {w : RW} {s : IW} (h : bX N w s) (x : Ev) (hk : x.kind = 10) : SS N (rJ w x,true) (qQ s x):=by
 unfold rJ qQ
 rw [h.own]
 cases ho : ku w x with
 | none=>exact (h.fault 4).ss true
 | some i =>
   obtain ⟨hi,t1,t2,t3,t4⟩:=ya ho
   dsimp only
   rw [(h.cn hi).1,(h.cn hi).2,if_pos hk]
   refine ⟨rfl,bX.mono ?_ (Nat.le_succ _)⟩
   have h1:=h.ai (decide (x.jQ ≠ x.call)) 6
   obtain ⟨_,f2,_⟩:=ON w (decide (x.jQ ≠ x.call)) 6
   refine h1.Lu (by rw [f2]; exact hi) { w.ak[i] with read:=ck (w.ak[i].read + x.n) } ?_ ?_ ?_ ?_
   ·rw [f2,(h.cn hi).2]; exact ⟨rfl,rfl,rfl⟩
   ·rw [f2,(h.cn hi).2]; omega
   ·show w.ak[i].st ≠ 5; omega
   ·rfl
theorem Pd {N : Nat} {w : RW} {s : IW} (h : bX N w s) (x : Ev) (hk : x.kind = 9) : SS N (rJ w x,true) (qR s x):=by
 unfold rJ qR
 rw [h.own,h.find]
 cases ho : ku w x with
 | none=>exact (h.fault 4).ss true
 | some i =>
   obtain ⟨hi,t1,t2,t3,t4⟩:=ya ho
   dsimp only
   rw [if_neg (by omega)]
   cases hf : dp w x.call with
   | none=>exact h.ss true
   | some j =>
     obtain ⟨hj,_⟩:=nt hf
     have hpk:=h.pk _ (List.getElem_mem hj)
     dsimp only
     rw [(h.cn hi).1,(h.cn hi).2,(h.rq hj).1,(h.rq hj).2]
     refine ⟨rfl,?_⟩
     have e1 : (!(nF w.aD[j]).2.idem && decide (0 < (nF w.aD[j]).2.bK) && decide ((nF w.aD[j]).2.bK < (nF w.aD[j]).2.aM)) = (!w.aD[j].idem && decide (0 < w.aD[j].bK) && decide (w.aD[j].bK < w.aD[j].aM)):=rfl
     rw [e1]
     generalize (!w.aD[j].idem && decide (0 < w.aD[j].bK) && decide (w.aD[j].bK < w.aD[j].aM)) = f10
     have h1:=h.ai f10 10
     obtain ⟨_,f2,f3,_⟩:=ON w f10 10
     have h2:=h1.vt (i:=j) (by rw [f3]; exact hj) { w.aD[j] with bK:=w.aD[j].aM } (by rw [f3,(h.rq hj).2]) (by show 0 <= w.aD[j].aM /\ w.aD[j].aM <= _; omega) (ir':={ (nF w.aD[j]).2 with bK:=(nF w.aD[j]).2.aM }) rfl
     have f4 : ((w.ai f10 10).dO j { w.aD[j] with bK:=w.aD[j].aM }).ak = w.ak:=f2
     refine h2.Lu (by rw [f4]; exact hi) { w.ak[i] with bK:=ck (w.ak[i].bK + x.n) } ?_ ?_ ?_ ?_
     ·rw [f4,(h.cn hi).2]; exact ⟨rfl,rfl,rfl⟩
     ·rw [f4,(h.cn hi).2]; omega
     ·show w.ak[i].st ≠ 5; omega
     ·rfl
theorem Pe {N : Nat} {w : RW} {s : IW} (h : bX N w s) (x : Ev) (hk : x.kind = 12) : SS N (lE w x) (qP s x):=by
 unfold lE qP
 rw [h.there]
 cases ht : eQ w x.conn x.bk with
 | none=>exact (h.fault 4).ss true
 | some i =>
   obtain ⟨hi,t1,t2,t3⟩:=kP ht
   dsimp only
   rw [(h.cn hi).1,(h.cn hi).2]
   show SS N _ (if w.ak[i].st = 4 then _ else if w.ak[i].st = 1 then _ else if w.ak[i].st = 2 then _ else _)
   by_cases c4 : w.ak[i].st = 4
   ·rw [if_pos ⟨hk,c4⟩,if_pos c4]; exact (h.fault 4).ss true
   rw [if_neg (fun q=>c4 q.2),if_neg c4,if_neg (by omega)]
   by_cases c1 : w.ak[i].st = 1
   ·rw [if_pos c1,if_pos c1]; exact (h.fault 1).ss true
   rw [if_neg c1,if_neg c1]
   by_cases c2 : w.ak[i].st = 2
   ·rw [if_pos c2,if_pos c2]; exact h.ss false
   rw [if_neg c2,if_neg c2]
   refine ⟨rfl,bX.mono ?_ (Nat.le_succ _)⟩
   refine h.ba hi { w.ak[i] with st:=2,since:=w.now } rfl rfl ?_ t3 (by show (2 : Int) ≠ 5; omega) ?_
   ·unfold eR
    rw [if_neg c1,if_neg (by show ¬ (2 : Int) = 1; omega)]
   ·unfold jL
    dsimp only
    rw [if_neg t3,if_neg (by omega),h.now]
theorem Kd {N : Nat} {w : RW} {s : IW} (h : bX N w s) (hcz : w.ak.length <= 100000) (x : Ev) (hx : x.bk < w.ah.length) (hk : x.kind = 13) : SS N (lE w x) (mH s x):=by
 unfold lE mH
 rw [h.there]
 cases ht : eQ w x.conn x.bk with
 | none=>exact (h.fault 4).ss true
 | some i =>
   obtain ⟨hi,t1,t2,t3⟩:=kP ht
   dsimp only
   rw [(h.cn hi).1,(h.cn hi).2,(h.rL hx).1,if_neg (by omega),if_pos hk]
   show SS N _ (if w.ak[i].st = 1 then _ else _)
   by_cases c1 : w.ak[i].st = 1
   ·rw [if_pos c1,if_pos c1]; exact h.ss false
   rw [if_neg c1,if_neg c1]
   refine ⟨rfl,bX.mono ?_ (Nat.le_succ _)⟩
   have jn:=B3 w.ak x.bk
   obtain ⟨c',gP⟩ : ∃ c' : RC,({ w.ak[i] with st:=5,fin:=w.now } : RC) = c':=⟨_,rfl⟩
   have q1 : c'.num = w.ak[i].num /\ c'.bk = w.ak[i].bk /\ c'.st = 5:=by rw [<- gP]; exact ⟨rfl,rfl,rfl⟩
   have q2 : ({ jL w.ak[i] with st:=5,gone:=s.now } : IC) = jL c':=by
    rw [<- gP,h.now]
    unfold jL
    dsimp only
    rw [if_pos rfl]
   show bX N (w.ba i { w.ak[i] with st:=5,fin:=w.now }) _
   rw [gP,q2]
   have qy : ∀ j,(fX (w.ak.set i c') j : Int) = fX w.ak j - if x.bk = j then 1 else 0:=fun j=>by
    have:=yd hi c' j
    rw [if_neg (c:=c'.bk = (j : Int) /\ c'.st ≠ 5) (fun q=>q.2 q1.2.2)] at this
    by_cases e : x.bk = j
    ·rw [if_pos ⟨by omega,t3⟩] at this
     rw [if_pos e]; omega
    ·rw [if_neg (fun q=>e (by have:=q.1; omega))] at this
     rw [if_neg e]; omega
   have Lv : (w.ak.set i c').map eR = w.ak.map eR:=Hw hi (by unfold eR; rw [if_neg c1,if_neg (by omega)])
   refine ⟨h.aL,h.most,h.now,h.stop,h.ev,h.aG,?_,?_,?_,h.aD,h.pk,h.uI,fun c hc=>?_,?_,?_⟩
   ·unfold IW.aO IW.ba RW.ba
    dsimp only
    rw [List.length_set,h.len]
   ·have:=yc h hx (w.ak.set i c') (fun j hj=>by have:=qy j; rw [if_neg (fun e=>hj e.symm)] at this; omega) w.ah[x.bk] (ib':={ fI w.ak x.bk w.ah[x.bk] with cp:=ck ((fI w.ak x.bk w.ah[x.bk]).cp - 1) }) (by
     unfold fI
     dsimp only
     have h3:=qy x.bk
     rw [if_pos rfl] at h3
     rw [show ck ((fX w.ak x.bk : Int) - 1) = _ from ij (by omega),h3])
    rw [kQ hx] at this
    exact this
   ·show s.ak.set i (jL c') = (w.ak.set i c').map jL
    rw [h.ak,List.map_set]
   ·rcases List.mem_or_eq_of_mem_set hc with h6 | h6
    ·exact h.cb c h6
    ·rw [h6,q1.2.1]; exact h.cb _ (List.getElem_mem hi)
   ·show ((w.ak.set i c').map (·.num)).Nodup
    rw [nu hi q1.1]; exact h.nU
   ·show PL (w.ah.map pP) ((w.ak.set i c').map eR) s.busy s.nj
    rw [Lv]; exact h.pl
theorem Pf {N : Nat} {w : RW} {s : IW} (h : bX N w s) (x : Ev) (hx : x.bk < w.ah.length) (hk : x.kind = 3) : SS N (er w x) (pC s x):=by
 unfold er
 rw [if_pos hk]
 exact OT h x hx
theorem Ke {N : Nat} {w : RW} {s : IW} (h : bX N w s) (x : Ev) (hx : x.bk < w.ah.length) (hk : x.kind = 4) : SS N (er w x) (mG s x):=by
 unfold er
 rw [if_neg (by omega),if_pos hk]
 exact Ka h x hx
theorem Es {N : Nat} {w : RW} {s : IW} (h : bX N w s) (bV : ∀ b,b ∈ w.ah -> b.au.length <= 100000) (x : Ev) (hx : x.bk < w.ah.length) (hk : x.kind = 6) : SS N (er w x) (aZ s x):=by
 unfold er
 rw [if_neg (by omega),if_neg (by omega),if_neg (by omega)]
 exact Er h bV x hx
theorem WM {N : Nat} {w : RW} {s : IW} (h : bX N w s) (x : Ev) (hk : x.kind = 17) : SS N (fQ w x) (xE s x):=by
 unfold fQ
 rw [if_pos hk]
 exact WK h x
theorem Pg {N : Nat} {w : RW} {s : IW} (h : bX N w s) (x : Ev) (hk : x.kind = 18) : SS N (fQ w x) (tw s):=by
 unfold fQ
 rw [if_neg (by omega),if_pos hk]
 exact OR h
theorem Ph {N : Nat} {w : RW} {s : IW} (h : bX N w s) (x : Ev) (hk : x.kind = 19) : SS N (fQ w x) (pG s):=by
 unfold fQ
 rw [if_neg (by omega),if_neg (by omega)]
 exact OS h
theorem H3 {N : Nat} {w : RW} {s : IW} (h : bX N w s) (hN : N <= 100000) (bV : ∀ b,b ∈ w.ah -> b.au.length <= 100000) (hcz : w.ak.length <= 100000) (x : Ev) (dV : 1 <= x.kind) (fJ : x.kind <= 19) (hb : 2 <= x.kind -> x.kind <= 16 -> x.bk < w.ah.length) (hc : x.kind = 2 -> 1 <= x.call) : SS N (js w x) (eM s x):=by
 obtain ⟨n,hn⟩ : ∃ n : Nat,x.kind = n:=⟨x.kind.toNat,by omega⟩
 unfold js eM
 rw [show x.kind.toNat = n by omega]
 rcases (show n = 1 \/ n = 2 \/ n = 3 \/ n = 4 \/ n = 5 \/ n = 6 \/ n = 7 \/ n = 8 \/ n = 9 \/ n = 10 \/ n = 11 \/ n = 12 \/ n = 13 \/ n = 14 \/ n = 15 \/ n = 16 \/ n = 17 \/ n = 18 \/ n = 19 by omega) with rfl | rfl | rfl | rfl | rfl | rfl | rfl | rfl | rfl | rfl | rfl | rfl | rfl | rfl | rfl | rfl | rfl | rfl | rfl
 all_goals simp only [hn]
 ·exact JZ h x
 ·exact OQ h hN x (hb (by omega) (by omega)) (hc (by omega))
 ·exact Pf h x (hb (by omega) (by omega)) (by omega)
 ·exact Ke h x (hb (by omega) (by omega)) (by omega)
 ·exact OV h bV hcz x (hb (by omega) (by omega)) hn
 ·exact Es h bV x (hb (by omega) (by omega)) (by omega)
 ·exact OY h bV hcz x (hb (by omega) (by omega))
 ·exact Kb h x (hb (by omega) (by omega))
 ·exact Pd h x hn
 ·exact Pc h x hn
 ·exact OZ h x (hb (by omega) (by omega))
 ·exact Pe h x hn
 ·exact Kd h hcz x (hb (by omega) (by omega)) hn
 ·exact OO h x (hb (by omega) (by omega))
 ·exact OP h x (hb (by omega) (by omega))
 ·exact Hy h x (hb (by omega) (by omega))
 ·exact WM h x (by omega)
 ·exact Pg h x (by omega)
 ·exact Ph h x (by omega)
def gR (L : List fb) (most : Int) (l : List Ex) : RW:=⟨L,most,l,0,List.replicate L.length gx,[],[],false,0,[]⟩
theorem bX.pre {N : Nat} {w : RW} {s : IW} (h : bX N w s) (k : Nat) (x : Ev) : bX N (if x.t < w.now then ({ w with ev:=(k : Int) } : RW).fault 12 else { ({ w with ev:=(k : Int) } : RW) with now:=x.t }) (fc { s with at_:=(k : Int) } x):=by
 unfold fc
 show bX N _ { IW.ai { s with at_:=(k : Int) } (decide (x.t < s.now)) 12 with now:=if s.now < x.t then x.t else s.now }
 rw [h.now]
 by_cases c : x.t < w.now
 ·rw [if_pos c,if_neg (by omega),decide_eq_true c]
  exact ⟨h.aL,h.most,rfl,h.stop,rfl,by show s.aG ++ _ = w.aG ++ _; rw [h.aG],h.len,h.bk,h.ak,h.aD,h.pk,h.uI,h.cb,h.nU,h.pl⟩
 ·have e : (if w.now < x.t then x.t else w.now) = x.t:=by split <;> omega
  rw [if_neg c,e,decide_eq_false c]
  exact ⟨h.aL,h.most,rfl,h.stop,rfl,h.aG,h.len,h.bk,h.ak,h.aD,h.pk,h.uI,h.cb,h.nU,h.pl⟩
theorem Et {N : Nat} {w : RW} {s : IW} (h : bX N w s) (hN : N <= 100000) (bV : ∀ b,b ∈ w.ah -> b.au.length <= 100000) (hcz : w.ak.length <= 100000) (k : Nat) (x : Ev) (dV : 1 <= x.kind) (fJ : x.kind <= 19) (hb : 2 <= x.kind -> x.kind <= 16 -> x.bk < w.ah.length) (hc : x.kind = 2 -> 1 <= x.call) : bX (N + 1) (l5 w k x) (ia s k x):=by
 have h1:=h.pre k x
 unfold l5 ia
 dsimp only
 have e1 : (if x.t < w.now then ({ w with ev:=(k : Int) } : RW).fault 12 else { ({ w with ev:=(k : Int) } : RW) with now:=x.t }).ah = w.ah /\ (if x.t < w.now then ({ w with ev:=(k : Int) } : RW).fault 12 else { ({ w with ev:=(k : Int) } : RW) with now:=x.t }).ak = w.ak:=by split <;> exact ⟨rfl,rfl⟩
 generalize (if x.t < w.now then ({ w with ev:=(k : Int) } : RW).fault 12 else { ({ w with ev:=(k : Int) } : RW) with now:=x.t }) = w1 at h1 e1 ⊢
 generalize fc { s with at_:=(k : Int) } x = s1 at h1 ⊢
 obtain ⟨h2,h3⟩:=H3 h1 hN (by rw [e1.1]; exact bV) (by rw [e1.2]; exact hcz) x dV fJ (by rw [e1.1]; exact hb) hc
 generalize js w1 x = z at h2 h3 ⊢
 generalize eM s1 x = z' at h2 h3 ⊢
 unfold tD
 rw [h2]
 have h4 : bX (N + 1) (if z.2 = true then z.1 else z.1.fault 13) (z'.1.ai (!z.2) 13):=by
  cases z.2
  ·exact h3.fault 13
  ·exact h3
 generalize (if z.2 = true then z.1 else z.1.fault 13) = w3 at h4 ⊢
 dsimp only
 generalize z'.1.ai (!z.2) 13 = s3 at h4 ⊢
 exact ⟨h4.aL,h4.most,h4.now,h4.stop,h4.ev,by dsimp only; rw [h4.aG,h.aG],h4.len,h4.bk,h4.ak,h4.aD,h4.pk,h4.uI,h4.cb,h4.nU,h4.pl⟩
theorem Kf (L : List fb) (most : Int) (l : List Ex) : bX 0 (gR L most l) (ft L most l):=by
 have e : ∀ (i : Nat) b,((List.replicate L.length gx).map pP)[i]? = some b -> b = ([],[]):=fun i b hb=>by
  rw [List.map_replicate] at hb
  obtain ⟨hi,hb⟩:=List.getElem?_eq_some_iff.1 hb
  rw [<- hb,List.getElem_replicate]; rfl
 refine ⟨rfl,rfl,rfl,rfl,rfl,rfl,by simp [ft,gR],fun i b hb=>?_,rfl,rfl,fun r hr=>by simp [gR] at hr,fun b hb=>?_,fun c hc=>by simp [gR] at hc,List.nodup_nil,?_⟩
 ·unfold gR at hb
  unfold ft gR
  dsimp only at hb ⊢
  obtain ⟨hi,hb⟩:=List.getElem?_eq_some_iff.1 hb
  rw [List.length_replicate] at hi
  rw [<- hb,List.getElem_replicate,List.getElem?_replicate,if_pos hi]; rfl
 ·rw [(List.mem_replicate.1 hb).2]; exact Int.le_refl _
 ·refine ⟨fun c i b hb=>?_,fun c i b hb=>?_,fun c=>?_,fun c=>.inl rfl,fun c=>?_,fun c hc=>?_,fun i j c h1=>?_,fun b hb=>?_,List.nodup_nil⟩
  ·rw [e i b hb]
   exact ⟨fun m=>by simp at m,fun m=>by cases m.1⟩
  ·rw [e i b hb]
   exact ⟨fun m=>by simp at m,fun m=>by cases m.1⟩
  ·exact ⟨fun m=>by simp [gR] at m,fun m=>by cases m⟩
  ·exact ⟨fun m=>by simp [ft] at m,fun m=>absurd rfl m⟩
  ·rcases hc with hc | hc <;> cases hc
  ·simp [gR] at h1
  ·obtain ⟨i,hi⟩:=List.mem_iff_getElem?.1 hb
   rw [e i b hi]; exact List.nodup_nil
theorem qz (L : List fb) (most : Int) (l : List Ex) : Gd l L 0 (gR L most l):=by
 refine ⟨rfl,rfl,by simp [gR],by simp [gR],by simp [gR],by simp [gR],fun b hb=>?_,⟨fun c hc=>by simp [gR] at hc,fun b hb n hn=>?_,fun b hb n hn=>?_⟩⟩
 ·rw [(List.mem_replicate.1 hb).2]; exact ⟨Nat.le_refl _,Nat.le_refl _⟩
 ·rw [(List.mem_replicate.1 hb).2] at hn; simp [gx] at hn
 ·rw [(List.mem_replicate.1 hb).2] at hn; simp [gx] at hn
theorem Eu {s : RW} {l : List Ex} {k : Nat} {e : Ex} (h : l[k]? = some e) : runN s l (k + 1) = l5 (runN s l k) k e.ev:=by show (match l[k]? with | some e=>_ | none=>_) = _; rw [h]
theorem zW (L : List fb) (most : Int) (l : List Ex) (hl : l.length <= 100000) (hv : ∀ e,e ∈ l -> VE L.length e) (hc : ∀ e,e ∈ l -> e.ev.kind = 2 -> 1 <= e.ev.call) : ∀ k,k <= l.length -> bX k (runN (gR L most l) l k) (eG (ft L most l) l k)
 | 0,_=>Kf L most l
 | k + 1,hk=>by
   have ih:=zW L most l hl hv hc k (by omega)
   have hg:=pN (qz L most l) hv k
   have he : l[k]? = some l[k]:=List.getElem?_eq_getElem (by omega)
   rw [Eu he,j4 he]
   have hm : l[k] ∈ l:=List.getElem_mem _
   obtain ⟨v1,v2,v3⟩:=hv _ hm
   exact Et ih (by omega) (fun b hb=>by have:=(hg.GH b hb).2; omega) (by have:=hg.ak; omega) k _ v1 v2 (fun a b=>by rw [hg.len]; exact (v3 a b).2) (hc _ hm)
theorem H4 {nb : Nat} {e : Ex} (h : dY nb e = false) (hk : e.ev.kind = 2) : 1 <= e.ev.call:=by
 unfold dY at h
 rw [hk] at h
 simp only [Bool.or_eq_false_iff] at h
 have h3:=h.2
 unfold xM at h3
 simp only [Bool.or_eq_false_iff] at h3
 have h4:=h3.1.1.1.1.2
 have e : (nd (Int.toNat 2)).call = true:=rfl
 rw [e] at h4
 simp at h4
 omega
theorem vR {L : List fb} {most : Int} {l : List Ex} (h : (bF L most l).2 = 0) (hn : ∀ e,e ∈ l -> NE e) : bX l.length (runN (gR L most l) l l.length) (eG (ft L most l) l l.length):=by
 obtain ⟨h1,h2,h3,h4,h5,h6,h7⟩:=jK h
 exact zW L most l (by omega) (fun e he=>tH (h7 e he) (hn e he)) (fun e he hk=>H4 (h7 e he) hk) l.length (Nat.le_refl _)
def NR (e : Ex) : Prop:=-9223372036854775808 <= e.ev.n /\ e.ev.n <= 9223372036854775807
theorem Kg (m : fb) (bx : aa) : ay prog 88 [bT m] bx (.bool (!hZ m)):=by
 refine V2 fun hf=>?_
 have hz : (decide (1 <= m.max) && decide (m.max <= 64) && decide (0 <= m.queue) && decide (m.queue <= 64) && decide (1 <= m.idle) && decide (m.idle <= 1000000000000) && decide (1 <= m.xu) && decide (m.xu <= 1000000000000)) = !hZ m:=by
  unfold hZ Bg
  rw [Bool.eq_iff_iff]
  simp
  omega
 simp [go_sem,C88,hf,bT,iI]
 rw [hz]
 exact az (by simp [go_sem]) ⟨by simp [go_sem],rfl⟩
theorem H5 {bx : aa} (hf : bj bx) (L : List fb) (most : Int) (l : List Ex) (hL : L.length <= 1000) {b p : Nat} (h1 : bx b = none) (h2 : bx p = none) (d : p ≠ b) :
 WR bx ⟨p,b,.aI,.aI,.aI,fun _=>.aI,fun _=>.aI⟩ (gR L most l) (aA (aA bx b (some (.row 209 5 (List.replicate L.length (eI (fun _=>.aI) (fun _=>.aI) 0 gx))))) p (some (.row 103 10 [.agg [.sl 4 (L.map bT),iI most,.sl 8 (l.map fY),iI 0,.own b 5 0 L.length,.aI,.aI,.bool false,iI 0,.aI]]))):=by
 have hn : ∀ bb : aa,ll bb .aI:=fun bb b sz o m e=>by cases e
 have hlen : (gR L most l).ah.length = L.length:=by simp [gR]
 have dD : ∀ (i : Nat) x,(gR L most l).ah[i]? = some x -> x = gx:=fun i x hx=>by
  have:=List.mem_of_getElem? hx
  exact (List.mem_replicate.1 this).2
 refine ⟨(ar _ _ _).2 ((ar _ _ _).2 hf),((Ext.refl bx).aN h1 _).aN h2 _,h2,h1,hn _,hn _,hn _,fun _ _=>hn _,fun _ _=>hn _,?_,?_,.inl ⟨rfl,rfl⟩,.inl ⟨rfl,rfl⟩,.inl ⟨rfl,rfl⟩,fun i x hx=>.inl ⟨by rw [dD i x hx]; rfl,rfl⟩,fun i x hx=>.inl ⟨by rw [dD i x hx]; rfl,rfl⟩,fun i j b s o m s' o' m' _ _ e=>(by cases e),fun i j b s o m s' o' m' _ _ e=>(by cases e),fun i j b s o m s' o' m' _ _ e=>(by cases e),⟨by rw [hlen]; exact hL,by simp [gR],by simp [gR],by simp [gR],fun x hx=>?_⟩⟩
 ·dsimp only
  rw [af]
  unfold gu
  rw [hlen]
  rfl
 ·dsimp only
  rw [ae _ _ d.symm,af]
  congr 2
  apply List.ext_getElem?
  intro i
  rw [List.getElem?_mapIdx]
  unfold gR
  dsimp only
  rw [List.getElem?_replicate,List.getElem?_replicate]
  split <;> rfl
 ·rw [(List.mem_replicate.1 hx).2]; simp [gx]
theorem CT (L : List fb) (most : Int) (l : List Ex) (hL : L.length <= 1000) (bx : aa) : aw prog 39 [eF L most l] bx fun r bx'=>∃ n,r = .ptr n.p 10 0 0 /\ WR bx n (gR L most l) bx':=by
 obtain ⟨Kc,fe⟩ : ∃ Kc : V -> aa -> Prop,Kc = fun r bx'=>∃ n,r = .ptr n.p 10 0 0 /\ WR bx n (gR L most l) bx':=⟨_,rfl⟩
 rw [<- fe]
 refine Va fun hf=>?_
 simp [go_sem,C39,hf,eF]
 simp [go_sem,M3,hf]
 refine ⟨by omega,by omega,?_⟩
 intro b h1 p h2
 obtain ⟨d,h2⟩:=eg h2
 refine aj (by simp [go_sem]) ?_
 rw [fe]
 refine ⟨⟨p,b,.aI,.aI,.aI,fun _=>.aI,fun _=>.aI⟩,by simp [go_sem],?_⟩
 exact H5 hf L most l hL h1 h2 d
theorem WN (L : List fb) (hL : L.length <= 1000000) (bx : aa) : aw prog 36 [.sl 4 (L.map bT)] bx fun r bx'=>bx' = bx /\ ∃ w,(w = .aI \/ ∃ es,w = .sl 11 es) /\ r = .dh [ew w,iI (jJ L)]:=by
 obtain ⟨Kc,fe⟩ : ∃ Kc : V -> aa -> Prop,Kc = fun r bx'=>bx' = bx /\ ∃ w,(w = .aI \/ ∃ es,w = .sl 11 es) /\ r = .dh [ew w,iI (jJ L)]:=⟨_,rfl⟩
 rw [<- fe]
 refine UX fun hf=>?_
 have j7 : ∀ (e : Int),jJ L = e -> Kc (.dh [ew .aI,.int .i64 e]) bx:=fun e he=>by rw [fe]; exact ⟨rfl,.aI,.inl rfl,by rw [he]; rfl⟩
 simp [go_sem,C36,hf]
 intro b2 h2
 have di : ∀ y z,Ext bx (aA (aA bx b2 (some y)) b2 (some z)):=fun y z=>((Ext.refl bx).aN h2 (some y)).aN h2 (some z)
 refine ⟨fun c1=>?_,fun c1 c2=>?_⟩
 ·have hz : jJ L = 3:=by
   unfold jJ
   rw [if_pos (by omega)]
  refine fO 3 (by simp [go_sem,af]) ((Ext.refl bx).aN h2 _) ?_
  simp [go_sem,af,dA]
  exact j7 3 hz
 intro b4 h4
 obtain ⟨n42,Zr⟩:=eg h4
 have jn : ¬ (L.length = 0 \/ 16 < L.length):=by omega
 refine ji (ι:=V × aa) L.length (fun k p=>(∀ x,x ∈ L.take k -> hZ x = false) /\ bj p.2 /\ Ext bx p.2 /\ p.2 b2 = some (.row 57 3 [ew .aI]) /\ p.2 b4 = some (.row 57 3 [ew p.1]) /\ bd p.2 154 11 ((L.take k).map iZ) p.1 /\ ll bx p.1) (fun k p=>⟨39,bR [(0,.sl 4 (L.map bT)),(2,.ptr b2 3 0 0),(4,.ptr b4 3 0 0),(5,.int .i64 k)],p.2⟩) (.aI,aA (aA bx b2 (some (.row 57 3 [ew .aI]))) b4 (some (.row 57 3 [ew .aI]))) ⟨fun x hx=>by simp at hx,(ar _ _ _).2 ((ar _ _ _).2 hf),((Ext.refl bx).aN h2 _).aN Zr _,by dsimp only; rw [ae _ _ n42.symm,af],af _ _ _,.inl ⟨by simp,rfl⟩,fun b sz o m e=>by cases e⟩ (al (by simp [go_sem,ew,iI])) (fun k p hk hJ N hN=>?_) (fun p hJ N=>?_)
 ·obtain ⟨v,bM⟩:=p
  obtain ⟨cY,bg,jg,c9,xN,ho,hn⟩:=hJ
  dsimp only at cY bg jg c9 xN ho hn ⊢
  have hw:=bt (k:=k) (by omega)
  simp [go_sem,FL,hk,bg]
  refine ⟨Nat.le_refl 4,ag (Kg L[k] bM) ?_⟩
  cases vz : hZ L[k]
  rotate_left
  ·have hz : jJ L = 7:=by
    unfold jJ
    rw [if_neg jn,if_pos (List.any_eq_true.2 ⟨_,List.getElem_mem hk,vz⟩)]
   simp [go_sem,bg,c9,ew,iI]
   refine fO 3 (by simp [go_sem,af]) (jg.aN h2 _) ?_
   simp [go_sem,af,dA]
   exact j7 7 hz
  simp [go_sem,hk,bg,xN,ew,bT,iI,ho.strip,ho.live,ho.okV,ho.cells]
  refine ey (.agg #[.int .i64 0,.int .i64 0,.int .i64 0,.int .i64 0,.slice none 0 0,.slice none 0 0,.slice none 0 0,.slice none 0 0,.bool false,.int .i64 0,.int .i64 0]) ho bg (news:=[iZ L[k]]) KP FD (by simp [go_sem,bP,iZ,iI]) zh (by simp [go_sem]) (by decide) (by simp [FE]; omega) (by simp; omega) (by simp [go_sem]) fun v' bx' ha hm _=>?_
  obtain ⟨e1,e2⟩:=hm.base jg hn
  have O3 : ∀ sz o m,v ≠ .own b4 sz o m:=ho.ne xN (by decide)
  have AH : ∀ sz o m,v ≠ .own b2 sz o m:=ho.ne c9 (by decide)
  have GF : bx' b4 = _:=(hm.other (by rw [xN]; simp) O3).trans xN
  have uo : bx' b2 = _:=(hm.other (by rw [c9]; simp) AH).trans c9
  have fA : bd bx' 154 11 ((L.take (k + 1)).map iZ) v':=by
   rw [List.take_succ_eq_append_getElem hk,List.map_append]; exact ha
  simp [go_sem,GF,uo,hm.fin,ha.strip,ha.live,ha.cells,ha.okV,ew,iI,hw]
  refine hN _ (v',aA bx' b4 (some (.row 57 3 [ew v']))) ⟨fun x hx=>?_,(ar _ _ _).2 hm.fin,e1.aN Zr _,by dsimp only; rw [ae _ _ n42.symm,uo],af _ _ _,fA.put GF (by decide) _,e2⟩ (al (by simp [go_sem,ew,iI]))
  rw [List.take_succ_eq_append_getElem hk] at hx
  rcases List.mem_append.1 hx with hx | hx
  ·exact cY x hx
  ·rw [List.mem_singleton.1 hx]; exact vz
 ·obtain ⟨v,bM⟩:=p
  obtain ⟨cY,bg,jg,c9,xN,ho,hn⟩:=hJ
  dsimp only at cY bg jg c9 xN ho hn ⊢
  rw [List.take_of_length_le (Nat.le_refl _)] at ho cY
  have hz : jJ L = 0:=by
   unfold jJ
   rw [if_neg jn,if_neg]
   intro h
   obtain ⟨x,hx,h⟩:=List.any_eq_true.1 h
   rw [cY x hx] at h
   cases h
  simp [go_sem,FL,bg,c9,xN,ew,iI,ho.strip,ho.live,ho.okV,ho.cells]
  refine fO 3 (by simp [go_sem,af]) (jg.aN h2 _) ?_
  have rC : ∃ w,(w = .aI \/ ∃ es,w = .sl 11 es) /\ dA (aA bM b2 (some (bI.row 57 3 [V.agg [V.int .i64 0,V.bool false,v]]))) bx 1 v = w:=by
   rcases ho with ⟨_,rfl⟩ | ⟨b,rfl,hb⟩
   ·exact ⟨.aI,.inl rfl,rfl⟩
   ·refine ⟨_,.inr ⟨_,rfl⟩,gb (bx:=aA bM b2 _) (by rw [ae _ _ (by rintro rfl; rw [c9] at hb; cases hb)]; exact hb) (hn _ _ _ _ rfl) (by decide) rfl⟩
  obtain ⟨w,jd,jN⟩:=rC
  have e3 : dA (aA bM b2 (some (bI.row 57 3 [V.agg [V.int IntKind.i64 0,V.bool false,v]]))) bx 3 (.dh [.agg [.int .i64 0,.bool false,v],.int .i64 0]) = .dh [ew w,.int .i64 0]:=by
   simp only [dA,List.map_cons,List.map_nil,jN,ew,iI]
  have e4 : kq prog ⟨39,bR [(2,V.ptr b2 3 0 0),(3,V.int .i64 0)],aA bM b2 (some (bI.row 57 3 [V.agg [V.int IntKind.i64 0,V.bool false,v]]))⟩ [.cell 2 57,.tmp 3] = .dh [.agg [.int .i64 0,.bool false,v],.int .i64 0]:=by simp [go_sem,af]
  rw [e4,e3,fe,hz]
  exact ⟨rfl,w,jd,rfl⟩
def okF (c b k o : Bool) (lo hi : Int) (e : Ex) (nb : Int) : Bool :=
 decide (0 <= e.ev.t) && decide (e.ev.t <= 1000000000000) && (!c || decide (1 <= e.ev.call)) && (!b || (decide (0 <= e.b) && decide (e.b < nb))) && (!k || decide (1 <= e.ev.conn)) && (!o || decide (1 <= e.ev.jQ)) && decide (lo <= e.ev.n) && decide (e.ev.n <= hi)
theorem Kh {c b k o : Bool} {lo hi nb : Int} {e : Ex} {bx : aa} (hf : bj bx) {Kc : V -> aa -> Prop} (hK : Kc (.bool (okF c b k o lo hi e nb)) bx) {st : St} (iq : je st ⟨104,bR [(1,.int .i64 nb),(2,.ep (fY e) 0),(5,.bool c),(6,.bool b),(7,.bool k),(8,.bool o),(9,.int .i64 lo),(10,.int .i64 hi)],bx⟩) : pw prog wY (fN prog [Go.ResultVar.tmp 4] Kc) st:=by
 refine jq iq ?_
 simp [go_sem,hf,fY,dL,iI]
 refine ⟨?_,?_,?_,?_,?_,aj (by simp [go_sem]) (by simpa [go_sem,okF] using hK)⟩
 ·grind
 ·grind
 ·grind
 ·grind
 ·grind
theorem Ki {e : Ex} {nb : Nat} {n : Nat} (hn : e.ev.kind = n) (h1 : 1 <= n) (h2 : n < 20) (hr : NR e) (c b k o : Bool) (lo hi : Int) (rO : (nd n).call = c /\ (nd n).bk = b /\ (nd n).conn = k /\ (nd n).jQ = o) (hh : (0 < (nd n).high /\ (nd n).low = lo /\ (nd n).high = hi) \/ ((nd n).high <= 0 /\ lo = -9223372036854775808 /\ hi = 9223372036854775807)) : okF c b k o lo hi e nb = !dY nb e:=by
 obtain ⟨q1,q2,q3,q4⟩:=rO
 obtain ⟨r1,r2⟩:=hr
 have e0 : dY nb e = xM (nd n) e.ev e.b nb:=by
  unfold dY
  rw [hn,decide_eq_false (by omega),decide_eq_false (by omega)]
  rfl
 rw [e0]
 unfold xM okF
 rw [q1,q2,q3,q4]
 rcases hh with ⟨g1,g2,g3⟩ | ⟨g1,g2,g3⟩
 ·rw [g2,g3,decide_eq_true (show (0 : Int) < hi by omega)]
  rw [Bool.eq_iff_iff]
  cases c <;> cases b <;> cases k <;> cases o <;> simp <;> omega
 ·rw [g2,g3]
  rw [decide_eq_false (show ¬ 0 < (nd n).high by omega)]
  rw [Bool.eq_iff_iff]
  cases c <;> cases b <;> cases k <;> cases o <;> simp <;> omega
theorem Kj (e : Ex) (nb : Nat) (hr : NR e) (bx : aa) : ay prog 37 [fY e,.int .i64 nb] bx (.bool (!dY nb e)):=by
 show aw _ _ _ _ (fun r bx'=>r = .bool (!dY nb e) /\ bx' = bx)
 obtain ⟨Kc,fe⟩ : ∃ Kc : V -> aa -> Prop,Kc = fun r bx'=>r = .bool (!dY nb e) /\ bx' = bx:=⟨_,rfl⟩
 rw [<- fe]
 refine UY fun hf=>?_
 have hT : ∀ (n : Nat),e.ev.kind = n -> 1 <= n -> n < 20 -> ∀ st,je st ⟨104,bR [(1,.int .i64 nb),(2,.ep (fY e) 0),(5,.bool (nd n).call),(6,.bool (nd n).bk),(7,.bool (nd n).conn),(8,.bool (nd n).jQ),(9,.int .i64 (if 0 < (nd n).high then (nd n).low else -9223372036854775808)),(10,.int .i64 (if 0 < (nd n).high then (nd n).high else 9223372036854775807))],bx⟩ -> pw prog wY (fN prog [Go.ResultVar.tmp 4] Kc) st:=fun n hn h1 h2 st iq=>Kh hf (by
  rw [Ki hn h1 h2 hr _ _ _ _ _ _ ⟨rfl,rfl,rfl,rfl⟩ ?_,fe]
  ·exact ⟨rfl,rfl⟩
  ·by_cases hh : 0 < (nd n).high
   ·rw [if_pos hh,if_pos hh]; exact .inl ⟨hh,rfl,rfl⟩
   ·rw [if_neg hh,if_neg hh]; exact .inr ⟨by omega,rfl,rfl⟩) iq
 have hev : fY e = .agg [.int .i64 e.ev.kind,.int .i64 e.b,.int .i64 e.ev.t,.int .i64 e.ev.call,.int .i64 e.ev.conn,.int .i64 e.ev.jQ,.int .i64 e.ev.n,.bool e.ev.yes]:=rfl
 by_cases k0 : e.ev.kind < 1 \/ 20 <= e.ev.kind
 ·have hb : dY nb e = true:=by
   unfold dY
   rcases k0 with h | h
   ·rw [decide_eq_true h]; rfl
   ·rw [decide_eq_true h]; simp
  have bp : ∀ m : Int,1 <= m -> m <= 19 -> e.ev.kind ≠ m:=fun m h1 h2 h=>by omega
  simp [go_sem,C37,hf,hev,bp]
  refine aj (by simp [go_sem]) ?_
  rw [fe,hb]
  exact ⟨by simp [go_sem],rfl⟩
 obtain ⟨n,hn⟩ : ∃ n : Nat,e.ev.kind = n:=⟨e.ev.kind.toNat,by omega⟩
 have T:=hT n hn (by omega) (by omega)
 clear hT
 rw [hev] at T ⊢
 rw [hn] at T ⊢
 rcases (show n = 1 \/ n = 2 \/ n = 3 \/ n = 4 \/ n = 5 \/ n = 6 \/ n = 7 \/ n = 8 \/ n = 9 \/ n = 10 \/ n = 11 \/ n = 12 \/ n = 13 \/ n = 14 \/ n = 15 \/ n = 16 \/ n = 17 \/ n = 18 \/ n = 19 by omega) with rfl | rfl | rfl | rfl | rfl | rfl | rfl | rfl | rfl | rfl | rfl | rfl | rfl | rfl | rfl | rfl | rfl | rfl | rfl
 all_goals simp [go_sem,C37,hf]
 all_goals exact T _ (al (by simp [go_sem,nd]))
theorem ye (L : List fb) (most : Int) (l : List Ex) (hL : L.length <= 1000000) (hl : l.length <= 4000000000000000000) (yp : ∀ e,e ∈ l -> NR e) (bx : aa) : ay prog 14 [eF L most l] bx (.dh [iI (bF L most l).1,iI (bF L most l).2]):=by
 obtain ⟨Kc,fe⟩ : ∃ Kc : V -> aa -> Prop,Kc = fun r bx'=>r = .dh [iI (bF L most l).1,iI (bF L most l).2] /\ bx' = bx:=⟨_,rfl⟩
 show aw _ _ _ _ (fun r bx'=>r = .dh [iI (bF L most l).1,iI (bF L most l).2] /\ bx' = bx)
 rw [<- fe]
 refine UI fun hf=>?_
 have fE : ∀ (i e : Int),bF L most l = (i,e) -> Kc (.dh [.int .i64 i,.int .i64 e]) bx:=fun i e he=>by rw [fe,he]; exact ⟨rfl,rfl⟩
 obtain ⟨R,hR⟩ : ∃ R,bF L most l = R:=⟨_,rfl⟩
 rw [hR] at fE
 unfold bF at hR
 simp [go_sem,C14,hf,eF]
 refine an (WN L hL bx) ?_
 rintro r bM ⟨eU,w,hw,rfl⟩
 rw [eU]
 have hwc : w.cells = [w] /\ okV w = true /\ w.strip = w /\ w.ax = true:=by
  rcases hw with rfl | ⟨es,rfl⟩ <;> exact ⟨rfl,rfl,rfl,rfl⟩
 obtain ⟨w1,w2,w3,w4⟩:=hwc
 have hE : ∀ (b : Nat) (x : bI),bx b = none -> Ext bx (aA bx b (some x)):=fun b x hb=>(Ext.refl bx).aN hb _
 by_cases e1 : jJ L = 0
 rotate_left
 ·rw [if_pos e1] at hR
  simp [go_sem,hf,ew,w1,w2,w3,w4,iI,e1]
  intro b hb
  exact bC (by simp [go_sem]) (hE _ _ hb) (by simp [go_sem]; exact fE _ _ hR.symm)
 rw [if_neg (by simpa using e1)] at hR
 by_cases c2 : most < 0 \/ 20 < most
 ·rw [if_pos c2] at hR
  simp [go_sem,hf,ew,w1,w2,w3,w4,iI,e1,c2]
  intro b hb
  refine ⟨bC (by simp [go_sem]) (hE _ _ hb) (by simp [go_sem]; exact fE _ _ hR.symm),fun h1 h2=>?_⟩
  omega
 rw [if_neg c2] at hR
 have c3 : ¬ most < 0:=fun h=>c2 (.inl h)
 have c4 : most <= 20:=by have : ¬ 20 < most:=fun h=>c2 (.inr h); omega
 by_cases c5 : 2000 < l.length
 ·rw [if_pos c5] at hR
  have c5' : (2000 : Int) < (l.length : Int):=by omega
  simp [go_sem,hf,ew,w1,w2,w3,w4,iI,e1,c3,c4,c5']
  intro b hb
  refine ⟨fun h=>by omega,bC (by simp [go_sem]) (hE _ _ hb) (by simp [go_sem]; exact fE _ _ hR.symm)⟩
 rw [if_neg c5] at hR
 have c5' : ¬ (2000 : Int) < (l.length : Int):=by omega
 simp [go_sem,hf,ew,w1,w2,w3,w4,iI,e1,c3,c4,c5']
 intro b hb
 refine ⟨fun h=>by omega,?_⟩
 have di:=hE b (.row 57 3 [.agg [.int .i64 0,.bool false,w]]) hb
 have da : bj (aA bx b (some (.row 57 3 [.agg [.int .i64 0,.bool false,w]]))):=(ar _ _ _).2 hf
 generalize aA bx b (some (bI.row 57 3 [V.agg [V.int .i64 0,V.bool false,w]])) = bx2 at *
 refine eP l.length (fun i=>dY L.length (l.getD i Zs)) (fun i=>⟨46,bR [(1,.ep (.agg [.sl 4 (L.map bT),.int .i64 most,.sl 8 (l.map fY)]) 0),(6,.int .i64 i)],bx2⟩) (al (by simp [go_sem])) (fun i hi hJ N hN=>?_) (fun hJ N=>?_)
 ·have hg : l.getD i Zs = l[i]:=by simp [hi]
  rw [hg] at hN
  have hw:=bt (k:=i) (by omega)
  have GG : dY L.length l[i] = true -> R = ((i : Int),(2 : Int)):=by
   intro Ad
   rw [<- hR]
   have : l.findIdx? (dY L.length) = some i:=by
    rw [List.findIdx?_eq_some_iff_getElem]
    refine ⟨hi,Ad,fun j hj=>?_⟩
    have h1:=hJ j hj
    have h2 : j < l.length:=by omega
    simp [h2] at h1
    simp [h1]
   rw [this]
  have Fx:=Kj l[i] L.length (yp _ (List.getElem_mem hi)) bx2
  simp [go_sem,FG,da,hi,iI]
  refine ⟨Nat.le_refl 8,ag Fx ?_⟩
  cases he : dY L.length l[i]
  ·simp [go_sem,da,hw]
   exact hN _ he (al (by simp [go_sem]))
  ·simp [go_sem,da]
   exact bC (by simp [go_sem]) di (by simp [go_sem]; exact fE _ _ (GG he))
 ·have hz : R = (0,0):=by
   rw [<- hR]
   have : l.findIdx? (dY L.length) = none:=by
    rw [List.findIdx?_eq_none_iff]
    intro x hx
    obtain ⟨i,hi,rfl⟩:=List.getElem_of_mem hx
    have h1:=hJ i hi
    simpa [hi] using h1
   rw [this]
  simp [go_sem,FG,da]
  exact bC (by simp [go_sem]) di (by simp [go_sem]; exact fE _ _ hz)
end Go.Proofs
namespace Go.Proofs.YtiogeggilnhajaaGreatDoor
open Go Go.Pl Go.Proofs Tryz
theorem WO {n : Nat} {xs : List V} (h : eD prog n 2 xs) : ∃ i : Int,xs = [iI i] /\ -9223372036854775808 <= i /\ i <= 9223372036854775807:=by
 obtain ⟨i,rfl,hw⟩:=h.int Tn
 simp [Lit.wf,IntKind.min,IntKind.max,IntKind.signed,IntKind.bits] at hw
 exact ⟨i,rfl,by omega⟩
theorem Pj {n : Nat} {xs : List V} (h : eD prog (n + 1) 69 xs) : ∃ e : Ex,.agg xs = fY e /\ NE e /\ NR e:=by
 obtain ⟨x0,x1,x2,x3,x4,x5,x6,x7,rfl⟩:=len8 (h.len.trans vk)
 have h0:=h.cz qK IU
 have h1:=h.cz qK IV
 have h2:=h.cz qK IX
 have h3:=h.cz qK IY
 have h4:=h.cz qK IZ
 have h5:=h.cz qK Ja
 have h6:=h.cz qK Jb
 have h7:=h.cz qK Jc
 rw [IN] at h0 h1
 rw [AQ] at h2 h3 h4 h5 h6
 rw [aap] at h7
 obtain ⟨a0,e0,_⟩:=Hq h0
 obtain ⟨a1,e1,_⟩:=Hq h1
 obtain ⟨a2,e2⟩:=Ep h2
 obtain ⟨a3,e3⟩:=Ep h3
 obtain ⟨a4,e4⟩:=Ep h4
 obtain ⟨a5,e5⟩:=Ep h5
 obtain ⟨a6,e6,r6⟩:=WO h6
 obtain ⟨a7,e7⟩:=hasB h7
 simp at e0 e1 e2 e3 e4 e5 e6 e7
 subst e0 e1 e2 e3 e4 e5 e6 e7
 exact ⟨⟨⟨a0,a1.toNat,a2,a3,a4,a5,a6,a7⟩,a1⟩,rfl,rfl,r6⟩
theorem Kk {n : Nat} {xs : List V} (h : eD prog (n + 2) 23 xs) : ∃ l : List Ex,xs = [.sl 8 (l.map fY)] /\ (∀ e,e ∈ l -> NE e) /\ ∀ e,e ∈ l -> NR e:=by
 obtain ⟨l,h,hl⟩:=eD.slice (r:=fun x : {e : Ex // NE e /\ NR e}=>fY x.1) zf h fun ys hy=>by
  obtain ⟨f,hf,hr⟩:=Pj hy
  exact ⟨⟨f,hr⟩,by rw [rW MW]; exact hf⟩
 rw [vk] at h
 refine ⟨l.map (·.1),by rw [h,List.map_map]; rfl,fun f hf=>?_,fun f hf=>?_⟩
 ·obtain ⟨y,_,rfl⟩:=List.mem_map.1 hf
  exact y.2.1
 ·obtain ⟨y,_,rfl⟩:=List.mem_map.1 hf
  exact y.2.2
theorem CU {n : Nat} {xs : List V} (h : eD prog (n + 3) 25 xs) : ∃ (L : List fb) (most : Int) (l : List Ex),.agg xs = eF L most l /\ (∀ e,e ∈ l -> NE e) /\ ∀ e,e ∈ l -> NR e:=by
 obtain ⟨x,y,z,rfl⟩:=aaf (h.len.trans Tu)
 have h0:=h.cz F2 IQ
 have h1:=h.cz F2 IS
 have h2:=h.cz F2 IT
 rw [Ts] at h0
 rw [IN] at h1
 rw [Tt] at h2
 obtain ⟨L,hL⟩:=JX h0
 obtain ⟨m,hm,_⟩:=Hq h1
 obtain ⟨l,hl,hn⟩:=Kk h2
 simp at hL hm hl
 subst hL hm hl
 exact ⟨L,m,l,rfl,hn⟩
end Go.Proofs.YtiogeggilnhajaaGreatDoor
namespace Go.Proofs
open Go Go.Pl Tryz
theorem H6 {L : List fb} {most : Int} {l : List Ex} (h : (bF L most l).2 = 0) (bp : ∀ e,e ∈ l -> NE e) : ∀ e,e ∈ l -> VE L.length e:=fun e he=>tH ((jK h).2.2.2.2.2.2 e he) (bp e he)
theorem Kl (L : List fb) (most : Int) (l : List Ex) (hL : L.length <= 1000000) (hl : l.length <= 4000000000000000000) (bp : ∀ e,e ∈ l -> NE e) (yp : ∀ e,e ∈ l -> NR e) (bx : aa) : aw prog 16 [eF L most l] bx fun r bx'=>bx' = bx /\ ∃ v,Bp 2 ((eH L most l).1.map bH) v /\ r = .dh [v,iI (eH L most l).2]:=by
 obtain ⟨Kc,fe⟩ : ∃ Kc : V -> aa -> Prop,Kc = fun r bx'=>bx' = bx /\ ∃ v,Bp 2 ((eH L most l).1.map bH) v /\ r = .dh [v,iI (eH L most l).2]:=⟨_,rfl⟩
 rw [<- fe]
 refine UK fun hf=>?_
 have hc:=ye L most l hL hl yp bx
 unfold eH at fe
 have uF:=jK (L:=L) (most:=most) (l:=l)
 have AZ : (bF L most l).2 = 0 -> (runN (gR L most l) l l.length).aG = (eG (ft L most l) l l.length).aG:=fun h=>(vR h bp).aG.symm
 have Bl:=fun h=>H6 (L:=L) (most:=most) (l:=l) h bp
 obtain ⟨c,HR⟩ : ∃ c,bF L most l = c:=⟨_,rfl⟩
 rw [HR] at hc fe uF AZ Bl
 obtain ⟨lv,GQ⟩ : ∃ lv,eF L most l = lv:=⟨_,rfl⟩
 have hb:=fun h=>CT L most l h bx
 have wz : lv.strip = lv /\ lv.ax = true /\ okV lv = true /\ lv.cells.length = 3 /\ V.agg (List.take 3 lv.cells) = lv:=by rw [<- GQ]; exact ⟨rfl,rfl,rfl,rfl,rfl⟩
 obtain ⟨v1,v2,v3,v4,v5⟩:=wz
 rw [GQ] at hc hb ⊢
 simp [go_sem,C16,hf,v1,v2,v3,v4,v5]
 refine ag hc ?_
 by_cases e0 : c.2 = 0
 rotate_left
 ·rw [if_neg e0] at fe
  simp [go_sem,hf,iI,e0]
  refine az (by simp [go_sem]) ?_
  rw [fe]
  exact ⟨rfl,.aI,.inr ⟨rfl,rfl⟩,by simp [go_sem,iI]⟩
 rw [if_pos e0,<- AZ e0] at fe
 obtain ⟨q1,q2,q3,q4,q5,q6,q7⟩:=uF e0
 simp [go_sem,hf,v1,v2,v3,v4,v5,iI,e0]
 refine an (hb (by omega)) ?_
 rintro r bM ⟨n,rfl,hw⟩
 simp [go_sem,hw.fin]
 refine an (Lj hw (qz L most l) (Bl e0) q6) ?_
 rintro r bx2 ⟨rfl,n2,Jz,jN⟩
 rw [<- Jz]
 generalize runN (gR L most l) l l.length = w at jN fe
 have aq:=jN.row
 unfold gu at aq
 have ho:=jN.aG
 simp [go_sem,jN.fin,aq,ho.strip,ho.live]
 refine fO 2 (by simp [go_sem,ho.strip,ho.live]) jN.ext ?_
 have e4 : dA bx2 bx 2 (kq prog ⟨23,bR [(2,n2.fv),(3,.int .i64 0)],bx2⟩ [.tmp 2,.tmp 3]) = .dh [dA bx2 bx 1 n2.fv,.int .i64 0]:=by simp [go_sem,dA,ho.strip]
 rw [e4,fe]
 refine ⟨rfl,_,?_,rfl⟩
 have hnf:=jN.nf
 rcases ho with ⟨h0,h1⟩ | ⟨b3,h1,rG⟩
 ·rw [h1]; exact .inr ⟨h0,rfl⟩
 ·rw [h1] at hnf ⊢
  exact .inl (gb rG (hnf _ _ _ _ rfl) (by decide) rfl)
def Ew (c : RC) : LF:=⟨c.num,c.bk,c.aU,c.born,if c.st = 5 then c.fin else -1,c.bK,c.read⟩
theorem B4 {L : List fb} {most : Int} {l : List Ex} (h : (bF L most l).2 = 0) (bp : ∀ e,e ∈ l -> NE e) : en L most l = ((runN (gR L most l) l l.length).ak.map Ew,0):=by
 unfold en kx
 rw [if_pos h]
 dsimp only
 rw [(vR h bp).ak,List.map_map]
 rfl
theorem Pk (L : List fb) (most : Int) (l : List Ex) (hL : L.length <= 1000000) (hl : l.length <= 4000000000000000000) (bp : ∀ e,e ∈ l -> NE e) (yp : ∀ e,e ∈ l -> NR e) (bx : aa) : ay prog 16 [eF L most l] bx (.dh [.sl 2 ((eH L most l).1.map bH),iI (eH L most l).2]):=by
 refine ay.wk ((Kl L most l hL hl bp yp bx).mono ?_)
 rintro r bx' ⟨rfl,v,hv,rfl⟩
 exact ⟨p9 hv.wk (Wk.refl _),rfl⟩
theorem H7 (L : List fb) (most : Int) (l : List Ex) (hL : L.length <= 1000000) (hl : l.length <= 4000000000000000000) (bp : ∀ e,e ∈ l -> NE e) (yp : ∀ e,e ∈ l -> NR e) (bx : aa) : aw prog 19 [eF L most l] bx fun r bx'=>bx' = bx /\ ∃ v,Bp 7 ((en L most l).1.map zP) v /\ r = .dh [v,iI (en L most l).2]:=by
 obtain ⟨Kc,fe⟩ : ∃ Kc : V -> aa -> Prop,Kc = fun r bx'=>bx' = bx /\ ∃ v,Bp 7 ((en L most l).1.map zP) v /\ r = .dh [v,iI (en L most l).2]:=⟨_,rfl⟩
 rw [<- fe]
 refine UN fun hf=>?_
 have hc:=ye L most l hL hl yp bx
 have uF:=jK (L:=L) (most:=most) (l:=l)
 have AZ:=fun h=>B4 (L:=L) (most:=most) (l:=l) h bp
 have nK : (bF L most l).2 ≠ 0 -> en L most l = ([],(bF L most l).2):=fun h=>by unfold en kx; rw [if_neg h]; rfl
 have Bl:=fun h=>H6 (L:=L) (most:=most) (l:=l) h bp
 obtain ⟨c,HR⟩ : ∃ c,bF L most l = c:=⟨_,rfl⟩
 rw [HR] at hc uF AZ Bl nK
 obtain ⟨lv,GQ⟩ : ∃ lv,eF L most l = lv:=⟨_,rfl⟩
 have hb:=fun h=>CT L most l h bx
 have wz : lv.strip = lv /\ lv.ax = true /\ okV lv = true /\ lv.cells.length = 3 /\ V.agg (List.take 3 lv.cells) = lv:=by rw [<- GQ]; exact ⟨rfl,rfl,rfl,rfl,rfl⟩
 obtain ⟨v1,v2,v3,v4,v5⟩:=wz
 rw [GQ] at hc hb ⊢
 simp [go_sem,C19,hf,v1,v2,v3,v4,v5]
 refine ag hc ?_
 by_cases e0 : c.2 = 0
 rotate_left
 ·rw [nK e0] at fe
  simp [go_sem,hf,iI,e0]
  refine az (by simp [go_sem]) ?_
  rw [fe]
  exact ⟨rfl,.aI,.inr ⟨rfl,rfl⟩,by simp [go_sem,iI]⟩
 rw [AZ e0] at fe
 obtain ⟨q1,q2,q3,q4,q5,q6,q7⟩:=uF e0
 simp [go_sem,hf,v1,v2,v3,v4,v5,iI,e0]
 refine an (hb (by omega)) ?_
 rintro r bM ⟨n,rfl,hw⟩
 simp [go_sem,hw.fin]
 refine an (Lj hw (qz L most l) (Bl e0) q6) ?_
 rintro r bx2 ⟨rfl,n2,Jz,jN⟩
 rw [<- Jz]
 generalize runN (gR L most l) l l.length = w at jN fe
 have aq:=jN.row
 unfold gu at aq
 have ho:=jN.ak
 simp [go_sem,jN.fin,aq,ho.strip,ho.live]
 have di:=jN.ext
 have da:=jN.fin
 have AZ:=jN.sm.2.1
 rcases ho with ⟨h0,h1⟩ | ⟨bc,h1,Lk⟩
 ·have hC0 : w.ak = []:=by simpa using h0
  refine ct 0 (fun k=>⟨63,bR [(6,.ptr n2.p 10 0 0),(7,.aI),(8,.int .i64 k)],bx2⟩) (al (by simp [go_sem,iI])) (fun k hk N hN=>by omega) (fun N=>?_)
  simp [go_sem,Cf,da,aq,h1]
  refine bC (by simp [go_sem]) di ?_
  rw [fe,hC0]
  exact ⟨rfl,.aI,.inr ⟨rfl,rfl⟩,by simp [go_sem,iI]⟩
 ·rw [h1] at aq
  rw [List.length_map] at aq
  refine ji (ι:=V × aa) w.ak.length (fun k q=>bj q.2 /\ Ext bx2 q.2 /\ bd q.2 77 7 ((w.ak.take k).map (fun c=>zP (Ew c))) q.1 /\ ll bx2 q.1) (fun k q=>⟨63,bR [(6,.ptr n2.p 10 0 0),(7,q.1),(8,.int .i64 k)],q.2⟩) (.aI,bx2) ⟨da,Ext.refl _,.inl ⟨rfl,rfl⟩,(show ll bx2 .aI from fun b sz o m e=>by cases e)⟩ (al (by simp [go_sem,iI])) (fun k q hk hJ N hN=>?_) (fun q hJ N=>?_)
  ·obtain ⟨v,bx3⟩:=q
   obtain ⟨lu,pD,ho,xz⟩:=hJ
   dsimp only at lu pD ho xz ⊢
   have jd:=bt (k:=k) (by omega)
   have r1:=(pD n2.p (by rw [aq]; simp)).trans aq
   have r2:=(pD bc (by rw [Lk]; simp)).trans Lk
   simp [go_sem,Cf,hk,lu,r1,r2,iI,iX,ho.strip,ho.live,ho.cells,ho.okV]
   intro b hb b5 Li
   have e6 : aA bx3 b none = bx3:=by
    funext c
    by_cases e : c = b
    ·rw [e,af,hb]
    ·rw [ae _ _ e]
   rw [e6] at Li ⊢
   obtain ⟨g,hg⟩ : ∃ g,(if w.ak[k].st = 5 then w.ak[k].fin else -1) = g:=⟨_,rfl⟩
   have Zq : zP (Ew w.ak[k]) = V.agg [V.int .i64 w.ak[k].num,V.int .i64 w.ak[k].bk,V.int .i64 w.ak[k].aU,V.int .i64 w.ak[k].born,V.int .i64 g,V.int .i64 w.ak[k].bK,V.int .i64 w.ak[k].read]:=by unfold zP Ew; rw [hg]; rfl
   refine ⟨fun h5=>?_,fun h5=>?_⟩
   all_goals first | rw [if_pos h5] at hg | rw [if_neg h5] at hg
   all_goals rw [hg]
   all_goals
    intro b7 Ec
    obtain ⟨n75,Bo⟩:=eg Ec
    have QE:=ho.beside Li (some (bI.row 77 7 [V.agg [V.int .i64 w.ak[k].num,V.int .i64 w.ak[k].bk,V.int .i64 w.ak[k].aU,V.int .i64 w.ak[k].born,V.int .i64 g,V.int .i64 w.ak[k].bK,V.int .i64 w.ak[k].read]]))
    have QF:=QE.beside Ec (some (bI.row 77 7 [V.agg [V.int .i64 w.ak[k].num,V.int .i64 w.ak[k].bk,V.int .i64 w.ak[k].aU,V.int .i64 w.ak[k].born,V.int .i64 g,V.int .i64 w.ak[k].bK,V.int .i64 w.ak[k].read]]))
    have Ll : bj (aA (aA bx3 b5 (some (bI.row 77 7 [V.agg [V.int .i64 w.ak[k].num,V.int .i64 w.ak[k].bk,V.int .i64 w.ak[k].aU,V.int .i64 w.ak[k].born,V.int .i64 g,V.int .i64 w.ak[k].bK,V.int .i64 w.ak[k].read]]))) b7 (some (bI.row 77 7 [V.agg [V.int .i64 w.ak[k].num,V.int .i64 w.ak[k].bk,V.int .i64 w.ak[k].aU,V.int .i64 w.ak[k].born,V.int .i64 g,V.int .i64 w.ak[k].bK,V.int .i64 w.ak[k].read]]))):=(ar _ _ _).2 ((ar _ _ _).2 lu)
    have OD : Ext bx2 (aA (aA bx3 b5 (some (bI.row 77 7 [V.agg [V.int .i64 w.ak[k].num,V.int .i64 w.ak[k].bk,V.int .i64 w.ak[k].aU,V.int .i64 w.ak[k].born,V.int .i64 g,V.int .i64 w.ak[k].bK,V.int .i64 w.ak[k].read]]))) b7 (some (bI.row 77 7 [V.agg [V.int .i64 w.ak[k].num,V.int .i64 w.ak[k].bk,V.int .i64 w.ak[k].aU,V.int .i64 w.ak[k].born,V.int .i64 g,V.int .i64 w.ak[k].bK,V.int .i64 w.ak[k].read]]))):=(pD.aN (pD.none Li) _).aN (pD.none Bo) _
    have GR : (aA (aA bx3 b5 (some (bI.row 77 7 [V.agg [V.int .i64 w.ak[k].num,V.int .i64 w.ak[k].bk,V.int .i64 w.ak[k].aU,V.int .i64 w.ak[k].born,V.int .i64 g,V.int .i64 w.ak[k].bK,V.int .i64 w.ak[k].read]]))) b7 (some (bI.row 77 7 [V.agg [V.int .i64 w.ak[k].num,V.int .i64 w.ak[k].bk,V.int .i64 w.ak[k].aU,V.int .i64 w.ak[k].born,V.int .i64 g,V.int .i64 w.ak[k].bK,V.int .i64 w.ak[k].read]]))) b7 = (some (bI.row 77 7 [V.agg [V.int .i64 w.ak[k].num,V.int .i64 w.ak[k].bk,V.int .i64 w.ak[k].aU,V.int .i64 w.ak[k].born,V.int .i64 g,V.int .i64 w.ak[k].bK,V.int .i64 w.ak[k].read]])):=af _ _ _
    generalize aA (aA bx3 b5 (some (bI.row 77 7 [V.agg [V.int .i64 w.ak[k].num,V.int .i64 w.ak[k].bk,V.int .i64 w.ak[k].aU,V.int .i64 w.ak[k].born,V.int .i64 g,V.int .i64 w.ak[k].bK,V.int .i64 w.ak[k].read]]))) b7 (some (bI.row 77 7 [V.agg [V.int .i64 w.ak[k].num,V.int .i64 w.ak[k].bk,V.int .i64 w.ak[k].aU,V.int .i64 w.ak[k].born,V.int .i64 g,V.int .i64 w.ak[k].bK,V.int .i64 w.ak[k].read]])) = kd at *
    refine ey (.agg #[.int .i64 0,.int .i64 0,.int .i64 0,.int .i64 0,.int .i64 0,.int .i64 0,.int .i64 0]) QF Ll (news:=[zP (Ew w.ak[k])]) KO KT (by rw [Zq]; simp [go_sem,bP,GR,iI]) Cc (by simp [go_sem]) (by decide) (by simp [KU]; omega) (by simp; omega) (by simp [go_sem]) fun v' bx' ha hm _=>?_
    obtain ⟨e1,e2⟩:=hm.base OD xz
    have fA : bd bx' 77 7 ((w.ak.take (k + 1)).map (fun c=>zP (Ew c))) v':=by
     rw [List.take_succ_eq_append_getElem hk,List.map_append]; exact ha
    simp [go_sem,hm.fin,ha.strip,ha.live,ha.cells,ha.okV,jd]
    exact hN _ (v',bx') ⟨hm.fin,e1,fA,e2⟩ (al (by simp [go_sem,iI]))
  ·obtain ⟨v,bx3⟩:=q
   obtain ⟨lu,pD,ho,xz⟩:=hJ
   dsimp only at lu pD ho xz ⊢
   rw [List.take_of_length_le (Nat.le_refl _)] at ho
   have r1:=(pD n2.p (by rw [aq]; simp)).trans aq
   simp [go_sem,Cf,lu,r1,ho.strip,ho.live]
   refine fO 2 (by simp [go_sem,ho.strip,ho.live]) (di.trans pD) ?_
   have e4 : dA bx3 bx 2 (kq prog ⟨63,bR [(2,v),(3,.int .i64 0)],bx3⟩ [.tmp 2,.tmp 3]) = .dh [dA bx3 bx 1 v,.int .i64 0]:=by simp [go_sem,dA,ho.strip]
   rw [e4,fe]
   refine ⟨rfl,_,?_,rfl⟩
   rw [List.map_map]
   rcases ho with ⟨h0,rfl⟩ | ⟨b3,rfl,rG⟩
   ·exact .inr ⟨h0,rfl⟩
   ·exact .inl (gb rG (di.none (xz _ _ _ _ rfl)) (by decide) rfl)
theorem Ey (L : List fb) (most : Int) (l : List Ex) (bp : ∀ e,e ∈ l -> NE e) (yp : ∀ e,e ∈ l -> NR e) (bx : aa) : ay prog 3 [eF L most l] bx (.bool true):=by
 refine acy fun hf=>?_
 have cA:=fun bx'=>CN bx'
 have cf:=fun bx'=>Lo L most l 200 bx'
 simp [go_sem,C3,hf,eF]
 refine ag (cf _) ?_
 cases hfar : Ei L l 200
 rotate_left
 ·simp [go_sem,hf]
  refine ag (cA _) ?_
  simp [go_sem,hf]
  exact az (by simp [go_sem]) ⟨by simp [go_sem],rfl⟩
 obtain ⟨f1,f2,f3⟩:=CO hfar
 have c1:=fun bx'=>xO L most l (by omega) (by omega) bx'
 have c2:=fun bx'=>ye L most l (by omega) (by omega) yp bx'
 have c3:=fun bx'=>xP L most l (by omega) (by omega) bp bx'
 have c4:=fun bx'=>Pk L most l (by omega) (by omega) bp yp bx'
 have hlen : (eH L most l).1.length <= 1000000:=by
  unfold eH
  split
  ·have:=(fR (gi L most l) l.length).aG
   dsimp only; omega
  ·simp
 have c5:=fun bx'=>Hd (eH L most l).1 (eH L most l).1 hlen bx'
 have hz : decide ((eH L most l).1 = (eH L most l).1) = true:=by simp
 rw [hz] at c5
 generalize bF L most l = c at c1 c2
 generalize eH L most l = d at c3 c4 c5
 simp [go_sem,hf,iI]
 refine ag (c1 _) ?_
 simp [go_sem,hf,iI]
 refine ag (c2 _) ?_
 simp [go_sem,hf,iI]
 refine ag (c3 _) ?_
 simp [go_sem,hf,iI]
 refine ag (c4 _) ?_
 simp [go_sem,hf,iI]
 refine dn (c5 _) (by simp) (by simp [go_sem]) ?_
 simp [go_sem,hf,iI]
 refine dn (cA _) (by simp) (by simp [go_sem]) ?_
 simp [go_sem,hf]
 exact az (by simp [go_sem]) ⟨by simp [go_sem],rfl⟩
theorem Km (L : List fb) (most : Int) (l : List Ex) (hL : L.length <= 1000000) (hl : l.length <= 4000000000000000000) (bp : ∀ e,e ∈ l -> NE e) (yp : ∀ e,e ∈ l -> NR e) (bx : aa) : ay prog 19 [eF L most l] bx (.dh [.sl 7 ((en L most l).1.map zP),iI (en L most l).2]):=by
 refine ay.wk ((H7 L most l hL hl bp yp bx).mono ?_)
 rintro r bx' ⟨rfl,v,hv,rfl⟩
 exact ⟨p9 hv.wk (Wk.refl _),rfl⟩
theorem Ez (L : List fb) (most : Int) (l : List Ex) (bp : ∀ e,e ∈ l -> NE e) (yp : ∀ e,e ∈ l -> NR e) (bx : aa) : ay prog 4 [eF L most l] bx (.bool true):=by
 refine acz fun hf=>?_
 have cA:=fun bx'=>CN bx'
 have cf:=fun bx'=>Lo L most l 200 bx'
 simp [go_sem,C4,hf,eF]
 refine ag (cf _) ?_
 cases hfar : Ei L l 200
 rotate_left
 ·simp [go_sem,hf]
  refine ag (cA _) ?_
  simp [go_sem,hf]
  exact az (by simp [go_sem]) ⟨by simp [go_sem],rfl⟩
 obtain ⟨f1,f2,f3⟩:=CO hfar
 have c3:=fun bx'=>CL L most l (by omega) (by omega) bp bx'
 have c4:=fun bx'=>Km L most l (by omega) (by omega) bp yp bx'
 have hlen : (en L most l).1.length <= 1000000:=by
  unfold en kx
  split
  ·have:=(fR (gi L most l) l.length).ak
   simp; omega
  ·simp
 have c5:=fun bx'=>CM (en L most l).1 (en L most l).1 hlen bx'
 have hz : decide ((en L most l).1 = (en L most l).1) = true:=by simp
 rw [hz] at c5
 generalize en L most l = d at c3 c4 c5
 simp [go_sem,hf,iI]
 refine ag (c3 _) ?_
 simp [go_sem,hf,iI]
 refine ag (c4 _) ?_
 simp [go_sem,hf,iI]
 refine ag (c5 _) ?_
 simp [go_sem,hf,iI]
 refine dn (cA _) (by simp) (by simp [go_sem]) ?_
 simp [go_sem,hf]
 exact az (by simp [go_sem]) ⟨by simp [go_sem],rfl⟩
end Go.Proofs
