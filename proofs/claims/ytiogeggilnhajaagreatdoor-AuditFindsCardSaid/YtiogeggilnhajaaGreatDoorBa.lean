/- Texts of the proof, put together: PlA, PlB, PlC, PlD, PlE, PlF, PlFa, PlGa, PlG, PlH, PlI, PlJ, PlK, PlL. -/
import Derived.WalkKit
import Derived.Below
import Derived.Maps.AppendAt
import Derived.Lib.Space
import Derived.Great.BuildSlice
import Derived.Deep.Slices
import Derived.Lib.ConvBytes
import Derived.Laws.BytesString
import Derived.Laws.StructEq
import Derived.Laws.Tables
import Derived.MapKept
import Derived.Lib.AppendStr
namespace Go.Pl
inductive V where
 | cX
 | int (k : IntKind) (n : Int)
 | bool (b : Bool)
 | str (s : List UInt8)
 | aI
 | sl (sz : Nat) (es : List V)
 | own (b sz o n : Nat)
 | ptr (b sz i o : Nat)
 | ep (e : V) (o : Nat)
 | eJ
 | fn (f : Fn) (caps : List V)
 | ic
 | iface (t : TypeId) (v : V)
 | iM
 | mp (b : Nat)
 | gS
 | agg (cs : List V)
 | dh (cs : List V)
 | dead (v : V)
 | yl (b : Nat)
 deriving Inhabited
def V.cells : V -> List V
 | .agg cs=>cs
 | v=>[v]
def V.strip : V -> V
 | .dead v=>v.strip
 | v=>v
theorem nV : ∀ v : V,v.strip.strip = v.strip
 | .dead v=>by simp only [V.strip]; exact nV v
 | .cX | .int .. | .bool _ | .str _ | .aI | .sl .. | .own .. | .ptr .. | .ep .. | .eJ | .fn .. | .ic | .iface .. | .iM | .mp _ | .gS | .agg _ | .dh _ | .yl _=>rfl
def V.ax : V -> Bool
 | .dead _=>false
 | _=>true
def eo (c : Bool) (v : V) : V:=bif c then v else .dead v.strip
abbrev Beta:=Nat -> Option (Option Nat)
def sv (w : World) (F : Nat -> Prop) (A : Option Addr) (j : Nat) (u : Value) : Prop :=
 ∃ a,A = some a /\ F a.block /\ w.cell? (a.add j) = some u /\ u.oneCell' = true
inductive aP (β : Beta) (w : World) (F : Nat -> Prop) : V -> Value -> Prop
 | cX (u : Value) : aP β w F .cX u
 | int (k : IntKind) (n : Int) : aP β w F (.int k n) (.int k n)
 | bool (b : Bool) : aP β w F (.bool b) (.bool b)
 | str (s : ByteArray) : aP β w F (.str s.data.toList) (.string s)
 | aI : aP β w F .aI (.slice none 0 0)
 | sl (sz : Nat) (es : List V) (A : Option Addr) (cap : Nat) (u : Nat -> Value) (kz : es.length <= cap) (gT : cap <= maxLen) (hA : es ≠ [] -> A ≠ none)
  (bV : ∀ e,e ∈ es -> e.cells.length = sz)
  (hc : ∀ (i : Nat) (e : V) (j : Nat) (c : V),es[i]? = some e -> e.cells[j]? = some c -> sv w F A (i * sz + j) (u (i * sz + j)))
  (hr : ∀ (i : Nat) (e : V) (j : Nat) (c : V),es[i]? = some e -> e.cells[j]? = some c -> aP β w F c (u (i * sz + j))) : aP β w F (.sl sz es) (.slice A es.length cap)
 | nv (b sz : Nat) (hb : β b = some none) : aP β w F (.own b sz 0 0) (.slice none 0 0)
 | own (b sz o n k cap m : Nat) (ty : TypeId) (hb : β b = some (some k)) (hs : w.shape? k = some (ty,m)) (hm : (o + cap) * sz <= m) (hn : n <= cap) (gT : o + cap <= maxLen) :
  aP β w F (.own b sz o n) (.slice (some ⟨k,o * sz,none⟩) n cap)
 | ptr (b sz i o k : Nat) (hb : β b = some (some k)) : aP β w F (.ptr b sz i o) (.pointer (some ⟨k,i * sz + o,none⟩))
 | ep (e : V) (o : Nat) (a : Addr) (u : Nat -> Value) (hc : ∀ (j : Nat) (c : V),e.cells[j]? = some c -> sv w F (some a) j (u j))
  (hr : ∀ (j : Nat) (c : V),e.cells[j]? = some c -> aP β w F c (u j)) : aP β w F (.ep e o) (.pointer (some (a.add o)))
 | eJ : aP β w F .eJ (.pointer none)
 | fn (f : Fn) (caps : List V) (us : Array Value) (hl : us.size = caps.length) (hr : ∀ (i : Nat) (c : V),caps[i]? = some c -> aP β w F c (us.getD i undef)) (hy : ∀ g r,f = .yield g -> caps ≠ [r]) : aP β w F (.fn f caps) (.func f #[] us)
 | bm (f : FuncId) (r : V) (u : Value) (h : aP β w F r u) : aP β w F (.fn (.yield f) [r]) (.func (.func f) #[u] #[])
 | ic : aP β w F .ic .nilFunc
 | iface (t : TypeId) (v : V) (u : Value) (h : aP β w F v u) : aP β w F (.iface t v) (.iface t u)
 | iM : aP β w F .iM .nilIface
 | mp (b k : Nat) (hb : β b = some (some k)) : aP β w F (.mp b) (.map (some k))
 | gS : aP β w F .gS (.map none)
 | agg (cs : List V) (us : Array Value) (hl : us.size = cs.length) (h1 : ∀ (i : Nat),i < cs.length -> (us.getD i undef).oneCell' = true) (hr : ∀ (i : Nat) (c : V),cs[i]? = some c -> aP β w F c (us.getD i undef)) :
  aP β w F (.agg cs) (.agg us)
 | dh (cs : List V) (us : Array Value) (hl : us.size = cs.length) (hr : ∀ (i : Nat) (c : V),cs[i]? = some c -> aP β w F c (us.getD i undef)) : aP β w F (.dh cs) (.tuple us)
 | dead (v : V) : aP β w F (.dead v) undef
 | yl (b k : Nat) (hb : β b = some (some k)) : aP β w F (.yl b) (.func (.yield k) #[] #[])
theorem aP.mono {β β' : Beta} {w w' : World} {F F' : Nat -> Prop} {v : V} {u : Value} (h : aP β w F v u) (bL : ∀ b x,β b = some x -> β' b = some x)
 (hF : ∀ k,F k -> F' k /\ w'.heap[k]? = w.heap[k]?) (hs : ∀ k x,w.shape? k = some x -> w'.shape? k = some x) : aP β' w' F' v u:=by
 have bA : ∀ A j u,sv w F A j u -> sv w' F' A j u:=by
  rintro A j u ⟨a,rfl,hf,hc,h1⟩
  refine ⟨a,rfl,(hF _ hf).1,?_,h1⟩
  have hb : (a.add j).block = a.block:=by unfold Addr.add; split <;> rfl
  rw [<- hc]
  exact World.cell?_of_block (w:=w) (by rw [hb]; exact (hF _ hf).2)
 induction h with
 | cX u=>exact .cX u
 | int k n=>exact .int k n
 | bool b=>exact .bool b
 | str s=>exact .str s
 | aI=>exact .aI
 | sl sz es A cap u kz gT hA bV hc _ ih=>exact .sl sz es A cap u kz gT hA bV (fun i e j c h1 h2=>bA _ _ _ (hc i e j c h1 h2)) ih
 | nv b sz hb=>exact .nv b sz (bL _ _ hb)
 | own b sz o n k cap m ty hb vS hm hn gT=>exact .own b sz o n k cap m ty (bL _ _ hb) (hs _ _ vS) hm hn gT
 | ptr b sz i o k hb=>exact .ptr b sz i o k (bL _ _ hb)
 | ep e o a u hc _ ih=>exact .ep e o a u (fun j c h1=>bA _ _ _ (hc j c h1)) ih
 | eJ=>exact .eJ
 | fn f caps us hl _ hy ih=>exact .fn f caps us hl ih hy
 | bm f r u _ ih=>exact .bm f r u ih
 | ic=>exact .ic
 | iface t v u _ ih=>exact .iface t v u ih
 | iM=>exact .iM
 | mp b k hb=>exact .mp b k (bL _ _ hb)
 | gS=>exact .gS
 | agg cs us hl h1 _ ih=>exact .agg cs us hl h1 ih
 | dh cs us hl _ ih=>exact .dh cs us hl ih
 | dead v=>exact .dead v
 | yl b k hb=>exact .yl b k (bL _ _ hb)
inductive bI where
 | row (ty : TypeId) (sz : Nat) (es : List V)
 | map (es : List (V × V))
 | loop (pend : Option Code) (ps : Array Tmp) (good : Code -> Code -> Prop) (n : Nat) (sl : Nat -> V)
 | kg (es : List (V × V)) (bs : List Nat) (c : Nat)
 | iter (b since c0 : Nat) (seen : List Nat)
 deriving Inhabited
abbrev aa:=Nat -> Option bI
structure dP where
 obj : Nat -> Option Obj
 base : Nat
 df : List Deferred
instance : CoeFun dP fun _=>Nat -> Option Obj:=⟨dP.obj⟩
def Fz (β : Beta) (M : dP) (bx : aa) (w : World) (k : Nat) : Prop :=
 k < w.heap.size /\ M k = none /\ ∀ b,bx b ≠ none -> β b ≠ some (some k)
def oT (n : Nat) (fr : Nat × Nat) : Prop:=fr = (0,0) \/ fr = (n,n + 1)
def Kn (β : Beta) (w : World) (F : Nat -> Prop) (k : Nat) (ty : TypeId) (sz : Nat) (es : List V) : Prop :=
 ∃ (cur : Array Value) (fr : Nat × Nat),w.heap[k]? = some (.cells cur ty fr) /\ oT cur.size fr /\ es.length * sz <= cur.size /\
  ∀ (i : Nat) (e : V),es[i]? = some e -> e.cells.length = sz /\ ∀ (j : Nat) (c : V),e.cells[j]? = some c -> (cur.getD (i * sz + j) undef).oneCell' = true /\ aP β w F c (cur.getD (i * sz + j) undef)
def QK (β : Beta) (w : World) (F : Nat -> Prop) (k : Nat) (es : List (V × V)) : Prop :=
 ∃ (ms : Array MapEntry) (clock : Nat),w.heap[k]? = some (.map ms clock) /\ ms.size = es.length /\
  (∀ (i : Nat) (m : MapEntry),ms[i]? = some m -> m.born < clock /\ ∀ j m',ms[j]? = some m' -> m'.born = m.born -> j = i) /\
  ∀ (i : Nat) (x : V × V) (m : MapEntry),es[i]? = some x -> ms[i]? = some m -> aP β w F x.1 m.key /\ aP β w F x.2 m.val
def Ag (β : Beta) (w : World) (F : Nat -> Prop) (k : Nat) (es : List (V × V)) (bs : List Nat) (c : Nat) : Prop :=
 ∃ ms : Array MapEntry,w.heap[k]? = some (.map ms c) /\ bs = ms.toList.map MapEntry.born /\ ms.size = es.length /\
  (∀ (i : Nat) (m : MapEntry),ms[i]? = some m -> m.born < c /\ ∀ j m',ms[j]? = some m' -> m'.born = m.born -> j = i) /\
  ∀ (i : Nat) (x : V × V) (m : MapEntry),es[i]? = some x -> ms[i]? = some m -> aP β w F x.1 m.key /\ aP β w F x.2 m.val
def Lw (β : Beta) (w : World) (k b since c0 : Nat) (seen : List Nat) : Prop :=
 ∃ kb,β b = some (some kb) /\ w.heap[k]? = some (.mapIter (some kb) since seen.toArray c0) /\ since <= c0
def Lx (β : Beta) (w : World) (F : Nat -> Prop) (k : Nat) (pend : Option Code) (ps : Array Tmp) (good : Code -> Code -> Prop) (n : Nat) (sl : Nat -> V) : Prop :=
 ∃ rec : Loop,w.heap[k]? = some (.loop rec) /\ rec.state = (if pend.isNone then .ready else .done) /\ rec.pending = pend /\ rec.params = ps /\ good rec.assign rec.body /\ n <= rec.tmps.size /\ ∀ t,aP β w F (sl t) (rec.tmps.getD t undef)
def nG (β : Beta) (w : World) (F : Nat -> Prop) (k : Nat) : bI -> Prop
 | .row ty sz es=>Kn β w F k ty sz es
 | .map es=>QK β w F k es
 | .loop pend ps good n sl=>Lx β w F k pend ps good n sl
 | .kg es bs c=>Ag β w F k es bs c
 | .iter b since c0 seen=>Lw β w k b since c0 seen
def bI.empty : bI -> Prop
 | .row _ _ es=>es = []
 | .map _=>False
 | .loop ..=>False
 | .kg ..=>False
 | .iter ..=>False
structure eu (β : Beta) (M : dP) (bx : aa) (w : World) : Prop where
 fin : ∃ n,∀ b,n <= b -> β b = none
 mlt : ∀ k o,M k = some o -> w.heap[k]? = some o
 live : ∀ b box,bx b = some box -> (β b = some none /\ box.empty) \/ ∃ k,β b = some (some k) /\ k < w.heap.size /\ M k = none /\ nG β w (Fz β M bx w) k box
 inj : ∀ b b' k,bx b ≠ none -> bx b' ≠ none -> β b = some (some k) -> β b' = some (some k) -> b = b'
theorem eu.nW {β : Beta} {M : dP} {bx : aa} {w : World} (h : eu β M bx w) {k : Nat} {o : Obj} (hM : M k = some o) : k < w.heap.size :=
 (Array.getElem?_eq_some_iff.1 (h.mlt k o hM)).1
theorem eu.sy {β : Beta} {M : dP} {bx : aa} {w : World} (h : eu β M bx w) {k : Nat} (hk : w.heap.size <= k) : M k = none:=by
 cases hM : M k with
 | none=>rfl
 | some o=>exact absurd (h.nW hM) (by omega)
def Mk (bx : aa) : Prop:=∃ b ty,bx b = some (.row ty 0 [])
theorem yq {ty : TypeId} {sz : Nat} {es : List V} (h : 0 < sz \/ es ≠ []) : ∀ oO,some (bI.row ty sz es) ≠ some (.row oO 0 []):=by
 rintro oO e
 injection e with e
 injection e with _ e1 e2
 rcases h with h | h
 ·omega
 ·exact h e2
theorem Mk.kh {bx : aa} {b : Nat} {x : Option bI} (h : Mk (fun b'=>if b' = b then x else bx b')) (hx : ∀ ty,x ≠ some (.row ty 0 [])) : Mk bx:=by
 obtain ⟨b',ty,h⟩:=h
 by_cases e : b' = b
 ·subst e; simp at h; exact absurd h (hx ty)
 ·exact ⟨b',ty,by simpa [e] using h⟩
structure Tr (β : Beta) (bx : aa) (w : World) (β' : Beta) (bx' : aa) (w' : World) : Prop where
 os : w'.os = w.os
 tape : w'.tape = w.tape
 output : w'.output = w.output
 drawn : ¬ Mk bx -> w.drawn <= w'.drawn
 Ah : Mk bx' -> Mk bx
 size : w.heap.size <= w'.heap.size
 ch : ∀ k,k < w.heap.size -> (∀ b,bx b ≠ none -> β b ≠ some (some k)) -> w'.heap[k]? = w.heap[k]?
 shape : ∀ k x,w.shape? k = some x -> w'.shape? k = some x
 ext : ∀ b x,β b = some x -> β' b = some x
 news : ∀ b' k,bx' b' ≠ none -> β' b' = some (some k) -> (∃ b,bx b ≠ none /\ β b = some (some k)) \/ w.heap.size <= k
theorem Tr.refl (β : Beta) (bx : aa) (w : World) : Tr β bx w β bx w :=
 ⟨rfl,rfl,rfl,fun _=>Nat.le_refl _,id,Nat.le_refl _,fun _ _ _=>rfl,fun _ _ h=>h,fun _ _ h=>h,fun b' _ h1 h2=>.inl ⟨b',h1,h2⟩⟩
theorem Tr.trans {β β' β'' : Beta} {bx bx' bx'' : aa} {w w' w'' : World} (h : Tr β bx w β' bx' w') (h' : Tr β' bx' w' β'' bx'' w'') : Tr β bx w β'' bx'' w'' where
 os:=h'.os.trans h.os
 tape:=h'.tape.trans h.tape
 output:=h'.output.trans h.output
 drawn hn:=Nat.le_trans (h.drawn hn) (h'.drawn fun hm=>hn (h.Ah hm))
 Ah hm:=h.Ah (h'.Ah hm)
 size:=Nat.le_trans h.size h'.size
 ch k hk hb:=by
  rw [h'.ch k (Nat.lt_of_lt_of_le hk h.size) ?_,h.ch k hk hb]
  intro b' aQ he
  rcases h.news b' k aQ he with ⟨b,h1,h2⟩ | h1
  ·exact hb b h1 h2
  ·omega
 shape k x hx:=h'.shape k x (h.shape k x hx)
 ext b x hx:=h'.ext b x (h.ext b x hx)
 news b' k h1 h2:=by
  rcases h'.news b' k h1 h2 with ⟨b,h3,h4⟩ | h3
  ·exact h.news b k h3 h4
  ·have:=h.size; exact .inr (by omega)
theorem Tr.fz {β β' : Beta} {M : dP} {bx bx' : aa} {w w' : World} (h : Tr β bx w β' bx' w') {k : Nat} (hk : Fz β M bx w k) : Fz β' M bx' w' k /\ w'.heap[k]? = w.heap[k]?:=by
 obtain ⟨h1,h2,h3⟩:=hk
 refine ⟨⟨Nat.lt_of_lt_of_le h1 h.size,h2,fun b' aQ he=>?_⟩,h.ch k h1 h3⟩
 rcases h.news b' k aQ he with ⟨b,h4,h5⟩ | h4
 ·exact h3 b h4 h5
 ·omega
theorem Tr.rep {β β' : Beta} {M : dP} {bx bx' : aa} {w w' : World} (h : Tr β bx w β' bx' w') {v : V} {u : Value} (hr : aP β w (Fz β M bx w) v u) : aP β' w' (Fz β' M bx' w') v u :=
 hr.mono h.ext (fun _ hk=>h.fz hk) h.shape
end Go.Pl
namespace Go.Pl
structure St where
 n : Nat
 sl : Nat -> V
 bx : aa
def aA {α : Type} (f : Nat -> α) (x : Nat) (v : α) : Nat -> α:=fun y=>if y = x then v else f y
def s6 : Value -> V
 | .int k n=>.int k n
 | .bool b=>.bool b
 | .string s=>.str s.data.toList
 | .slice none 0 0=>.aI
 | .pointer none=>.eJ
 | .nilFunc=>.ic
 | .nilIface=>.iM
 | .map none=>.gS
 | _=>.cX
def ofValue : Value -> V
 | .agg cs=>if cs.all (·.oneCell') then .agg (cs.toList.map s6) else .cX
 | .func f a b=>if a.size = 0 /\ b.size = 0 then .fn f [] else .cX
 | v=>s6 v
def St.get (st : St) : Operand -> V
 | .tmp t=>st.sl t
 | .const v=>ofValue v
 | .global _=>.cX
 | .func f=>.fn (.func f) []
def yr : List (String × List V) :=
 [("internal/strconv.uint64pow10",(List.range 20).map fun i=>.int .u64 ((10 ^ i : Nat) : Int)),
  ("math/bits.deBruijn64tab",([0,1,56,2,57,49,28,3,61,58,42,50,38,29,17,4,62,47,59,36,45,43,51,22,53,39,33,30,24,18,12,5,63,55,48,27,60,41,37,16,46,35,44,21,52,32,23,11,54,26,40,15,34,20,31,10,25,14,19,9,13,8,7,6] : List Int).map (.int .u8)),
  ("strings.asciiSpace",Lib.asciiSpaceTab.map (.int .u8))]
def Ly (P : Program) (g : Nat) : V :=
 match yr.find? fun x=>decide (P.globalNamed x.1 = some g) with
 | some x=>.ep (.agg x.2) 0
 | none=>.cX
def gv (P : Program) (st : St) : Operand -> V
 | .global g=>Ly P g
 | x=>st.get x
inductive uJ where
 | none | bool | int (k : IntKind) | str | slice (e : TypeId) | arr (n : Nat) (e : TypeId) | s7 | ptr (e : TypeId) | map (k e : TypeId) | fn | iface
 deriving DecidableEq
def bu (P : Program) (t : TypeId) : uJ :=
 match P.underlying t with
 | some .bool=>.bool
 | some (.int k)=>.int k
 | some .string=>.str
 | some (.slice e)=>.slice e
 | some (.array n e)=>.arr n e
 | some (.struct _)=>.s7
 | some (.pointer e)=>.ptr e
 | some (.map k e)=>.map k e
 | some (.func _ _ _)=>.fn
 | some (.interface _)=>.iface
 | _=>.none
def aE (P : Program) (t : TypeId) : Nat:=((P.info? t).map (·.size)).getD 0
def nX (P : Program) (t : TypeId) : Nat:=((P.info? t).map (·.bytes)).getD 0
def aT (P : Program) (t : TypeId) : Option Value:=(P.info? t).bind (·.zero)
def db (P : Program) (t : TypeId) : Bool :=
 match P.underlying t with
 | some (.struct _)=>true
 | some (.array _ _)=>true
 | _=>false
def cw (P : Program) (t : TypeId) : Bool:=(P.underlying t).isSome && (P.info? t).isSome
def cz (P : Program) (s : TypeId) (f : Nat) : Option (Nat × TypeId) :=
 match P.underlying s with
 | some (.struct fs)=>(fs[f]?).map fun x=>(x.offset,x.type)
 | _=>none
def HU : Nat -> List Field -> Bool
 | _,[]=>true
 | i,f :: fs=>f.offset == i && f.name != "_" && HU (i + 1) fs
def yt (P : Program) (t : TypeId) : Bool :=
 match P.underlying t with
 | some (.struct fs)=>!P.eqGuardType P.depth t && !P.stoodInHeld t && aE P t == fs.size && HU 0 fs.toList
 | _=>false
def ki (P : Program) (t : TypeId) : List uJ :=
 match P.underlying t with
 | some (.struct fs)=>fs.toList.map fun f=>bu P f.type
 | _=>[]
abbrev Ev:=Prop × V
def dk : Ev:=(False,.cX)
def s8 (c a b : V) : Ev :=
 match c.strip with
 | .bool x=>(c.ax = true /\ (x = true -> a.ax = true) /\ (x = false -> b.ax = true),bif x then a.strip else b.strip)
 | _=>dk
def im (P : Program) (t : TypeId) (e : V) (o : Nat) (c : Prop) : Ev :=
 if db P t = true then (c /\ cw P t = true /\ o + aE P t <= e.cells.length,.agg ((e.cells.drop o).take (aE P t)))
 else (c /\ cw P t = true /\ o < e.cells.length,e.cells.getD o .cX)
def dH (P : Program) (bx : aa) (t : TypeId) (a : V) : Ev :=
 match a.strip with
 | .ep e o=>im P t e o (a.ax = true)
 | .ptr b sz i o =>
   match bx b with
   | some (.row _ eT es)=>im P t (es.getD i .cX) o (a.ax = true /\ sz = eT /\ i < es.length)
   | _=>dk
 | _=>dk
def gy (P : Program) (s : TypeId) (f : Nat) (x : V) : Ev :=
 match cz P s f with
 | some (off,ty) =>
   match x.strip with
   | .ep e o=>(x.ax = true /\ aE P ty ≠ 0,.ep e (o + off))
   | .ptr b sz i o=>(x.ax = true /\ aE P ty ≠ 0,.ptr b sz i (o + off))
   | _=>dk
 | none=>dk
def gA (P : Program) (t : TypeId) (x ix : V) : Ev :=
 match bu P t,x.strip,ix.strip with
 | .slice e,.sl sz es,.int _ i=>(x.ax = true /\ ix.ax = true /\ cw P e = true /\ sz = aE P e /\ 0 <= i /\ i < es.length,.ep (es.getD i.toNat .cX) 0)
 | .slice e,.own b sz o n,.int _ i=>(x.ax = true /\ ix.ax = true /\ cw P e = true /\ sz = aE P e /\ 0 <= i /\ i < n,.ptr b sz (o + i.toNat) 0)
 | .arr n e,.ptr b sz i0 o,.int _ i=>(x.ax = true /\ ix.ax = true /\ cw P e = true /\ 0 <= i /\ i < n,.ptr b sz i0 (o + i.toNat * aE P e))
 | .arr n e,.ep v o,.int _ i=>(x.ax = true /\ ix.ax = true /\ cw P e = true /\ 0 <= i /\ i < n,.ep v (o + i.toNat * aE P e))
 | _,_,_=>dk
def nY (P : Program) (s : TypeId) (f : Nat) (x : V) : Ev :=
 match cz P s f with
 | some (off,ty) =>
   match x.strip with
   | .agg cs=>im P ty (.agg cs) off (x.ax = true)
   | _=>dk
 | none=>dk
def nZ (P : Program) (t : TypeId) (x ix : V) : Ev :=
 match bu P t,x.strip,ix.strip with
 | .arr n e,.agg cs,.int _ i=>im P e (.agg cs) (i.toNat * aE P e) (x.ax = true /\ ix.ax = true /\ 0 <= i /\ i < n)
 | .str,.str s,.int _ i=>(x.ax = true /\ ix.ax = true /\ 0 <= i /\ i < s.length,.int .u8 (s.getD i.toNat 0).toNat)
 | _,_,_=>dk
def j5 (i : Nat) (x : V) : Ev :=
 match x.strip with
 | .dh cs=>(x.ax = true /\ i < cs.length,cs.getD i .cX)
 | _=>dk
def CV (op : BinOp) (k : IntKind) (a b : Int) : Ev :=
 match op with
 | .add=>(True,.int k (k.wrap (a + b)))
 | .sub=>(True,.int k (k.wrap (a - b)))
 | .mul=>(True,.int k (k.wrap (a * b)))
 | .quo=>(b ≠ 0,.int k (k.wrap (a.tdiv b)))
 | .rem=>(b ≠ 0,.int k (a.tmod b))
 | .and=>(True,.int k (bits .and k a b))
 | .or=>(True,.int k (bits .or k a b))
 | .xor=>(True,.int k (bits .xor k a b))
 | .andNot=>(True,.int k (bits .andNot k a b))
 | .eql=>(True,.bool (decide (a = b)))
 | .neq=>(True,.bool (!decide (a = b)))
 | .lss=>(True,.bool (decide (a < b)))
 | .leq=>(True,.bool (decide (a <= b)))
 | .gtr=>(True,.bool (decide (b < a)))
 | .geq=>(True,.bool (decide (b <= a)))
 | _=>dk
def CW (op : BinOp) (a b : List UInt8) : Ev :=
 match op with
 | .add=>(a.length + b.length <= 9223372036854775807,.str (a ++ b))
 | .eql=>(True,.bool (decide (a = b)))
 | .neq=>(True,.bool (!decide (a = b)))
 | .lss=>(True,.bool (Op.bytesLess a b))
 | .leq=>(True,.bool (Op.bytesLess a b || decide (a = b)))
 | .gtr=>(True,.bool (!(Op.bytesLess a b || decide (a = b))))
 | .geq=>(True,.bool (!Op.bytesLess a b))
 | _=>dk
def pT : uJ -> V -> V -> Option Bool
 | .int _,.int k a,.int k' b=>if k = k' then some (decide (a = b)) else none
 | .bool,.bool a,.bool b=>some (a == b)
 | .str,.str a,.str b=>some (decide (a = b))
 | _,_,_=>none
def gj : List uJ -> List V -> List V -> Option Bool
 | [],[],[]=>some true
 | k :: ks,x :: xs,y :: ys =>
   match pT k x y,gj ks xs ys with
   | some a,some b=>some (a && b)
   | _,_=>none
 | _,_,_=>none
def sA : uJ -> V -> V -> Option Bool
 | .ptr _,.ptr _ _ _ _,.eJ | .ptr _,.ep _ _,.eJ | .ptr _,.eJ,.ptr _ _ _ _ | .ptr _,.eJ,.ep _ _=>some false
 | .ptr _,.eJ,.eJ=>some true
 | .fn,.fn _ _,.ic | .fn,.ic,.fn _ _=>some false
 | .fn,.ic,.ic=>some true
 | .map _ _,.mp _,.gS | .map _ _,.gS,.mp _=>some false
 | .map _ _,.gS,.gS=>some true
 | _,_,_=>none
def Ai (P : Program) (op : BinOp) (t : TypeId) (x y : V) : Ev :=
 match x.strip,y.strip with
 | .int k a,.int k' b =>
   match op with
   | .shl=>(x.ax = true /\ y.ax = true /\ 0 <= b,.int k (k.wrap (a * 2 ^ (min b.toNat k.bits))))
   | .shr=>(x.ax = true /\ y.ax = true /\ 0 <= b,.int k (a.fdiv (2 ^ (min b.toNat k.bits))))
   | op=>(x.ax = true /\ y.ax = true /\ k = k' /\ (CV op k a b).1,(CV op k a b).2)
 | .str a,.str b=>(x.ax = true /\ y.ax = true /\ (CW op a b).1,(CW op a b).2)
 | .bool a,.bool b =>
   match op with
   | .eql=>(x.ax = true /\ y.ax = true /\ bu P t = .bool,.bool (a == b))
   | .neq=>(x.ax = true /\ y.ax = true /\ bu P t = .bool,.bool (!(a == b)))
   | _=>dk
 | .agg cs,.agg ds =>
   match op with
   | .eql=>(x.ax = true /\ y.ax = true /\ yt P t = true /\ (gj (ki P t) cs ds).isSome = true,.bool ((gj (ki P t) cs ds).getD false))
   | .neq=>(x.ax = true /\ y.ax = true /\ yt P t = true /\ (gj (ki P t) cs ds).isSome = true,.bool (!(gj (ki P t) cs ds).getD false))
   | _=>dk
 | x',y' =>
   match op with
   | .eql=>(x.ax = true /\ y.ax = true /\ (sA (bu P t) x' y').isSome = true,.bool ((sA (bu P t) x' y').getD false))
   | .neq=>(x.ax = true /\ y.ax = true /\ (sA (bu P t) x' y').isSome = true,.bool (!(sA (bu P t) x' y').getD false))
   | _=>dk
def L0 (op : UnOp) (x : V) : Ev :=
 match op,x.strip with
 | .not,.bool b=>(x.ax = true,.bool (!b))
 | .neg,.int k n=>(x.ax = true,.int k (k.wrap (0 - n)))
 | _,_=>dk
def dI (b : UInt8) : V:=.int .u8 b.toNat
def intOf : V -> Int
 | .int _ n=>n
 | _=>0
def toByte : V -> UInt8
 | .int _ n=>UInt8.ofNat n.toNat
 | _=>0
def yu : V -> Bool
 | .int .u8 _=>true
 | _=>false
def jT (P : Program) (src dst : TypeId) (x : V) : Ev :=
 match bu P src,bu P dst,x.strip with
 | .int _,.int k,.int _ n=>(x.ax = true,.int k (k.wrap n))
 | .str,.str,.str s=>(x.ax = true,.str s)
 | .str,.slice e,.str s=>(x.ax = true /\ bu P e = .int .u8 /\ s.length <= 9223372036854775807,.sl 1 (s.map dI))
 | .slice e,.str,.sl sz es=>(x.ax = true /\ bu P e = .int .u8 /\ sz = 1 /\ es.all yu = true,.str (es.map toByte))
 | .slice e,.str,.aI=>(x.ax = true /\ bu P e = .int .u8,.str [])
 | _,_,_=>dk
def vT (P : Program) (o : Oper) : Bool :=
 match o.op with
 | .convert s d _=>match bu P s,bu P d with
   | .str,.slice _=>true
   | _,_=>false
 | _=>false
def fw (d : Int) : Option V -> Option (Prop × Int)
 | none=>some (True,d)
 | some v=>match v.strip with
   | .int _ i=>some (v.ax = true,i)
   | _=>none
def kj (P : Program) (t : TypeId) (x : V) (lo hi : Option V) : Ev :=
 match bu P t,x.strip with
 | .slice e,.sl sz es =>
   match fw 0 lo,fw es.length hi with
   | some (c,l),some (d,h)=>(x.ax = true /\ c /\ d /\ cw P e = true /\ sz = aE P e /\ 0 <= l /\ l <= h /\ h <= es.length,.sl sz ((es.take h.toNat).drop l.toNat))
   | _,_=>dk
 | .slice e,.own b sz o n =>
   match fw 0 lo,fw n hi with
   | some (c,l),some (d,h)=>(x.ax = true /\ c /\ d /\ cw P e = true /\ sz = aE P e /\ (l = 0 \/ (0 <= l /\ l < h) \/ l = h) /\ 0 <= h /\ h <= n,if l = 0 \/ (0 <= l /\ l < h) then .own b sz (o + l.toNat) (h.toNat - l.toNat) else .sl sz [])
   | _,_=>dk
 | .slice e,.aI =>
   match fw 0 lo,fw 0 hi with
   | some (c,l),some (d,h)=>(x.ax = true /\ c /\ d /\ cw P e = true /\ l = 0 /\ h = 0,.aI)
   | _,_=>dk
 | .str,.str s =>
   match fw 0 lo,fw s.length hi with
   | some (c,l),some (d,h)=>(x.ax = true /\ c /\ d /\ 0 <= l /\ l <= h /\ h <= s.length,.str ((s.take h.toNat).drop l.toNat))
   | _,_=>dk
 | _,_=>dk
def QL : V -> Option Nat
 | .sl _ es=>some es.length
 | .own _ _ _ n=>some n
 | .aI=>some 0
 | _=>none
def kR (P : Program) (t : TypeId) (x : V) (lo : Option V) (hi mx : V) : Ev :=
 match QL x.strip,fw 0 (some hi),fw 0 (some mx) with
 | some n,some (_,h),some (d,m)=>((kj P t x lo (some hi)).1 /\ d /\ h <= m /\ m <= n,(kj P t x lo (some hi)).2)
 | _,_,_=>dk
def nx (P : Program) (bx : aa) (t : TypeId) (x : V) : Ev :=
 match bu P t,x.strip with
 | .slice _,.sl _ es=>(x.ax = true,.int .i64 es.length)
 | .slice _,.own _ _ _ n=>(x.ax = true,.int .i64 n)
 | .slice _,.aI=>(x.ax = true,.int .i64 0)
 | .str,.str s=>(x.ax = true,.int .i64 s.length)
 | .arr n _,_=>(True,.int .i64 n)
 | .map _ _,.gS=>(x.ax = true,.int .i64 0)
 | .map _ _,.mp b=>match bx b with
   | some (.map es)=>(x.ax = true,.int .i64 es.length)
   | _=>dk
 | _,_=>dk
def Aj (x y : V) : Ev :=
 match x.strip,y.strip with
 | .int k a,.int _ b=>(x.ax = true /\ y.ax = true,.int k (if b < a then b else a))
 | _,_=>dk
def Ak (x y : V) : Ev :=
 match x.strip,y.strip with
 | .int k a,.int _ b=>(x.ax = true /\ y.ax = true,.int k (if a < b then b else a))
 | _,_=>dk
def QM : Fn -> Prop
 | .yield _=>False
 | _=>True
def B5 (f : Fn) (caps : List V) : Ev:=((∀ c,c ∈ caps -> c.ax = true) /\ QM f,.fn f (caps.map V.strip))
def vU (f : Fn) (x : V) (n : Nat) : Ev :=
 match f with
 | .func g=>(x.ax = true /\ n = 0,.fn (.yield g) [x.strip])
 | _=>dk
def okV : V -> Bool
 | .agg _=>true
 | .cX=>false
 | .dh _=>false
 | .dead _=>false
 | _=>true
def aS (P : Program) (t : TypeId) (i : Nat) : Option (Nat × Nat) :=
 match P.underlying t with
 | some (.struct fs)=>(fs[i]?).bind fun f=>(P.info? f.type).map fun ie=>(f.offset,ie.size)
 | some (.array _ e)=>(P.info? e).map fun ie=>(i * ie.size,ie.size)
 | _=>none
def dC (P : Program) (t : TypeId) : Bool :=
 match P.underlying t with
 | some (.struct fs)=>fs.toList.all fun f=>(P.info? f.type).isSome
 | some (.array _ e)=>(P.info? e).isSome
 | _=>false
def lO (cs : List V) (off : Nat) (vs : List V) : List V:=cs.take off ++ vs ++ cs.drop (off + vs.length)
def Al (x : V) (n : Nat) (c : Prop) (p : Option (Nat × Nat)) : Prop :=
 match p with
 | some (off,sz)=>okV x = true /\ x.cells.length = sz /\ off + sz <= n /\ c
 | none=>False
def sB (cs : List V) (x : V) (p : Option (Nat × Nat)) : List V :=
 match p with
 | some (off,_)=>lO cs off x.cells
 | none=>cs
def fx (P : Program) (t : TypeId) : List V -> List (Nat × V) -> Prop × List V
 | cs,[]=>(True,cs)
 | cs,(i,x) :: ps=>(Al x cs.length (fx P t (sB cs x (aS P t i)) ps).1 (aS P t i),(fx P t (sB cs x (aS P t i)) ps).2)
def km (P : Program) (t : TypeId) (z : Option Value) (ps : List (Nat × V)) : Ev :=
 match z with
 | some z=>(dC P t = true /\ okV (ofValue z) = true /\ (fx P t (ofValue z).cells ps).1,.agg (fx P t (ofValue z).cells ps).2)
 | none=>dk
def lP (P : Program) (st : St) : Callee -> List Operand -> List TypeId -> Ev
 | .builtin .len,[x],[t]=>nx P st.bx t (st.get x)
 | .builtin .min,[x,y],_=>Aj (st.get x) (st.get y)
 | .builtin .max,[x,y],_=>Ak (st.get x) (st.get y)
 | _,_,_=>dk
def l7 : V -> V -> Option Bool
 | .int k a,.int k' b=>if k = k' then some (a == b) else none
 | .str a,.str b=>some (a == b)
 | .bool a,.bool b=>some (a == b)
 | _,_=>none
def fg (k : V) : List (V × V) -> Nat -> Option (Option (Nat × V))
 | [],_=>some none
 | e :: es,i=>match l7 k e.1 with
   | some true=>some (some (i,e.2))
   | some false=>fg k es (i + 1)
   | none=>none
def vV (a v : V) (es : List (V × V)) : Option (List (V × V)) :=
 match fg a es 0 with
 | some (some (i,_))=>some (es.set i (a,v))
 | some none=>some (es ++ [(a,v)])
 | none=>none
def vW (a : V) (es : List (V × V)) : Option (List (V × V)) :=
 match fg a es 0 with
 | some (some (i,_))=>some (es.eraseIdx i)
 | some none=>some es
 | none=>none
def oa : uJ -> V -> Bool
 | .int k,.int k' _=>k == k'
 | .str,.str _=>true
 | .bool,.bool _=>true
 | _,_=>false
def q0 (ok b : Bool) (v : V) : V:=bif ok then .dh [v,.bool b] else v
def kS (P : Program) (bx : aa) (t : TypeId) (x ix : V) (ok : Bool) : Ev :=
 match bu P t,x.strip with
 | .map k e,.gS=>match aT P e with
   | some z=>(x.ax = true /\ ix.ax = true /\ oa (bu P k) ix.strip = true,q0 ok false (ofValue z))
   | none=>dk
 | .map k e,.mp b=>match bx b,aT P e with
   | some (.map es),some z=>match fg ix.strip es 0 with
     | some (some (_,v))=>(x.ax = true /\ ix.ax = true /\ oa (bu P k) ix.strip = true,q0 ok true v)
     | some none=>(x.ax = true /\ ix.ax = true /\ oa (bu P k) ix.strip = true,q0 ok false (ofValue z))
     | none=>dk
   | _,_=>dk
 | _,_=>dk
def uK : uJ -> Bool
 | .iface | .none=>false
 | _=>true
def ir (P : Program) (t : TypeId) (x : V) : Ev:=(x.ax = true /\ uK (bu P t) = true,.iface t x.strip)
def mR (P : Program) (x : V) (a : TypeId) (ok : Bool) : Ev :=
 match x.strip with
 | .iface t v=>if t = a then (x.ax = true /\ uK (bu P a) = true,q0 ok true v) else
   match aT P a with
   | some z=>(x.ax = true /\ uK (bu P a) = true /\ ok = true,q0 true false (ofValue z))
   | none=>dk
 | .iM=>match aT P a with
   | some z=>(x.ax = true /\ uK (bu P a) = true /\ ok = true,q0 true false (ofValue z))
   | none=>dk
 | _=>dk
def kA (x : V) : Ev :=
 match x.strip with
 | .ptr _ _ _ _=>(x.ax = true,x.strip)
 | .ep _ _=>(x.ax = true,x.strip)
 | _=>dk
def ev (P : Program) (st : St) (o : Oper) : Ev :=
 match o.op with
 | .move x=>(True,st.get x)
 | .assign x=>(True,st.get x)
 | .pick c a b=>s8 (st.get c) (st.get a) (st.get b)
 | .load t a=>dH P st.bx t (gv P st a)
 | .fieldAddr s x f=>gy P s f (st.get x)
 | .indexAddr t x ix=>gA P t (gv P st x) (st.get ix)
 | .field s x f=>nY P s f (st.get x)
 | .index t x ix=>nZ P t (st.get x) (st.get ix)
 | .extract x i=>j5 i (st.get x)
 | .binOp op t x y _=>Ai P op t (st.get x) (st.get y)
 | .unOp op _ x=>L0 op (st.get x)
 | .convert s d x=>jT P s d (st.get x)
 | .slice t x lo hi none=>kj P t (st.get x) (lo.map st.get) (hi.map st.get)
 | .slice t x lo (some hi) (some mx)=>kR P t (st.get x) (lo.map st.get) (st.get hi) (st.get mx)
 | .makeFunc f first caps =>
   match first.toList with
   | []=>B5 f (caps.toList.map st.get)
   | [x]=>vU f (st.get x) caps.size
   | _=>dk
 | .build t parts=>km P t (aT P t) (parts.toList.map fun p=>(p.1,st.get p.2))
 | .call c=>lP P st c.callee c.args.toList c.argTypes.toList
 | .lookup t x ix ok=>kS P st.bx t (st.get x) (st.get ix) ok
 | .makeInterface t x=>ir P t (st.get x)
 | .typeAssert x _ a ok=>mR P (st.get x) a ok
 | .nilCheck x=>kA (st.get x)
 | _=>dk
end Go.Pl
namespace Go.Pl
open Go
theorem aR {v : V} (h : v.ax = true) : v.strip = v:=by cases v <;> first | rfl | (simp [V.ax] at h)
section
variable {P : Program} {β : Beta} {w : World} {F : Nat -> Prop}
theorem sC (u : Value) : aP β w F (s6 u) u:=by
 unfold s6
 split <;> first | exact .int _ _ | exact .bool _ | exact .str _ | exact .aI | exact .eJ | exact .ic | exact .iM | exact .gS | exact .cX _
theorem dc (u : Value) : aP β w F (ofValue u) u:=by
 cases u
 case func f fs caps =>
  simp only [ofValue]
  split
  ·rename_i h
   obtain ⟨rfl⟩ : fs = #[]:=by simpa using h.1
   obtain ⟨rfl⟩ : caps = #[]:=by simpa using h.2
   exact .fn _ [] #[] rfl (fun i c h=>by simp at h) (fun _ _ _ h=>by cases h)
  ·exact .cX _
 case agg cs =>
  simp only [ofValue]
  split
  ·rename_i h
   refine .agg _ _ (by simp) (fun i hi=>?_) (fun i c hc=>?_)
   ·simp at hi
    have:=Array.all_eq_true.1 h i hi
    simpa [hi] using this
   ·simp at hc
    obtain ⟨x,hx,rfl⟩:=hc
    simp [hx]
    exact sC _
  ·exact .cX _
 all_goals (simp only [ofValue]; exact sC _)
theorem aP.bB {k : IntKind} {n : Int} {u : Value} (h : aP β w F (.int k n) u) : u = .int k n:=by cases h; rfl
theorem aP.fy {b : Bool} {u : Value} (h : aP β w F (.bool b) u) : u = .bool b:=by cases h; rfl
theorem aP.dW {s : List UInt8} {u : Value} (h : aP β w F (.str s) u) : ∃ x : ByteArray,u = .string x /\ x.data.toList = s:=by cases h; exact ⟨_,rfl,rfl⟩
structure sD (β : Beta) (F : Nat -> Prop) (st : St) (a : Act) (w : World) : Prop where
 rep : ∀ t,aP β w F (st.sl t) (a.tmps.getD t undef)
def oU (P : Program) (β : Beta) (w : World) (F : Nat -> Prop) : Prop:=∀ g,aP β w F (Ly P g) (.pointer (some ⟨g,0,none⟩)) /\
 ∀ vs,Ly P g = .ep (.agg vs) 0 -> ∃ b,aP β w F (.own b 1 0 vs.length) (.slice (some ⟨g,0,none⟩) vs.length vs.length) /\ ∃ ty,w.shape? g = some (ty,vs.length)
theorem oU.imp {P : Program} {β β' : Beta} {w w' : World} {F F' : Nat -> Prop} (h : oU P β w F) (hi : ∀ v u,aP β w F v u -> aP β' w' F' v u) (hs : ∀ k x,w.shape? k = some x -> w'.shape? k = some x:=by first | exact fun _ _ h=>h | assumption) : oU P β' w' F' :=
 fun g=>⟨hi _ _ (h g).1,fun vs hv=>let ⟨b,hb,ty,ht⟩:=(h g).2 vs hv; ⟨b,hi _ _ hb,ty,hs _ _ ht⟩⟩
theorem sD.get {st : St} {a : Act} (h : sD β F st a w) (x : Operand) : aP β w F (st.get x) (a.eval x):=by
 cases x with
 | tmp t=>exact h.rep t
 | const v=>exact dc v
 | global g=>exact .cX _
 | func f=>exact .fn _ [] #[] rfl (fun i c h=>by simp at h) (fun _ _ _ h=>by cases h)
theorem sD.gv {P : Program} {st : St} {a : Act} (h : sD β F st a w) (hg : oU P β w F) (x : Operand) : aP β w F (gv P st x) (a.eval x):=by
 cases x with
 | global g=>exact (hg g).1
 | tmp t=>exact h.get (.tmp t)
 | const v=>exact h.get (.const v)
 | func f=>exact h.get (.func f)
theorem Am {c a b : V} {uc ua ub : Value} (hc : (s8 c a b).1) (rc : aP β w F c uc) (ra : aP β w F a ua) (rb : aP β w F b ub) :
 ∃ t : Bool,uc = .bool t /\ aP β w F (s8 c a b).2 (if t = true then ua else ub):=by
 unfold s8 at hc ⊢
 split at hc
 ·rename_i x hx
  obtain ⟨h1,h2,h3⟩:=hc
  rw [aR h1] at hx
  subst hx
  refine ⟨x,rc.fy,?_⟩
  cases x
  ·simpa [aR (h3 rfl)] using rb
  ·simpa [aR (h2 rfl)] using ra
 ·exact hc.elim
def E5 (β : Beta) (w : World) (F : Nat -> Prop) (a : Addr) (e : V) : Prop :=
 ∃ u : Nat -> Value,∀ (j : Nat) (c : V),e.cells[j]? = some c -> w.cell? (a.add j) = some (u j) /\ (u j).oneCell' = true /\ aP β w F c (u j)
theorem sE {t : TypeId} (h : db P t = false) {d : TypeDesc} (hd : P.underlying t = some d) : (isAgg t).run P w = .ok false w:=by
 unfold db at h
 rw [hd] at h
 unfold isAgg
 simp only [Sem.run_bind,run_underlying hd,Result.andThen_ok]
 cases d <;> simp_all
theorem uL {t : TypeId} (h : db P t = true) {d : TypeDesc} (hd : P.underlying t = some d) : (isAgg t).run P w = .ok true w:=by
 unfold db at h
 rw [hd] at h
 unfold isAgg
 simp only [Sem.run_bind,run_underlying hd,Result.andThen_ok]
 cases d <;> simp_all
theorem oV {t : TypeId} (h : cw P t = true) : ∃ d i,P.underlying t = some d /\ P.info? t = some i /\ aE P t = i.size:=by
 simp only [cw,Bool.and_eq_true] at h
 obtain ⟨d,hd⟩:=Option.isSome_iff_exists.1 h.1
 obtain ⟨i,hi⟩:=Option.isSome_iff_exists.1 h.2
 exact ⟨d,i,hd,hi,by simp [aE,hi]⟩
theorem sF {t : TypeId} {e : V} {o : Nat} {c : Prop} {a : Addr} (hc : (im P t e o c).1) (he : E5 β w F a e) :
 ∃ v,(loadVar t (a.add o)).run P w = .ok v w /\ aP β w F (im P t e o c).2 v:=by
 obtain ⟨u,hu⟩:=he
 unfold im at hc ⊢
 split
 ·rename_i ha
  rw [if_pos ha] at hc
  obtain ⟨_,ga,hle⟩:=hc
  obtain ⟨d,i,hd,hi,bV⟩:=oV ga
  have iu:=uL (w:=w) ha hd
  have L1:=run_loadCells (P:=P) w (a.add o) i.size (fun j=>u (o + j)) (fun j hj=>by
   rw [Go.Deep.add_add]
   exact (hu (o + j) _ (List.getElem?_eq_getElem (by omega))).1)
  refine ⟨_,by unfold loadVar sizeOf typeInfo; simp [iu,hi,L1]; rfl,?_⟩
  refine .agg _ _ (by simp; omega) (fun j hj=>?_) (fun j c hj=>?_)
  ·simp at hj
   have:=(hu (o + j) _ (List.getElem?_eq_getElem (by omega))).2.1
   have B6 : j < i.size:=by omega
   simpa [B6] using this
  ·simp only [List.getElem?_take,List.getElem?_drop] at hj
   split at hj
   ·have:=(hu (o + j) _ hj).2.2
    have B6 : j < i.size:=by omega
    simpa [B6] using this
   ·cases hj
 ·rename_i ha
  rw [if_neg ha] at hc
  obtain ⟨_,ga,dt⟩:=hc
  obtain ⟨d,i,hd,hi,bV⟩:=oV ga
  have pQ:=hu o e.cells[o] (List.getElem?_eq_getElem dt)
  have iu:=sE (w:=w) (P:=P) (t:=t) (by simpa using ha) hd
  refine ⟨u o,by unfold loadVar; simp [iu,pQ.1],?_⟩
  simpa [List.getD,List.getElem?_eq_getElem dt] using pQ.2.2
def E6 (β : Beta) (F : Nat -> Prop) (bx : aa) (w : World) : Prop :=
 ∀ b box,bx b = some box -> (β b = some none /\ box.empty) \/ ∃ k,β b = some (some k) /\ nG β w F k box
theorem yv {k : Nat} {ty : TypeId} {sz : Nat} {es : List V} (h : Kn β w F k ty sz es) {i : Nat} (hi : i < es.length) : E5 β w F ⟨k,i * sz,none⟩ (es.getD i .cX):=by
 obtain ⟨cur,fr,hk,_,hl,hr⟩:=h
 refine ⟨fun j=>cur.getD (i * sz + j) undef,fun j c hc=>?_⟩
 obtain ⟨h1,h2⟩:=hr i _ (by simp [List.getD,List.getElem?_eq_getElem hi] : es[i]? = some (es.getD i .cX))
 obtain ⟨h3,h4⟩:=h2 j c hc
 refine ⟨?_,h3,h4⟩
 have hj : j < sz:=by have:=(List.getElem?_eq_some_iff.1 hc).1; omega
 have dt : i * sz + j < cur.size:=by
  have : (i + 1) * sz <= es.length * sz:=Nat.mul_le_mul_right _ hi
  have h5 : (i + 1) * sz = i * sz + sz:=Nat.succ_mul _ _
  omega
 have : (⟨k,i * sz,none⟩ : Addr).add j = ⟨k,i * sz + j,none⟩:=by unfold Addr.add; split <;> simp_all
 rw [this,cell_of_row w k (i * sz + j) cur ty fr hk]
 simp [dt]
theorem sG {t : TypeId} {bx : aa} {a : V} {ua : Value} (hc : (dH P bx t a).1) (hb : E6 β F bx w) (ra : aP β w F a ua) :
 ∃ v,(Instr.loadAt t ua).run P w = .ok v w /\ aP β w F (dH P bx t a).2 v:=by
 unfold dH at hc ⊢
 split at hc
 ·rename_i e o ha
  have hl : a.ax = true:=by unfold im at hc; split at hc <;> exact hc.1
  rw [aR hl] at ha
  subst ha
  cases ra with
  | ep e o ad u bA bN =>
    obtain ⟨v,h1,h2⟩:=sF (a:=ad) (w:=w) (F:=F) (β:=β) hc ⟨u,fun j c hj=>by
     obtain ⟨a',fA,_,h3,h4⟩:=bA j c hj
     injection fA with fA
     subst fA
     exact ⟨h3,h4,bN j c hj⟩⟩
    exact ⟨v,by simp [Instr.loadAt,Instr.sureAddr,h1],h2⟩
 ·rename_i b sz i o ha
  split at hc
  ·rename_i ty eT es oP
   have hl : a.ax = true /\ sz = eT /\ i < es.length:=by unfold im at hc; split at hc <;> exact hc.1
   obtain ⟨hl,rfl,hi⟩:=hl
   rw [aR hl] at ha
   subst ha
   cases ra with
   | ptr b sz i o k cZ =>
     rcases hb b _ oP with ⟨h0,he⟩ | ⟨k',jM,aq⟩
     ·rw [cZ] at h0; cases h0
     ·rw [cZ] at jM
      injection jM with jM
      injection jM with jM
      subst jM
      have QN:=yv aq hi
      obtain ⟨v,h1,h2⟩:=sF hc QN
      have Z1 : (⟨k,i * sz,none⟩ : Addr).add o = ⟨k,i * sz + o,none⟩:=by unfold Addr.add; split <;> simp_all
      rw [Z1] at h1
      exact ⟨v,by simp [Instr.loadAt,Instr.sureAddr,h1],by simpa [oP] using h2⟩
  ·exact hc.elim
 ·exact hc.elim
end
end Go.Pl
namespace Go.Pl
open Go
section
variable {P : Program} {β : Beta} {w : World} {F : Nat -> Prop}
theorem E7 {s : TypeId} {f off : Nat} {ty : TypeId} (h : cz P s f = some (off,ty)) : ∃ fs x,P.underlying s = some (.struct fs) /\ fs[f]? = some x /\ x.offset = off /\ x.type = ty:=by
 unfold cz at h
 split at h
 ·rename_i fs hs
  simp at h
  obtain ⟨x,hx,h1,h2⟩:=h
  exact ⟨fs,x,hs,hx,h1,h2⟩
 ·cases h
theorem L2 {t : TypeId} (h : aE P t ≠ 0) : ∃ i,P.info? t = some i /\ i.size = aE P t:=by
 unfold aE at h ⊢
 cases hi : P.info? t with
 | none=>simp [hi] at h
 | some i=>exact ⟨i,rfl,by simp⟩
theorem add_lit (k o j : Nat) : (⟨k,o,none⟩ : Addr).add j = ⟨k,o + j,none⟩:=by unfold Addr.add; split <;> simp_all
theorem q8 {s : TypeId} {f off : Nat} {ty : TypeId} (h : cz P s f = some (off,ty)) (hz : aE P ty ≠ 0) (a : Addr) :
 (Instr.fieldAt s (.pointer (some a)) f).run P w = .ok (.pointer (some (a.add off))) w:=by
 obtain ⟨fs,x,hs,hx,rfl,rfl⟩:=E7 h
 obtain ⟨i,hi,lM⟩:=L2 hz
 have : i.size ≠ 0:=by omega
 unfold Instr.fieldAt fieldPlace sizeOf typeInfo Instr.sureAddr
 simp [run_underlying hs,hx,hi,this]
theorem rp {s : TypeId} {f : Nat} {x : V} {u : Value} (hc : (gy P s f x).1) (r : aP β w F x u) :
 ∃ v,(Instr.fieldAt s u f).run P w = .ok v w /\ aP β w F (gy P s f x).2 v:=by
 unfold gy at hc ⊢
 split at hc
 ·rename_i off ty hf
  split at hc
  ·rename_i e o hx
   obtain ⟨hl,hz⟩:=hc
   rw [aR hl] at hx
   subst hx
   cases r with
   | ep e o a u0 bA hr =>
     refine ⟨_,q8 hf hz _,?_⟩
     rw [Go.Deep.add_add]
     simpa [hf,V.strip] using aP.ep e (o + off) a u0 bA hr
  ·rename_i b sz i o hx
   obtain ⟨hl,hz⟩:=hc
   rw [aR hl] at hx
   subst hx
   cases r with
   | ptr b sz i o k hb =>
     refine ⟨_,q8 hf hz _,?_⟩
     rw [add_lit,Nat.add_assoc]
     simpa [hf,V.strip] using aP.ptr (w:=w) (F:=F) b sz i (o + off) k hb
  ·exact hc.elim
 ·exact hc.elim
theorem bq {t e : TypeId} (h : bu P t = .slice e) : P.underlying t = some (.slice e):=by
 unfold bu at h; split at h <;> simp_all
theorem oW {t e : TypeId} {n : Nat} (h : bu P t = .arr n e) : P.underlying t = some (.array n e):=by
 unfold bu at h; split at h <;> simp_all
theorem fh {t : TypeId} (h : bu P t = .str) : P.underlying t = some .string:=by
 unfold bu at h; split at h <;> simp_all
theorem lQ {t : TypeId} (h : bu P t = .bool) : P.underlying t = some .bool:=by
 unfold bu at h; split at h <;> simp_all
theorem iF {t : TypeId} {k : IntKind} (h : bu P t = .int k) : P.underlying t = some (.int k):=by
 unfold bu at h; split at h <;> simp_all
theorem fK {t k e : TypeId} (h : bu P t = .map k e) : P.underlying t = some (.map k e):=by
 unfold bu at h; split at h <;> simp_all
theorem aF {x : V} (h : x.ax = true) {y : V} (hx : x.strip = y) : x = y:=by rw [<- hx,aR h]
theorem fL {t : TypeId} (h : cw P t = true) : ∃ i,P.info? t = some i /\ aE P t = i.size:=by
 obtain ⟨_,i,_,h1,h2⟩:=oV h
 exact ⟨i,h1,h2⟩
theorem block_add (a : Addr) (n : Nat) : (a.add n).block = a.block:=by unfold Addr.add; split <;> rfl
theorem lR {t e : TypeId} {inf : TypeInfo} (ht : P.underlying t = some (.slice e)) (hi : P.info? e = some inf) (a : Addr) (len cap n : Nat) (k : IntKind) (hn : n < len) :
 (Instr.indexAt t (.slice (some a) len cap) (.int k n)).run P w = .ok (.pointer (some (a.add (n * inf.size)))) w:=by
 unfold Instr.indexAt sizeOf typeInfo asIntOf
 simp [run_underlying ht,hi,hn]
theorem l8 {t e : TypeId} {inf : TypeInfo} {len : Nat} (ht : P.underlying t = some (.array len e)) (hi : P.info? e = some inf) (a : Addr) (n : Nat) (k : IntKind) (hn : n < len) :
 (Instr.indexAt t (.pointer (some a)) (.int k n)).run P w = .ok (.pointer (some (a.add (n * inf.size)))) w:=by
 unfold Instr.indexAt sizeOf typeInfo asIntOf Instr.sureAddr
 simp [run_underlying ht,hi,hn]
theorem An {sz : Nat} {es : List V} {A : Option Addr} {u0 : Nat -> Value}
 (bA : ∀ (i : Nat) (e : V) (j : Nat) (c : V),es[i]? = some e -> e.cells[j]? = some c -> sv w F A (i * sz + j) (u0 (i * sz + j)))
 (hr : ∀ (i : Nat) (e : V) (j : Nat) (c : V),es[i]? = some e -> e.cells[j]? = some c -> aP β w F c (u0 (i * sz + j))) {a : Addr} (hA : A = some a) {n : Nat} (hn : n < es.length) :
 aP β w F (.ep (es.getD n .cX) 0) (.pointer (some (a.add (n * sz)))):=by
 subst hA
 have ue : es[n]? = some (es.getD n .cX):=by simp [List.getD,List.getElem?_eq_getElem hn]
 have:=aP.ep (β:=β) (w:=w) (F:=F) (es.getD n .cX) 0 (a.add (n * sz)) (fun j=>u0 (n * sz + j)) (fun j c hj=>?_) (fun j c hj=>hr n _ j c ue hj)
 ·rwa [show (a.add (n * sz)).add 0 = a.add (n * sz) from rfl] at this
 ·obtain ⟨a',fA,h1,h2,h3⟩:=bA n _ j c ue hj
  injection fA with fA
  subst fA
  exact ⟨_,rfl,by rw [block_add]; exact h1,by rw [Go.Deep.add_add]; exact h2,h3⟩
theorem rz {t : TypeId} {x ix : V} {u ui : Value} (hc : (gA P t x ix).1) (r : aP β w F x u) (ri : aP β w F ix ui) :
 ∃ v,(Instr.indexAt t u ui).run P w = .ok v w /\ aP β w F (gA P t x ix).2 v:=by
 unfold gA at hc ⊢
 split at hc
 ·rename_i e sz es k i hk hx hi
  obtain ⟨hl,vX,ga,rfl,h0,dt⟩:=hc
  obtain rfl:=aF hl hx
  obtain rfl:=aF vX hi
  obtain rfl:=ri.bB
  obtain ⟨inf,vY,bV⟩:=fL ga
  obtain ⟨n,rfl⟩:=Int.eq_ofNat_of_zero_le h0
  have hn : n < es.length:=by omega
  cases r with
  | sl sz es A cap u0 kz gT hA hs bA hr =>
    obtain ⟨a,rfl⟩ : ∃ a,A = some a:=by
     cases A with
     | some a=>exact ⟨a,rfl⟩
     | none=>exact absurd rfl (hA (by intro h; simp [h] at hn))
    refine ⟨_,lR (bq hk) vY a _ cap n k hn,?_⟩
    have:=An bA hr rfl hn
    rw [bV] at this
    simpa [hk,V.strip] using this
 ·rename_i e b sz o m k i hk hx hi
  obtain ⟨hl,vX,ga,rfl,h0,dt⟩:=hc
  obtain rfl:=aF hl hx
  obtain rfl:=aF vX hi
  obtain rfl:=ri.bB
  obtain ⟨inf,vY,bV⟩:=fL ga
  obtain ⟨n,rfl⟩:=Int.eq_ofNat_of_zero_le h0
  have hn : n < m:=by omega
  cases r with
  | nv b sz hb=>omega
  | own b sz o m k' cap mm ty hb hs hm rM gT =>
    refine ⟨_,lR (bq hk) vY _ _ cap n k hn,?_⟩
    rw [add_lit,<- bV,<- Nat.add_mul]
    simpa [hk,V.strip] using aP.ptr (w:=w) (F:=F) b (aE P e) (o + n) 0 k' hb
 ·rename_i m e b sz i0 o k i hk hx hi
  obtain ⟨hl,vX,ga,h0,dt⟩:=hc
  obtain rfl:=aF hl hx
  obtain rfl:=aF vX hi
  obtain rfl:=ri.bB
  obtain ⟨inf,vY,bV⟩:=fL ga
  obtain ⟨n,rfl⟩:=Int.eq_ofNat_of_zero_le h0
  have hn : n < m:=by omega
  cases r with
  | ptr b sz i0 o k' hb =>
    refine ⟨_,l8 (oW hk) vY _ n k hn,?_⟩
    rw [add_lit,<- bV,Nat.add_assoc]
    simpa [hk,V.strip] using aP.ptr (w:=w) (F:=F) b sz i0 (o + n * aE P e) k' hb
 ·rename_i m e v o k i hk hx hi
  obtain ⟨hl,vX,ga,h0,dt⟩:=hc
  obtain rfl:=aF hl hx
  obtain rfl:=aF vX hi
  obtain rfl:=ri.bB
  obtain ⟨inf,vY,bV⟩:=fL ga
  obtain ⟨n,rfl⟩:=Int.eq_ofNat_of_zero_le h0
  have hn : n < m:=by omega
  cases r with
  | ep v o a u0 bA hr =>
    refine ⟨_,l8 (oW hk) vY _ n k hn,?_⟩
    rw [Go.Deep.add_add,<- bV]
    simpa [hk,V.strip] using aP.ep v (o + n * aE P e) a u0 bA hr
 ·exact hc.elim
theorem yw {t : TypeId} {cs : List V} {o : Nat} {c : Prop} {us : Array Value} (hc : (im P t (.agg cs) o c).1) (r : aP β w F (.agg cs) (.agg us)) :
 ∃ v,(part t us o).run P w = .ok v w /\ aP β w F (im P t (.agg cs) o c).2 v:=by
 obtain ⟨hl,h1,hr⟩ : us.size = cs.length /\ (∀ (i : Nat),i < cs.length -> (us.getD i undef).oneCell' = true) /\ (∀ (i : Nat) (c : V),cs[i]? = some c -> aP β w F c (us.getD i undef)):=by
  cases r with | agg cs us hl h1 hr=>exact ⟨hl,h1,hr⟩
 unfold im at hc ⊢
 simp only [V.cells] at hc ⊢
 split
 ·rename_i ha
  rw [if_pos ha] at hc
  obtain ⟨_,ga,hle⟩:=hc
  obtain ⟨d,i,hd,hi,bV⟩:=oV ga
  have iu:=uL (w:=w) ha hd
  refine ⟨.agg (us.extract o (o + i.size)),by unfold part sizeOf typeInfo; simp [iu,hi],?_⟩
  refine .agg _ _ (by simp; omega) (fun j hj=>?_) (fun j c hj=>?_)
  ·simp at hj
   have:=h1 (o + j) (by omega)
   simp only [Array.getD_eq_getD_getElem?] at this ⊢
   rw [Array.getElem?_extract,if_pos (by omega)]
   exact this
  ·simp only [List.getElem?_take,List.getElem?_drop] at hj
   split at hj
   ·have:=hr (o + j) c hj
    have dt:=(List.getElem?_eq_some_iff.1 hj).1
    simp only [Array.getD_eq_getD_getElem?] at this ⊢
    rw [Array.getElem?_extract,if_pos (by omega)]
    exact this
   ·cases hj
 ·rename_i ha
  rw [if_neg ha] at hc
  obtain ⟨_,ga,dt⟩:=hc
  obtain ⟨d,i,hd,hi,bV⟩:=oV ga
  have iu:=sE (w:=w) (P:=P) (t:=t) (by simpa using ha) hd
  have E8 : o < us.size:=by omega
  refine ⟨us[o],by unfold part; simp [iu,E8],?_⟩
  have:=hr o cs[o] (List.getElem?_eq_getElem dt)
  simpa [List.getD,List.getElem?_eq_getElem dt,E8] using this
theorem aP.mS {cs : List V} {u : Value} (h : aP β w F (.agg cs) u) : ∃ us,u = .agg us /\ us.size = cs.length:=by cases h with | agg cs us hl _ _=>exact ⟨us,rfl,hl⟩
theorem yx {s : TypeId} {f : Nat} {x : V} {u : Value} (hc : (nY P s f x).1) (r : aP β w F x u) :
 ∃ v,(Instr.field s u f).run P w = .ok v w /\ aP β w F (nY P s f x).2 v:=by
 unfold nY at hc ⊢
 split at hc
 ·rename_i off ty hf
  split at hc
  ·rename_i cs hx
   have hl : x.ax = true:=by unfold im at hc; split at hc <;> exact hc.1
   obtain rfl:=aF hl hx
   obtain ⟨us,rfl,_⟩:=r.mS
   obtain ⟨v,h1,h2⟩:=yw hc r
   obtain ⟨fs,x,hs,hx,rfl,rfl⟩:=E7 hf
   exact ⟨v,by unfold Instr.field asAgg; simp [run_underlying hs,hx,h1],by simpa [hf,V.strip] using h2⟩
  ·exact hc.elim
 ·exact hc.elim
theorem yy {t : TypeId} {x ix : V} {u ui : Value} (hc : (nZ P t x ix).1) (r : aP β w F x u) (ri : aP β w F ix ui) :
 ∃ v,(Instr.index t u ui).run P w = .ok v w /\ aP β w F (nZ P t x ix).2 v:=by
 unfold nZ at hc ⊢
 split at hc
 ·rename_i n e cs k i hk hx hi
  have hl : x.ax = true /\ ix.ax = true /\ 0 <= i /\ i < n:=by unfold im at hc; split at hc <;> exact hc.1
  obtain ⟨hl,vX,h0,dt⟩:=hl
  obtain rfl:=aF hl hx
  obtain rfl:=aF vX hi
  obtain rfl:=ri.bB
  obtain ⟨us,rfl,_⟩:=r.mS
  have ga : cw P e = true:=by unfold im at hc; split at hc <;> exact hc.2.1
  obtain ⟨inf,vY,bV⟩:=fL ga
  obtain ⟨v,h1,h2⟩:=yw hc r
  obtain ⟨m,rfl⟩:=Int.eq_ofNat_of_zero_le h0
  have hm : m < n:=by omega
  simp only [Int.toNat_natCast] at h1
  rw [bV] at h1
  refine ⟨v,by unfold Instr.index asIntOf sizeOf typeInfo; simp [run_underlying (oW hk),hm,vY,h1],by simpa [hk,V.strip] using h2⟩
 ·rename_i s k i hk hx hi
  obtain ⟨hl,vX,h0,dt⟩:=hc
  obtain rfl:=aF hl hx
  obtain rfl:=aF vX hi
  obtain rfl:=ri.bB
  obtain ⟨b,rfl,rfl⟩:=r.dW
  obtain ⟨m,rfl⟩:=Int.eq_ofNat_of_zero_le h0
  have hm : m < b.data.toList.length:=by omega
  have QO : m < b.size:=by simpa using hm
  refine ⟨.int .u8 (b[m]).toNat,by unfold Instr.index asIntOf; simp [run_underlying (fh hk),QO],?_⟩
  have : b.data.toList.getD m 0 = b[m]:=by
   simp [List.getD,QO]
   rfl
  simp only [Int.toNat_natCast,this]
  exact .int _ _
 ·exact hc.elim
theorem ug {i : Nat} {x : V} {u : Value} (hc : (j5 i x).1) (r : aP β w F x u) :
 ∃ v,(Instr.extract u i).run P w = .ok v w /\ aP β w F (j5 i x).2 v:=by
 unfold j5 at hc ⊢
 split at hc
 ·rename_i cs hx
  obtain ⟨hl,dt⟩:=hc
  obtain rfl:=aF hl hx
  cases r with
  | dh cs us hl hr =>
    have h1:=hr i cs[i] (List.getElem?_eq_getElem dt)
    have E8 : i < us.size:=by omega
    refine ⟨us[i],by unfold Instr.extract; simp [E8],?_⟩
    simpa [V.strip,List.getD,List.getElem?_eq_getElem dt,E8] using h1
 ·exact hc.elim
end
end Go.Pl
namespace Go.Pl
open Go
section
variable {P : Program} {β : Beta} {w : World} {F : Nat -> Prop}
theorem CX {op : BinOp} {k : IntKind} {a b : Int} (h : (CV op k a b).1) (t : TypeId) : ∃ v,(binOp op t (.int k a) (.int k b)).run P w = .ok v w /\ aP β w F (CV op k a b).2 v:=by
 cases op <;> simp only [CV,dk] at h ⊢ <;> simp only [binOp,Op.intArith,Op.intDiv,Op.intCmp,intBits_and,intBits_or,intBits_xor,intBits_andNot]
 all_goals first
  | exact h.elim
  | (refine ⟨_,by simp; rfl,?_⟩; first | exact .int _ _ | exact .bool _)
  | (refine ⟨_,by simp [h]; rfl,?_⟩; first | exact .int _ _ | exact .bool _)
  | (refine ⟨.bool (a == b),by simp,?_⟩; rw [show (a == b) = decide (a = b) from rfl]; exact .bool _)
  | (refine ⟨.bool (a != b),by simp,?_⟩; rw [show (a != b) = !decide (a = b) from rfl]; exact .bool _)
  | skip
theorem CY {op : BinOp} {x y : ByteArray} (h : (CW op x.data.toList y.data.toList).1) (t : TypeId) : ∃ v,(binOp op t (.string x) (.string y)).run P w = .ok v w /\ aP β w F (CW op x.data.toList y.data.toList).2 v:=by
 have e1 : (x.toList == y.toList) = decide (x.data.toList = y.data.toList):=by rw [ByteArray.toList_eq,ByteArray.toList_eq,Bool.eq_iff_iff]; simp
 have e2 : Op.bytesLess x.toList y.toList = Op.bytesLess x.data.toList y.data.toList:=by rw [ByteArray.toList_eq,ByteArray.toList_eq]
 cases op <;> simp only [CW,dk] at h ⊢ <;> simp only [binOp,Op.stringOp,e1,e2]
 case add =>
  have hs : ¬ (((x.size + y.size : Nat) : Int) > IntKind.i64.max):=by
   have h1 : x.size = x.data.toList.length:=by simp
   have h2 : y.size = y.data.toList.length:=by simp
   have h3 : IntKind.i64.max = 9223372036854775807:=by decide
   omega
  refine ⟨.string (x ++ y),by rw [if_neg hs]; simp,?_⟩
  have : (x ++ y).data.toList = x.data.toList ++ y.data.toList:=by simp
  rw [<- this]
  exact .str _
 all_goals first
  | exact h.elim
  | exact ⟨_,rfl,.bool _⟩
theorem vZ {d : Nat} {t : TypeId} {a b : V} {ua ub : Value} {r : Bool} (h : pT (bu P t) a b = some r) (ra : aP β w F a ua) (rb : aP β w F b ub) :
 (Op.equalIn (d + 1) t ua ub).run P w = .ok r w:=by
 unfold pT at h
 split at h
 ·rename_i k0 k x k' y hk
  split at h
  ·rename_i jm
   subst jm
   injection h with h
   subst h
   rw [ra.bB,rb.bB,run_equalIn_int w d t k k0 x y (iF hk)]
   rfl
  ·cases h
 ·rename_i x y hk
  injection h with h
  subst h
  rw [ra.fy,rb.fy,run_equalIn_bool' w d t x y (lQ hk)]
 ·rename_i x y hk
  injection h with h
  subst h
  obtain ⟨bx,rfl,rfl⟩:=ra.dW
  obtain ⟨bY,rfl,rfl⟩:=rb.dW
  rw [run_equalIn_string w d t bx bY (fh hk),ByteArray.toList_eq,ByteArray.toList_eq]
  congr 1
  rw [Bool.eq_iff_iff]
  simp
 ·cases h
theorem E9 {t : TypeId} (h : bu P t = .bool \/ (∃ k,bu P t = .int k) \/ bu P t = .str) (w : World) : (isAgg t).run P w = .ok false w:=by
 unfold isAgg
 rcases h with h | ⟨k,h⟩ | h
 ·simp [run_underlying (lQ h)]
 ·simp [run_underlying (iF h)]
 ·simp [run_underlying (fh h)]
theorem yz {k : uJ} {a b : V} {r : Bool} (h : pT k a b = some r) : k = .bool \/ (∃ q,k = .int q) \/ k = .str:=by
 unfold pT at h
 split at h
 ·exact .inr (.inl ⟨_,rfl⟩)
 ·exact .inl rfl
 ·exact .inr (.inr rfl)
 ·cases h
theorem lS {d : Nat} (xs ys : Array Value) (cs ds : List V) (rx : ∀ (i : Nat) (c : V),cs[i]? = some c -> aP β w F c (xs.getD i undef)) (ry : ∀ (i : Nat) (c : V),ds[i]? = some c -> aP β w F c (ys.getD i undef))
 (hx : xs.size = cs.length) (hy : ys.size = ds.length) : ∀ (fs : List Field) (i : Nat) (r : Bool),HU i fs = true -> gj (fs.map fun f=>bu P f.type) (cs.drop i) (ds.drop i) = some r ->
 (Op.eqFields (d + 1) xs ys fs).run P w = .ok r w
 | [],i,r,_,h=>by
   simp only [List.map_nil] at h
   generalize cs.drop i = c at h
   generalize ds.drop i = e at h
   cases c <;> cases e <;> simp [gj] at h
   subst h
   simp [Op.eqFields]
 | f :: fs,i,r,hf,h=>by
   simp only [HU,Bool.and_eq_true,beq_iff_eq,bne_iff_ne] at hf
   obtain ⟨⟨ho,hn⟩,hf⟩:=hf
   simp only [List.map_cons] at h
   rcases Nat.lt_or_ge i cs.length with hc | hc
   ·rcases Nat.lt_or_ge i ds.length with hd | hd
    ·rw [List.drop_eq_getElem_cons hc,List.drop_eq_getElem_cons hd] at h
     simp only [gj] at h
     split at h
     ·rename_i a b h1 h2
      injection h with h
      have ih:=lS (d:=d) xs ys cs ds rx ry hx hy fs (i + 1) b hf h2
      have iu:=E9 (yz h1) w
      have e1 : (part f.type xs f.offset).run P w = .ok (xs.getD i undef) w:=by
       unfold part
       simp [iu,ho,show i < xs.size by omega]
      have e2 : (part f.type ys f.offset).run P w = .ok (ys.getD i undef) w:=by
       unfold part
       simp [iu,ho,show i < ys.size by omega]
      have e3:=vZ (d:=d) h1 (rx i _ (List.getElem?_eq_getElem hc)) (ry i _ (List.getElem?_eq_getElem hd))
      simp only [Op.eqFields,Sem.run_ite,Sem.run_bind,e1,e2,e3,Result.andThen_ok,ih,ne_eq,hn,not_false_eq_true,if_true]
      cases a
      ·simp [<- h]
      ·simp [<- h]
     ·cases h
    ·rw [List.drop_eq_nil_of_le hd,List.drop_eq_getElem_cons hc] at h
     simp [gj] at h
   ·rw [List.drop_eq_nil_of_le hc] at h
    simp [gj] at h
theorem oX {t : TypeId} {cs ds : List V} {xs ys : Array Value} {r : Bool} (ho : yt P t = true) (h : gj (ki P t) cs ds = some r) (ra : aP β w F (.agg cs) (.agg xs)) (rb : aP β w F (.agg ds) (.agg ys)) (op : BinOp) (x y : Operand) :
 (eqGuard op t x y (.agg xs) (.agg ys)).run P w = .ok () w /\ (Op.equalIn 10000 t (.agg xs) (.agg ys)).run P w = .ok r w:=by
 unfold yt at ho
 unfold ki at h
 split at ho
 ·rename_i fs hu
  simp only [hu] at h
  simp only [Bool.and_eq_true,Bool.not_eq_true',beq_iff_eq] at ho
  obtain ⟨⟨⟨h1,h2⟩,_⟩,h4⟩:=ho
  have hfs : P.fieldsOf t = fs:=by simp [Program.fieldsOf,hu]
  have ha : xs.size = cs.length /\ (∀ (i : Nat) (c : V),cs[i]? = some c -> aP β w F c (xs.getD i undef)):=by cases ra with | agg _ _ hl _ hr=>exact ⟨hl,hr⟩
  have hb : ys.size = ds.length /\ (∀ (i : Nat) (c : V),ds[i]? = some c -> aP β w F c (ys.getD i undef)):=by cases rb with | agg _ _ hl _ hr=>exact ⟨hl,hr⟩
  refine ⟨run_eqGuard_agg w op t x y xs ys h1,?_⟩
  rw [run_equalIn_struct w 9999 t xs ys (by rw [hfs]; exact hu) h2,hfs]
  exact lS (d:=9998) xs ys cs ds ha.2 hb.2 ha.1 hb.1 fs.toList 0 r h4 (by simpa using h)
 ·cases ho
end
end Go.Pl
set_option linter.unusedSimpArgs false
namespace Go.Pl
open Go
section
variable {P : Program} {β : Beta} {w : World} {F : Nat -> Prop}
theorem y1 {x : V} {u : Value} (h : aP β w F x u) (hx : (∃ b sz i o,x = .ptr b sz i o) \/ (∃ e o,x = .ep e o)) : ∃ a,u = .pointer (some a):=by
 rcases hx with ⟨b,sz,i,o,rfl⟩ | ⟨e,o,rfl⟩
 ·cases h; exact ⟨_,rfl⟩
 ·cases h; exact ⟨_,rfl⟩
theorem HV {t e : TypeId} (h : bu P t = .ptr e) : P.underlying t = some (.pointer e):=by
 unfold bu at h; split at h <;> simp_all
theorem L3 {t : TypeId} (h : bu P t = .fn) : ∃ a b c,P.underlying t = some (.func a b c):=by
 unfold bu at h; split at h <;> simp_all
theorem Ao {t : TypeId} {ux uy : Value} {r : Bool} (h : (Op.equalIn (9999 + 1) t ux uy).run P w = .ok r w) (h1 : binOp .eql t ux uy = (do pure (.bool (<- Op.equal t ux uy)))) (h2 : binOp .neq t ux uy = (do pure (.bool (!(<- Op.equal t ux uy)))))
 (hg : ∀ op ox oy,(eqGuard op t ox oy ux uy).run P w = .ok () w) (op : BinOp) (ox oy : Operand) :
 (eqGuard op t ox oy ux uy).run P w = .ok () w /\ (binOp .eql t ux uy).run P w = .ok (.bool r) w /\ (binOp .neq t ux uy).run P w = .ok (.bool (!r)) w:=by
 have h3 : (Op.equal t ux uy).run P w = .ok r w:=h
 refine ⟨hg op ox oy,?_,?_⟩
 ·rw [h1,Sem.run_bind,h3]; rfl
 ·rw [h2,Sem.run_bind,h3]; rfl
theorem uM {t : TypeId} {x y : V} {ux uy : Value} {r : Bool} (h : sA (bu P t) x y = some r) (rx : aP β w F x ux) (ry : aP β w F y uy) (op : BinOp) (ox oy : Operand) :
 (eqGuard op t ox oy ux uy).run P w = .ok () w /\ (binOp .eql t ux uy).run P w = .ok (.bool r) w /\ (binOp .neq t ux uy).run P w = .ok (.bool (!r)) w:=by
 unfold sA at h
 split at h
 all_goals first
  | (cases h; done)
  | (rename_i hk
     injection h with h
     subst h
     cases rx
     cases ry
     refine Ao ?_ rfl rfl (fun op ox oy=>by cases op <;> rfl) op ox oy
     rw [Op.equalIn,Sem.run_bind,run_underlying (HV hk),Result.andThen_ok]
     rfl)
  | (rename_i hk
     injection h with h
     subst h
     cases rx
     cases ry
     refine Ao ?_ rfl rfl (fun op ox oy=>by cases op <;> rfl) op ox oy
     rw [Op.equalIn,Sem.run_bind,run_underlying (fK hk),Result.andThen_ok]
     rfl)
  | (rename_i hk
     obtain ⟨p,q,s,hk⟩:=L3 hk
     injection h with h
     subst h
     cases rx <;> cases ry <;>
     (refine Ao ?_ rfl rfl (fun op ox oy=>by cases op <;> rfl) op ox oy
      rw [Op.equalIn,Sem.run_bind,run_underlying hk,Result.andThen_ok]
      rfl))
theorem CZ {op : BinOp} {t : TypeId} {x y : V} {ux uy : Value} (hc : (Ai P op t x y).1) (rx : aP β w F x ux) (ry : aP β w F y uy) (ox oy : Operand) :
 ∃ v,(do eqGuard op t ox oy ux uy; binOp op t ux uy : Sem Value).run P w = .ok v w /\ aP β w F (Ai P op t x y).2 v:=by
 have hg : ∀ (k k' : IntKind) (a b : Int),(eqGuard op t ox oy (.int k a) (.int k' b)).run P w = .ok () w:=fun k k' a b=>by cases op <;> simp [eqGuard]
 have H8 : ∀ (a b : Bool),(eqGuard op t ox oy (.bool a) (.bool b)).run P w = .ok () w:=fun a b=>by cases op <;> simp [eqGuard]
 have QP : ∀ (a b : ByteArray),(eqGuard op t ox oy (.string a) (.string b)).run P w = .ok () w:=fun a b=>by cases op <;> simp [eqGuard]
 unfold Ai at hc ⊢
 split at hc
 ·rename_i k a k' b hx hy
  split at hc
  ·obtain ⟨h1,h2,h3⟩:=hc
   obtain rfl:=aF h1 hx
   obtain rfl:=aF h2 hy
   rw [rx.bB,ry.bB]
   refine ⟨_,by simp [hg,binOp,Op.shift,show ¬ b < 0 by omega]; rfl,?_⟩
   simp only [V.strip]
   exact .int _ _
  ·obtain ⟨h1,h2,h3⟩:=hc
   obtain rfl:=aF h1 hx
   obtain rfl:=aF h2 hy
   rw [rx.bB,ry.bB]
   refine ⟨_,by simp [hg,binOp,Op.shift,show ¬ b < 0 by omega]; rfl,?_⟩
   simp only [V.strip]
   exact .int _ _
  ·obtain ⟨h1,h2,rfl,h3⟩:=hc
   obtain rfl:=aF h1 hx
   obtain rfl:=aF h2 hy
   rw [rx.bB,ry.bB]
   obtain ⟨v,h4,h5⟩:=CX (w:=w) (P:=P) (β:=β) (F:=F) h3 t
   exact ⟨v,by simp [hg,h4],h5⟩
 ·rename_i a b hx hy
  obtain ⟨h1,h2,h3⟩:=hc
  obtain rfl:=aF h1 hx
  obtain rfl:=aF h2 hy
  obtain ⟨xb,rfl,rfl⟩:=rx.dW
  obtain ⟨yb,rfl,rfl⟩:=ry.dW
  obtain ⟨v,h4,h5⟩:=CY (w:=w) (P:=P) (β:=β) (F:=F) h3 t
  exact ⟨v,by simp [QP,h4],by simpa [V.strip] using h5⟩
 ·rename_i a b hx hy
  split at hc
  ·obtain ⟨h1,h2,h3⟩:=hc
   obtain rfl:=aF h1 hx
   obtain rfl:=aF h2 hy
   rw [rx.fy,ry.fy]
   refine ⟨.bool (a == b),?_,by simp only [V.strip]; exact .bool _⟩
   simp [H8,binOp,Op.equal,Op.maxDepth,run_equalIn_bool' w 9999 t a b (lQ h3)]
  ·obtain ⟨h1,h2,h3⟩:=hc
   obtain rfl:=aF h1 hx
   obtain rfl:=aF h2 hy
   rw [rx.fy,ry.fy]
   refine ⟨.bool (!(a == b)),?_,by simp only [V.strip]; exact .bool _⟩
   simp [H8,binOp,Op.equal,Op.maxDepth,run_equalIn_bool' w 9999 t a b (lQ h3)]
  ·exact hc.elim
 ·rename_i cs ds hx hy
  split at hc
  ·obtain ⟨h1,h2,h3,h4⟩:=hc
   obtain rfl:=aF h1 hx
   obtain rfl:=aF h2 hy
   obtain ⟨r,h4⟩:=Option.isSome_iff_exists.1 h4
   obtain ⟨us,rfl,_⟩:=rx.mS
   obtain ⟨vs,rfl,_⟩:=ry.mS
   obtain ⟨h5,h6⟩:=oX h3 h4 rx ry .eql ox oy
   refine ⟨.bool r,?_,by simp only [V.strip,h4]; exact .bool _⟩
   simp [h5,run_eql_struct,h6]
  ·obtain ⟨h1,h2,h3,h4⟩:=hc
   obtain rfl:=aF h1 hx
   obtain rfl:=aF h2 hy
   obtain ⟨r,h4⟩:=Option.isSome_iff_exists.1 h4
   obtain ⟨us,rfl,_⟩:=rx.mS
   obtain ⟨vs,rfl,_⟩:=ry.mS
   obtain ⟨h5,h6⟩:=oX h3 h4 rx ry .neq ox oy
   refine ⟨.bool (!r),?_,by simp only [V.strip,h4]; exact .bool _⟩
   simp [h5,run_neq_struct,h6]
  ·exact hc.elim
 ·split at hc
  ·obtain ⟨h1,h2,h3⟩:=hc
   obtain ⟨r,h3⟩:=Option.isSome_iff_exists.1 h3
   rw [aR h1,aR h2] at h3
   obtain ⟨h5,h6,_⟩:=uM h3 rx ry .eql ox oy
   refine ⟨.bool r,by simp [h5,h6],?_⟩
   rw [aR h1,aR h2,h3]
   exact .bool _
  ·obtain ⟨h1,h2,h3⟩:=hc
   obtain ⟨r,h3⟩:=Option.isSome_iff_exists.1 h3
   rw [aR h1,aR h2] at h3
   obtain ⟨h5,_,h6⟩:=uM h3 rx ry .neq ox oy
   refine ⟨.bool (!r),by simp [h5,h6],?_⟩
   rw [aR h1,aR h2,h3]
   exact .bool _
  ·exact hc.elim
theorem EA {op : UnOp} {x : V} {u : Value} (hc : (L0 op x).1) (r : aP β w F x u) : ∃ v,(Op.unary op u).run P w = .ok v w /\ aP β w F (L0 op x).2 v:=by
 unfold L0 at hc ⊢
 split at hc
 ·rename_i b hx
  obtain rfl:=aF hc hx
  rw [r.fy]
  exact ⟨_,rfl,by simp only [V.strip]; exact .bool _⟩
 ·rename_i k n hx
  obtain rfl:=aF hc hx
  rw [r.bB]
  exact ⟨_,rfl,by simp only [V.strip]; exact .int _ _⟩
 ·exact hc.elim
theorem run_convert_int {s d : TypeId} {k0 k k1 : IntKind} (n : Int) (h1 : P.underlying s = some (.int k0)) (h2 : P.underlying d = some (.int k)) : (convert s d (.int k1 n)).run P w = .ok (.int k (k.wrap n)) w:=by
 unfold convert
 rw [Sem.run_bind,run_underlying h1,Result.andThen_ok,Sem.run_bind,run_underlying h2,Result.andThen_ok]
 rfl
theorem r5 {s d : TypeId} (b : ByteArray) (h1 : P.underlying s = some .string) (h2 : P.underlying d = some .string) : (convert s d (.string b)).run P w = .ok (.string b) w:=by
 unfold convert
 rw [Sem.run_bind,run_underlying h1,Result.andThen_ok,Sem.run_bind,run_underlying h2,Result.andThen_ok]
 rfl
theorem foldl_push : ∀ (l : List UInt8) (s : ByteArray),(l.foldl (fun r n=>r.push n) s).data.toList = s.data.toList ++ l
 | [],s=>by simp
 | b :: l,s=>by
   rw [List.foldl_cons,foldl_push l]
   simp [ByteArray.push]
theorem od {s d : TypeId} {x : V} {u : Value} (hg : ∀ e,¬ (bu P s = .str /\ bu P d = .slice e)) (hc : (jT P s d x).1) (r : aP β w F x u) : ∃ v,(convert s d u).run P w = .ok v w /\ aP β w F (jT P s d x).2 v:=by
 unfold jT at hc ⊢
 split at hc
 ·rename_i k0 k k1 n h1 h2 hx
  obtain rfl:=aF hc hx
  rw [r.bB]
  refine ⟨_,run_convert_int n (iF h1) (iF h2),?_⟩
  simp only [h1,h2,V.strip]
  exact .int _ _
 ·rename_i s h1 h2 hx
  obtain rfl:=aF hc hx
  obtain ⟨b,rfl,rfl⟩:=r.dW
  refine ⟨_,r5 b (fh h1) (fh h2),?_⟩
  simp only [h1,h2,V.strip]
  exact .str _
 ·rename_i e s h1 h2 hx
  exact absurd ⟨h1,h2⟩ (hg e)
 ·rename_i e sz es h1 h2 hx
  obtain ⟨hl,he,rfl,hu⟩:=hc
  obtain rfl:=aF hl hx
  have Ko : ∀ (i : Nat) (c : V),es[i]? = some c -> ∃ n,c = .int .u8 n:=by
   intro i c hi
   have:=List.all_eq_true.1 hu c (List.mem_of_getElem? hi)
   unfold yu at this
   split at this
   ·exact ⟨_,rfl⟩
   ·cases this
  simp only [h1,h2,V.strip]
  cases r with
  | sl _ _ A cap uu kz gT hA bV bA bN =>
    rw [run_convert_bytes_string w s d e A es.length cap (bq h1) (iF he) (fh h2)]
    cases A with
    | none =>
      have : es = []:=by
       by_cases h0 : es = []
       ·exact h0
       ·exact absurd rfl (hA h0)
      subst this
      exact ⟨_,rfl,.str ByteArray.empty⟩
    | some a =>
      have L1:=run_loadCells (P:=P) w a es.length (fun j=>.int .u8 (intOf (es.getD j .cX))) (fun j hj=>by
       have B6:=List.getElem?_eq_getElem hj
       obtain ⟨n,hn⟩:=Ko j _ B6
       obtain ⟨a',fA,_,h3,_⟩:=bA j _ 0 es[j] B6 (by rw [hn]; rfl)
       have h4:=bN j _ 0 es[j] B6 (by rw [hn]; rfl)
       injection fA with fA
       subst fA
       simp only [Nat.mul_one,Nat.add_zero] at h3 h4
       rw [h3]
       have e1 : es.getD j .cX = .int .u8 n:=by simp [List.getD,B6,hn]
       rw [hn] at h4
       rw [e1,h4.bB]
       rfl)
      have e2 : (List.range es.length).map (fun j=>Value.int .u8 (intOf (es.getD j .cX))) = (es.map intOf).map (Value.int .u8):=by
       apply List.ext_getElem
       ·simp
       ·intro k h3 h4
        simp at h3
        simp [List.getD,List.getElem?_eq_getElem h3]
      rw [e2] at L1
      refine ⟨_,run_bytesToString w a es.length cap _ L1,?_⟩
      have e3 : es.map toByte = (((es.map intOf).foldl (fun (r : ByteArray) (n : Int)=>r.push (UInt8.ofNat n.toNat)) ByteArray.empty)).data.toList:=by
       have:=foldl_push ((es.map intOf).map fun n : Int=>UInt8.ofNat n.toNat) ByteArray.empty
       rw [List.foldl_map] at this
       rw [this]
       simp only [List.map_map]
       rw [show (ByteArray.empty).data.toList = [] from rfl,List.nil_append]
       apply List.map_congr_left
       intro c hc
       obtain ⟨k,hk⟩:=List.getElem?_of_mem hc
       obtain ⟨n,rfl⟩:=Ko k c hk
       rfl
      rw [e3]
      exact .str _
 ·rename_i e h1 h2 hx
  obtain ⟨hl,he⟩:=hc
  obtain rfl:=aF hl hx
  cases r
  simp only [h1,h2,V.strip]
  rw [run_convert_bytes_string w s d e none 0 0 (bq h1) (iF he) (fh h2)]
  exact ⟨_,rfl,.str ByteArray.empty⟩
 ·exact hc.elim
theorem Da {bx : aa} {t : TypeId} {x : V} {u : Value} {ty : TypeId} (hc : (nx P bx t x).1) (hb : E6 β F bx w) (r : aP β w F x u) :
 ∃ v,(Builtin.len_ #[t] ty #[u]).run P w = .ok v w /\ aP β w F (nx P bx t x).2 v:=by
 unfold nx at hc ⊢
 split at hc
 ·rename_i e sz es hk hx
  obtain rfl:=aF hc hx
  cases r
  refine ⟨_,by unfold Builtin.len_; simp [run_underlying (bq hk)]; rfl,?_⟩
  simp only [hk,V.strip,goInt]; exact .int _ _
 ·rename_i e b sz o n hk hx
  obtain rfl:=aF hc hx
  cases r
  ·refine ⟨_,by unfold Builtin.len_; simp [run_underlying (bq hk)]; rfl,?_⟩
   simp only [hk,V.strip,goInt]; exact .int _ _
  ·refine ⟨_,by unfold Builtin.len_; simp [run_underlying (bq hk)]; rfl,?_⟩
   simp only [hk,V.strip,goInt]; exact .int _ _
 ·rename_i e hk hx
  obtain rfl:=aF hc hx
  cases r
  refine ⟨_,by unfold Builtin.len_; simp [run_underlying (bq hk)]; rfl,?_⟩
  simp only [hk,V.strip,goInt]; exact .int _ _
 ·rename_i s hk hx
  obtain rfl:=aF hc hx
  obtain ⟨b,rfl,rfl⟩:=r.dW
  refine ⟨_,by unfold Builtin.len_; simp [run_underlying (fh hk)]; rfl,?_⟩
  have : (b.size : Int) = (b.data.toList.length : Int):=by simp
  simp only [hk,V.strip,goInt,this]; exact .int _ _
 ·rename_i n e hk
  refine ⟨goInt n,by unfold Builtin.len_; simp [run_underlying (oW hk)],?_⟩
  simp only [hk,goInt]; exact .int _ _
 ·rename_i a e hk hx
  obtain rfl:=aF hc hx
  cases r
  refine ⟨_,by unfold Builtin.len_; simp [run_underlying (fK hk)]; rfl,?_⟩
  simp only [hk,V.strip,goInt]; exact .int _ _
 ·rename_i a e b hk hx
  split at hc
  ·rename_i es oP
   obtain rfl:=aF hc hx
   cases r with
   | mp b k cZ =>
     rcases hb b _ oP with ⟨_,h0⟩ | ⟨k',jM,hm⟩
     ·exact h0.elim
     ·rw [cZ] at jM
      injection jM with jM
      injection jM with jM
      subst jM
      obtain ⟨ms,clock,h1,h2,_⟩:=hm
      refine ⟨_,by unfold Builtin.len_ getObj; simp [run_underlying (fK hk),Sem.run,h1]; rfl,?_⟩
      simp only [hk,V.strip,goInt,oP,h2]; exact .int _ _
  ·exact hc.elim
 ·exact hc.elim
theorem Db {x y : V} {ux uy : Value} {ts : Array TypeId} {ty : TypeId} (hc : (Aj x y).1) (rx : aP β w F x ux) (ry : aP β w F y uy) :
 ∃ v,(Builtin.min_ ts ty #[ux,uy]).run P w = .ok v w /\ aP β w F (Aj x y).2 v:=by
 unfold Aj at hc ⊢
 split at hc
 ·rename_i k a k' b hx hy
  obtain rfl:=aF hc.1 hx
  obtain rfl:=aF hc.2 hy
  rw [rx.bB,ry.bB]
  refine ⟨_,by simp [Builtin.min_,Builtin.min2]; rfl,?_⟩
  simp only [V.strip]; exact .int _ _
 ·exact hc.elim
theorem Dc {x y : V} {ux uy : Value} {ts : Array TypeId} {ty : TypeId} (hc : (Ak x y).1) (rx : aP β w F x ux) (ry : aP β w F y uy) :
 ∃ v,(Builtin.max_ ts ty #[ux,uy]).run P w = .ok v w /\ aP β w F (Ak x y).2 v:=by
 unfold Ak at hc ⊢
 split at hc
 ·rename_i k a k' b hx hy
  obtain rfl:=aF hc.1 hx
  obtain rfl:=aF hc.2 hy
  rw [rx.bB,ry.bB]
  refine ⟨_,by simp [Builtin.max_,Builtin.max2]; rfl,?_⟩
  simp only [V.strip]; exact .int _ _
 ·exact hc.elim
end
end Go.Pl
set_option linter.unusedVariables false
namespace Go.Pl
open Go
section
variable {P : Program} {β : Beta} {w : World}
theorem gU {F : Nat -> Prop} {v : V} {u : Value} (ho : okV v = true) (h : aP β w F v u) :
 u.cells.size = v.cells.length /\ ∀ (j : Nat) (c : V),v.cells[j]? = some c -> (u.cells.getD j undef).oneCell' = true /\ aP β w F c (u.cells.getD j undef):=by
 have one : ∀ (hv : v.cells = [v]) (hu : u.cells = #[u]) (h1 : u.oneCell' = true),u.cells.size = v.cells.length /\ ∀ (j : Nat) (c : V),v.cells[j]? = some c -> (u.cells.getD j undef).oneCell' = true /\ aP β w F c (u.cells.getD j undef):=by
  intro hv hu h1
  rw [hv,hu]
  refine ⟨rfl,fun j c hc=>?_⟩
  match j,hc with
  | 0,hc=>simp at hc; subst hc; exact ⟨h1,h⟩
  | j + 1,hc=>simp at hc
 cases h with
 | agg cs us hl h1 hr =>
   refine ⟨hl,fun j c hc=>⟨h1 j ?_,hr j c hc⟩⟩
   exact (List.getElem?_eq_some_iff.1 hc).1
 | cX=>simp [okV] at ho
 | dh=>simp [okV] at ho
 | dead=>simp [okV] at ho
 | _=>exact one rfl rfl rfl
theorem foldl_set (off : Nat) : ∀ (vs : List Value) (s : Nat) (cs : Array Value),off + s + vs.length <= cs.size ->
 (((vs.zipIdx s).foldl (fun (cs : Array Value) (x : Value × Nat)=>cs.setIfInBounds (off + x.2) x.1) cs).size = cs.size /\
  ∀ m,((vs.zipIdx s).foldl (fun (cs : Array Value) (x : Value × Nat)=>cs.setIfInBounds (off + x.2) x.1) cs).getD m undef = if off + s <= m /\ m < off + s + vs.length then vs.getD (m - (off + s)) undef else cs.getD m undef)
 | [],s,cs,_=>by
   refine ⟨by simp,fun m=>?_⟩
   rw [if_neg (by simp)]
   simp
 | v :: vs,s,cs,h=>by
   simp only [List.length_cons] at h
   simp only [List.zipIdx_cons,List.foldl_cons]
   have ih:=foldl_set off vs (s + 1) (cs.setIfInBounds (off + s) v) (by simp; omega)
   refine ⟨by rw [ih.1]; simp,fun m=>?_⟩
   rw [ih.2 m]
   by_cases h1 : off + (s + 1) <= m /\ m < off + (s + 1) + vs.length
   ·rw [if_pos h1,if_pos (by simp; omega)]
    have : m - (off + s) = (m - (off + (s + 1))) + 1:=by omega
    rw [this]
    simp
   ·rw [if_neg h1]
    by_cases h2 : m = off + s
    ·subst h2
     rw [if_pos (by simp)]
     have : off + s < cs.size:=by omega
     simp [this]
    ·rw [if_neg (by simp only [List.length_cons]; omega)]
     simp [Array.getElem?_setIfInBounds_ne (Ne.symm h2)]
def kB (β : Beta) (w : World) (F : Nat -> Prop) (cs : List V) (us : Array Value) : Prop :=
 us.size = cs.length /\ ∀ (j : Nat) (c : V),cs[j]? = some c -> (us.getD j undef).oneCell' = true /\ aP β w F c (us.getD j undef)
theorem sH (cs vs : List V) (off j : Nat) (h : off + vs.length <= cs.length) : (lO cs off vs).length = cs.length /\ (lO cs off vs)[j]? = if off <= j /\ j < off + vs.length then vs[j - off]? else cs[j]?:=by
 unfold lO
 refine ⟨by simp; omega,?_⟩
 rw [List.append_assoc]
 by_cases h1 : j < off
 ·rw [if_neg (by omega),List.getElem?_append_left (by simp; omega),List.getElem?_take]
  rw [if_pos h1]
 ·rw [List.getElem?_append_right (by simp; omega)]
  have hl : (cs.take off).length = off:=by simp; omega
  rw [hl]
  by_cases h2 : j < off + vs.length
  ·rw [if_pos (by omega),List.getElem?_append_left (by omega)]
  ·rw [if_neg (by omega),List.getElem?_append_right (by omega),List.getElem?_drop]
   congr 1
   omega
theorem wa {F : Nat -> Prop} {cs : List V} {us : Array Value} (h : kB β w F cs us) {x : V} {u : Value} {off sz : Nat} (ho : okV x = true) (hl : x.cells.length = sz) (fp : off + sz <= cs.length) (hr : aP β w F x u) :
 kB β w F (lO cs off x.cells) (u.cells.zipIdx.foldl (fun cs (c,j)=>cs.setIfInBounds (off + j) c) us):=by
 have hu:=gU ho hr
 obtain ⟨h1,h2⟩:=foldl_set off u.cells.toList 0 us (by simp; rw [hu.1,h.1]; omega)
 have hz : (u.cells.zipIdx.foldl (fun cs (c,j)=>cs.setIfInBounds (off + j) c) us) = (u.cells.toList.zipIdx 0).foldl (fun (cs : Array Value) (x : Value × Nat)=>cs.setIfInBounds (off + x.2) x.1) us:=by
  rw [<- Array.foldl_toList]
  simp
 rw [hz]
 subst hl
 refine ⟨by rw [h1,h.1,(sH cs x.cells off 0 fp).1],fun j c hc=>?_⟩
 rw [(sH cs x.cells off j fp).2] at hc
 rw [h2 j]
 simp only [Nat.add_zero,Array.length_toList,hu.1]
 split at hc
 ·rename_i hj
  rw [if_pos hj]
  simpa using hu.2 _ c hc
 ·rename_i hj
  rw [if_neg hj]
  exact h.2 j c hc
theorem om {F : Nat -> Prop} {st : St} {a : Act} (hg : ∀ x,aP β w F (st.get x) (a.eval x)) {t : TypeId} {place : Nat -> Option (Nat × Nat)} (r7 : ∀ i p,aS P t i = some p -> place i = some p) : ∀ (ps : List (Nat × Operand)) (cs : List V) (us : Array Value),kB β w F cs us ->
 (fx P t cs (ps.map fun p=>(p.1,st.get p.2))).1 ->
 ∃ B7,Instr.fill place us (ps.map fun (i,x)=>(i,a.eval x)) = some B7 /\ kB β w F (fx P t cs (ps.map fun p=>(p.1,st.get p.2))).2 B7
 | [],cs,us,h,_=>⟨us,rfl,h⟩
 | (i,x) :: ps,cs,us,h,hc=>by
   simp only [List.map_cons,fx,Al,sB] at hc ⊢
   cases hp : aS P t i with
   | none=>simp [hp] at hc
   | some p =>
     obtain ⟨off,sz⟩:=p
     simp only [hp] at hc ⊢
     obtain ⟨h1,h2,h3,h4⟩:=hc
     have hu:=gU h1 (hg x)
     obtain ⟨B7,h5,h6⟩:=om hg r7 ps _ _ (wa h h1 h2 h3 (hg x)) h4
     refine ⟨B7,?_,h6⟩
     simp only [Instr.fill,r7 i _ hp]
     rw [if_neg (by simp; rw [hu.1,h2,h.1]; omega)]
     exact h5
theorem q9 : ∀ (fs : List Field),fs.all (fun f : Field=>(P.info? f.type).isSome) = true -> ∃ places : List (Nat × Nat),fs.mapM (fun f : Field=>(P.info? f.type).map fun i=>(f.offset,i.size)) = some places /\ ∀ i : Nat,places[i]? = (fs[i]?).bind fun f : Field=>(P.info? f.type).map fun ie=>(f.offset,ie.size)
 | [],_=>⟨[],by simp,by simp⟩
 | f :: fs,h=>by
   simp only [List.all_cons,Bool.and_eq_true] at h
   obtain ⟨ie,hi⟩:=Option.isSome_iff_exists.1 h.1
   obtain ⟨places,h1,h2⟩:=q9 fs h.2
   refine ⟨(f.offset,ie.size) :: places,by simp [List.mapM_cons,hi,h1],fun i=>?_⟩
   cases i with
   | zero=>simp [hi]
   | succ i=>simpa using h2 i
theorem y2 {F : Nat -> Prop} {st : St} {a : Act} (hg : ∀ x,aP β w F (st.get x) (a.eval x)) {t : TypeId} {parts : Array (Nat × Operand)} (hc : (km P t (aT P t) (parts.toList.map fun p=>(p.1,st.get p.2))).1) :
 ∃ v,(Instr.build t (parts.map fun (i,x)=>(i,a.eval x))).run P w = .ok v w /\ aP β w F (km P t (aT P t) (parts.toList.map fun p=>(p.1,st.get p.2))).2 v:=by
 cases hz : aT P t with
 | none=>simp [km,hz,dk] at hc
 | some z =>
   simp only [hz,km] at hc ⊢
   obtain ⟨hb,ho,hc⟩:=hc
   have hzi : ∃ it,P.info? t = some it /\ it.zero = some z:=by
    unfold aT at hz
    cases hi : P.info? t with
    | none=>simp [hi] at hz
    | some i=>exact ⟨i,rfl,by simpa [hi] using hz⟩
   obtain ⟨it,hit,hz⟩:=hzi
   have h0:=gU (β:=β) (w:=w) (F:=F) ho (dc z)
   have bA : kB β w F (ofValue z).cells z.cells:=h0
   have key : ∀ B7,P.built t ((parts.map fun (i,x)=>(i,a.eval x)).toList) = some B7 -> kB β w F (fx P t (ofValue z).cells (parts.toList.map fun p=>(p.1,st.get p.2))).2 B7 ->
    ∃ v,(Instr.build t (parts.map fun (i,x)=>(i,a.eval x))).run P w = .ok v w /\ aP β w F (.agg (fx P t (ofValue z).cells (parts.toList.map fun p=>(p.1,st.get p.2))).2) v:=by
    intro B7 h1 h2
    refine ⟨.agg B7,run_build w t _ B7 h1,?_⟩
    refine .agg _ _ h2.1 (fun i hi=>?_) (fun i c hi=>(h2.2 i c hi).2)
    exact (h2.2 i _ (List.getElem?_eq_getElem hi)).1
   unfold dC at hb
   split at hb
   ·rename_i fs hu
    obtain ⟨places,h1,h2⟩:=q9 fs.toList hb
    obtain ⟨B7,h3,h4⟩:=om hg (place:=(places.toArray[·]?)) (fun i p hp=>by
     simp only [aS,hu] at hp
     simp only [List.getElem?_toArray]
     rw [h2 i]
     simpa using hp) parts.toList _ _ bA hc
    refine key B7 ?_ h4
    simp only [Program.built,hit,hu,hz,h1,Array.toList_map]
    exact h3
   ·rename_i n e hu
    obtain ⟨ie,hie⟩:=Option.isSome_iff_exists.1 hb
    obtain ⟨B7,h3,h4⟩:=om hg (place:=fun i=>some (i * ie.size,ie.size)) (fun i p hp=>by
     simp only [aS,hu,hie,Option.map_some] at hp
     exact hp) parts.toList _ _ bA hc
    refine key B7 ?_ h4
    simp only [Program.built,hit,hu,hz,hie,Array.toList_map]
    exact h3
   ·cases hb
end
end Go.Pl
namespace Go.Pl
open Go
section
variable {P : Program} {β : Beta} {w : World} {F : Nat -> Prop}
theorem oY {t : TypeId} (h : uK (bu P t) = true) : ∃ d,P.underlying t = some d /\ ∀ m,d ≠ .interface m:=by
 unfold bu at h
 split at h
 all_goals first | (exact absurd h (by decide)) | (rename_i h1; exact ⟨_,h1,by intro m hm; cases hm⟩)
theorem mT {ok b : Bool} {v : V} {u : Value} (r : aP β w F v u) : aP β w F (q0 ok b v) (if ok = true then .tuple #[u,.bool b] else u):=by
 cases ok
 ·exact r
 ·refine .dh _ _ rfl fun i c hi=>?_
  rcases i with _ | _ | i
  ·cases hi; exact r
  ·cases hi; exact .bool b
  ·simp at hi
theorem r8 {t : TypeId} {x : V} {u : Value} (hc : (ir P t x).1) (r : aP β w F x u) :
 ∃ v,(Instr.makeInterface t u).run P w = .ok v w /\ aP β w F (ir P t x).2 v:=by
 obtain ⟨hl,hk⟩:=hc
 obtain ⟨d,h1,h2⟩:=oY hk
 refine ⟨.iface t u,?_,?_⟩
 ·unfold Instr.makeInterface
  cases d <;> simp [run_underlying h1] <;> exact absurd rfl (h2 _)
 ·unfold ir
  rw [aR hl]
  exact .iface t x u r
theorem iN {t : TypeId} {z : Value} (h : aT P t = some z) : (zeroValue t).run P w = .ok z w:=by
 unfold aT at h
 unfold zeroValue typeInfo
 cases hi : P.info? t with
 | none=>rw [hi] at h; cases h
 | some i =>
   rw [hi] at h
   simp at h
   simp [hi,h]
theorem wc {x : V} {xT a : TypeId} {ok : Bool} {u : Value} (hc : (mR P x a ok).1) (r : aP β w F x u) :
 ∃ v,(Instr.typeAssert u xT a ok).run P w = .ok v w /\ aP β w F (mR P x a ok).2 v:=by
 unfold mR at hc ⊢
 split at hc
 ·rename_i t v hx
  split at hc
  ·rename_i hta
   obtain ⟨hl,hk⟩:=hc
   obtain rfl:=aF hl hx
   obtain ⟨d,h1,h2⟩:=oY hk
   cases r with
   | iface t v u r =>
     subst hta
     simp only [V.strip,if_true]
     refine ⟨if ok = true then .tuple #[u,.bool true] else u,?_,mT r⟩
     unfold Instr.typeAssert
     cases d <;> first | (exact absurd rfl (h2 _)) | (cases ok <;> simp [run_underlying h1])
  ·rename_i hta
   split at hc
   ·rename_i z hz
    obtain ⟨hl,hk,rfl⟩:=hc
    obtain rfl:=aF hl hx
    obtain ⟨d,h1,h2⟩:=oY hk
    cases r with
    | iface t v u r =>
      simp only [V.strip,if_neg hta,hz]
      refine ⟨.tuple #[z,.bool false],?_,mT (ok:=true) (dc z)⟩
      unfold Instr.typeAssert
      cases d <;> first | (exact absurd rfl (h2 _)) | simp [run_underlying h1,hta,iN hz]
   ·exact hc.elim
 ·rename_i hx
  split at hc
  ·rename_i z hz
   obtain ⟨hl,hk,rfl⟩:=hc
   obtain rfl:=aF hl hx
   obtain ⟨d,h1,h2⟩:=oY hk
   cases r with
   | iM =>
     simp only [V.strip,hz]
     refine ⟨.tuple #[z,.bool false],?_,mT (ok:=true) (dc z)⟩
     unfold Instr.typeAssert
     cases d <;> first | (exact absurd rfl (h2 _)) | simp [run_underlying h1,iN hz]
  ·exact hc.elim
 ·exact hc.elim
theorem jU {t : TypeId} {x : V} (h : oa (bu P t) x = true) : ∃ d,P.underlying t = some d /\ ((d = .bool /\ ∃ b,x = .bool b) \/ (d = .string /\ ∃ b,x = .str b) \/ ∃ k i,d = .int k /\ x = .int k i):=by
 unfold oa at h
 split at h
 ·rename_i k k' i hk
  have : k = k':=by simpa using h
  subst this
  exact ⟨_,iF hk,.inr (.inr ⟨k,i,rfl,rfl⟩)⟩
 ·rename_i b hk
  exact ⟨_,fh hk,.inr (.inl ⟨rfl,b,rfl⟩)⟩
 ·rename_i b hk
  exact ⟨_,lQ hk,.inl ⟨rfl,b,rfl⟩⟩
 ·cases h
theorem run_checkKey {t : TypeId} {x : V} (h : oa (bu P t) x = true) (e : Bool) (n : Nat) (u : Value) : (Instr.checkKey e (n + 1) t u).run P w = .ok () w:=by
 obtain ⟨d,h1,h2⟩:=jU h
 unfold Instr.checkKey
 rcases h2 with ⟨rfl,_⟩ | ⟨rfl,_⟩ | ⟨k,i,rfl,_⟩ <;> simp [run_underlying h1]
theorem Dd {t : TypeId} {d : TypeDesc} {a b : V} {ua ub : Value} {c : Bool} (hk : oa (bu P t) a = true) (hd : P.underlying t = some d) (h : l7 a b = some c) (ra : aP β w F a ua) (rb : aP β w F b ub) : Instr.sameNow d ua ub = some c:=by
 obtain ⟨d',h1,h2⟩:=jU hk
 rw [hd] at h1
 obtain rfl:=Option.some.inj h1
 unfold l7 at h
 split at h
 ·rw [ra.bB,rb.bB]
  rcases h2 with ⟨rfl,_,h2⟩ | ⟨rfl,_,h2⟩ | ⟨k,i,rfl,h2⟩
  ·cases h2
  ·cases h2
  ·exact h
 ·obtain ⟨x,rfl,rfl⟩:=ra.dW
  obtain ⟨y,rfl,rfl⟩:=rb.dW
  rcases h2 with ⟨rfl,_,h2⟩ | ⟨rfl,_,h2⟩ | ⟨k,i,rfl,h2⟩
  ·cases h2
  ·simp only [Instr.sameNow]
   rw [<- h]
   congr 1
   rw [Bool.eq_iff_iff,Go.MapKept.bytes_beq]
   rw [beq_iff_eq]
   constructor
   ·rintro rfl; rfl
   ·intro e
    obtain ⟨⟨x⟩⟩:=x
    obtain ⟨⟨y⟩⟩:=y
    simp at e
    rw [e]
  ·cases h2
 ·rcases h2 with ⟨rfl,_,h2⟩ | ⟨rfl,_,h2⟩ | ⟨k,i,rfl,h2⟩
  ·cases ra; cases rb
   exact h
  ·cases h2
  ·cases h2
 ·cases h
theorem kC {t : TypeId} {d : TypeDesc} {a : V} {ua : Value} (hk : oa (bu P t) a = true) (hd : P.underlying t = some d) (ra : aP β w F a ua) :
 ∀ (es : List (V × V)) (ms : List MapEntry) (i : Nat) (r : Option (Nat × V)),es.length = ms.length -> (∀ (j : Nat) (x : V × V) (m : MapEntry),es[j]? = some x -> ms[j]? = some m -> aP β w F x.1 m.key /\ aP β w F x.2 m.val) -> fg a es i = some r ->
  (r = none /\ Instr.findNow d ua ms i = some none) \/ ∃ j v u,r = some (j,v) /\ Instr.findNow d ua ms i = some (some (j,u)) /\ aP β w F v u /\ i <= j /\ (es[j - i]?).map (·.2) = some v
 | [],[],i,r,_,_,h=>by
   simp only [fg,Option.some.injEq] at h
   exact .inl ⟨h.symm,rfl⟩
 | e :: es,m :: ms,i,r,hl,hr,h=>by
   obtain ⟨r1,r2⟩:=hr 0 e m rfl rfl
   rw [fg] at h
   cases hs : l7 a e.1 with
   | none=>rw [hs] at h; cases h
   | some c =>
     rw [hs] at h
     have hn:=Dd hk hd hs ra r1
     cases c with
     | true =>
       simp only [Option.some.injEq] at h
       refine .inr ⟨i,e.2,m.val,h.symm,?_,r2,Nat.le_refl _,by simp⟩
       rw [Instr.findNow,hn]
     | false =>
       simp only at h
       have ih:=kC hk hd ra es ms (i + 1) r (by simpa using hl) (fun j x m h1 h2=>hr (j + 1) x m (by simpa using h1) (by simpa using h2)) h
       rcases ih with ⟨h1,h2⟩ | ⟨j,v,u,h1,h2,h3,h4,h5⟩
       ·exact .inl ⟨h1,by rw [Instr.findNow,hn]; exact h2⟩
       ·refine .inr ⟨j,v,u,h1,by rw [Instr.findNow,hn]; exact h2,h3,by omega,?_⟩
        rw [show j - i = (j - (i + 1)) + 1 from by omega,List.getElem?_cons_succ]
        exact h5
theorem we {bx : aa} {t : TypeId} {x ix : V} {ok : Bool} {u ui : Value} (hc : (kS P bx t x ix ok).1) (hb : E6 β F bx w) (r : aP β w F x u) (ri : aP β w F ix ui) :
 ∃ v,(Instr.lookup t u ui ok).run P w = .ok v w /\ aP β w F (kS P bx t x ix ok).2 v:=by
 unfold kS at hc ⊢
 split at hc
 ·rename_i k e hk hx
  split at hc
  ·rename_i z hz
   obtain ⟨hl,vX,jm⟩:=hc
   obtain rfl:=aF hl hx
   rw [aR vX] at jm
   obtain ⟨d,hd,_⟩:=jU jm
   cases r
   refine ⟨if ok = true then .tuple #[z,.bool false] else z,?_,?_⟩
   ·unfold Instr.lookup Instr.findKey
    simp [run_underlying (fK hk),run_checkKey jm,run_underlying hd,Instr.findNow,iN hz]
   ·simp only [hk,V.strip,hz]; exact mT (dc z)
  ·exact hc.elim
 ·rename_i k e b hk hx
  split at hc
  ·rename_i es z oP hz
   split at hc
   ·rename_i j v hf
    obtain ⟨hl,vX,jm⟩:=hc
    obtain rfl:=aF hl hx
    rw [aR vX] at jm hf
    obtain ⟨d,hd,_⟩:=jU jm
    cases r with
    | mp b k' cZ =>
      rcases hb b _ oP with ⟨_,h0⟩ | ⟨k2,fJ,hm⟩
      ·exact h0.elim
      ·rw [cZ] at fJ
       injection fJ with fJ
       injection fJ with fJ
       subst fJ
       obtain ⟨ms,clock,h1,h2,_,h4⟩:=hm
       rcases kC jm hd ri es ms.toList 0 (some (j,v)) (by simp [h2]) (fun j x m g1 g2=>h4 j x m g1 (by simpa using g2)) hf with ⟨h5,_⟩ | ⟨j',v',u',h5,h6,h7,_⟩
       ·cases h5
       ·injection h5 with h5
        injection h5 with h5 QQ
        subst h5 QQ
        refine ⟨if ok = true then .tuple #[u',.bool true] else u',?_,?_⟩
        ·unfold Instr.lookup Instr.findKey getObj
         simp [run_underlying (fK hk),run_checkKey jm,run_underlying hd,Sem.run,h1,h6]
        ·simp only [hk,V.strip,hz,oP,aR vX,hf]; exact mT h7
   ·rename_i hf
    obtain ⟨hl,vX,jm⟩:=hc
    obtain rfl:=aF hl hx
    rw [aR vX] at jm hf
    obtain ⟨d,hd,_⟩:=jU jm
    cases r with
    | mp b k' cZ =>
      rcases hb b _ oP with ⟨_,h0⟩ | ⟨k2,fJ,hm⟩
      ·exact h0.elim
      ·rw [cZ] at fJ
       injection fJ with fJ
       injection fJ with fJ
       subst fJ
       obtain ⟨ms,clock,h1,h2,_,h4⟩:=hm
       rcases kC jm hd ri es ms.toList 0 none (by simp [h2]) (fun j x m g1 g2=>h4 j x m g1 (by simpa using g2)) hf with ⟨_,h6⟩ | ⟨j',v',u',h5,_⟩
       ·refine ⟨if ok = true then .tuple #[z,.bool false] else z,?_,?_⟩
        ·have WQ:=iN (w:=w) hz
         unfold Instr.lookup Instr.findKey getObj
         simp [run_underlying (fK hk),run_checkKey jm,run_underlying hd,Sem.run,h1,h6,WQ]
        ·simp only [hk,V.strip,hz,oP,aR vX,hf]; exact mT (dc z)
       ·cases h5
   ·exact hc.elim
  ·exact hc.elim
 ·exact hc.elim
end
end Go.Pl
namespace Go.Pl
open Go
section
variable {P : Program} {β : Beta} {w : World} {F : Nat -> Prop}
theorem run_sliceBound (k : IntKind) (i : Int) (y : Nat) (c : BoundsCode) (h : 0 <= i /\ i <= y) : (Instr.sliceBound (.int k i) y c).run P w = .ok i.toNat w:=by
 unfold Instr.sliceBound asIntOf
 simp [h]
theorem jb {b : Bool} {len cap : Nat} {lo hi : Option Value} {l h : Int} (hl : (lo = none /\ l = 0) \/ ∃ k,lo = some (.int k l)) (hh : (hi = none /\ h = len) \/ ∃ k,hi = some (.int k h)) (h0 : 0 <= l) (h1 : l <= h) (h2 : h <= len) (h3 : len <= cap) :
 (Instr.sliceBounds b len cap lo hi none).run P w = .ok (l.toNat,h.toNat,cap) w:=by
 have e2 : ∀ (k : IntKind) (c : BoundsCode),(Instr.sliceBound (.int k h) cap c).run P w = .ok h.toNat w:=fun k c=>run_sliceBound k h cap c ⟨by omega,by omega⟩
 have e1 : ∀ (k : IntKind) (c : BoundsCode),(Instr.sliceBound (.int k l) h.toNat c).run P w = .ok l.toNat w:=fun k c=>run_sliceBound k l _ c ⟨by omega,by omega⟩
 unfold Instr.sliceBounds
 rcases hl with ⟨rfl,rfl⟩ | ⟨k,rfl⟩ <;> rcases hh with ⟨rfl,rfl⟩ | ⟨k',rfl⟩
 ·simp
 ·simp [e2]
 ·simp only [Int.toNat_natCast] at e1
  simp [e1]
 ·simp [e1,e2]
theorem cu {o : Option V} {u : Option Value} {d i : Int} {c : Prop} (ho : fw d o = some (c,i)) (hc : c) (hr : (o = none /\ u = none) \/ ∃ v x,o = some v /\ u = some x /\ aP β w F v x) : (u = none /\ i = d) \/ ∃ k,u = some (.int k i):=by
 rcases hr with ⟨rfl,rfl⟩ | ⟨v,x,rfl,rfl,r⟩
 ·simp [fw] at ho
  exact .inl ⟨rfl,ho.2.symm⟩
 ·simp only [fw] at ho
  split at ho
  ·rename_i k n hv
   simp only [Option.some.injEq,Prod.mk.injEq] at ho
   obtain ⟨rfl,rfl⟩:=ho
   obtain rfl:=aF hc hv
   exact .inr ⟨k,by rw [r.bB]⟩
  ·cases ho
theorem gm {t e : TypeId} {A : Option Addr} {len cap : Nat} {lo hi : Option Value} {l h : Int} (ht : P.underlying t = some (.slice e)) (he : cw P e = true)
 (hl : (lo = none /\ l = 0) \/ ∃ k,lo = some (.int k l)) (hh : (hi = none /\ h = len) \/ ∃ k,hi = some (.int k h)) (h0 : 0 <= l) (h1 : l <= h) (h2 : h <= len) (h3 : len <= cap) :
 (Instr.sliceAt t (.slice A len cap) lo hi none).run P w = .ok (.slice (if cap = l.toNat then A else A.map (·.add (l.toNat * aE P e))) (h.toNat - l.toNat) (cap - l.toNat)) w:=by
 obtain ⟨inf,yf,lM⟩:=fL he
 unfold Instr.sliceAt Instr.slice sizeOf typeInfo
 simp [run_underlying ht,jb hl hh h0 h1 h2 h3,yf,lM]
theorem y3 {t : TypeId} {x : V} {u : Value} {lo hi : Option V} {ul uh : Option Value} (hc : (kj P t x lo hi).1) (r : aP β w F x u)
 (rl : (lo = none /\ ul = none) \/ ∃ v x,lo = some v /\ ul = some x /\ aP β w F v x) (rh : (hi = none /\ uh = none) \/ ∃ v x,hi = some v /\ uh = some x /\ aP β w F v x) :
 ∃ v,(Instr.sliceAt t u ul uh none).run P w = .ok v w /\ aP β w F (kj P t x lo hi).2 v:=by
 unfold kj at hc ⊢
 split at hc
 ·rename_i e sz es hk hx
  split at hc
  ·rename_i c l d h e1 e2
   obtain ⟨hl,pQ,hd,ga,rfl,h0,h1,h2⟩:=hc
   obtain rfl:=aF hl hx
   have a1:=cu e1 pQ rl
   have a2:=cu e2 hd rh
   cases r with
   | sl sz es A cap u0 kz gT hA hs bA hr =>
     refine ⟨_,gm (bq hk) ga a1 a2 h0 h1 h2 kz,?_⟩
     simp only [hk,V.strip,e1,e2]
     have hlen : ((es.take h.toNat).drop l.toNat).length = h.toNat - l.toNat:=by simp; omega
     rw [<- hlen]
     have eX : ∀ i e,((es.take h.toNat).drop l.toNat)[i]? = some e -> es[l.toNat + i]? = some e /\ l.toNat + i < h.toNat:=by
      intro i e hi
      rw [List.getElem?_drop,List.getElem?_take] at hi
      split at hi
      ·exact ⟨hi,by omega⟩
      ·cases hi
     have y4 : ∀ i j,l.toNat * aE P e + (i * aE P e + j) = (l.toNat + i) * aE P e + j:=fun i j=>by rw [Nat.add_mul]; omega
     refine .sl _ _ _ _ (fun j=>u0 (l.toNat * aE P e + j)) (by rw [hlen]; omega) (by omega) (fun bp=>?_) (fun e he=>hs e (List.mem_of_mem_take (List.mem_of_mem_drop he))) (fun i e' j c h5 h6=>?_) (fun i e' j c h5 h6=>?_)
     ·have : es ≠ []:=by intro h; simp [h] at bp
      have:=hA this
      split
      ·exact this
      ·simpa using this
     ·obtain ⟨h7,h8⟩:=eX i e' h5
      obtain ⟨a,ha,h9,r9,H9⟩:=bA _ _ _ _ h7 h6
      subst ha
      refine ⟨a.add (l.toNat * aE P e),by rw [if_neg (by omega)]; rfl,by rw [block_add]; exact h9,?_,?_⟩
      ·rw [Go.Deep.add_add,y4]; exact r9
      ·rw [y4]; exact H9
     ·obtain ⟨h7,h8⟩:=eX i e' h5
      have:=hr _ _ _ _ h7 h6
      rw [y4]
      exact this
  ·exact hc.elim
 ·rename_i e b sz o n hk hx
  split at hc
  ·rename_i c l d h e1 e2
   obtain ⟨hl,pQ,hd,ga,rfl,h0,h1,h2⟩:=hc
   obtain rfl:=aF hl hx
   have a1:=cu e1 pQ rl
   have a2:=cu e2 hd rh
   cases r with
   | nv b sz hb =>
     obtain rfl : l = 0:=by omega
     refine ⟨_,gm (bq hk) ga a1 a2 (by omega) h1 h2 (by omega),?_⟩
     simp only [hk,V.strip,e1,e2]
     have : h.toNat = 0:=by omega
     simp [this]
     exact .nv _ _ hb
   | own b sz o n k cap m ty hb hs hm hn gT =>
     refine ⟨_,gm (bq hk) ga a1 a2 (by omega) (by omega) h2 hn,?_⟩
     simp only [hk,V.strip,e1,e2]
     by_cases Pm : l = 0 \/ (0 <= l /\ l < h)
     case neg =>
      rw [if_neg Pm]
      have : h.toNat - l.toNat = 0:=by omega
      rw [this]
      exact .sl _ _ _ _ (fun _=>undef) (by simp) (by omega) (fun bp=>absurd rfl bp) (fun e he=>by cases he) (fun i e' j c h5=>by simp at h5) (fun i e' j c h5=>by simp at h5)
     rw [if_pos Pm]
     rcases Pm with rfl | ⟨h3,h4⟩
     ·have:=aP.own (w:=w) (F:=F) b (aE P e) o h.toNat k cap m ty hb hs hm (by omega) gT
      simpa [Addr.add] using this
     ·have:=aP.own (w:=w) (F:=F) b (aE P e) (o + l.toNat) (h.toNat - l.toNat) k (cap - l.toNat) m ty hb hs (by rw [show o + l.toNat + (cap - l.toNat) = o + cap by omega]; exact hm) (by omega) (by omega)
      have hA : (⟨k,o * aE P e,none⟩ : Addr).add (l.toNat * aE P e) = ⟨k,(o + l.toNat) * aE P e,none⟩:=by
       rw [Nat.add_mul]
       by_cases hz : l.toNat * aE P e = 0
       ·simp [Addr.add,hz]
       ·simp [Addr.add,hz]
      rw [if_neg (by omega),Option.map_some,hA]
      exact this
  ·exact hc.elim
 ·rename_i e hk hx
  split at hc
  ·rename_i c l d h e1 e2
   obtain ⟨hl,pQ,hd,ga,rfl,rfl⟩:=hc
   obtain rfl:=aF hl hx
   have a1:=cu e1 pQ rl
   have a2:=cu e2 hd rh
   cases r
   refine ⟨_,gm (bq hk) ga a1 a2 (by omega) (by omega) (by omega) (by omega),?_⟩
   simp [hk,V.strip,e1,e2]
   exact .aI
  ·exact hc.elim
 ·rename_i s hk hx
  split at hc
  ·rename_i c l d h e1 e2
   obtain ⟨hl,pQ,hd,h0,h1,h2⟩:=hc
   obtain rfl:=aF hl hx
   have a1:=cu e1 pQ rl
   have a2:=cu e2 hd rh
   obtain ⟨b,rfl,rfl⟩:=r.dW
   have bV : (b.data.toList.length : Int) = b.size:=by simp
   rw [bV] at a2 h2
   refine ⟨.string (b.extract l.toNat h.toNat),by unfold Instr.sliceAt Instr.slice; simp [run_underlying (fh hk),jb (P:=P) (w:=w) (b:=false) a1 a2 h0 h1 h2 (Nat.le_refl _)],?_⟩
   simp only [hk,V.strip,e1,e2]
   have : (b.extract l.toNat h.toNat).data.toList = (b.data.toList.take h.toNat).drop l.toNat:=by
    simp [List.drop_take]
   rw [<- this]
   exact .str _
  ·exact hc.elim
 ·exact hc.elim
theorem kT {t e : TypeId} {A : Option Addr} {len cap : Nat} {lo : Option Value} {k k' : IntKind} {l h m : Int} (ht : P.underlying t = some (.slice e)) (he : cw P e = true)
 (hl : (lo = none /\ l = 0) \/ ∃ k,lo = some (.int k l)) (h0 : 0 <= l) (h1 : l <= h) (h2 : h <= m) (h3 : m <= cap) :
 (Instr.sliceAt t (.slice A len cap) lo (some (.int k h)) (some (.int k' m))).run P w = .ok (.slice (if m.toNat = l.toNat then A else A.map (·.add (l.toNat * aE P e))) (h.toNat - l.toNat) (m.toNat - l.toNat)) w:=by
 obtain ⟨inf,yf,lM⟩:=fL he
 have e3 : ∀ (c : BoundsCode),(Instr.sliceBound (.int k' m) cap c).run P w = .ok m.toNat w:=fun c=>run_sliceBound k' m cap c ⟨by omega,by omega⟩
 have e2 : ∀ (c : BoundsCode),(Instr.sliceBound (.int k h) m.toNat c).run P w = .ok h.toNat w:=fun c=>run_sliceBound k h _ c ⟨by omega,by omega⟩
 have e1 : ∀ (k : IntKind) (c : BoundsCode),(Instr.sliceBound (.int k l) h.toNat c).run P w = .ok l.toNat w:=fun k c=>run_sliceBound k l _ c ⟨by omega,by omega⟩
 have eb : ∀ b : Bool,(Instr.sliceBounds b len cap lo (some (.int k h)) (some (.int k' m))).run P w = .ok (l.toNat,h.toNat,m.toNat) w:=fun b=>by
  unfold Instr.sliceBounds
  rcases hl with ⟨rfl,rfl⟩ | ⟨k,rfl⟩
  ·simp [e2,e3]
  ·simp [e1,e2,e3]
 unfold Instr.sliceAt Instr.slice sizeOf typeInfo
 simp [run_underlying ht,eb,yf,lM]
theorem wg {t : TypeId} {x hi mx : V} {u : Value} {lo : Option V} {ul : Option Value} {uh um : Value} (hc : (kR P t x lo hi mx).1) (r : aP β w F x u)
 (rl : (lo = none /\ ul = none) \/ ∃ v x,lo = some v /\ ul = some x /\ aP β w F v x) (rh : aP β w F hi uh) (rm : aP β w F mx um) :
 ∃ v,(Instr.sliceAt t u ul (some uh) (some um)).run P w = .ok v w /\ aP β w F (kR P t x lo hi mx).2 v:=by
 unfold kR at hc ⊢
 split at hc
 ·rename_i n c0 h0 d m hn eh em
  obtain ⟨hc,hd,Z2,hmn⟩:=hc
  simp only [hn,eh,em]
  have am:=cu em hd (.inr ⟨_,_,rfl,rfl,rm⟩)
  obtain ⟨k',rfl⟩ : ∃ k',um = .int k' m:=by
   rcases am with ⟨q,_⟩ | ⟨k',q⟩
   ·cases q
   ·injection q with q; exact ⟨k',q⟩
  have hq : ∀ z c h,fw z (some hi) = some (c,h) -> h = h0:=fun z c h q=>by
   unfold fw at q eh
   dsimp only at q eh
   split at q
   ·rename_i hs; rw [hs] at eh; simp at q eh; omega
   ·cases q
  unfold kj at hc ⊢
  split at hc
  ·rename_i e sz es hk hx
   rw [hx] at hn
   injection hn with hn
   subst hn
   split at hc
   ·rename_i c l d h e1 e2
    obtain ⟨hl,pQ,hd,ga,rfl,Pm,h1,h2⟩:=hc
    obtain rfl:=aF hl hx
    obtain rfl:=hq _ _ _ e2
    have a1:=cu e1 pQ rl
    obtain ⟨k,rfl⟩ : ∃ k,uh = .int k h:=by
     rcases cu e2 hd (.inr ⟨_,_,rfl,rfl,rh⟩) with ⟨q,_⟩ | ⟨k',q⟩
     ·cases q
     ·injection q with q; exact ⟨k',q⟩
    cases r with
    | sl sz es A cap u0 kz gT hA hs bA hr =>
      refine ⟨_,kT (bq hk) ga a1 Pm h1 Z2 (by omega),?_⟩
      simp only [hk,V.strip,e1,e2]
      have hlen : ((es.take h.toNat).drop l.toNat).length = h.toNat - l.toNat:=by simp; omega
      rw [<- hlen]
      have eX : ∀ i e,((es.take h.toNat).drop l.toNat)[i]? = some e -> es[l.toNat + i]? = some e /\ l.toNat + i < h.toNat:=by
       intro i e hi
       rw [List.getElem?_drop,List.getElem?_take] at hi
       split at hi
       ·exact ⟨hi,by omega⟩
       ·cases hi
      have y4 : ∀ i j,l.toNat * aE P e + (i * aE P e + j) = (l.toNat + i) * aE P e + j:=fun i j=>by rw [Nat.add_mul]; omega
      refine .sl _ _ _ _ (fun j=>u0 (l.toNat * aE P e + j)) (by rw [hlen]; omega) (by omega) (fun bp=>?_) (fun e he=>hs e (List.mem_of_mem_take (List.mem_of_mem_drop he))) (fun i e' j c h5 h6=>?_) (fun i e' j c h5 h6=>?_)
      ·have : es ≠ []:=by intro h; simp [h] at bp
       have:=hA this
       split
       ·exact this
       ·simpa using this
      ·obtain ⟨h7,h8⟩:=eX i e' h5
       obtain ⟨a,ha,h9,r9,H9⟩:=bA _ _ _ _ h7 h6
       subst ha
       refine ⟨a.add (l.toNat * aE P e),by rw [if_neg (by omega)]; rfl,by rw [block_add]; exact h9,?_,?_⟩
       ·rw [Go.Deep.add_add,y4]; exact r9
       ·rw [y4]; exact H9
      ·obtain ⟨h7,h8⟩:=eX i e' h5
       have:=hr _ _ _ _ h7 h6
       rw [y4]
       exact this
   ·exact hc.elim
  ·rename_i e b sz o n' hk hx
   rw [hx] at hn
   injection hn with hn
   subst hn
   split at hc
   ·rename_i c l d h e1 e2
    obtain ⟨hl,pQ,hd,ga,rfl,Pm,h1,h2⟩:=hc
    obtain rfl:=aF hl hx
    obtain rfl:=hq _ _ _ e2
    have a1:=cu e1 pQ rl
    obtain ⟨k,rfl⟩ : ∃ k,uh = .int k h:=by
     rcases cu e2 hd (.inr ⟨_,_,rfl,rfl,rh⟩) with ⟨q,_⟩ | ⟨k',q⟩
     ·cases q
     ·injection q with q; exact ⟨k',q⟩
    cases r with
    | nv b sz hb =>
      obtain rfl : l = 0:=by omega
      refine ⟨_,kT (bq hk) ga a1 (by omega) h1 Z2 (by omega),?_⟩
      simp only [hk,V.strip,e1,e2]
      have h9 : h.toNat = 0:=by omega
      have h8 : m.toNat = 0:=by omega
      simp [h9,h8]
      exact .nv _ _ hb
    | own b sz o n k9 cap m9 ty hb hs hm hn gT =>
      refine ⟨_,kT (bq hk) ga a1 (by omega) (by omega) Z2 (by omega),?_⟩
      simp only [hk,V.strip,e1,e2]
      by_cases h0'' : l = 0 \/ (0 <= l /\ l < h)
      case neg =>
       rw [if_neg h0'']
       have : h.toNat - l.toNat = 0:=by omega
       rw [this]
       exact .sl _ _ _ _ (fun _=>undef) (by simp) (by omega) (fun bp=>absurd rfl bp) (fun e he=>by cases he) (fun i e' j c h5=>by simp at h5) (fun i e' j c h5=>by simp at h5)
      rw [if_pos h0'']
      rcases h0'' with rfl | ⟨h3,h4⟩
      ·have:=aP.own (w:=w) (F:=F) b (aE P e) o h.toNat k9 m.toNat m9 ty hb hs (Nat.le_trans (Nat.mul_le_mul_right _ (by omega)) hm) (by omega) (by omega)
       simpa [Addr.add] using this
      ·have:=aP.own (w:=w) (F:=F) b (aE P e) (o + l.toNat) (h.toNat - l.toNat) k9 (m.toNat - l.toNat) m9 ty hb hs (Nat.le_trans (Nat.mul_le_mul_right _ (by omega)) hm) (by omega) (by omega)
       have hA : (⟨k9,o * aE P e,none⟩ : Addr).add (l.toNat * aE P e) = ⟨k9,(o + l.toNat) * aE P e,none⟩:=by
        rw [Nat.add_mul]
        by_cases hz : l.toNat * aE P e = 0
        ·simp [Addr.add,hz]
        ·simp [Addr.add,hz]
       rw [if_neg (by omega),Option.map_some,hA]
       exact this
   ·exact hc.elim
  ·rename_i e hk hx
   rw [hx] at hn
   injection hn with hn
   subst hn
   split at hc
   ·rename_i c l d h e1 e2
    obtain ⟨hl,pQ,hd,ga,rfl,rfl⟩:=hc
    obtain rfl:=aF hl hx
    have hz:=hq _ _ _ e2
    have a1:=cu e1 pQ rl
    obtain ⟨k,rfl⟩ : ∃ k,uh = .int k 0:=by
     rcases cu e2 hd (.inr ⟨_,_,rfl,rfl,rh⟩) with ⟨q,_⟩ | ⟨k',q⟩
     ·cases q
     ·injection q with q; exact ⟨k',q⟩
    cases r
    have HW : m = 0:=by omega
    subst HW
    refine ⟨_,kT (bq hk) ga a1 (by omega) (by omega) (by omega) (by omega),?_⟩
    simp [hk,V.strip,e1,e2]
    exact .aI
   ·exact hc.elim
  ·rename_i s hk hx
   rw [hx] at hn
   cases hn
  ·exact hc.elim
 ·exact hc.elim
theorem wi {st : St} {a : Act} (h : sD β F st a w) (o : Option Operand) : (o.map st.get = none /\ o.map a.eval = none) \/ ∃ v x,o.map st.get = some v /\ o.map a.eval = some x /\ aP β w F v x:=by
 cases o with
 | none=>exact .inl ⟨rfl,rfl⟩
 | some x=>exact .inr ⟨_,_,rfl,rfl,h.get x⟩
theorem EB {st : St} {a : Act} {o : Oper} (h : sD β F st a w) (hb : E6 β F st.bx w) (l9 : oU P β w F) (rA : vT P o = false) (hc : (ev P st o).1) :
 ∃ v,(execOp a.eval o).run P w = .ok (.value v) w /\ aP β w F (ev P st o).2 v:=by
 obtain ⟨dst,op,type,pos,after,guard⟩:=o
 have fin : ∀ {x : Sem Value} {q : V},(∃ v,x.run P w = .ok v w /\ aP β w F q v) -> ∃ v,(do pure (Next.value (<- x)) : Sem Next).run P w = .ok (.value v) w /\ aP β w F q v:=by
  rintro x q ⟨v,h1,h2⟩
  exact ⟨v,by rw [Sem.run_bind,h1]; rfl,h2⟩
 unfold ev at hc ⊢
 simp only at hc ⊢
 split at hc
 ·exact ⟨_,rfl,h.get _⟩
 ·exact ⟨_,rfl,h.get _⟩
 ·rename_i c x y
  obtain ⟨t,h1,h2⟩:=Am hc (h.get c) (h.get x) (h.get y)
  refine ⟨_,?_,h2⟩
  simp only [execOp,h1,asBool,Sem.run_bind,Sem.run_pure,Result.andThen_ok]
 ·exact fin (sG hc hb (h.gv l9 _))
 ·exact fin (rp hc (h.get _))
 ·exact fin (rz hc (h.gv l9 _) (h.get _))
 ·exact fin (yx hc (h.get _))
 ·exact fin (yy hc (h.get _) (h.get _))
 ·exact fin (ug hc (h.get _))
 ·exact fin (CZ hc (h.get _) (h.get _) _ _)
 ·exact fin (EA hc (h.get _))
 ·refine fin (od (fun e he=>?_) hc (h.get _))
  simp only [vT,he.1,he.2] at rA
  cases rA
 ·exact fin (y3 hc (h.get _) (wi h _) (wi h _))
 ·exact fin (wg hc (h.get _) (wi h _) (h.get _) (h.get _))
 ·rename_i f first caps
  split at hc
  ·rename_i h0
   obtain rfl : first = #[]:=by simpa using h0
   refine ⟨.func f #[] (caps.map a.eval),by simp [execOp,Instr.makeFunc],?_⟩
   refine .fn _ _ _ (by simp) (fun i c hi=>?_) (fun g r hf _=>by rw [hf] at hc; exact hc.2)
   simp at hi
   obtain ⟨x,hx,rfl⟩:=hi
   have hl : (st.get x).ax = true:=hc.1 _ (by simp; exact ⟨x,Array.mem_of_getElem? hx,rfl⟩)
   rw [aR hl]
   simp [hx]
   exact h.get x
  ·rename_i x h0
   obtain rfl : first = #[x]:=by rw [<- Array.toArray_toList (xs:=first),h0]
   unfold vU at hc ⊢
   split at hc
   ·rename_i g
    obtain ⟨hl,hn⟩:=hc
    obtain rfl : caps = #[]:=by simpa using hn
    refine ⟨.func (.func g) #[a.eval x] #[],by simp [execOp,Instr.makeFunc],?_⟩
    dsimp only
    rw [aR hl]
    exact .bm g _ _ (h.get x)
   ·exact hc.elim
  ·exact hc.elim
 ·exact fin (y2 h.get hc)
 ·rename_i c
  obtain ⟨callee,args,ts⟩:=c
  unfold lP at hc ⊢
  simp only at hc ⊢
  split at hc
  ·rename_i x t h1 h2
   obtain rfl : args = #[x]:=by rw [<- Array.toArray_toList (xs:=args),h1]
   obtain rfl : ts = #[t]:=by rw [<- Array.toArray_toList (xs:=ts),h2]
   obtain ⟨v,h1,h2⟩:=Da (ty:=type) hc hb (h.get x)
   refine ⟨v,?_,h2⟩
   show (do let d <- resolve a.eval _ type; invoke d.target d.args : Sem Next).run P w = _
   simp only [resolve,invoke,builtin,Sem.run_bind,Sem.run_pure,Result.andThen_ok,List.map_toArray,List.map_cons,List.map_nil,h1]
  ·rename_i x y h1
   obtain rfl : args = #[x,y]:=by rw [<- Array.toArray_toList (xs:=args),h1]
   obtain ⟨v,h1,h2⟩:=Db (P:=P) (ts:=ts) (ty:=type) hc (h.get x) (h.get y)
   refine ⟨v,?_,h2⟩
   show (do let d <- resolve a.eval _ type; invoke d.target d.args : Sem Next).run P w = _
   simp only [resolve,invoke,builtin,Sem.run_bind,Sem.run_pure,Result.andThen_ok,List.map_toArray,List.map_cons,List.map_nil,h1]
  ·rename_i x y h1
   obtain rfl : args = #[x,y]:=by rw [<- Array.toArray_toList (xs:=args),h1]
   obtain ⟨v,h1,h2⟩:=Dc (P:=P) (ts:=ts) (ty:=type) hc (h.get x) (h.get y)
   refine ⟨v,?_,h2⟩
   show (do let d <- resolve a.eval _ type; invoke d.target d.args : Sem Next).run P w = _
   simp only [resolve,invoke,builtin,Sem.run_bind,Sem.run_pure,Result.andThen_ok,List.map_toArray,List.map_cons,List.map_nil,h1]
  ·exact hc.elim
 ·exact fin (we hc hb (h.get _) (h.get _))
 ·exact fin (r8 hc (h.get _))
 ·exact fin (wc hc (h.get _))
 ·rename_i x
  have rx:=h.get x
  unfold kA at hc ⊢
  split at hc
  ·rename_i b sz i o hx
   obtain hx':=aF hc hx
   rw [hx'] at rx
   generalize hu : a.eval x = u at rx
   cases rx with
   | ptr _ _ _ _ k hb =>
     refine ⟨_,by simp only [execOp,hu]; rfl,?_⟩
     simp only [hx]
     exact .ptr _ _ _ _ k hb
  ·rename_i e o hx
   obtain hx':=aF hc hx
   rw [hx'] at rx
   generalize hu : a.eval x = u at rx
   cases rx with
   | ep _ _ ad u0 bA hr =>
     refine ⟨_,by simp only [execOp,hu]; rfl,?_⟩
     simp only [hx]
     exact .ep _ _ ad u0 bA hr
  ·exact hc.elim
 ·exact hc.elim
end
end Go.Pl
namespace Go.Pl
open Go
section
variable {P : Program} {β : Beta} {M : dP} {bx : aa} {w : World}
def dT (β : Beta) (w : World) (F : Nat -> Prop) (sz : Nat) (es : List V) (cur : Array Value) : Prop :=
 ∀ (i : Nat) (e : V),es[i]? = some e -> e.cells.length = sz /\ ∀ (j : Nat) (c : V),e.cells[j]? = some c -> (cur.getD (i * sz + j) undef).oneCell' = true /\ aP β w F c (cur.getD (i * sz + j) undef)
theorem eu.QR (h : eu β M bx w) : E6 β (Fz β M bx w) bx w:=by
 intro b box hb
 rcases h.live b box hb with h1 | ⟨k,h1,_,_,h2⟩
 ·exact .inl h1
 ·exact .inr ⟨k,h1,h2⟩
theorem bJ {k : Nat} {cur : Array Value} {ty : TypeId} {fz : Nat × Nat} (h : w.heap[k]? = some (.cells cur ty fz)) : w.shape? k = some (ty,cur.size):=by simp [World.shape?,h]
theorem bD {w' : World} {k : Nat} (h : w'.heap[k]? = w.heap[k]?) : w'.shape? k = w.shape? k:=by simp [World.shape?,h]
theorem af {α : Type} (f : Nat -> α) (x : Nat) (v : α) : aA f x v x = v:=by simp [aA]
theorem ae {α : Type} (f : Nat -> α) {x y : Nat} (v : α) (h : y ≠ x) : aA f x v y = f y:=by simp [aA,h]
theorem bh {β' : Beta} {w' : World} {F F' : Nat -> Prop} {k : Nat} {box : bI} (h : nG β w F k box) (hk : w'.heap[k]? = w.heap[k]?)
 (bL : ∀ b x,β b = some x -> β' b = some x) (hF : ∀ k,F k -> F' k /\ w'.heap[k]? = w.heap[k]?) (hs : ∀ k x,w.shape? k = some x -> w'.shape? k = some x) : nG β' w' F' k box:=by
 cases box with
 | row ty sz es =>
   obtain ⟨cur,fr,h1,h0,h2,h3⟩:=h
   exact ⟨cur,fr,hk.trans h1,h0,h2,fun i e he=>⟨(h3 i e he).1,fun j c hc=>⟨((h3 i e he).2 j c hc).1,((h3 i e he).2 j c hc).2.mono bL hF hs⟩⟩⟩
 | map es =>
   obtain ⟨ms,clock,h1,h2,h3,h4⟩:=h
   exact ⟨ms,clock,hk.trans h1,h2,h3,fun i x m hx hm=>⟨(h4 i x m hx hm).1.mono bL hF hs,(h4 i x m hx hm).2.mono bL hF hs⟩⟩
 | loop pend ps good n sl =>
   obtain ⟨rec,h1,h2,h3,h4,h5,h6,h7⟩:=h
   exact ⟨rec,hk.trans h1,h2,h3,h4,h5,h6,fun t=>(h7 t).mono bL hF hs⟩
 | kg es bs c =>
   obtain ⟨ms,h1,h0,h2,h3,h4⟩:=h
   exact ⟨ms,hk.trans h1,h0,h2,h3,fun i x m hx hm=>⟨(h4 i x m hx hm).1.mono bL hF hs,(h4 i x m hx hm).2.mono bL hF hs⟩⟩
 | iter b since c0 seen =>
   obtain ⟨kb,h1,h2,h3⟩:=h
   exact ⟨kb,bL _ _ h1,hk.trans h2,h3⟩
theorem eu.grown {β' : Beta} {w' : World} (h : eu β M bx w) (bV : w.heap.size <= w'.heap.size) (De : ∃ n,∀ b,n <= b -> β' b = none) (bL : ∀ b x,β b = some x -> β' b = some x)
 (hk : ∀ k,k < w.heap.size -> w'.heap[k]? = w.heap[k]?) : eu β' M bx w':=by
 have hs : ∀ k x,w.shape? k = some x -> w'.shape? k = some x:=fun k x hx=>by
  have : k < w.heap.size:=by
   rcases Nat.lt_or_ge k w.heap.size with h1 | h1
   ·exact h1
   ·simp [World.shape?,Array.getElem?_eq_none h1] at hx
  rw [bD (hk k this)]; exact hx
 have wj : ∀ b k,bx b ≠ none -> β' b = some (some k) -> β b = some (some k):=by
  intro b k hb aQ
  obtain ⟨box,dK⟩:=Option.ne_none_iff_exists'.1 hb
  rcases h.live b box dK with ⟨h1,_⟩ | ⟨k',h1,_⟩
  ·rw [bL _ _ h1] at aQ; cases aQ
  ·rw [bL _ _ h1] at aQ; injection aQ with e; injection e with e; subst e; exact h1
 have hF : ∀ k,Fz β M bx w k -> Fz β' M bx w' k /\ w'.heap[k]? = w.heap[k]?:=by
  rintro k ⟨h1,h2,h3⟩
  exact ⟨⟨by omega,h2,fun b hb he=>h3 b hb (wj b k hb he)⟩,hk k h1⟩
 refine ⟨De,fun k o hM=>(hk k (h.nW hM)).trans (h.mlt k o hM),fun b box hb=>?_,fun b b' k h1 h2 h3 h4=>h.inj b b' k h1 h2 (wj _ _ h1 h3) (wj _ _ h2 h4)⟩
 rcases h.live b box hb with ⟨h1,h2⟩ | ⟨k,h1,h2,h3,h4⟩
 ·exact .inl ⟨bL _ _ h1,h2⟩
 ·exact .inr ⟨k,bL _ _ h1,by omega,h3,bh h4 (hk k h2) bL hF hs⟩
theorem Tr.grown {β' : Beta} {w' : World} (h : eu β M bx w) (uN : w'.os = w.os) (ht : w'.tape = w.tape) (ho : w'.output = w.output) (wm : w.drawn <= w'.drawn) (bV : w.heap.size <= w'.heap.size) (bL : ∀ b x,β b = some x -> β' b = some x)
 (hk : ∀ k,k < w.heap.size -> w'.heap[k]? = w.heap[k]?) : Tr β bx w β' bx w' where
 os:=uN
 tape:=ht
 output:=ho
 drawn _:=wm
 Ah h:=h
 size:=bV
 ch k h1 _:=hk k h1
 shape k x hx:=by
  have : k < w.heap.size:=by
   rcases Nat.lt_or_ge k w.heap.size with h1 | h1
   ·exact h1
   ·simp [World.shape?,Array.getElem?_eq_none h1] at hx
  rw [bD (hk k this)]; exact hx
 ext:=bL
 news b' k h1 h2:=by
  obtain ⟨box,dK⟩:=Option.ne_none_iff_exists'.1 h1
  rcases h.live b' box dK with ⟨h3,_⟩ | ⟨k',h3,_⟩
  ·rw [bL _ _ h3] at h2; cases h2
  ·rw [bL _ _ h3] at h2; injection h2 with e; injection e with e; subst e; exact .inl ⟨b',h1,h3⟩
theorem eu.drew (h : eu β M bx w) : eu β M bx w.drew:=h.grown (Nat.le_refl _) h.fin (fun _ _ h=>h) (fun _ _=>rfl)
theorem Tr.drew (h : eu β M bx w) : Tr β bx w β bx w.drew:=Tr.grown h rfl rfl rfl (Nat.le_succ w.drawn) (Nat.le_refl _) (fun _ _ h=>h) (fun _ _=>rfl)
theorem eu.fresh (h : eu β M bx w) : ∃ b,β b = none /\ bx b = none:=by
 obtain ⟨n,hn⟩:=h.fin
 refine ⟨n,hn n (Nat.le_refl _),?_⟩
 cases hb : bx n with
 | none=>rfl
 | some box =>
   rcases h.live n box hb with ⟨h1,_⟩ | ⟨k,h1,_⟩ <;> rw [hn n (Nat.le_refl _)] at h1 <;> cases h1
theorem uO (h : eu β M bx w) {b : Nat} (bL : β b = none) (hb : bx b = none) (cur : Array Value) (ty : TypeId) (sz : Nat) (es : List V) (B8 : 0 < sz \/ es ≠ []) (hl : es.length * sz <= cur.size) (hr : dT β w (Fz β M bx w) sz es cur) :
 eu (aA β b (some (some w.heap.size))) M (aA bx b (some (.row ty sz es))) (w.alloc (.cells cur ty)) /\
 Tr β bx w (aA β b (some (some w.heap.size))) (aA bx b (some (.row ty sz es))) (w.alloc (.cells cur ty)):=by
 have iO : ∀ b' x,β b' = some x -> aA β b (some (some w.heap.size)) b' = some x:=by
  intro b' x hx
  rw [ae _ _ (by rintro rfl; rw [bL] at hx; cases hx)]; exact hx
 have hk : ∀ k,k < w.heap.size -> (w.alloc (.cells cur ty)).heap[k]? = w.heap[k]?:=fun k hk=>Go.RowKit.Below.heap_alloc w _ k hk
 have hs : ∀ k x,w.shape? k = some x -> (w.alloc (.cells cur ty)).shape? k = some x:=fun k x hx=>by
  have : k < w.heap.size:=by
   rcases Nat.lt_or_ge k w.heap.size with h1 | h1
   ·exact h1
   ·simp [World.shape?,Array.getElem?_eq_none h1] at hx
  rw [bD (hk k this)]; exact hx
 have hF : ∀ k,Fz β M bx w k -> Fz (aA β b (some (some w.heap.size))) M (aA bx b (some (.row ty sz es))) (w.alloc (.cells cur ty)) k /\ (w.alloc (.cells cur ty)).heap[k]? = w.heap[k]?:=by
  rintro k ⟨h1,h2,h3⟩
  refine ⟨⟨by simp; omega,h2,fun b' aQ he=>?_⟩,hk k h1⟩
  by_cases e : b' = b
  ·subst e
   rw [af] at he
   injection he with he; injection he with he
   omega
  ·rw [ae _ _ e] at he aQ
   exact h3 b' aQ he
 constructor
 ·refine ⟨?_,fun k o hM=>(Go.RowKit.Below.heap_alloc w _ k (h.nW hM)).trans (h.mlt k o hM),fun b' box aQ=>?_,fun b1 b2 k h1 h2 h3 h4=>?_⟩
  ·obtain ⟨n,hn⟩:=h.fin
   refine ⟨max n (b + 1),fun b' aQ=>?_⟩
   rw [ae _ _ (by omega)]
   exact hn b' (by omega)
  ·by_cases e : b' = b
   ·subst e
    rw [af] at aQ
    injection aQ with aQ
    subst aQ
    refine .inr ⟨w.heap.size,af _ _ _,by simp,h.sy (Nat.le_refl _),cur,(0,0),heap_alloc_new w _,.inl rfl,hl,fun i e he=>⟨(hr i e he).1,fun j c hc=>⟨((hr i e he).2 j c hc).1,((hr i e he).2 j c hc).2.mono iO hF hs⟩⟩⟩
   ·rw [ae _ _ e] at aQ
    rcases h.live b' box aQ with ⟨h1,h2⟩ | ⟨k,h1,h2,h3,h4⟩
    ·exact .inl ⟨iO _ _ h1,h2⟩
    ·exact .inr ⟨k,iO _ _ h1,by simp; omega,h3,bh h4 (hk k h2) iO hF hs⟩
  ·have old : ∀ b',b' ≠ b -> aA bx b (some (.row ty sz es)) b' ≠ none -> aA β b (some (some w.heap.size)) b' = some (some k) -> β b' = some (some k) /\ bx b' ≠ none /\ k < w.heap.size:=by
    intro b' bp aQ he
    rw [ae _ _ bp] at aQ he
    refine ⟨he,aQ,?_⟩
    obtain ⟨box,dK⟩:=Option.ne_none_iff_exists'.1 aQ
    rcases h.live b' box dK with ⟨h5,_⟩ | ⟨k',h5,h6,_⟩
    ·rw [h5] at he; cases he
    ·rw [h5] at he; injection he with he; injection he with he; omega
   by_cases e1 : b1 = b <;> by_cases e2 : b2 = b
   ·rw [e1,e2]
   ·obtain ⟨_,_,h5⟩:=old b2 e2 h2 h4
    rw [e1,af] at h3; injection h3 with h3; injection h3 with h3; omega
   ·obtain ⟨_,_,h5⟩:=old b1 e1 h1 h3
    rw [e2,af] at h4; injection h4 with h4; injection h4 with h4; omega
   ·obtain ⟨h5,h6,_⟩:=old b1 e1 h1 h3
    obtain ⟨h7,h8,_⟩:=old b2 e2 h2 h4
    exact h.inj b1 b2 k h6 h8 h5 h7
 ·refine ⟨rfl,rfl,rfl,fun _=>Nat.le_refl _,fun hm=>Mk.kh hm (yq B8),by simp,fun k h1 _=>hk k h1,hs,iO,fun b' k h1 h2=>?_⟩
  by_cases e : b' = b
  ·subst e
   rw [af] at h2
   injection h2 with h2; injection h2 with h2
   exact .inr (by omega)
  ·rw [ae _ _ e] at h1 h2
   exact .inl ⟨b',h1,h2⟩
theorem pU (h : eu β M bx w) {b k : Nat} {ty : TypeId} {sz : Nat} {es : List V} (hb : bx b = some (.row ty sz es)) (bL : β b = some (some k)) {cur : Array Value} {fr : Nat × Nat} (aV : w.heap[k]? = some (.cells cur ty fr)) (iG : oT cur.size fr)
 (cur' : Array Value) (sI : cur'.size = cur.size) (es' : List V) (hlen : es'.length = es.length) (hl : es'.length * sz <= cur'.size) (hr : dT β w (Fz β M bx w) sz es' cur') :
 eu β M (aA bx b (some (.row ty sz es'))) (w.setRow k cur') /\ Tr β bx w β (aA bx b (some (.row ty sz es'))) (w.setRow k cur'):=by
 have hk : ∀ k',k' ≠ k -> (w.setRow k cur').heap[k']? = w.heap[k']?:=fun k' bp=>setRow_other w k k' cur' bp
 have jm : (w.setRow k cur').heap[k]? = some (.cells cur' ty fr):=setRow_heap w k cur cur' ty fr aV
 have hs : ∀ k' x,w.shape? k' = some x -> (w.setRow k cur').shape? k' = some x:=fun k' x hx=>by
  by_cases e : k' = k
  ·subst e
   rw [bJ jm,sI,<- bJ aV]; exact hx
  ·rw [bD (hk k' e)]; exact hx
 have eS : ∀ b',aA bx b (some (.row ty sz es')) b' ≠ none ↔ bx b' ≠ none:=by
  intro b'
  by_cases e : b' = b
  ·subst e; simp [af,hb]
  ·rw [ae _ _ e]
 have hF : ∀ k',Fz β M bx w k' -> Fz β M (aA bx b (some (.row ty sz es'))) (w.setRow k cur') k' /\ (w.setRow k cur').heap[k']? = w.heap[k']?:=by
  rintro k' ⟨h1,h2,h3⟩
  refine ⟨⟨by simpa using h1,h2,fun b' aQ he=>h3 b' ((eS b').1 aQ) he⟩,hk k' ?_⟩
  rintro rfl
  exact h3 b (by simp [hb]) bL
 constructor
 ·refine ⟨h.fin,fun k' o hM=>(hk k' (fun e=>by
   subst e
   rcases h.live b _ hb with ⟨h1,_⟩ | ⟨k2,h1,_,h3,_⟩
   ·rw [bL] at h1; cases h1
   ·rw [bL] at h1; injection h1 with h1; injection h1 with h1; subst h1
    rw [h3] at hM; cases hM)).trans (h.mlt k' o hM),fun b' box aQ=>?_,fun b1 b2 k' h1 h2 h3 h4=>h.inj b1 b2 k' ((eS _).1 h1) ((eS _).1 h2) h3 h4⟩
  by_cases e : b' = b
  ·subst e
   rw [af] at aQ
   injection aQ with aQ
   subst aQ
   rcases h.live b' _ hb with ⟨h1,_⟩ | ⟨k',h1,h2,h3,_⟩
   ·rw [bL] at h1; cases h1
   ·rw [bL] at h1; injection h1 with h1; injection h1 with h1; subst h1
    exact .inr ⟨k,bL,by simpa using h2,h3,cur',fr,jm,by rw [sI]; exact iG,hl,fun i e he=>⟨(hr i e he).1,fun j c hc=>⟨((hr i e he).2 j c hc).1,((hr i e he).2 j c hc).2.mono (fun _ _ h=>h) hF hs⟩⟩⟩
  ·rw [ae _ _ e] at aQ
   rcases h.live b' box aQ with ⟨h1,h2⟩ | ⟨k',h1,h2,h3,h4⟩
   ·exact .inl ⟨h1,h2⟩
   ·refine .inr ⟨k',h1,by simpa using h2,h3,bh h4 (hk k' ?_) (fun _ _ h=>h) hF hs⟩
    rintro rfl
    exact e (h.inj b' b k' (by simp [aQ]) (by simp [hb]) h1 bL)
 ·refine ⟨rfl,rfl,rfl,fun _=>Nat.le_refl _,fun ⟨b',oO,hm⟩=>?_,by simp,fun k' h1 h2=>hk k' ?_,hs,fun _ _ h=>h,fun b' k' h1 h2=>.inl ⟨b',(eS b').1 h1,h2⟩⟩
  ·by_cases e : b' = b
   ·subst e
    rw [af] at hm
    injection hm with hm
    injection hm with e1 e2 e3
    subst e2 e3
    exact ⟨b',ty,by rw [hb,List.eq_nil_of_length_eq_zero hlen.symm]⟩
   ·exact ⟨b',oO,by rwa [ae _ _ e] at hm⟩
  rintro rfl
  exact h2 b (by simp [hb]) bL
theorem eu.drop (h : eu β M bx w) (b : Nat) : eu β M (aA bx b none) w:=by
 have eS : ∀ b',aA bx b none b' ≠ none -> bx b' ≠ none /\ b' ≠ b:=by
  intro b' aQ
  by_cases e : b' = b
  ·subst e; simp [af] at aQ
  ·rw [ae _ _ e] at aQ; exact ⟨aQ,e⟩
 have hF : ∀ k,Fz β M bx w k -> Fz β M (aA bx b none) w k /\ w.heap[k]? = w.heap[k]?:=by
  rintro k ⟨h1,h2,h3⟩
  exact ⟨⟨h1,h2,fun b' aQ he=>h3 b' (eS b' aQ).1 he⟩,rfl⟩
 refine ⟨h.fin,h.mlt,fun b' box aQ=>?_,fun b1 b2 k h1 h2 h3 h4=>h.inj b1 b2 k (eS _ h1).1 (eS _ h2).1 h3 h4⟩
 have bp : b' ≠ b:=by rintro rfl; rw [af] at aQ; cases aQ
 rw [ae _ _ bp] at aQ
 rcases h.live b' box aQ with h1 | ⟨k,h1,h2,h3,h4⟩
 ·exact .inl h1
 ·exact .inr ⟨k,h1,h2,h3,bh h4 rfl (fun _ _ h=>h) hF (fun _ _ h=>h)⟩
end
end Go.Pl
namespace Go.Pl
open Go
@[simp] theorem y5 (c : Bool) (v : V) : (eo c v).strip = v.strip:=by
 cases c
 ·simp only [eo,cond_false,V.strip]; exact nV v
 ·rfl
@[simp] theorem y6 (c : Bool) (v : V) : (eo c v).ax = (c && v.ax):=by cases c <;> simp [eo,V.ax]
@[simp] theorem L4 (v : V) : eo true v = v:=rfl
def storable (P : Program) (t : TypeId) (v : V) : Prop:=cw P t = true /\ okV v = true /\ v.cells.length = aE P t
def ba (e : V) (o : Nat) (vs : List V) : V :=
 match e with
 | .agg cs=>match vs with
   | [v]=>.agg (cs.set o v)
   | vs=>.agg (cs.take o ++ vs ++ cs.drop (o + vs.length))
 | e=>match vs with
   | [v]=>v
   | _=>e
def dM (st : St) : List V -> List (Nat × Operand) -> List V
 | es,[]=>es
 | es,(i,x) :: ps=>dM st (es.set i (st.get x)) ps
def bj (bx : aa) : Prop:=∃ n,∀ b,n <= b -> bx b = none
theorem ar (bx : aa) (b : Nat) (x : Option bI) : bj (aA bx b x) ↔ bj bx:=by
 constructor
 ·rintro ⟨n,hn⟩
  refine ⟨max n (b + 1),fun b' aQ=>?_⟩
  have:=hn b' (by omega)
  rwa [ae _ _ (by omega)] at this
 ·rintro ⟨n,hn⟩
  refine ⟨max n (b + 1),fun b' aQ=>?_⟩
  rw [ae _ _ (by omega)]
  exact hn b' (by omega)
def St.put (st : St) (dst : Option Tmp) (v : V) : St :=
 match dst with
 | some d=>{ st with sl:=aA st.sl d v }
 | none=>st
def aJ (st : St) (dst : Option Tmp) : Prop :=
 match dst with
 | some d=>d < st.n
 | none=>True
def St.box (st : St) (b : Nat) (x : Option bI) : St:={ st with bx:=aA st.bx b x }
def aw (P : Program) (f : FuncId) (args : List V) (bx : aa) (Kc : V -> aa -> Prop) : Prop :=
 (∀ vs w,(callFunc f vs).run P w = .ok (.enter f vs) w) /\
 ∀ (β : Beta) (M : dP) (w : World) (vs : Array Value),eu β M bx w -> oU P β w (Fz β M bx w) -> vs.size = args.length ->
  (∀ (i : Nat) (c : V),args[i]? = some c -> aP β w (Fz β M bx w) c (vs.getD i undef)) ->
  Calls P f vs w fun e w'=>∃ v r bx' β',e = .returned v /\ Kc r bx' /\ eu β' M bx' w' /\ Tr β bx w β' bx' w' /\ aP β' w' (Fz β' M bx' w') r v
def ay (P : Program) (f : FuncId) (args : List V) (bx : aa) (r : V) : Prop:=aw P f args bx fun r' bx'=>r' = r /\ bx' = bx
def callee (st : St) (f : Operand) (args : List Operand) : Option (FuncId × List V) :=
 match (st.get f).strip with
 | .fn (.func g) caps=>some (g,(args.map fun x=>(st.get x).strip) ++ caps)
 | .fn (.yield g) [r]=>some (g,r :: (args.map fun x=>(st.get x).strip))
 | _=>none
def eN (st : St) (f : Operand) (args : List Operand) : Prop:=(st.get f).ax = true /\ ∀ x,x ∈ args -> (st.get x).ax = true
def bP (st : St) (sz : Nat) (x : V) : Option (List V) :=
 match x with
 | .aI=>some []
 | .sl eT es=>if eT = sz then some es else none
 | .own b eT o n=>match st.bx b with
   | some (.row _ sz'' es)=>if eT = sz /\ sz'' = sz /\ o + n <= es.length then some ((es.drop o).take n) else none
   | _=>none
 | .str s=>if sz = 1 then some (s.map dI) else none
 | _=>none
def c8 (P : Program) (st : St) (dst : Option Tmp) (t : TypeId) (s x : V) (K : St -> Prop) : Prop :=
 match bu P t with
 | .slice e =>
   match bP st (aE P e) x,aT P e with
   | some news,some z =>
     storable P e (ofValue z) /\ 0 < aE P e /\ aJ st dst /\ bj st.bx /\
     match s with
     | .aI=>news.length * nX P e <= 140737488355328 /\ news.length <= 9223372036854775807 /\
      ∀ b,st.bx b = none -> K ((st.box b (some (.row e (aE P e) news))).put dst (.own b (aE P e) 0 news.length))
     | .own b sz 0 n=>match st.bx b with
       | some (.row e' eT es)=>e' = e /\ eT = aE P e /\ sz = aE P e /\ n <= es.length /\ (n + news.length) * nX P e <= 140737488355328 /\ n + news.length <= 9223372036854775807 /\
        ∀ b',aA st.bx b none b' = none -> K (((st.box b none).box b' (some (.row e (aE P e) (es.take n ++ news)))).put dst (.own b' (aE P e) 0 (n + news.length)))
       | _=>False
     | _=>False
   | _,_=>False
 | _=>False
def sJ (P : Program) (st : St) (t : TypeId) (x : V) (K : St -> Prop) : Prop :=
 match bu P t,x with
 | .slice e,.own b sz o n=>match aT P e,st.bx b with
   | some z,some (.row e' eT es)=>storable P e (ofValue z) /\ 0 < aE P e /\ sz = aE P e /\ eT = aE P e /\ 0 < n /\ o + n <= es.length /\ K (st.box b (some (.row e' eT (es.take o ++ List.replicate n (ofValue z) ++ es.drop (o + n)))))
   | _,_=>False
 | _,_=>False
def oZ (P : Program) (st : St) (t : TypeId) (m k v : V) (K : St -> Prop) : Prop :=
 match bu P t,m with
 | .map kt _,.mp b=>match st.bx b with
   | some (.map es)=>match vV k.strip v es with
     | some es'=>k.ax = true /\ oa (bu P kt) k.strip = true /\ K (st.box b (some (.map es')))
     | none=>False
   | _=>False
 | _,_=>False
def sK (P : Program) (st : St) (t : TypeId) (m k : V) (K : St -> Prop) : Prop :=
 match bu P t,m with
 | .map kt _,.mp b=>match st.bx b with
   | some (.map es)=>match vW k.strip es with
     | some es'=>k.ax = true /\ oa (bu P kt) k.strip = true /\ K (st.box b (some (.map es')))
     | none=>False
   | _=>False
 | _,_=>False
def kn (a z : V) (es : List (V × V)) : Option (List (V × V) × Nat × V) :=
 match fg a es 0 with
 | some (some (j,v))=>some (es,j,v)
 | some none=>some (es ++ [(a,z)],es.length,z)
 | none=>none
def pV (P : Program) (st : St) (t : TypeId) (m k : V) (dst : Option Tmp) (K : St -> Prop) : Prop :=
 match bu P t,m with
 | .map kt et,.mp b=>match st.bx b,aT P et with
   | some (.map es),some z=>match kn k.strip (ofValue z) es with
     | some (wo,j,v)=>k.ax = true /\ oa (bu P kt) k.strip = true /\ aJ st dst /\ ∀ (bs : List Nat) (c q : Nat),bs.length = wo.length -> bs.Nodup -> bs[j]? = some q -> K ((st.box b (some (.kg wo bs c))).put dst (.dh [v,.int .i64 q]))
     | none=>False
   | _,_=>False
 | _,_=>False
def jc (st : St) (m s x : V) (K : St -> Prop) : Prop :=
 match m,s with
 | .mp b,.int .i64 q=>match st.bx b with
   | some (.kg es bs _)=>∃ (i q' : Nat) (e : V × V),(q' : Int) = q /\ bs[i]? = some q' /\ es[i]? = some e /\ K (st.box b (some (.map (es.set i (e.1,x)))))
   | _=>False
 | _,_=>False
def HX (P : Program) (s t : TypeId) (x : V) (dst : Option Tmp) (K : St -> Prop) (st : St) : Prop :=
 match bu P s,bu P t,x with
 | .str,.slice e,.str q=>(bu P e = .int .u8 /\ q.length <= 9223372036854775807) /\ aJ st dst /\ bj st.bx /\ ∀ b,st.bx b = none -> K ((st.box b (some (.row e 1 (q.map dI)))).put dst (.own b 1 0 q.length))
 | _,_,_=>False
def pW (P : Program) (st : St) (t : TypeId) (x : V) (dst : Option Tmp) (K : St -> Prop) : Prop :=
 match bu P t,x with
 | .map _ _,.mp b=>match st.bx b with
   | some (.map es)=>aJ st dst /\ bj st.bx /\ ∀ (bs : List Nat) (c b' : Nat),bs.length = es.length -> bs.Nodup -> (∀ q,q ∈ bs -> q < c) -> aA st.bx b (some (.kg es bs c)) b' = none ->
    K (((st.box b (some (.kg es bs c))).box b' (some (.iter b c c []))).put dst (.ptr b' 1 0 0))
   | _=>False
 | _,_=>False
def uP (st : St) (x : V) (dst : Option Tmp) (K : St -> Prop) : Prop :=
 match x with
 | .ptr b' 1 0 0=>match st.bx b' with
   | some (.iter b since c0 seen)=>match st.bx b with
     | some (.kg es bs c)=>aJ st dst /\ (∀ q,q ∈ bs -> q < since) /\ since <= c /\ ((∀ q,q ∈ bs -> q ∈ seen) -> K (st.put dst (.dh [.bool false]))) /\
      ∀ (i : Nat) (q : Nat) (e : V × V),bs[i]? = some q -> es[i]? = some e -> ¬ q ∈ seen -> K ((st.box b' (some (.iter b since c (seen ++ [q])))).put dst (.dh [.bool true,e.1,e.2]))
     | _=>False
   | _=>False
 | _=>False
def pX (st : St) (x : V) (dst : Option Tmp) (K : St -> Prop) : Prop :=
 match x with
 | .ptr b' 1 0 0=>match st.bx b' with
   | some (.iter b since c0 seen)=>match st.bx b with
     | some (.kg es bs c)=>aJ st dst /\ c0 = c /\ ∃ (i : Nat) (e : V × V) (pre : List Nat) (q : Nat),seen = pre ++ [q] /\ bs[i]? = some q /\ es[i]? = some e /\ K (st.put dst (.dh [e.1,e.2]))
     | _=>False
   | _=>False
 | _=>False
def pa (P : Program) (t : TypeId) (name : String) : Option FuncId :=
 match bu P t,P.info? t with
 | .ptr _,some i=>match i.methods.find? (·.name == name) with
   | some m=>if m.path.isEmpty = true then (match m.func with | some (f,true)=>some f | _=>none) else none
   | none=>none
 | _,_=>none
def uj (P : Program) (st : St) (o : Option Tmp) (recv : V) (name : String) (args : List V) (K : St -> Prop) : Prop :=
 match recv with
 | .iface t v=>match pa P t name with
   | some g=>(∀ x,x ∈ args -> x.ax = true) /\ aJ st o /\ aw P g (v :: args.map V.strip) st.bx fun r bx'=>K ({ st with bx:=bx' }.put o r)
   | none=>False
 | _=>False
def bU : Op -> Bool
 | .build .. | .move _ | .assign _ | .pick .. | .load .. | .fieldAddr .. | .indexAddr .. | .field .. | .index .. | .extract .. | .binOp .. | .unOp .. | .slice .. | .makeFunc .. | .lookup .. | .makeInterface .. | .typeAssert .. | .nilCheck _=>true
 | .convert s d _=>s != d
 | .call { callee:=.builtin .len,.. } | .call { callee:=.builtin .min,.. } | .call { callee:=.builtin .max,.. }=>true
 | _=>false
def aH (P : Program) (d : Bool) (o : Oper) (K : St -> Prop) (st : St) : Prop :=
 if bU o.op = true then (ev P st o).1 /\ aJ st o.dst /\ K (st.put o.dst (ev P st o).2) else
 match o.op with
 | .alloc e=>match aT P e with
   | some z=>storable P e (ofValue z) /\ aJ st o.dst /\ bj st.bx /\ ∀ b,st.bx b = none -> K ((st.box b (some (.row e (aE P e) [ofValue z]))).put o.dst (.ptr b (aE P e) 0 0))
   | none=>False
 | .box e x=>storable P e (st.get x) /\ aJ st o.dst /\ bj st.bx /\ ∀ b,st.bx b = none -> K ((st.box b (some (.row e (aE P e) [st.get x]))).put o.dst (.ptr b (aE P e) 0 0))
 | .buildSlice t len parts=>match bu P t with
   | .slice e=>match aT P e with
     | some z=>storable P e (ofValue z) /\ 0 < aE P e /\ len * aE P e <= 16777216 /\ (∀ p,p ∈ parts.toList -> p.1 < len /\ storable P e (st.get p.2)) /\ aJ st o.dst /\ bj st.bx /\
      ∀ b,st.bx b = none -> K ((st.box b (some (.row e (aE P e) (dM st (List.replicate len (ofValue z)) parts.toList)))).put o.dst (.own b (aE P e) 0 len))
     | none=>False
   | _=>False
 | .makeSlice t l c=>match bu P t,(st.get l).strip,(st.get c).strip with
   | .slice e,.int _ l',.int _ c'=>match aT P e with
     | some z=>(st.get l).ax = true /\ (st.get c).ax = true /\ storable P e (ofValue z) /\ 0 < aE P e /\ l' = c' /\ 0 <= l' /\ (nX P e : Int) * c' <= 281474976710656 /\ c' <= 9223372036854775807 /\ aJ st o.dst /\ bj st.bx /\
      ∀ b,st.bx b = none -> K ((st.box b (some (.row e (aE P e) (List.replicate l'.toNat (ofValue z))))).put o.dst (.own b (aE P e) 0 l'.toNat))
     | none=>False
   | _,_,_=>False
 | .store t a x=>match st.get a with
   | .ptr b sz i o'=>match st.bx b with
     | some (.row ty eT es)=>sz = eT /\ i < es.length /\ storable P t (st.get x) /\ 0 < (st.get x).cells.length /\ o' + (st.get x).cells.length <= (es.getD i .cX).cells.length /\ o.dst = none /\
      K (st.box b (some (.row ty sz (es.set i (ba (es.getD i .cX) o' (st.get x).cells)))))
     | _=>False
   | _=>False
 | .makeMap _ none=>aJ st o.dst /\ bj st.bx /\ ∀ b,st.bx b = none -> K ((st.box b (some (.map []))).put o.dst (.mp b))
 | .range t x=>d = false /\ pW P st t (st.get x) o.dst K
 | .next x false=>d = false /\ uP st (st.get x) o.dst K
 | .entry x=>d = false /\ pX st (st.get x) o.dst K
 | .mapUpdate t m k x=>o.dst = none /\ oZ P st t (st.get m) (st.get k) (st.get x) K
 | .insert t m k x=>o.dst = none /\ oZ P st t (st.get m) (st.get k) (st.get x) K
 | .mapEntry t m k=>pV P st t (st.get m) (st.get k) o.dst K
 | .entryStore _ m s x=>o.dst = none /\ jc st (st.get m) (st.get s) (st.get x) K
 | .convert s _ x=>match bu P s,st.get x with
   | .slice e,.own b sz 0 n=>match st.bx b with
     | some (.row _ eT es)=>bu P e = .int .u8 /\ sz = 1 /\ eT = 1 /\ n = es.length /\ 0 < n /\ es.all yu = true /\ aJ st o.dst /\ K ((st.box b none).put o.dst (.sl 1 es))
     | _=>False
   | _,_=>False
 | .call c=>match c.callee,c.args.toList,c.argTypes.toList with
   | .builtin .append,[s,x],[t,t']=>(t = t' \/ bu P t' = .str) /\ c8 P st o.dst t (st.get s) (st.get x) K
   | .builtin .clear,[x],[t]=>d = false /\ o.dst = none /\ sJ P st t (st.get x) K
   | .builtin .delete,[m,k],[t,_]=>o.dst = none /\ sK P st t (st.get m) (st.get k) K
   | .invoke recv name,args,_=>d = false /\ uj P st o.dst (st.get recv) name (args.map st.get) K
   | .value f,args,_=>match callee st f args with
     | some (g,vs)=>eN st f args /\ aJ st o.dst /\
      (if d = true then ∃ r,ay P g vs st.bx r /\ K (st.put o.dst r)
       else aw P g vs st.bx fun r bx'=>K ({ st with bx:=bx' }.put o.dst r))
     | none=>False
   | _,_,_=>False
 | _=>False
def dQ (ops : Array Oper) (st : St) (g : Nat) (want : Bool) : Option Bool :=
 match (ops[g]?).bind (·.dst) with
 | some d=>match (st.sl d).strip with
   | .bool c=>some ((st.sl d).ax && (c == want))
   | _=>none
 | none=>none
def bE (P : Program) (d : Bool) (ops : Array Oper) (o : Oper) (K : St -> Prop) (st : St) : Prop :=
 match o.guard with
 | none=>aH P d o K st
 | some (g,want)=>match dQ ops st g want with
   | some wb =>
     if bU o.op = true then (wb = true -> (ev P st o).1) /\ aJ st o.dst /\ K (st.put o.dst (eo wb (ev P st o).2)) else
     match o.op with
     | .call { callee:=.value f,args:=args,.. }=>match callee st f args.toList with
       | some (q,vs)=>aJ st o.dst /\ ∃ r,(wb = true -> eN st f args.toList /\ ay P q vs st.bx r) /\ K (st.put o.dst (eo wb r))
       | none=>False
     | _=>(wb = true -> aH P d o K st) /\ (wb = false -> aJ st o.dst /\ K (st.put o.dst (.dead .cX)))
   | none=>False
def oo (P : Program) (d : Bool) (ops : Array Oper) (K : St -> Prop) : List Oper -> St -> Prop
 | [],st=>K st
 | o :: rest,st=>bE P d ops o (oo P d ops K rest) st
section
variable {P : Program} {β : Beta} {M : dP} {bx : aa} {w : World}
theorem iP {k : Nat} {x : TypeId × Nat} (hx : w.shape? k = some x) : k < w.heap.size:=by
 rcases Nat.lt_or_ge k w.heap.size with h1 | h1
 ·exact h1
 ·simp [World.shape?,Array.getElem?_eq_none h1] at hx
theorem B9 (h : eu β M bx w) (b : Nat) {b' : Nat} (hβ' : β b' = none) {w' : World} (uN : w'.os = w.os) (QS : w'.tape = w.tape) (L5 : w'.output = w.output) (wm : w.drawn <= w'.drawn) (bV : w.heap.size <= w'.heap.size)
 (pd : ∀ k,k < w.heap.size -> (bx b ≠ none -> β b ≠ some (some k)) -> w'.heap[k]? = w.heap[k]?) (eY : ∀ k x,w.shape? k = some x -> w'.shape? k = some x)
 (tgt : Option Nat) (ty : TypeId) (sz : Nat) (es : List V) (B8 : 0 < sz \/ es ≠ []) (j7 : tgt = none -> es = [])
 (hsome : ∀ g,tgt = some g -> (w.heap.size <= g \/ (bx b ≠ none /\ β b = some (some g))) /\ g < w'.heap.size /\ ∃ cur fr,w'.heap[g]? = some (.cells cur ty fr) /\ oT cur.size fr /\ es.length * sz <= cur.size /\ dT β w (Fz β M bx w) sz es cur) :
 eu (aA β b' (some tgt)) M (aA (aA bx b none) b' (some (.row ty sz es))) w' /\ Tr β bx w (aA β b' (some tgt)) (aA (aA bx b none) b' (some (.row ty sz es))) w':=by
 have iO : ∀ q x,β q = some x -> aA β b' (some tgt) q = some x:=by
  intro q x hx
  rw [ae _ _ (by rintro rfl; rw [hβ'] at hx; cases hx)]; exact hx
 have hold : ∀ q,q ≠ b' -> aA (aA bx b none) b' (some (.row ty sz es)) q ≠ none -> bx q ≠ none /\ q ≠ b:=by
  intro q hq h1
  rw [ae _ _ hq] at h1
  by_cases e : q = b
  ·subst e; simp [af] at h1
  ·rw [ae _ _ e] at h1; exact ⟨h1,e⟩
 have dt : ∀ q k,bx q ≠ none -> β q = some (some k) -> k < w.heap.size /\ M k = none:=by
  intro q k h1 h2
  obtain ⟨box,dK⟩:=Option.ne_none_iff_exists'.1 h1
  rcases h.live q box dK with ⟨h3,_⟩ | ⟨k',h3,h4,h5,_⟩
  ·rw [h3] at h2; cases h2
  ·rw [h3] at h2; injection h2 with e; injection e with e; subst e; exact ⟨h4,h5⟩
 have hF : ∀ k,Fz β M bx w k -> Fz (aA β b' (some tgt)) M (aA (aA bx b none) b' (some (.row ty sz es))) w' k /\ w'.heap[k]? = w.heap[k]?:=by
  rintro k ⟨h1,h2,h3⟩
  refine ⟨⟨by omega,h2,fun q hq he=>?_⟩,pd k h1 (fun hb=>h3 b hb)⟩
  by_cases e : q = b'
  ·subst e
   rw [af] at he
   injection he with he
   rcases (hsome k he).1 with h4 | ⟨h4,h5⟩
   ·omega
   ·exact h3 b h4 h5
  ·rw [ae _ _ e] at he
   exact h3 q (hold q e hq).1 he
 constructor
 ·refine ⟨?_,fun k o hM=>(pd k (h.nW hM) (fun hb he=>by have:=(dt b k hb he).2; rw [hM] at this; cases this)).trans (h.mlt k o hM),fun q box hq=>?_,fun q1 q2 k h1 h2 h3 h4=>?_⟩
  ·obtain ⟨n,hn⟩:=h.fin
   refine ⟨max n (b' + 1),fun q hq=>?_⟩
   rw [ae _ _ (by omega)]
   exact hn q (by omega)
  ·by_cases e : q = b'
   ·subst e
    rw [af] at hq
    injection hq with hq
    subst hq
    cases tgt with
    | none=>exact .inl ⟨af _ _ _,j7 rfl⟩
    | some g =>
      obtain ⟨h1,h2,cur,fr,h3,h30,h4,h5⟩:=hsome g rfl
      refine .inr ⟨g,af _ _ _,h2,?_,cur,fr,h3,h30,h4,fun i e he=>⟨(h5 i e he).1,fun j c hc=>⟨((h5 i e he).2 j c hc).1,((h5 i e he).2 j c hc).2.mono iO hF eY⟩⟩⟩
      rcases h1 with h1 | ⟨h1,h6⟩
      ·exact h.sy h1
      ·exact (dt b g h1 h6).2
   ·obtain ⟨h1,h2⟩:=hold q e (by rw [hq]; simp)
    rw [ae _ _ e,ae _ _ h2] at hq
    rcases h.live q box hq with ⟨h3,h4⟩ | ⟨k,h3,h4,h5,h6⟩
    ·exact .inl ⟨iO _ _ h3,h4⟩
    ·refine .inr ⟨k,iO _ _ h3,by omega,h5,bh h6 (pd k h4 (fun hb he=>h2 (h.inj q b k h1 hb h3 he))) iO hF eY⟩
  ·by_cases e1 : q1 = b' <;> by_cases e2 : q2 = b'
   ·rw [e1,e2]
   ·obtain ⟨h5,h6⟩:=hold q2 e2 h2
    rw [ae _ _ e2] at h4
    rw [e1,af] at h3
    injection h3 with h3
    rcases (hsome k h3).1 with h7 | ⟨h7,h8⟩
    ·have:=(dt q2 k h5 h4).1; omega
    ·exact absurd (h.inj q2 b k h5 h7 h4 h8) h6
   ·obtain ⟨h5,h6⟩:=hold q1 e1 h1
    rw [ae _ _ e1] at h3
    rw [e2,af] at h4
    injection h4 with h4
    rcases (hsome k h4).1 with h7 | ⟨h7,h8⟩
    ·have:=(dt q1 k h5 h3).1; omega
    ·exact absurd (h.inj q1 b k h5 h7 h3 h8) h6
   ·rw [ae _ _ e1] at h3
    rw [ae _ _ e2] at h4
    exact h.inj q1 q2 k (hold q1 e1 h1).1 (hold q2 e2 h2).1 h3 h4
 ·refine ⟨uN,QS,L5,fun _=>wm,fun hm=>?_,bV,fun k h1 h2=>pd k h1 (h2 b),eY,iO,fun q k h1 h2=>?_⟩
  ·obtain ⟨q,oO,hq⟩:=Mk.kh hm (yq B8)
   by_cases e : q = b
   ·subst e; rw [af] at hq; cases hq
   ·exact ⟨q,oO,by rwa [ae _ _ e] at hq⟩
  by_cases e : q = b'
  ·subst e
   rw [af] at h2
   injection h2 with h2
   rcases (hsome k h2).1 with h3 | h3
   ·exact .inr h3
   ·exact .inl ⟨b,h3⟩
  ·rw [ae _ _ e] at h2
   exact .inl ⟨q,(hold q e h1).1,h2⟩
def Marks (B : Nat) : (Nat -> Option Obj) -> List Deferred -> Prop
 | _,[]=>True
 | M,d :: ds=>∃ D,d = { target:=.collected D,args:=#[] } /\ B <= D /\ M D = some (.deferred (some [])) /\ Marks B (aA M D none) ds
theorem Marks.mono {B : Nat} : ∀ {ds : List Deferred} {M M' : Nat -> Option Obj},(∀ k o,M k = some o -> M' k = some o) -> Marks B M ds -> Marks B M' ds
 | [],_,_,_,h=>h
 | d :: ds,M,M',hm,⟨D,h1,hB,h2,h3⟩=>⟨D,h1,hB,hm _ _ h2,Marks.mono (fun k o hk=>by
  by_cases e : k = D
  ·subst e; simp [aA] at hk
  ·rw [ae _ _ e] at hk ⊢; exact hm k o hk) h3⟩
structure Rs (P : Program) (β : Beta) (M : dP) (st : St) (a : Act) (w : World) : Prop where
 ok : eu β M st.bx w
 sl : ∀ t,aP β w (Fz β M st.bx w) (st.sl t) (a.tmps.getD t undef)
 sz : st.n <= a.tmps.size
 df : ∃ ms,a.defers = ms ++ M.df /\ Marks M.base M.obj ms
 bs : M.base <= w.heap.size
 gl : oU P β w (Fz β M st.bx w)
theorem Rs.Kp {st : St} {a : Act} (h : Rs P β M st a w) : sD β (Fz β M st.bx w) st a w:=⟨h.sl⟩
theorem Rs.get {st : St} {a : Act} (h : Rs P β M st a w) (x : Operand) : aP β w (Fz β M st.bx w) (st.get x) (a.eval x):=h.Kp.get x
theorem Rs.put {st : St} {a : Act} (h : Rs P β M st a w) {dst : Option Tmp} {v : V} {u : Value} (hd : aJ st dst) (hv : aP β w (Fz β M st.bx w) v u) : Rs P β M (st.put dst v) (a.put dst u) w:=by
 cases dst with
 | none=>exact h
 | some d =>
   have Z3 : d < a.tmps.size:=Nat.lt_of_lt_of_le hd h.sz
   refine ⟨h.ok,fun t=>?_,by simpa [St.put,Act.put] using h.sz,h.df,h.bs,h.gl⟩
   simp only [St.put,Act.put,aA]
   by_cases e : t = d
   ·subst e
    simpa [Z3] using hv
   ·rw [if_neg e]
    have:=h.sl t
    simpa [Array.getElem?_setIfInBounds_ne (Ne.symm e)] using this
theorem Rs.step {st : St} {a : Act} (h : Rs P β M st a w) {β' : Beta} {bx' : aa} {w' : World} (h1 : eu β' M bx' w') (h2 : Tr β st.bx w β' bx' w') : Rs P β' M { st with bx:=bx' } a w' :=
 ⟨h1,fun t=>h2.rep (h.sl t),h.sz,h.df,Nat.le_trans h.bs h2.size,h.gl.imp (fun _ _ hh=>h2.rep hh) h2.shape⟩
theorem sL {F : Nat -> Prop} {v : V} {u : Value} {sz : Nat} (ho : okV v = true) (hl : v.cells.length = sz) (h : aP β w F v u) : dT β w F sz [v] u.cells:=by
 intro i e he
 match i,he with
 | 0,he =>
   simp at he
   subst he
   refine ⟨hl,fun j c hc=>?_⟩
   simpa using (gU ho h).2 j c hc
 | i + 1,he=>simp at he
theorem wq {α : Type} (f : Nat -> α) (x : Nat) (u v : α) : aA (aA f x u) x v = aA f x v:=by
 funext y
 by_cases e : y = x
 ·subst e; simp [af]
 ·simp [ae _ _ e]
theorem Rs.alloc {st : St} {a : Act} (h : Rs P β M st a w) {K : St -> Prop} {K' : Act -> World -> Prop} (hK : ∀ st' β' a' w',K st' -> Rs P β' M st' a' w' -> Tr β st.bx w β' st'.bx w' -> K' a' w')
 (cur : Array Value) (ty : TypeId) (sz : Nat) (es : List V) (B8 : 0 < sz \/ es ≠ []) (hl : es.length * sz <= cur.size) (hr : dT β w (Fz β M st.bx w) sz es cur) {dst : Option Tmp} (hd : aJ st dst) (v : Nat -> V) (u : Value)
 (hv : ∀ b β' w' F,β' b = some (some w.heap.size) -> w'.shape? w.heap.size = some (ty,cur.size) -> aP β' w' F (v b) u) (hk : ∀ b,st.bx b = none -> K ((st.box b (some (.row ty sz es))).put dst (v b))) :
 K' (a.put dst u) (w.alloc (.cells cur ty)):=by
 obtain ⟨b,h1,h2⟩:=h.ok.fresh
 obtain ⟨h3,h4⟩:=uO h.ok h1 h2 cur ty sz es B8 hl hr
 refine hK _ _ _ _ (hk b h2) (((h.step h3 h4)).put (st:={ st with bx:=_ }) ?_ (hv b _ _ _ (af _ _ _) (bJ (heap_alloc_new w _)))) ?_
 ·cases dst <;> exact hd
 ·cases dst <;> exact h4
end
end Go.Pl
namespace Go.Pl
open Go
section
variable {P : Program} {β : Beta} {M : dP} {w : World}
theorem HY {e : TypeId} {u : Value} : (Instr.box e u).run P w = .ok (.pointer (some ⟨w.heap.size,0,none⟩)) (w.alloc (.cells u.cells e)):=by
 simp [Instr.box,newVar,newRow]
theorem jV {e : TypeId} {z : Value} (h : aT P e = some z) : ∃ i,P.info? e = some i /\ i.zero = some z:=by
 unfold aT at h
 cases hi : P.info? e with
 | none=>simp [hi] at h
 | some i=>exact ⟨i,rfl,by simpa [hi] using h⟩
theorem Df {e : TypeId} {z : Value} (h : aT P e = some z) : (Instr.alloc e true (.tuple #[])).run P w = .ok (.pointer (some ⟨w.heap.size,0,none⟩)) (w.alloc (.cells z.cells e)):=by
 obtain ⟨i,h1,h2⟩:=jV h
 simp [Instr.alloc,zeroValue,typeInfo,h1,h2,newVar,newRow]
theorem Ap {F : Nat -> Prop} {sz : Nat} {es : List V} {cur cur' : Array Value} (h : dT β w F sz es cur) {i : Nat} (hi : i < es.length) (bV : es.length * sz <= cur.size) {v : V} {u : Value} (ho : okV v = true) (hl : v.cells.length = sz) (hr : aP β w F v u)
 (aV : ∀ m,cur'.getD m undef = if i * sz <= m /\ m < i * sz + sz then u.cells.toList.getD (m - i * sz) undef else cur.getD m undef) : dT β w F sz (es.set i v) cur':=by
 intro i' e he
 by_cases e1 : i' = i
 ·subst e1
  rw [List.getElem?_set_self hi] at he
  injection he with he
  subst he
  refine ⟨hl,fun j c hc=>?_⟩
  have hj : j < sz:=by have:=(List.getElem?_eq_some_iff.1 hc).1; omega
  rw [aV,if_pos (by omega)]
  have:=(gU ho hr).2 j c hc
  have e2 : i' * sz + j - i' * sz = j:=by omega
  rw [e2]
  simpa using this
 ·rw [List.getElem?_set_ne (Ne.symm e1)] at he
  obtain ⟨h1,h2⟩:=h i' e he
  refine ⟨h1,fun j c hc=>?_⟩
  have hj : j < sz:=by have:=(List.getElem?_eq_some_iff.1 hc).1; omega
  have bp : ¬ (i * sz <= i' * sz + j /\ i' * sz + j < i * sz + sz):=by
   rintro ⟨h3,h4⟩
   rcases Nat.lt_or_gt_of_ne e1 with h5 | h5
   ·have : (i' + 1) * sz <= i * sz:=Nat.mul_le_mul_right _ h5
    rw [Nat.succ_mul] at this
    omega
   ·have : (i + 1) * sz <= i' * sz:=Nat.mul_le_mul_right _ h5
    rw [Nat.succ_mul] at this
    omega
  rw [aV,if_neg bp]
  exact h2 j c hc
theorem sM {F : Nat -> Prop} {st : St} {a : Act} (hg : ∀ x,aP β w F (st.get x) (a.eval x)) {t : TypeId} {sz len : Nat} (bV : aE P t = sz) : ∀ (ps : List (Nat × Operand)) (es : List V) (cur : Array Value),es.length = len -> len * sz <= cur.size -> dT β w F sz es cur ->
 (∀ p,p ∈ ps -> p.1 < len /\ storable P t (st.get p.2)) ->
 ∃ cur',Instr.fill (fun i=>some (i * sz,sz)) cur (ps.map fun (i,x)=>(i,a.eval x)) = some cur' /\ cur'.size = cur.size /\ dT β w F sz (dM st es ps) cur' /\ (dM st es ps).length = len
 | [],es,cur,hl,hs,hr,_=>⟨cur,rfl,rfl,hr,hl⟩
 | (i,x) :: ps,es,cur,hl,hs,hr,hp=>by
   obtain ⟨hi,_,ho,Kq⟩:=hp (i,x) (by simp)
   simp only at hi ho Kq
   have hu:=gU ho (hg x)
   have QT : (a.eval x).cells.size = sz:=by rw [hu.1,Kq,bV]
   have fp : i * sz + sz <= cur.size:=by
    have : (i + 1) * sz <= len * sz:=Nat.mul_le_mul_right _ hi
    rw [Nat.succ_mul] at this
    omega
   obtain ⟨h1,h2⟩:=foldl_set (i * sz) (a.eval x).cells.toList 0 cur (by simp; omega)
   have hz : ∀ (c : Array Value),((a.eval x).cells.zipIdx.foldl (fun cs (c,j)=>cs.setIfInBounds (i * sz + j) c) c) = ((a.eval x).cells.toList.zipIdx 0).foldl (fun (cs : Array Value) (x : Value × Nat)=>cs.setIfInBounds (i * sz + x.2) x.1) c:=by
    intro c
    rw [<- Array.foldl_toList]
    simp
   obtain ⟨cur',h3,h4,h5,h6⟩:=sM hg bV ps (es.set i (st.get x)) _ (by simpa using hl) (by rw [h1]; exact hs)
    (Ap (cur':=((a.eval x).cells.toList.zipIdx 0).foldl (fun (cs : Array Value) (x : Value × Nat)=>cs.setIfInBounds (i * sz + x.2) x.1) cur) hr (by omega) (by rw [hl]; exact hs) ho (by rw [Kq,bV]) (hg x) (fun m=>by
     rw [h2 m]
     simp only [Nat.add_zero,Array.length_toList,QT])) (fun p qA=>hp p (by simp [qA]))
   refine ⟨cur',?_,by rw [h4,h1],h5,h6⟩
   simp only [List.map_cons,Instr.fill,QT,ne_eq,not_true_eq_false,false_or]
   rw [if_neg (by simp; omega)]
   have h3':=h3
   rw [<- hz] at h3'
   exact h3'
theorem ko {F : Nat -> Prop} {z : Value} {sz n len : Nat} (ho : okV (ofValue z) = true) (hl : (ofValue z).cells.length = sz) (bV : 0 < sz) (cur : Array Value) (hn : len * sz <= n) (aV : ∀ m,m < n -> cur.getD m undef = z.cells.getD (m % sz) undef) : dT β w F sz (List.replicate len (ofValue z)) cur:=by
 intro i e he
 rw [List.getElem?_replicate] at he
 split at he
 ·rename_i hi
  injection he with he
  subst he
  refine ⟨hl,fun j c hc=>?_⟩
  have hj : j < sz:=by have:=(List.getElem?_eq_some_iff.1 hc).1; omega
  have fp : i * sz + j < len * sz:=by
   have : (i + 1) * sz <= len * sz:=Nat.mul_le_mul_right _ hi
   rw [Nat.succ_mul] at this
   omega
  rw [aV _ (by omega)]
  have : (i * sz + j) % sz = j:=by rw [Nat.mul_comm,Nat.mul_add_mod]; exact Nat.mod_eq_of_lt hj
  rw [this]
  exact (gU ho (dc z)).2 j c hc
 ·cases he
theorem eO {z : Value} (ho : okV (ofValue z) = true) : z.cells.size = (ofValue z).cells.length :=
 (gU (β:=fun _=>none) (w:=default) (F:=fun _=>False) ho (dc z)).1
theorem y7 (z : Value) (sz n : Nat) (bV : 0 < sz) (hz : z.cells.size = sz) (m : Nat) (hm : m < n) : ((Array.range n).map (z.cells[· % z.cells.size]!)).getD m undef = z.cells.getD (m % sz) undef:=by
 have h1 : m % sz < z.cells.size:=by rw [hz]; exact Nat.mod_lt _ bV
 have h2 : m % z.cells.size < z.cells.size:=by rw [hz] at h1 ⊢; exact h1
 simp only [Array.getD_eq_getD_getElem?,Array.getElem?_map,Array.getElem?_range,hm,if_true,Option.map_some,Option.getD_some,hz]
 simp [h1]
theorem pe {base : Nat} {t ty e : TypeId} {i : TypeInfo} {size : Nat} (ht : P.underlying t = some (.slice e)) (hi : P.info? e = some i)
 {v : Value} {n : Nat} {xs : List Value} (fq : w.ownsRow base e size v n xs) (c : Nat) : (Builtin.append_ #[t,t] ty #[v,.slice none 0 c]).run P w = .ok v w:=by
 rcases fq.2 with ⟨rfl,rfl⟩ | ⟨g,cap,cur,rfl,_,_,rM,_⟩
 ·simp [Builtin.append_,run_underlying ht,sizeOf,typeInfo,hi,Builtin.lenOf,Builtin.firstCells]
 ·simp [Builtin.append_,run_underlying ht,sizeOf,typeInfo,hi,Builtin.lenOf,Builtin.firstCells,rM,storeCells]
theorem Dg {st : St} {a : Act} (h : Rs P β M st a w) {sz : Nat} (bV : 0 < sz) {x : V} {u : Value} (hx : aP β w (Fz β M st.bx w) x u) {news : List V} (hs : bP st sz x = some news) (L6 : ∀ s,x ≠ .str s) :
 ∃ (A : Option Addr) (c : Nat) (vals : List Value),u = .slice A news.length c /\ vals.length = news.length * sz /\ (∀ v,v ∈ vals -> v.oneCell' = true) /\ dT β w (Fz β M st.bx w) sz news vals.toArray /\
  ((A = none /\ news = []) \/ ∃ ad,A = some ad /\ ∀ (j : Nat) (v : Value),vals[j]? = some v -> w.cell? (ad.add j) = some v):=by
 unfold bP at hs
 split at hs
 ·injection hs with hs
  subst hs
  cases hx
  exact ⟨none,0,[],rfl,by simp,by simp,fun i e he=>by simp at he,.inl ⟨rfl,rfl⟩⟩
 ·rename_i eT es
  split at hs
  ·rename_i e
   have e':=e.symm
   subst e'
   injection hs with hs
   subst hs
   cases hx with
   | sl sz es A cap u0 kz gT hA Z4 hc hr =>
     have eX : ∀ m,m < es.length * sz -> ((List.range (es.length * sz)).map u0).toArray.getD m undef = u0 m:=fun m hm=>by simp [hm]
     have hbound : ∀ (i : Nat) (e : V) (j : Nat) (c : V),es[i]? = some e -> e.cells[j]? = some c -> i * sz + j < es.length * sz:=by
      intro i e j c he gP
      have h1:=(List.getElem?_eq_some_iff.1 he).1
      have h2:=(List.getElem?_eq_some_iff.1 gP).1
      have h3:=Z4 e (List.mem_of_getElem? he)
      have : (i + 1) * sz <= es.length * sz:=Nat.mul_le_mul_right _ h1
      rw [Nat.succ_mul] at this
      omega
     have QU : ∀ m,m < es.length * sz -> ∃ (i : Nat) (e : V) (j : Nat) (c : V),es[i]? = some e /\ e.cells[j]? = some c /\ i * sz + j = m:=by
      intro m hm
      have h1 : m / sz < es.length:=(Nat.div_lt_iff_lt_mul bV).2 hm
      have h2 : m % sz < sz:=Nat.mod_lt _ bV
      have h3:=Z4 _ (List.getElem_mem h1)
      refine ⟨m / sz,es[m / sz],m % sz,(es[m / sz]).cells[m % sz]'(by omega),List.getElem?_eq_getElem h1,List.getElem?_eq_getElem _,?_⟩
      have:=Nat.div_add_mod m sz
      rw [Nat.mul_comm] at this
      exact this
     refine ⟨A,cap,(List.range (es.length * sz)).map u0,rfl,by simp,fun v hv=>?_,fun i e he=>⟨Z4 e (List.mem_of_getElem? he),fun j c gP=>?_⟩,?_⟩
     ·obtain ⟨m,hm,rfl⟩:=List.mem_map.1 hv
      obtain ⟨i,e,j,c,h1,h2,rfl⟩:=QU m (by simpa using hm)
      obtain ⟨_,_,_,_,h3⟩:=hc i e j c h1 h2
      exact h3
     ·have hb:=hbound i e j c he gP
      rw [eX _ hb]
      obtain ⟨_,_,_,_,h3⟩:=hc i e j c he gP
      exact ⟨h3,hr i e j c he gP⟩
     ·cases A with
      | none =>
        by_cases wu : es = []
        ·exact .inl ⟨rfl,wu⟩
        ·exact absurd rfl (hA wu)
      | some ad =>
        refine .inr ⟨ad,rfl,fun j v hj=>?_⟩
        rw [List.getElem?_map] at hj
        by_cases hjm : j < es.length * sz
        ·rw [List.getElem?_range hjm] at hj
         simp at hj
         subst hj
         obtain ⟨i,e,j',c,h1,h2,rfl⟩:=QU j hjm
         obtain ⟨a',ha,_,h3,_⟩:=hc i e j' c h1 h2
         injection ha with ha
         subst ha
         exact h3
        ·rw [List.getElem?_eq_none (by simpa using hjm)] at hj
         simp at hj
  ·cases hs
 ·rename_i b eT o n
  split at hs
  ·rename_i ty sz'' es hb
   split at hs
   ·rename_i hh
    obtain ⟨e1,e2,hle⟩:=hh
    have e1':=e1.symm
    have e2':=e2.symm
    subst e1'
    subst e2'
    injection hs with hs
    subst hs
    have hlen : ((es.drop o).take n).length = n:=by simp; omega
    cases hx with
    | nv b sz bL =>
      exact ⟨none,0,[],by simp,by simp,by simp,fun i e he=>by simp at he,.inl ⟨rfl,by simp⟩⟩
    | own b sz o n k cap m oO bL eY hm hn gT =>
      rcases h.ok.live b _ hb with ⟨h1,_⟩ | ⟨k',h1,_,_,cur,fr,aV,iG,jn,aq⟩
      ·rw [bL] at h1; cases h1
      ·rw [bL] at h1
       injection h1 with h1
       injection h1 with h1
       subst h1
       have y4 : ∀ i,o * sz + i * sz = (o + i) * sz:=fun i=>(Nat.add_mul _ _ _).symm
       have fp : (o + n) * sz <= cur.size:=Nat.le_trans (Nat.mul_le_mul_right _ hle) jn
       rw [Nat.add_mul] at fp
       have eX : ∀ m,m < n * sz -> ((cur.toList.drop (o * sz)).take (n * sz)).toArray.getD m undef = cur.getD (o * sz + m) undef:=by
        intro m hm
        simp only [Array.getD_eq_getD_getElem?,List.getElem?_toArray,List.getElem?_take,hm,if_true,List.getElem?_drop,Array.getElem?_toList]
       refine ⟨some ⟨k,o * sz,none⟩,cap,(cur.toList.drop (o * sz)).take (n * sz),by rw [hlen],by rw [hlen]; simp; omega,fun v hv=>?_,fun i e he=>?_,.inr ⟨_,rfl,fun j v hj=>?_⟩⟩
       ·obtain ⟨m,QV⟩:=List.mem_iff_getElem?.1 hv
        have QW : m < n * sz:=by
         have:=(List.getElem?_eq_some_iff.1 QV).1
         simp at this
         omega
        have h4 : m / sz < n:=(Nat.div_lt_iff_lt_mul bV).2 QW
        have h5 : m % sz < sz:=Nat.mod_lt _ bV
        have h6 : o + m / sz < es.length:=by omega
        obtain ⟨h7,h8⟩:=aq (o + m / sz) _ (List.getElem?_eq_getElem h6)
        have h9:=(h8 (m % sz) _ (List.getElem?_eq_getElem (by omega))).1
        have r9 : (o + m / sz) * sz + m % sz = o * sz + m:=by
         have:=Nat.div_add_mod m sz
         rw [Nat.mul_comm] at this
         rw [Nat.add_mul]
         omega
        rw [r9,<- eX m QW] at h9
        simp only [Array.getD_eq_getD_getElem?,List.getElem?_toArray,QV,Option.getD_some] at h9
        exact h9
       ·rw [List.getElem?_take,List.getElem?_drop] at he
        split at he
        ·rename_i hi
         obtain ⟨h7,h8⟩:=aq (o + i) e he
         refine ⟨h7,fun j c hc=>?_⟩
         have hj : j < sz:=by have:=(List.getElem?_eq_some_iff.1 hc).1; omega
         have aQ : i * sz + j < n * sz:=by
          have : (i + 1) * sz <= n * sz:=Nat.mul_le_mul_right _ hi
          rw [Nat.succ_mul] at this
          omega
         rw [eX _ aQ]
         have:=h8 j c hc
         rwa [show (o + i) * sz + j = o * sz + (i * sz + j) by rw [Nat.add_mul]; omega] at this
        ·cases he
       ·rw [List.getElem?_take,List.getElem?_drop] at hj
        split at hj
        ·rw [add_lit,cell_of_row w k _ cur ty fr aV]
         simpa using hj
        ·cases hj
   ·cases hs
  ·cases hs
 ·exact absurd rfl (L6 _)
 ·cases hs
end
end Go.Pl
namespace Go.Pl
open Go
section
variable {P : Program} {β : Beta} {M : dP} {w : World}
theorem uQ {w : World} {g : Nat} {cur : Array Value} {t : TypeId} {fr : Nat × Nat} (hg : w.heap[g]? = some (.cells cur t fr)) (hf : oT cur.size fr) {o : Nat} (ho : o < cur.size) : w.frozen? ⟨g,o,none⟩ = false:=by
 rcases hf with rfl | rfl
 ·simp [World.frozen?,hg]
 ·simp [World.frozen?,hg]
  omega
theorem dm (g o : Nat) (t : TypeId) (fr : Nat × Nat) : ∀ (vs : List Value) (i : Nat) (cur : Array Value) (w : World),w.heap[g]? = some (.cells cur t fr) -> oT cur.size fr -> o + i + vs.length <= cur.size -> (∀ v ∈ vs,v.oneCell' = true) ->
 (storeCells ⟨g,o,none⟩ vs i).run P w = .ok () (w.setRow g (cur.toList.take (o + i) ++ vs ++ cur.toList.drop (o + i + vs.length)).toArray)
 | [],i,cur,w,hg,_,_,_=>by
   simp only [storeCells,List.append_nil,List.length_nil,Nat.add_zero,List.take_append_drop,Array.toArray_toList]
   rw [setRow_self w g cur t fr hg]
   rfl
 | v :: rest,i,cur,w,hg,iG,hl,h1=>by
   have hi : o + i < cur.size:=by simp at hl; omega
   have wx : (⟨g,o,none⟩ : Addr).add i = ⟨g,o + i,none⟩:=by unfold Addr.add; split <;> simp_all
   have bA : w.cell? ⟨g,o + i,none⟩ = some cur[o + i]:=by simp [World.cell?,hg,hi]
   have Z5 : w.frozen? ⟨g,o + i,none⟩ = false:=uQ hg iG hi
   have iq : (store ((⟨g,o,none⟩ : Addr).add i) v).run P w = .ok () (w.setRow g (cur.setIfInBounds (o + i) v)):=by
    rw [wx,run_store P w _ v _ (h1 v (by simp)),bA]
    simp [Z5,setCell_eq_setRow w g (o + i) cur t fr v hg]
   have ih:=dm g o t fr rest (i + 1) (cur.setIfInBounds (o + i) v) (w.setRow g (cur.setIfInBounds (o + i) v)) (setRow_heap w g cur _ t _ hg) (by simpa using iG) (by simp at hl ⊢; omega) (fun x hx=>h1 x (by simp [hx]))
   simp only [storeCells,Sem.run_bind,iq,Result.andThen_ok,ih,setRow_setRow]
   congr 3
   have e:=list_seg_step cur.toList (o + i) v rest (by simp at hl ⊢; omega)
   simpa [Array.toList_setIfInBounds,Nat.add_assoc] using e
theorem j8 (t ty e : TypeId) (i : TypeInfo) (ht : P.underlying t = some (.slice e)) (hi : P.info? e = some i)
 (g sLen sCap : Nat) (cur : Array Value) {fr : Nat × Nat} (hg : w.heap[g]? = some (.cells cur e fr)) (iG : oT cur.size fr)
 (a : Addr) (m c : Nat) (news : List Value) (hl : news.length = m * i.size) (kD : ∀ j u,news[j]? = some u -> w.cell? (a.add j) = some u) (h1 : ∀ u ∈ news,u.oneCell' = true)
 (iQ : sLen + m <= sCap) (fp : sLen * i.size + news.length <= cur.size) :
 (Builtin.append_ #[t,t] ty #[.slice (some ⟨g,0,none⟩) sLen sCap,.slice (some a) m c]).run P w =
  .ok (.slice (some ⟨g,0,none⟩) (sLen + m) sCap) (w.setRow g (cur.toList.take (sLen * i.size) ++ news ++ cur.toList.drop (sLen * i.size + news.length)).toArray):=by
 have hf:=run_firstCells_some (P:=P) w i.size m a m c news hl kD
 have iq:=dm (P:=P) g (sLen * i.size) e fr news 0 cur w hg iG (by simpa using fp) h1
 simp only [Nat.add_zero] at iq
 simp [Builtin.append_,run_underlying ht,sizeOf,typeInfo,hi,Builtin.lenOf,iQ,hf,Addr.add_lit,iq]
theorem gG {w' : World} {row : Option Nat} (hg : w.grownBy w' row) (aq : ∀ k,row = some k -> ∀ x,w.shape? k = some x -> w'.shape? k = some x) : ∀ k x,w.shape? k = some x -> w'.shape? k = some x:=by
 intro k x hx
 by_cases e : row = some k
 ·exact aq k e x hx
 ·rw [bD (hg.block k (iP hx) (fun h=>e h.symm))]; exact hx
theorem wy {t ty e : TypeId} {i : TypeInfo} {z : Value} (ht : P.underlying t = some (.slice e)) (hi : P.info? e = some i) (hz : i.zero = some z) {size : Nat} {v : Value} {n : Nat} {xs : List Value} (fq : w.ownsRow 0 e size v n xs)
 {ad : Addr} {m c : Nat} {vals : List Value} (hl : vals.length = m * size) (kD : ∀ j u,vals[j]? = some u -> w.cell? (ad.add j) = some u) (h1 : ∀ u ∈ vals,u.oneCell' = true) (yg : n + m <= 9223372036854775807) (hbytes : (n + m) * i.bytes <= 140737488355328) (sI : i.size = size)
 {v' : Value} {w' : World} (h : (Builtin.append_ #[t,t] ty #[v,.slice (some ad) m c]).run P w = .ok v' w') : w.drawn <= w'.drawn:=by
 subst sI
 rcases fq.2 with ⟨rfl,rfl⟩ | ⟨g,cap,cur,rfl,Z6,hg,rM,y8,rN,lA⟩
 ·by_cases hm : m = 0
  ·subst hm
   have hn : vals = []:=List.eq_nil_of_length_eq_zero (by simpa using hl)
   subst hn
   have : (Builtin.append_ #[t,t] ty #[.slice none 0 0,.slice (some ad) 0 c]).run P w = .ok (.slice none 0 0) w:=by
    simp [Builtin.append_,run_underlying ht,sizeOf,typeInfo,hi,Builtin.lenOf,Builtin.firstCells,loadCells,loadCellsFrom]
   rw [this] at h
   injection h with _ h
   subst h
   exact Nat.le_refl _
  ·have hr:=run_append_nil (P:=P) w t ty e i z ht hi hz ad m c vals hl kD (by omega) (by omega) (by have hb:=hbytes; simp only [Nat.zero_add] at hb; omega)
   rw [hr] at h
   injection h with _ h
   subst h
   exact Nat.le_succ w.drawn
 ·by_cases iQ : n + m <= cap
  ·have fp : n * i.size + vals.length <= cur.size:=by rw [hl,rN,<- Nat.add_mul]; exact Nat.mul_le_mul_right _ iQ
   have hr:=run_append_room (P:=P) w t ty e i ht hi g n cap cur hg ad m c vals hl kD h1 iQ fp
   rw [hr] at h
   injection h with _ h
   subst h
   exact Nat.le_refl _
  ·have holds : ∀ j u,xs[j]? = some u -> w.cell? ((⟨g,0,none⟩ : Addr).add j) = some u:=fq.cells (g:=g) rfl
   have hr:=run_append_grow (P:=P) w t ty e i z ht hi hz ⟨g,0,none⟩ n cap xs fq.1 holds ad m c vals hl kD (by omega) (by omega) (growslice_fits (by omega) hbytes)
   rw [hr] at h
   injection h with _ h
   subst h
   exact Nat.le_succ w.drawn
theorem Aq {t ty e : TypeId} {z : Value} (ht : P.underlying t = some (.slice e)) (hz : aT P e = some z) (ga : storable P e (ofValue z)) (eK : 0 < aE P e)
 {v : Value} {n : Nat} {xs : List Value} (fq : w.ownsRow 0 e (aE P e) v n xs) (A : Option Addr) (m c : Nat) (vals : List Value) (hl : vals.length = m * aE P e) (h1 : ∀ u,u ∈ vals -> u.oneCell' = true)
 (hA : (A = none /\ m = 0) \/ ∃ ad,A = some ad /\ ∀ (j : Nat) (u : Value),vals[j]? = some u -> w.cell? (ad.add j) = some u) (yg : n + m <= 9223372036854775807) (hbytes : (n + m) * nX P e <= 140737488355328) :
 ∃ v' w',(Builtin.append_ #[t,t] ty #[v,.slice A m c]).run P w = .ok v' w' /\ w'.ownsRow 0 e (aE P e) v' (n + m) (xs ++ vals) /\ w.grownBy w' v.ownBlock /\ (v'.ownBlock = v.ownBlock \/ v'.ownBlock = some w.heap.size) /\
  w.drawn <= w'.drawn /\ (∀ k x,w.shape? k = some x -> w'.shape? k = some x):=by
 obtain ⟨i,hi,lM⟩:=jV hz
 have bV : i.size = aE P e:=by simp [aE,hi]
 have rB : i.bytes = nX P e:=by simp [nX,hi]
 rcases hA with ⟨rfl,rfl⟩ | ⟨ad,rfl,bA⟩
 ·have : vals = []:=List.eq_nil_of_length_eq_zero (by simpa using hl)
  subst this
  exact ⟨v,w,pe ht hi fq c,by simpa using fq,World.grownBy.refl w _,.inl rfl,Nat.le_refl _,fun _ _ h=>h⟩
 ·obtain ⟨v',w',h2,h3,h4,_,h6⟩:=run_append_own_at (P:=P) w 0 t ty e i z (aE P e) (nX P e) ht hi lM bV rB (by rw [eO ga.2.1]; exact ga.2.2) eK v n xs fq ad m c vals hl bA h1 (by simp only [maxLen]; omega) hbytes (Nat.zero_le _)
  refine ⟨v',w',h2,h3,h4,h6,wy ht hi lM fq hl bA h1 yg (by rw [rB]; exact hbytes) bV h2,?_⟩
  rcases fq.2 with ⟨rfl,_⟩ | ⟨g,cap,cur,rfl,_,aV,rM,y8,rN,lA⟩
  ·exact gG h4 (fun k hk=>by simp [Value.ownBlock] at hk)
  ·refine gG h4 (fun k hk x hx=>?_)
   simp [Value.ownBlock] at hk
   subst hk
   by_cases iQ : n + m <= cap
   ·have fp : n * i.size + vals.length <= cur.size:=by rw [hl,bV,rN,<- Nat.add_mul]; exact Nat.mul_le_mul_right _ iQ
    have hr:=run_append_room (P:=P) w t ty e i ht hi g n cap cur aV ad m c vals (by rw [bV]; exact hl) bA h1 iQ fp
    rw [hr] at h2
    injection h2 with _ h2
    subst h2
    rw [bJ aV] at hx
    rw [bJ (setRow_heap w g cur _ e _ aV),<- hx]
    simp
    omega
   ·have hr:=run_append_grow (P:=P) w t ty e i z ht hi lM ⟨g,0,none⟩ n cap xs (by rw [bV]; exact fq.1) (fq.cells (g:=g) rfl) ad m c vals (by rw [bV]; exact hl) bA (by omega) (by omega) (growslice_fits (by omega) (by rw [rB]; exact hbytes))
    rw [hr] at h2
    injection h2 with _ h2
    subst h2
    rw [bD (Go.RowKit.Below.heap_alloc w.drew _ g (iP hx))]
    exact hx
def kU (w : World) (e : TypeId) (size : Nat) (v : Value) (n : Nat) (xs : List Value) : Prop :=
 xs.length = n * size /\
 ((v = .slice none 0 0 /\ n = 0) \/
  ∃ g cap cur fr,v = .slice (some ⟨g,0,none⟩) n cap /\ w.heap[g]? = some (.cells cur e fr) /\ oT cur.size fr /\ n <= cap /\ cap <= maxLen /\ cap * size <= cur.size /\ cur.toList.take (n * size) = xs)
theorem mU {e : TypeId} {size : Nat} {v : Value} {n : Nat} {xs : List Value} (h : w.ownsRow 0 e size v n xs) : kU w e size v n xs:=by
 refine ⟨h.1,h.2.imp id ?_⟩
 rintro ⟨g,cap,cur,h1,_,h2,h3,h4,h5,h6⟩
 exact ⟨g,cap,cur,(0,0),h1,h2,.inl rfl,h3,h4,by omega,h6⟩
theorem uk {t ty e : TypeId} {z : Value} (ht : P.underlying t = some (.slice e)) (hz : aT P e = some z) (ga : storable P e (ofValue z)) (eK : 0 < aE P e)
 {v : Value} {n : Nat} {xs : List Value} (fq : kU w e (aE P e) v n xs) (A : Option Addr) (m c : Nat) (vals : List Value) (hl : vals.length = m * aE P e) (h1 : ∀ u,u ∈ vals -> u.oneCell' = true)
 (hA : (A = none /\ m = 0) \/ ∃ ad,A = some ad /\ ∀ (j : Nat) (u : Value),vals[j]? = some u -> w.cell? (ad.add j) = some u) (yg : n + m <= 9223372036854775807) (hbytes : (n + m) * nX P e <= 140737488355328) :
 ∃ v' w',(Builtin.append_ #[t,t] ty #[v,.slice A m c]).run P w = .ok v' w' /\ kU w' e (aE P e) v' (n + m) (xs ++ vals) /\ w.grownBy w' v.ownBlock /\ (v'.ownBlock = v.ownBlock \/ v'.ownBlock = some w.heap.size) /\
  w.drawn <= w'.drawn /\ (∀ k x,w.shape? k = some x -> w'.shape? k = some x):=by
 have old : w.ownsRow 0 e (aE P e) v n xs -> _:=fun h=>Aq (ty:=ty) ht hz ga eK h A m c vals hl h1 hA yg hbytes
 rcases fq.2 with ⟨rfl,rfl⟩ | ⟨g,cap,cur,fr,rfl,hg,iG,rM,y8,rN,lA⟩
 ·obtain ⟨v',w',a1,a2,a3⟩:=old ⟨fq.1,.inl ⟨rfl,rfl⟩⟩
  exact ⟨v',w',a1,mU a2,a3⟩
 by_cases heq : cur.size = cap * aE P e /\ fr = (0,0)
 ·obtain ⟨heq,rfl⟩:=heq
  obtain ⟨v',w',a1,a2,a3⟩:=old ⟨fq.1,.inr ⟨g,cap,cur,rfl,Nat.zero_le _,hg,rM,y8,heq,lA⟩⟩
  exact ⟨v',w',a1,mU a2,a3⟩
 obtain ⟨i,hi,lM⟩:=jV hz
 have bV : i.size = aE P e:=by simp [aE,hi]
 have rB : i.bytes = nX P e:=by simp [nX,hi]
 have EC : z.cells.size = i.size:=by rw [bV,eO ga.2.1]; exact ga.2.2
 rw [<- bV] at hl fq rN lA eK ⊢
 rw [<- rB] at hbytes
 have hlen : (xs ++ vals).length = (n + m) * i.size:=by rw [List.length_append,fq.1,hl,Nat.add_mul]
 rcases hA with ⟨rfl,rfl⟩ | ⟨ad,rfl,kD⟩
 ·have : vals = []:=List.eq_nil_of_length_eq_zero (by simpa using hl)
  subst this
  refine ⟨_,w,?_,by simpa using fq,World.grownBy.refl w _,.inl rfl,Nat.le_refl _,fun _ _ h=>h⟩
  simp [Builtin.append_,run_underlying ht,sizeOf,typeInfo,hi,Builtin.lenOf,Builtin.firstCells,rM,storeCells]
 ·by_cases iQ : n + m <= cap
  ·have fp : n * i.size + vals.length <= cur.size:=by
    rw [hl,<- Nat.add_mul]; exact Nat.le_trans (Nat.mul_le_mul_right _ iQ) rN
   have hr:=j8 (P:=P) (w:=w) t ty e i ht hi g n cap cur hg iG ad m c vals hl kD h1 iQ fp
   have rA : w.grownBy (w.setRow g (cur.toList.take (n * i.size) ++ vals ++ cur.toList.drop (n * i.size + vals.length)).toArray) (Value.ownBlock (.slice (some ⟨g,0,none⟩) n cap)) :=
    ⟨rfl,rfl,rfl,by simp,fun k _ hk=>setRow_other w g k _ (fun e=>hk (by simp [Value.ownBlock,e]))⟩
   refine ⟨_,_,hr,⟨hlen,.inr ⟨g,cap,_,fr,rfl,setRow_heap w g cur _ e _ hg,by rw [show (cur.toList.take (n * i.size) ++ vals ++ cur.toList.drop (n * i.size + vals.length)).toArray.size = cur.size by simp only [List.size_toArray,List.length_append,List.length_take,List.length_drop,Array.length_toList]; omega]; exact iG,iQ,y8,?_,?_⟩⟩,rA,.inl rfl,Nat.le_refl _,gG rA fun k hk x hx=>?_⟩
   ·simp only [List.size_toArray,List.length_append,List.length_take,List.length_drop,Array.length_toList]
    omega
   ·rw [lA,<- hlen]
    exact List.take_left
   ·simp [Value.ownBlock] at hk
    subst hk
    rw [bJ hg] at hx
    rw [bJ (setRow_heap w g cur _ e _ hg),<- hx]
    simp
    omega
  ·have holds : ∀ j u,xs[j]? = some u -> w.cell? ((⟨g,0,none⟩ : Addr).add j) = some u:=by
    intro j u hu
    have wx : (⟨g,0,none⟩ : Addr).add j = ⟨g,j,none⟩:=by unfold Addr.add; split <;> simp_all
    rw [wx,cell_of_row w g j cur e fr hg]
    rw [<- lA,List.getElem?_take] at hu
    split at hu
    ·simpa using hu
    ·cases hu
   have hr:=run_append_grow (P:=P) w t ty e i z ht hi lM ⟨g,0,none⟩ n cap xs fq.1 holds ad m c vals hl kD (by omega) (by omega) (growslice_fits (by omega) hbytes)
   have rA : w.grownBy (w.drew.alloc (.cells (xs.toArray ++ vals.toArray ++ Builtin.zeroCells z.cells (grownCap w (n + m) cap e - (n + m))) e)) (Value.ownBlock (.slice (some ⟨g,0,none⟩) n cap)) :=
    ⟨rfl,rfl,rfl,by simp,fun k hk _=>heap_alloc_old w.drew _ hk⟩
   have ue:=grownCap_ge w (n + m) cap e
   have Z7 : grownCap w (n + m) cap e <= maxLen:=grownCap_le_maxLen w (n + m) cap e (by simp only [maxLen]; omega)
   refine ⟨_,_,hr,⟨hlen,.inr ⟨w.heap.size,_,_,(0,0),rfl,heap_alloc_new w.drew _,.inl rfl,ue,Z7,?_,?_⟩⟩,rA,.inr rfl,Nat.le_succ w.drawn,gG rA fun k hk x hx=>?_⟩
   ·simp only [Array.size_append,List.size_toArray,size_zeroCells,EC,fq.1,hl,<- Nat.add_mul]
    exact Nat.le_of_eq (by congr 1; omega)
   ·simp only [Array.toList_append,List.append_assoc]
    rw [<- List.append_assoc,<- hlen]
    exact List.take_left
   ·rw [bD (Go.RowKit.Below.heap_alloc w.drew _ k (iP hx))]
    exact hx
theorem nH {F : Nat -> Prop} {sz : Nat} {es news : List V} {xs vals : List Value} (WS : xs.length = es.length * sz) (h1 : dT β w F sz es xs.toArray) (h2 : dT β w F sz news vals.toArray) (hv : vals.length = news.length * sz) (cur : Array Value)
 (aV : cur.toList.take ((es.length + news.length) * sz) = xs ++ vals) : dT β w F sz (es ++ news) cur:=by
 have eX : ∀ m,m < (es.length + news.length) * sz -> cur.getD m undef = (xs ++ vals).toArray.getD m undef:=by
  intro m hm
  rw [<- aV]
  simp only [Array.getD_eq_getD_getElem?,List.getElem?_toArray,List.getElem?_take,hm,if_true,Array.getElem?_toList]
 intro i e he
 by_cases hi : i < es.length
 ·rw [List.getElem?_append_left hi] at he
  obtain ⟨h3,h4⟩:=h1 i e he
  refine ⟨h3,fun j c hc=>?_⟩
  have hj : j < sz:=by have:=(List.getElem?_eq_some_iff.1 hc).1; omega
  have hb : i * sz + j < es.length * sz:=by
   have : (i + 1) * sz <= es.length * sz:=Nat.mul_le_mul_right _ hi
   rw [Nat.succ_mul] at this
   omega
  have aQ : i * sz + j < (es.length + news.length) * sz:=by rw [Nat.add_mul]; omega
  rw [eX _ aQ]
  have:=h4 j c hc
  have e2 : (xs ++ vals).toArray.getD (i * sz + j) undef = xs.toArray.getD (i * sz + j) undef:=by
   simp only [Array.getD_eq_getD_getElem?,List.getElem?_toArray]
   rw [List.getElem?_append_left (by omega)]
  rw [e2]; exact this
 ·have yh : es.length <= i:=by omega
  rw [List.getElem?_append_right yh] at he
  obtain ⟨h3,h4⟩:=h2 _ e he
  refine ⟨h3,fun j c hc=>?_⟩
  have hj : j < sz:=by have:=(List.getElem?_eq_some_iff.1 hc).1; omega
  have zX:=(List.getElem?_eq_some_iff.1 he).1
  have aQ : i * sz + j < (es.length + news.length) * sz:=by
   have : (i + 1) * sz <= (es.length + news.length) * sz:=Nat.mul_le_mul_right _ (by omega)
   rw [Nat.succ_mul] at this
   omega
  rw [eX _ aQ]
  have:=h4 j c hc
  have e3 : i * sz = es.length * sz + (i - es.length) * sz:=by rw [<- Nat.add_mul]; congr 1; omega
  have e2 : (xs ++ vals).toArray.getD (i * sz + j) undef = vals.toArray.getD ((i - es.length) * sz + j) undef:=by
   simp only [Array.getD_eq_getD_getElem?,List.getElem?_toArray]
   rw [List.getElem?_append_right (by omega)]
   congr 2
   omega
  rw [e2]; exact this
theorem ny {t u ty e : TypeId} {i : TypeInfo} (ht : P.underlying t = some (.slice e)) (hu : P.underlying u = some .string \/ u = t) (hi : P.info? e = some i) (Kr : i.size = 1)
 (g sLen sCap : Nat) (cur : Array Value) {fr : Nat × Nat} (hg : w.heap[g]? = some (.cells cur e fr)) (iG : oT cur.size fr) (s : ByteArray) (iQ : sLen + s.size <= sCap) (fp : sLen + s.size <= cur.size) :
 (Builtin.append_ #[t,u] ty #[.slice (some ⟨g,0,none⟩) sLen sCap,.string s]).run P w =
  .ok (.slice (some ⟨g,0,none⟩) (sLen + s.size) sCap) (w.setRow g (cur.toList.take sLen ++ Lib.strCells s ++ cur.toList.drop (sLen + s.size)).toArray):=by
 have hf:=Lib.run_firstCells_string (P:=P) w 1 s
 have iq:=dm (P:=P) g sLen e fr (Lib.strCells s) 0 cur w hg iG (by simpa [Lib.strCells_length] using fp) (Lib.strCells_oneCell s)
 rcases hu with hu | rfl
 ·simp only [Nat.add_zero,Lib.strCells_length] at iq
  simp [Builtin.append_,run_underlying ht,run_underlying hu,sizeOf,typeInfo,hi,Kr,Builtin.lenOf,iQ,hf,Addr.add_lit,iq]
 ·skip
  simp only [Nat.add_zero,Lib.strCells_length] at iq
  simp [Builtin.append_,run_underlying ht,sizeOf,typeInfo,hi,Kr,Builtin.lenOf,iQ,hf,Addr.add_lit,iq]
theorem nz {t u ty e : TypeId} {i : TypeInfo} {z : Value} (ht : P.underlying t = some (.slice e)) (hu : P.underlying u = some .string \/ u = t) (hi : P.info? e = some i) (hz : i.zero = some z)
 (b : Addr) (sLen sCap : Nat) (olds : List Value) (wz : olds.length = sLen * i.size) (holds : ∀ j v,olds[j]? = some v -> w.cell? (b.add j) = some v) (s : ByteArray)
 (hg : sCap < sLen + s.size) (yg : ((sLen + s.size : Nat) : Int) <= 9223372036854775807) (fp : Builtin.nextslicecap (sLen + s.size) sCap * i.bytes <= 281474976710656) :
 (Builtin.append_ #[t,u] ty #[.slice (some b) sLen sCap,.string s]).run P w =
  .ok (.slice (some ⟨w.heap.size,0,none⟩) (sLen + s.size) (grownCap w (sLen + s.size) sCap e))
   (w.drew.alloc (.cells (olds.toArray ++ (Lib.strCells s).toArray ++ Builtin.zeroCells z.cells (grownCap w (sLen + s.size) sCap e - (sLen + s.size))) e)):=by
 rcases hu with hu | rfl
 ·exact Lib.run_append_grow_string w t u ty e i z ht hu hi hz b sLen sCap olds wz holds s hg yg fp
 ·have hn : ¬ (sLen + s.size <= sCap):=by omega
  have HZ : ¬ (9223372036854775807 < ((sLen : Int) + (s.size : Int))):=by omega
  have Ia : ¬ (281474976710656 < Builtin.nextslicecap (sLen + s.size) sCap * i.bytes):=by omega
  have hf:=Lib.run_firstCells_string (P:=P) w.drew i.size s
  have hfo:=run_firstCells_some (P:=P) w.drew i.size sLen b sLen sCap olds wz (by simpa using holds)
  simp [Builtin.append_,run_underlying ht,sizeOf,typeInfo,zeroValue,hi,hz,Builtin.lenOf,hn,HZ,Ia,Question.forced,hf,hfo,newRow,grownCap]
  congr 2
  apply Array.ext'
  simp [List.append_assoc]
theorem ot {t u ty e : TypeId} {i : TypeInfo} {z : Value} (ht : P.underlying t = some (.slice e)) (hu : P.underlying u = some .string \/ u = t) (hi : P.info? e = some i) (hz : i.zero = some z)
 (s : ByteArray) (h0 : 0 < s.size) (yg : (s.size : Int) <= 9223372036854775807) (h48 : s.size * i.bytes <= 281474976710656) :
 (Builtin.append_ #[t,u] ty #[.slice none 0 0,.string s]).run P w =
  .ok (.slice (some ⟨w.heap.size,0,none⟩) s.size (grownCap w s.size 0 e))
   (w.drew.alloc (.cells ((Lib.strCells s).toArray ++ Builtin.zeroCells z.cells (grownCap w s.size 0 e - s.size)) e)):=by
 have hn : s.size ≠ 0:=by omega
 have HZ : ¬ (9223372036854775807 < (s.size : Int)):=by omega
 have Ia : ¬ (281474976710656 < Builtin.nextslicecap s.size 0 * i.bytes):=by rw [nextslicecap_zero h0]; omega
 have hf:=Lib.run_firstCells_string (P:=P) w.drew i.size s
 have hx : (Array.map (fun b : UInt8=>Value.int IntKind.u8 (b.toNat : Int)) s.data).extract 0 s.size = Array.map (fun b : UInt8=>Value.int IntKind.u8 (b.toNat : Int)) s.data:=by
  have hs : s.size = (Array.map (fun b : UInt8=>Value.int IntKind.u8 (b.toNat : Int)) s.data).size:=by rw [Array.size_map]; rfl
  rw [hs,Array.extract_size]
 rcases hu with hu | rfl
 ·simp [Builtin.append_,run_underlying ht,run_underlying hu,sizeOf,typeInfo,zeroValue,hi,hz,Builtin.lenOf,hn,HZ,Ia,Question.forced,hf,newRow,grownCap,Builtin.firstCells]
  rw [show (Lib.strCells s).toArray = Array.map (fun b : UInt8=>Value.int IntKind.u8 (b.toNat : Int)) s.data by apply Array.ext'; simp [Lib.strCells]]
  rw [hx]
 ·simp [Builtin.append_,run_underlying ht,sizeOf,typeInfo,zeroValue,hi,hz,Builtin.lenOf,hn,HZ,Ia,Question.forced,hf,newRow,grownCap,Builtin.firstCells]
  rw [show (Lib.strCells s).toArray = Array.map (fun b : UInt8=>Value.int IntKind.u8 (b.toNat : Int)) s.data by apply Array.ext'; simp [Lib.strCells]]
  rw [hx]
theorem pf {t u ty e : TypeId} {z : Value} (ht : P.underlying t = some (.slice e)) (hu : P.underlying u = some .string \/ u = t) (hz : aT P e = some z) (ga : storable P e (ofValue z)) (Kr : aE P e = 1)
 {v : Value} {n : Nat} {xs : List Value} (fq : kU w e (aE P e) v n xs) (s : ByteArray) (yg : n + s.size <= 9223372036854775807) (hbytes : (n + s.size) * nX P e <= 140737488355328) :
 ∃ v' w',(Builtin.append_ #[t,u] ty #[v,.string s]).run P w = .ok v' w' /\ kU w' e (aE P e) v' (n + s.size) (xs ++ Lib.strCells s) /\ w.grownBy w' v.ownBlock /\ (v'.ownBlock = v.ownBlock \/ v'.ownBlock = some w.heap.size) /\
  w.drawn <= w'.drawn /\ (∀ k x,w.shape? k = some x -> w'.shape? k = some x):=by
 obtain ⟨i,hi,lM⟩:=jV hz
 have bV : i.size = aE P e:=by simp [aE,hi]
 have rB : i.bytes = nX P e:=by simp [nX,hi]
 have EC : z.cells.size = i.size:=by rw [bV,eO ga.2.1]; exact ga.2.2
 rw [<- rB] at hbytes
 rw [Kr] at bV fq ⊢
 have QX : xs.length = n:=by simpa using fq.1
 have hlen : (xs ++ Lib.strCells s).length = (n + s.size) * 1:=by rw [List.length_append,QX,Lib.strCells_length,Nat.mul_one]
 rcases fq.2 with ⟨rfl,rfl⟩ | ⟨g,cap,cur,fr,rfl,hg,iG,rM,y8,rN,lA⟩
 ·have hx : xs = []:=List.eq_nil_of_length_eq_zero QX
  subst hx
  by_cases hm : s.size = 0
  ·have hn : Lib.strCells s = []:=List.eq_nil_of_length_eq_zero (by rw [Lib.strCells_length]; exact hm)
   refine ⟨.slice none 0 0,w,?_,by rw [hm,hn]; exact ⟨rfl,.inl ⟨rfl,rfl⟩⟩,⟨rfl,rfl,rfl,Nat.le_refl _,fun _ _ _=>rfl⟩,.inl rfl,Nat.le_refl _,fun _ _ h=>h⟩
   have hf:=Lib.run_firstCells_string (P:=P) w 1 s
   rw [hm] at hf
   rcases hu with hu | rfl
   ·simp [Builtin.append_,run_underlying ht,run_underlying hu,sizeOf,typeInfo,hi,bV,Builtin.lenOf,hm,hf]
   ·simp [Builtin.append_,run_underlying ht,sizeOf,typeInfo,hi,bV,Builtin.lenOf,hm,hf]
  ·have hr:=ot (P:=P) (w:=w) (ty:=ty) ht hu hi lM s (by omega) (by omega) (by have hb:=hbytes; simp only [Nat.zero_add] at hb; omega)
   have ue:=grownCap_ge w s.size 0 e
   have y8 : grownCap w s.size 0 e <= maxLen:=grownCap_le_maxLen w s.size 0 e (by simp only [maxLen]; omega)
   refine ⟨_,_,hr,⟨hlen,.inr ⟨w.heap.size,grownCap w s.size 0 e,_,(0,0),by simp,heap_alloc_new w.drew _,.inl rfl,by simpa using ue,y8,?_,?_⟩⟩,⟨rfl,rfl,rfl,by simp,fun k hk _=>heap_alloc_old w.drew _ hk⟩,.inr rfl,Nat.le_succ w.drawn,?_⟩
   ·simp only [Array.size_append,List.size_toArray,size_zeroCells,EC,bV,Lib.strCells_length]
    omega
   ·simp only [Array.toList_append,List.nil_append,Nat.zero_add,Nat.mul_one]
    exact List.take_left' (Lib.strCells_length s)
   ·intro k x hx
    rw [bD (Go.RowKit.Below.heap_alloc w.drew _ k (iP hx))]
    exact hx
 ·by_cases iQ : n + s.size <= cap
  ·have fp : n + s.size <= cur.size:=by omega
   have hr:=ny (P:=P) (w:=w) (ty:=ty) ht hu hi bV g n cap cur hg iG s iQ fp
   have rA : w.grownBy (w.setRow g (cur.toList.take n ++ Lib.strCells s ++ cur.toList.drop (n + s.size)).toArray) (Value.ownBlock (.slice (some ⟨g,0,none⟩) n cap)) :=
    ⟨rfl,rfl,rfl,by simp,fun k _ hk=>setRow_other w g k _ (fun e=>hk (by simp [Value.ownBlock,e]))⟩
   refine ⟨_,_,hr,⟨hlen,.inr ⟨g,cap,_,fr,rfl,setRow_heap w g cur _ e _ hg,by rw [show (cur.toList.take n ++ Lib.strCells s ++ cur.toList.drop (n + s.size)).toArray.size = cur.size by simp only [List.size_toArray,List.length_append,List.length_take,List.length_drop,Array.length_toList,Lib.strCells_length]; omega]; exact iG,iQ,y8,?_,?_⟩⟩,rA,.inl rfl,Nat.le_refl _,gG rA fun k hk x hx=>?_⟩
   ·simp only [List.size_toArray,List.length_append,List.length_take,List.length_drop,Array.length_toList,Lib.strCells_length]
    omega
   ·rw [Nat.mul_one] at lA
    rw [lA,<- hlen]
    exact List.take_left
   ·simp [Value.ownBlock] at hk
    subst hk
    rw [bJ hg] at hx
    rw [bJ (setRow_heap w g cur _ e _ hg),<- hx]
    simp only [List.size_toArray,List.length_append,List.length_take,List.length_drop,Array.length_toList,Lib.strCells_length]
    congr 2
    omega
  ·have holds : ∀ j u,xs[j]? = some u -> w.cell? ((⟨g,0,none⟩ : Addr).add j) = some u:=by
    intro j u hj
    rw [<- lA,List.getElem?_take] at hj
    split at hj
    ·rw [Array.getElem?_toList] at hj
     have : (⟨g,0,none⟩ : Addr).add j = ⟨g,j,none⟩:=by unfold Addr.add; by_cases h : j = 0 <;> simp [h]
     rw [this]
     simp [World.cell?,hg,hj]
    ·cases hj
   have hr:=nz (P:=P) (w:=w) (ty:=ty) ht hu hi lM ⟨g,0,none⟩ n cap xs (by rw [bV]; exact fq.1) holds s (by omega) (by omega) (growslice_fits (by omega) hbytes)
   have ue:=grownCap_ge w (n + s.size) cap e
   have y8 : grownCap w (n + s.size) cap e <= maxLen:=grownCap_le_maxLen w (n + s.size) cap e (by simp only [maxLen]; omega)
   refine ⟨_,_,hr,⟨hlen,.inr ⟨w.heap.size,_,_,(0,0),rfl,heap_alloc_new w.drew _,.inl rfl,ue,y8,?_,?_⟩⟩,⟨rfl,rfl,rfl,by simp,fun k hk _=>heap_alloc_old w.drew _ hk⟩,.inr rfl,Nat.le_succ w.drawn,?_⟩
   ·simp only [Array.size_append,List.size_toArray,size_zeroCells,EC,bV,QX,Lib.strCells_length]
    omega
   ·simp only [Array.toList_append,List.append_assoc]
    rw [<- List.append_assoc,<- hlen]
    exact List.take_left
   ·intro k x hx
    rw [bD (Go.RowKit.Below.heap_alloc w.drew _ k (iP hx))]
    exact hx
theorem w6 {st : St} {a : Act} {K : St -> Prop} {K' : Act -> World -> Prop} {dst : Option Tmp} {t ty : TypeId} {s x : V} {us ux : Value} (h : c8 P st dst t s x K) {t' : TypeId} (HA : t = t' \/ bu P t' = .str) (hr : Rs P β M st a w)
 (rs : aP β w (Fz β M st.bx w) s us) (rx : aP β w (Fz β M st.bx w) x ux) (hK : ∀ st' β' a' w',K st' -> Rs P β' M st' a' w' -> Tr β st.bx w β' st'.bx w' -> K' a' w') :
 ∃ v w',(Builtin.append_ #[t,t'] ty #[us,ux]).run P w = .ok v w' /\ K' (a.put dst v) w':=by
 unfold c8 at h
 split at h
 ·rename_i e hk
  have ht:=bq hk
  split at h
  ·rename_i news z jO hz
   obtain ⟨ga,eK,hd,_,h⟩:=h
   obtain ⟨vals,Kq,Z8,run⟩ : ∃ vals : List Value,vals.length = news.length * aE P e /\ dT β w (Fz β M st.bx w) (aE P e) news vals.toArray /\
    ∀ (v : Value) (n : Nat) (xs : List Value),kU w e (aE P e) v n xs -> n + news.length <= 9223372036854775807 -> (n + news.length) * nX P e <= 140737488355328 ->
     ∃ v' w',(Builtin.append_ #[t,t'] ty #[v,ux]).run P w = .ok v' w' /\ kU w' e (aE P e) v' (n + news.length) (xs ++ vals) /\ w.grownBy w' v.ownBlock /\ (v'.ownBlock = v.ownBlock \/ v'.ownBlock = some w.heap.size) /\
      w.drawn <= w'.drawn /\ (∀ k x,w.shape? k = some x -> w'.shape? k = some x):=by
    by_cases hstr : ∃ bs,x = .str bs
    ·obtain ⟨bs,rfl⟩:=hstr
     obtain ⟨sx,rfl,rfl⟩:=rx.dW
     simp only [bP] at jO
     split at jO
     ·rename_i h1
      injection jO with jO
      subst jO
      have hu : P.underlying t' = some .string \/ t' = t:=HA.elim (fun h=>.inr h.symm) (fun h=>.inl (fh h))
      have hl : (sx.data.toList.map dI).length = sx.size:=by simp
      refine ⟨Lib.strCells sx,by rw [Lib.strCells_length,hl,h1,Nat.mul_one],fun i e0 he=>?_,fun v n xs fq yg rB=>?_⟩
      ·simp only [List.getElem?_map,Option.map_eq_some_iff] at he
       obtain ⟨b0,dD,rfl⟩:=he
       refine ⟨by rw [h1]; rfl,fun j c hc=>?_⟩
       have hj : j = 0:=by rcases j with _ | j; rfl; simp [dI,V.cells] at hc
       subst hj
       simp [dI,V.cells] at hc
       subst hc
       rw [h1,Nat.mul_one,Nat.add_zero]
       have : (Lib.strCells sx).toArray.getD i undef = .int .u8 b0.toNat:=by
        simp [Lib.strCells,Array.getD_eq_getD_getElem?,dD]
       rw [this]
       exact ⟨rfl,.int _ _⟩
      ·rw [hl] at yg rB ⊢
       exact pf ht hu hz ga h1 fq sx yg rB
     ·cases jO
    ·obtain ⟨A,c,vals,rfl,Kq,Dh,Z8,hA⟩:=Dg hr eK rx jO fun s e=>hstr ⟨s,e⟩
     have hA' : (A = none /\ news.length = 0) \/ ∃ ad,A = some ad /\ ∀ (j : Nat) (u : Value),vals[j]? = some u -> w.cell? (ad.add j) = some u:=by
      rcases hA with ⟨h1,h2⟩ | h1
      ·exact .inl ⟨h1,by simp [h2]⟩
      ·exact .inr h1
     refine ⟨vals,Kq,Z8,fun v n xs fq yg rB=>?_⟩
     obtain ⟨v',w',h1,h2⟩:=uk (ty:=ty) ht hz ga eK fq A news.length c vals Kq Dh hA' yg rB
     refine ⟨v',w',?_,h2⟩
     have he : (Builtin.append_ #[t,t'] ty #[v,.slice A news.length c]).run P w = (Builtin.append_ #[t,t] ty #[v,.slice A news.length c]).run P w:=by
      rcases HA with rfl | HA
      ·rfl
      ·obtain ⟨i,hi,_⟩:=jV hz
       cases v with
       | slice base sLen sCap=>simp [Builtin.append_,run_underlying ht,run_underlying (fh HA),sizeOf,typeInfo,hi,Builtin.lenOf]
       | _=>simp [Builtin.append_,run_underlying ht,stuck]
     rw [he]
     exact h1
   have finish : ∀ (b : Nat) (n : Nat) (es : List V) (xs : List Value) (v : Value) (v' : Value) (w' : World),(st.bx b ≠ none -> (β b = some none /\ v.ownBlock = none) \/ ∃ k,β b = some (some k) /\ v.ownBlock = some k /\ k < w.heap.size) -> (st.bx b = none -> v.ownBlock = none) -> es.length = n -> xs.length = n * aE P e ->
    dT β w (Fz β M st.bx w) (aE P e) es xs.toArray -> kU w' e (aE P e) v' (n + news.length) (xs ++ vals) -> w.grownBy w' v.ownBlock -> w.drawn <= w'.drawn -> (v'.ownBlock = v.ownBlock \/ v'.ownBlock = some w.heap.size) -> (∀ k,v.ownBlock = some k -> ∀ x,w.shape? k = some x -> w'.shape? k = some x) ->
    (∀ b',aA st.bx b none b' = none -> K (((st.box b none).box b' (some (.row e (aE P e) (es ++ news)))).put dst (.own b' (aE P e) 0 (n + news.length)))) -> K' (a.put dst v') w':=by
    intro b n es xs v v' w' hb hbn wu WS aq fq hg wm Di vS hk
    obtain ⟨b',eU,c9⟩:=hr.ok.fresh
    have uo : aA st.bx b none b' = none:=by
     by_cases e0 : b' = b
     ·subst e0; exact af _ _ _
     ·rw [ae _ _ e0]; exact c9
    have pd : ∀ k,k < w.heap.size -> (st.bx b ≠ none -> β b ≠ some (some k)) -> w'.heap[k]? = w.heap[k]?:=by
     intro k dV fJ
     refine hg.block k dV (fun e0=>?_)
     by_cases eV : st.bx b = none
     ·rw [hbn eV] at e0; cases e0
     ·rcases hb eV with ⟨_,h3⟩ | ⟨k',h3,h4,_⟩
      ·rw [h3] at e0; cases e0
      ·rw [h4] at e0; injection e0 with e0; subst e0; exact fJ eV h3
    have eY:=gG hg vS
    have QY:=fq.2
    rcases QY with ⟨L7,hzero⟩ | ⟨g,cap,cur,fr,w7,aV,iG,hle,y8,rN,lA⟩
    ·
     have Dk : es = []:=List.eq_nil_of_length_eq_zero (by omega)
     have Pn : news = []:=List.eq_nil_of_length_eq_zero (by omega)
     obtain ⟨h3,h4⟩:=B9 hr.ok b eU hg.os hg.tape hg.output wm hg.size pd eY none e (aE P e) (es ++ news) (.inl eK) (fun _=>by simp [Dk,Pn]) (fun g hg=>by cases hg)
     refine hK _ _ _ _ (hk b' uo) ((hr.step h3 h4).put (st:={ st with bx:=_ }) (by cases dst <;> exact hd) ?_) (by cases dst <;> exact h4)
     rw [L7,hzero]
     exact .nv b' _ (af _ _ _)
    ·have yi : g = w.heap.size \/ (st.bx b ≠ none /\ β b = some (some g)):=by
      rcases Di with h5 | h5
      ·have QQ : v'.ownBlock = some g:=by rw [w7]; rfl
       rw [QQ] at h5
       by_cases eV : st.bx b = none
       ·rw [hbn eV] at h5; cases h5
       ·rcases hb eV with ⟨_,h6⟩ | ⟨k',h6,h7,_⟩
        ·rw [h6] at h5; cases h5
        ·rw [h7] at h5; injection h5 with h5; subst h5; exact .inr ⟨eV,h6⟩
      ·have QQ : v'.ownBlock = some g:=by rw [w7]; rfl
       rw [QQ] at h5
       injection h5 with h5
       exact .inl h5
     have dt : g < w'.heap.size:=(Array.getElem?_eq_some_iff.1 aV).1
     obtain ⟨h3,h4⟩:=B9 hr.ok b eU hg.os hg.tape hg.output wm hg.size pd eY (some g) e (aE P e) (es ++ news) (.inl eK) (fun h0=>by cases h0) (fun g0 hg0=>by
      injection hg0 with hg0
      subst hg0
      refine ⟨yi.imp (fun h=>by omega) id,dt,cur,fr,aV,iG,?_,nH (by rw [wu]; exact WS) aq Z8 Kq cur (by rw [wu]; exact lA)⟩
      rw [List.length_append,wu]
      exact Nat.le_trans (Nat.mul_le_mul_right _ hle) rN)
     refine hK _ _ _ _ (hk b' uo) ((hr.step h3 h4).put (st:={ st with bx:=_ }) (by cases dst <;> exact hd) ?_) (by cases dst <;> exact h4)
     rw [w7]
     have:=aP.own (β:=aA β b' (some (some g))) (w:=w') (F:=Fz (aA β b' (some (some g))) M (aA (aA st.bx b none) b' (some (.row e (aE P e) (es ++ news)))) w') b' (aE P e) 0 (n + news.length) g cap _ e (af _ _ _) (bJ aV) (by simpa using rN) hle (by simpa using y8)
     simpa using this
   split at h
   ·
    obtain ⟨rB,yg,h⟩:=h
    cases rs
    obtain ⟨v',w',h1,h2,h3,h4,wm,vS⟩:=run _ _ _ (mU (World.ownsRow_nil w 0 e (aE P e))) (by omega) (by simpa using rB)
    refine ⟨v',w',h1,?_⟩
    obtain ⟨b,eU,c9⟩:=hr.ok.fresh
    refine finish b 0 [] [] (.slice none 0 0) v' w' (fun hb=>absurd c9 hb) (fun _=>rfl) rfl (by simp) (fun i e he=>by simp at he) h2 h3 wm h4 (fun k _=>vS k) (fun b' aQ=>?_)
    have Z9 : st.bx b' = none:=by
     by_cases e0 : b' = b
     ·rw [e0]; exact c9
     ·rwa [ae _ _ e0] at aQ
    have:=h b' Z9
    have heq : (st.box b none) = st:=by
     unfold St.box
     have : aA st.bx b none = st.bx:=by
      funext q
      by_cases e0 : q = b
      ·subst e0; rw [af,c9]
      ·rw [ae _ _ e0]
     rw [this]
    rw [heq]
    simpa using this
   ·
    rename_i b sz n
    split at h
    ·rename_i e' eT es hb
     obtain ⟨rfl,rfl,rfl,hn,rB,yg,h⟩:=h
     cases rs with
     | nv b sz bL =>
       have wu : es = []:=by
        rcases hr.ok.live b _ hb with ⟨_,h1⟩ | ⟨k,h1,_⟩
        ·exact h1
        ·rw [bL] at h1; cases h1
       subst wu
       obtain ⟨v',w',h1,h2,h3,h4,wm,vS⟩:=run _ _ _ (mU (World.ownsRow_nil w 0 e' (aE P e'))) (by omega) rB
       refine ⟨v',w',h1,?_⟩
       refine finish b 0 [] [] (.slice none 0 0) v' w' (fun _=>.inl ⟨bL,rfl⟩) (fun _=>rfl) rfl (by simp) (fun i e he=>by simp at he) h2 h3 wm h4 (fun k _=>vS k) (fun b' aQ=>?_)
       simpa using h b' aQ
     | own b sz o n k cap m oO bL eY hm rM gT =>
       rcases hr.ok.live b _ hb with ⟨h1,_⟩ | ⟨k',h1,pY,_,cur,fr,aV,iG,jn,aq⟩
       ·rw [bL] at h1; cases h1
       ·rw [bL] at h1
        injection h1 with h1
        injection h1 with h1
        subst h1
        have rN : cap * aE P e' <= cur.size:=by
         rw [bJ aV] at eY
         injection eY with eY
         injection eY with _ eY
         rw [eY]
         simpa using hm
        have fq : kU w e' (aE P e') (.slice (some ⟨k,0 * aE P e',none⟩) n cap) n (cur.toList.take (n * aE P e')):=by
         refine ⟨?_,.inr ⟨k,cap,cur,fr,by simp,aV,iG,rM,by omega,rN,rfl⟩⟩
         have : n * aE P e' <= cur.size:=Nat.le_trans (Nat.mul_le_mul_right _ rM) rN
         simp
         omega
        obtain ⟨v',w',h1,h2,h3,h4,wm,vS⟩:=run _ _ _ fq yg rB
        refine ⟨v',w',h1,?_⟩
        refine finish b n (es.take n) (cur.toList.take (n * aE P e')) _ v' w' (fun _=>.inr ⟨k,bL,rfl,pY⟩) (fun eV=>absurd hb (by rw [eV]; simp)) (by simp; omega) fq.1 ?_ h2 h3 wm h4 ?_ h
        ·intro i e0 he
         rw [List.getElem?_take] at he
         split at he
         ·rename_i hi
          obtain ⟨h5,h6⟩:=aq i e0 he
          refine ⟨h5,fun j c0 hc=>?_⟩
          have hj : j < aE P e':=by have:=(List.getElem?_eq_some_iff.1 hc).1; omega
          have aQ : i * aE P e' + j < n * aE P e':=by
           have : (i + 1) * aE P e' <= n * aE P e':=Nat.mul_le_mul_right _ hi
           rw [Nat.succ_mul] at this
           omega
          have e2 : (cur.toList.take (n * aE P e')).toArray.getD (i * aE P e' + j) undef = cur.getD (i * aE P e' + j) undef:=by
           simp only [Array.getD_eq_getD_getElem?,List.getElem?_toArray,List.getElem?_take,aQ,if_true,Array.getElem?_toList]
          rw [e2]
          exact h6 j c0 hc
         ·cases he
        ·exact fun k0 _ x hx=>vS k0 x hx
    ·exact h.elim
   ·exact h.elim
  ·exact h.elim
 ·exact h.elim
end
end Go.Pl
