/- Texts of the proof, put together: PlA, PlB, PlC, PlD, PlE, PlF, PlFa, PlGa, PlG, PlH, PlI, PlJ, PlK, PlL. -/
import Derived.WalkKit
import Derived.Below
import Derived.Maps.AppendAt
import Derived.Lib.Space
import Derived.Great.BuildSlice
import Derived.Deep.Slices
import Derived.Lib.ConvBytes
import Derived.Laws.BytesString
import Derived.Laws.StructEq
import Derived.Laws.Tables
import Derived.MapKept
import Derived.Lib.AppendStr
namespace Go.Pl
inductive V where
 | cU
 | int (k:IntKind) (n:Int)
 | bool (b:Bool)
 | str (s:List UInt8)
 | aH
 | sl (sz:Nat) (es:List V)
 | own (b sz o n:Nat)
 | ptr (b sz i o:Nat)
 | ep (e:V) (o:Nat)
 | eD
 | fn (f:Fn) (caps:List V)
 | gY
 | iface (t:TypeId) (v:V)
 | ir
 | mp (b:Nat)
 | gE
 | agg (cs:List V)
 | dc (cs:List V)
 | dead (v:V)
 | yl (b:Nat)
 deriving Inhabited
def V.cells:V -> List V
 | .agg cs=>cs
 | v=>[v]
def V.strip:V -> V
 | .dead v=>v.strip
 | v=>v
theorem oD:∀ v:V,v.strip.strip = v.strip
 | .dead v=>by simp only [V.strip]; exact oD v
 | .cU | .int .. | .bool _ | .str _ | .aH | .sl .. | .own .. | .ptr .. | .ep .. | .eD | .fn .. | .gY | .iface .. | .ir | .mp _ | .gE | .agg _ | .dc _ | .yl _=>rfl
def V.az:V -> Bool
 | .dead _=>false
 | _=>true
def eB (c:Bool) (v:V):V:=bif c then v else .dead v.strip
abbrev Beta:=Nat -> Option (Option Nat)
def sT (w:World) (F:Nat -> Prop) (A:Option Addr) (j:Nat) (u:Value):Prop :=
 ∃ a,A = some a /\ F a.block /\ w.cell? (a.add j) = some u /\ u.oneCell' = true
inductive aP (β:Beta) (w:World) (F:Nat -> Prop):V -> Value -> Prop
 | cU (u:Value):aP β w F .cU u
 | int (k:IntKind) (n:Int):aP β w F (.int k n) (.int k n)
 | bool (b:Bool):aP β w F (.bool b) (.bool b)
 | str (s:ByteArray):aP β w F (.str s.data.toList) (.string s)
 | aH:aP β w F .aH (.slice none 0 0)
 | sl (sz:Nat) (es:List V) (A:Option Addr) (cap:Nat) (u:Nat -> Value) (kP:es.length <= cap) (gZ:cap <= maxLen) (hA:es ≠ [] -> A ≠ none)
  (bW:∀ e,e ∈ es -> e.cells.length = sz)
  (hc:∀ (i:Nat) (e:V) (j:Nat) (c:V),es[i]? = some e -> e.cells[j]? = some c -> sT w F A (i * sz + j) (u (i * sz + j)))
  (hr:∀ (i:Nat) (e:V) (j:Nat) (c:V),es[i]? = some e -> e.cells[j]? = some c -> aP β w F c (u (i * sz + j))):aP β w F (.sl sz es) (.slice A es.length cap)
 | mi (b sz:Nat) (hb:β b = some none):aP β w F (.own b sz 0 0) (.slice none 0 0)
 | own (b sz o n k cap m:Nat) (ty:TypeId) (hb:β b = some (some k)) (hs:w.shape? k = some (ty,m)) (hm:(o + cap) * sz <= m) (hn:n <= cap) (gZ:o + cap <= maxLen) :
  aP β w F (.own b sz o n) (.slice (some ⟨k,o * sz,none⟩) n cap)
 | ptr (b sz i o k:Nat) (hb:β b = some (some k)):aP β w F (.ptr b sz i o) (.pointer (some ⟨k,i * sz + o,none⟩))
 | ep (e:V) (o:Nat) (a:Addr) (u:Nat -> Value) (hc:∀ (j:Nat) (c:V),e.cells[j]? = some c -> sT w F (some a) j (u j))
  (hr:∀ (j:Nat) (c:V),e.cells[j]? = some c -> aP β w F c (u j)):aP β w F (.ep e o) (.pointer (some (a.add o)))
 | eD:aP β w F .eD (.pointer none)
 | fn (f:Fn) (caps:List V) (us:Array Value) (hl:us.size = caps.length) (hr:∀ (i:Nat) (c:V),caps[i]? = some c -> aP β w F c (us.getD i undef)) (hy:∀ g r,f = .yield g -> caps ≠ [r]):aP β w F (.fn f caps) (.func f #[] us)
 | bm (f:FuncId) (r:V) (u:Value) (h:aP β w F r u):aP β w F (.fn (.yield f) [r]) (.func (.func f) #[u] #[])
 | gY:aP β w F .gY .nilFunc
 | iface (t:TypeId) (v:V) (u:Value) (h:aP β w F v u):aP β w F (.iface t v) (.iface t u)
 | ir:aP β w F .ir .nilIface
 | mp (b k:Nat) (hb:β b = some (some k)):aP β w F (.mp b) (.map (some k))
 | gE:aP β w F .gE (.map none)
 | agg (cs:List V) (us:Array Value) (hl:us.size = cs.length) (h1:∀ (i:Nat),i < cs.length -> (us.getD i undef).oneCell' = true) (hr:∀ (i:Nat) (c:V),cs[i]? = some c -> aP β w F c (us.getD i undef)) :
  aP β w F (.agg cs) (.agg us)
 | dc (cs:List V) (us:Array Value) (hl:us.size = cs.length) (hr:∀ (i:Nat) (c:V),cs[i]? = some c -> aP β w F c (us.getD i undef)):aP β w F (.dc cs) (.tuple us)
 | dead (v:V):aP β w F (.dead v) undef
 | yl (b k:Nat) (hb:β b = some (some k)):aP β w F (.yl b) (.func (.yield k) #[] #[])
theorem aP.mono {β β':Beta} {w w':World} {F F':Nat -> Prop} {v:V} {u:Value} (h:aP β w F v u) (bQ:∀ b x,β b = some x -> β' b = some x)
 (hF:∀ k,F k -> F' k /\ w'.heap[k]? = w.heap[k]?) (hs:∀ k x,w.shape? k = some x -> w'.shape? k = some x):aP β' w' F' v u:=by
 have bD:∀ A j u,sT w F A j u -> sT w' F' A j u:=by
  rintro A j u ⟨a,rfl,hf,hc,h1⟩
  refine ⟨a,rfl,(hF _ hf).1,?_,h1⟩
  have hb:(a.add j).block = a.block:=by unfold Addr.add; split <;> rfl
  rw [<- hc]
  exact World.cell?_of_block (w:=w) (by rw [hb]; exact (hF _ hf).2)
 induction h with
 | cU u=>exact .cU u
 | int k n=>exact .int k n
 | bool b=>exact .bool b
 | str s=>exact .str s
 | aH=>exact .aH
 | sl sz es A cap u kP gZ hA bW hc _ ih=>exact .sl sz es A cap u kP gZ hA bW (fun i e j c h1 h2=>bD _ _ _ (hc i e j c h1 h2)) ih
 | mi b sz hb=>exact .mi b sz (bQ _ _ hb)
 | own b sz o n k cap m ty hb vr hm hn gZ=>exact .own b sz o n k cap m ty (bQ _ _ hb) (hs _ _ vr) hm hn gZ
 | ptr b sz i o k hb=>exact .ptr b sz i o k (bQ _ _ hb)
 | ep e o a u hc _ ih=>exact .ep e o a u (fun j c h1=>bD _ _ _ (hc j c h1)) ih
 | eD=>exact .eD
 | fn f caps us hl _ hy ih=>exact .fn f caps us hl ih hy
 | bm f r u _ ih=>exact .bm f r u ih
 | gY=>exact .gY
 | iface t v u _ ih=>exact .iface t v u ih
 | ir=>exact .ir
 | mp b k hb=>exact .mp b k (bQ _ _ hb)
 | gE=>exact .gE
 | agg cs us hl h1 _ ih=>exact .agg cs us hl h1 ih
 | dc cs us hl _ ih=>exact .dc cs us hl ih
 | dead v=>exact .dead v
 | yl b k hb=>exact .yl b k (bQ _ _ hb)
inductive bF where
 | row (ty:TypeId) (sz:Nat) (es:List V)
 | map (es:List (V × V))
 | loop (pend:Option Code) (ps:Array Tmp) (good:Code -> Code -> Prop) (n:Nat) (sl:Nat -> V)
 | kz (es:List (V × V)) (bs:List Nat) (c:Nat)
 | iter (b since c0:Nat) (seen:List Nat)
 deriving Inhabited
abbrev aa:=Nat -> Option bF
structure dR where
 obj:Nat -> Option Obj
 base:Nat
 df:List Deferred
instance:CoeFun dR fun _=>Nat -> Option Obj:=⟨dR.obj⟩
def Fz (β:Beta) (M:dR) (bx:aa) (w:World) (k:Nat):Prop :=
 k < w.heap.size /\ M k = none /\ ∀ b,bx b ≠ none -> β b ≠ some (some k)
def p0 (n:Nat) (fr:Nat × Nat):Prop:=fr = (0,0) \/ fr = (n,n + 1)
def KP (β:Beta) (w:World) (F:Nat -> Prop) (k:Nat) (ty:TypeId) (sz:Nat) (es:List V):Prop :=
 ∃ (cur:Array Value) (fr:Nat × Nat),w.heap[k]? = some (.cells cur ty fr) /\ p0 cur.size fr /\ es.length * sz <= cur.size /\
  ∀ (i:Nat) (e:V),es[i]? = some e -> e.cells.length = sz /\ ∀ (j:Nat) (c:V),e.cells[j]? = some c -> (cur.getD (i * sz + j) undef).oneCell' = true /\ aP β w F c (cur.getD (i * sz + j) undef)
def Ry (β:Beta) (w:World) (F:Nat -> Prop) (k:Nat) (es:List (V × V)):Prop :=
 ∃ (ms:Array MapEntry) (clock:Nat),w.heap[k]? = some (.map ms clock) /\ ms.size = es.length /\
  (∀ (i:Nat) (m:MapEntry),ms[i]? = some m -> m.born < clock /\ ∀ j m',ms[j]? = some m' -> m'.born = m.born -> j = i) /\
  ∀ (i:Nat) (x:V × V) (m:MapEntry),es[i]? = some x -> ms[i]? = some m -> aP β w F x.1 m.key /\ aP β w F x.2 m.val
def A4 (β:Beta) (w:World) (F:Nat -> Prop) (k:Nat) (es:List (V × V)) (bs:List Nat) (c:Nat):Prop :=
 ∃ ms:Array MapEntry,w.heap[k]? = some (.map ms c) /\ bs = ms.toList.map MapEntry.born /\ ms.size = es.length /\
  (∀ (i:Nat) (m:MapEntry),ms[i]? = some m -> m.born < c /\ ∀ j m',ms[j]? = some m' -> m'.born = m.born -> j = i) /\
  ∀ (i:Nat) (x:V × V) (m:MapEntry),es[i]? = some x -> ms[i]? = some m -> aP β w F x.1 m.key /\ aP β w F x.2 m.val
def LY (β:Beta) (w:World) (k b since c0:Nat) (seen:List Nat):Prop :=
 ∃ kb,β b = some (some kb) /\ w.heap[k]? = some (.mapIter (some kb) since seen.toArray c0) /\ since <= c0
def LZ (β:Beta) (w:World) (F:Nat -> Prop) (k:Nat) (pend:Option Code) (ps:Array Tmp) (good:Code -> Code -> Prop) (n:Nat) (sl:Nat -> V):Prop :=
 ∃ rec:Loop,w.heap[k]? = some (.loop rec) /\ rec.state = (if pend.isNone then .ready else .done) /\ rec.pending = pend /\ rec.params = ps /\ good rec.assign rec.body /\ n <= rec.tmps.size /\ ∀ t,aP β w F (sl t) (rec.tmps.getD t undef)
def od (β:Beta) (w:World) (F:Nat -> Prop) (k:Nat):bF -> Prop
 | .row ty sz es=>KP β w F k ty sz es
 | .map es=>Ry β w F k es
 | .loop pend ps good n sl=>LZ β w F k pend ps good n sl
 | .kz es bs c=>A4 β w F k es bs c
 | .iter b since c0 seen=>LY β w k b since c0 seen
def bF.empty:bF -> Prop
 | .row _ _ es=>es = []
 | .map _=>False
 | .loop ..=>False
 | .kz ..=>False
 | .iter ..=>False
structure er (β:Beta) (M:dR) (bx:aa) (w:World):Prop where
 fin:∃ n,∀ b,n <= b -> β b = none
 mlt:∀ k o,M k = some o -> w.heap[k]? = some o
 live:∀ b box,bx b = some box -> (β b = some none /\ box.empty) \/ ∃ k,β b = some (some k) /\ k < w.heap.size /\ M k = none /\ od β w (Fz β M bx w) k box
 inj:∀ b b' k,bx b ≠ none -> bx b' ≠ none -> β b = some (some k) -> β b' = some (some k) -> b = b'
theorem er.oE {β:Beta} {M:dR} {bx:aa} {w:World} (h:er β M bx w) {k:Nat} {o:Obj} (hM:M k = some o):k < w.heap.size :=
 (Array.getElem?_eq_some_iff.1 (h.mlt k o hM)).1
theorem er.sU {β:Beta} {M:dR} {bx:aa} {w:World} (h:er β M bx w) {k:Nat} (hk:w.heap.size <= k):M k = none:=by
 cases hM:M k with
 | none=>rfl
 | some o=>exact absurd (h.oE hM) (by omega)
def Mk (bx:aa):Prop:=∃ b ty,bx b = some (.row ty 0 [])
theorem yI {ty:TypeId} {sz:Nat} {es:List V} (h:0 < sz \/ es ≠ []):∀ mj,some (bF.row ty sz es) ≠ some (.row mj 0 []):=by
 rintro mj e
 injection e with e
 injection e with _ e1 e2
 rcases h with h | h
 ·omega
 ·exact h e2
theorem Mk.kA {bx:aa} {b:Nat} {x:Option bF} (h:Mk (fun b'=>if b' = b then x else bx b')) (hx:∀ ty,x ≠ some (.row ty 0 [])):Mk bx:=by
 obtain ⟨b',ty,h⟩:=h
 by_cases e:b' = b
 ·subst e; simp at h; exact absurd h (hx ty)
 ·exact ⟨b',ty,by simpa [e] using h⟩
structure Tr (β:Beta) (bx:aa) (w:World) (β':Beta) (bx':aa) (w':World):Prop where
 os:w'.os = w.os
 tape:w'.tape = w.tape
 output:w'.output = w.output
 drawn:¬ Mk bx -> w.drawn <= w'.drawn
 A5:Mk bx' -> Mk bx
 size:w.heap.size <= w'.heap.size
 cw:∀ k,k < w.heap.size -> (∀ b,bx b ≠ none -> β b ≠ some (some k)) -> w'.heap[k]? = w.heap[k]?
 shape:∀ k x,w.shape? k = some x -> w'.shape? k = some x
 ext:∀ b x,β b = some x -> β' b = some x
 news:∀ b' k,bx' b' ≠ none -> β' b' = some (some k) -> (∃ b,bx b ≠ none /\ β b = some (some k)) \/ w.heap.size <= k
theorem Tr.refl (β:Beta) (bx:aa) (w:World):Tr β bx w β bx w :=
 ⟨rfl,rfl,rfl,fun _=>Nat.le_refl _,id,Nat.le_refl _,fun _ _ _=>rfl,fun _ _ h=>h,fun _ _ h=>h,fun b' _ h1 h2=>.inl ⟨b',h1,h2⟩⟩
theorem Tr.trans {β β' β'':Beta} {bx bx' bx'':aa} {w w' w'':World} (h:Tr β bx w β' bx' w') (h':Tr β' bx' w' β'' bx'' w''):Tr β bx w β'' bx'' w'' where
 os:=h'.os.trans h.os
 tape:=h'.tape.trans h.tape
 output:=h'.output.trans h.output
 drawn hn:=Nat.le_trans (h.drawn hn) (h'.drawn fun hm=>hn (h.A5 hm))
 A5 hm:=h.A5 (h'.A5 hm)
 size:=Nat.le_trans h.size h'.size
 cw k hk hb:=by
  rw [h'.cw k (Nat.lt_of_lt_of_le hk h.size) ?_,h.cw k hk hb]
  intro b' aR he
  rcases h.news b' k aR he with ⟨b,h1,h2⟩ | h1
  ·exact hb b h1 h2
  ·omega
 shape k x hx:=h'.shape k x (h.shape k x hx)
 ext b x hx:=h'.ext b x (h.ext b x hx)
 news b' k h1 h2:=by
  rcases h'.news b' k h1 h2 with ⟨b,h3,h4⟩ | h3
  ·exact h.news b k h3 h4
  ·have:=h.size; exact .inr (by omega)
theorem Tr.fz {β β':Beta} {M:dR} {bx bx':aa} {w w':World} (h:Tr β bx w β' bx' w') {k:Nat} (hk:Fz β M bx w k):Fz β' M bx' w' k /\ w'.heap[k]? = w.heap[k]?:=by
 obtain ⟨h1,h2,h3⟩:=hk
 refine ⟨⟨Nat.lt_of_lt_of_le h1 h.size,h2,fun b' aR he=>?_⟩,h.cw k h1 h3⟩
 rcases h.news b' k aR he with ⟨b,h4,h5⟩ | h4
 ·exact h3 b h4 h5
 ·omega
theorem Tr.rep {β β':Beta} {M:dR} {bx bx':aa} {w w':World} (h:Tr β bx w β' bx' w') {v:V} {u:Value} (hr:aP β w (Fz β M bx w) v u):aP β' w' (Fz β' M bx' w') v u :=
 hr.mono h.ext (fun _ hk=>h.fz hk) h.shape
end Go.Pl
namespace Go.Pl
structure St where
 n:Nat
 sl:Nat -> V
 bx:aa
def aB {α:Type} (f:Nat -> α) (x:Nat) (v:α):Nat -> α:=fun y=>if y = x then v else f y
def sV:Value -> V
 | .int k n=>.int k n
 | .bool b=>.bool b
 | .string s=>.str s.data.toList
 | .slice none 0 0=>.aH
 | .pointer none=>.eD
 | .nilFunc=>.gY
 | .nilIface=>.ir
 | .map none=>.gE
 | _=>.cU
def ofValue:Value -> V
 | .agg cs=>if cs.all (·.oneCell') then .agg (cs.toList.map sV) else .cU
 | .func f a b=>if a.size = 0 /\ b.size = 0 then .fn f [] else .cU
 | v=>sV v
def St.get (st:St):Operand -> V
 | .tmp t=>st.sl t
 | .const v=>ofValue v
 | .global _=>.cU
 | .func f=>.fn (.func f) []
def yJ:List (String × List V) :=
 [("internal/strconv.uint64pow10",(List.range 20).map fun i=>.int .u64 ((10 ^ i:Nat):Int)),
  ("math/bits.deBruijn64tab",([0,1,56,2,57,49,28,3,61,58,42,50,38,29,17,4,62,47,59,36,45,43,51,22,53,39,33,30,24,18,12,5,63,55,48,27,60,41,37,16,46,35,44,21,52,32,23,11,54,26,40,15,34,20,31,10,25,14,19,9,13,8,7,6]:List Int).map (.int .u8)),
  ("strings.asciiSpace",Lib.asciiSpaceTab.map (.int .u8))]
def Ma (P:Program) (g:Nat):V :=
 match yJ.find? fun x=>decide (P.globalNamed x.1 = some g) with
 | some x=>.ep (.agg x.2) 0
 | none=>.cU
def gv (P:Program) (st:St):Operand -> V
 | .global g=>Ma P g
 | x=>st.get x
inductive vt where
 | none | bool | int (k:IntKind) | str | slice (e:TypeId) | arr (n:Nat) (e:TypeId) | sW | ptr (e:TypeId) | map (k e:TypeId) | fn | iface
 deriving DecidableEq
def bC (P:Program) (t:TypeId):vt :=
 match P.underlying t with
 | some .bool=>.bool
 | some (.int k)=>.int k
 | some .string=>.str
 | some (.slice e)=>.slice e
 | some (.array n e)=>.arr n e
 | some (.struct _)=>.sW
 | some (.pointer e)=>.ptr e
 | some (.map k e)=>.map k e
 | some (.func _ _ _)=>.fn
 | some (.interface _)=>.iface
 | _=>.none
def aF (P:Program) (t:TypeId):Nat:=((P.info? t).map (·.size)).getD 0
def oF (P:Program) (t:TypeId):Nat:=((P.info? t).map (·.bytes)).getD 0
def aV (P:Program) (t:TypeId):Option Value:=(P.info? t).bind (·.zero)
def dn (P:Program) (t:TypeId):Bool :=
 match P.underlying t with
 | some (.struct _)=>true
 | some (.array _ _)=>true
 | _=>false
def cY (P:Program) (t:TypeId):Bool:=(P.underlying t).isSome && (P.info? t).isSome
def cZ (P:Program) (s:TypeId) (f:Nat):Option (Nat × TypeId) :=
 match P.underlying s with
 | some (.struct fs)=>(fs[f]?).map fun x=>(x.offset,x.type)
 | _=>none
def Iy:Nat -> List Field -> Bool
 | _,[]=>true
 | i,f :: fs=>f.offset == i && f.name != "_" && Iy (i + 1) fs
def wD (P:Program) (t:TypeId):Bool :=
 match P.underlying t with
 | some (.struct fs)=>!P.eqGuardType P.depth t && !P.stoodInHeld t && aF P t == fs.size && Iy 0 fs.toList
 | _=>false
def jL (P:Program) (t:TypeId):List vt :=
 match P.underlying t with
 | some (.struct fs)=>fs.toList.map fun f=>bC P f.type
 | _=>[]
abbrev Ev:=Prop × V
def dt:Ev:=(False,.cU)
def sX (c a b:V):Ev :=
 match c.strip with
 | .bool x=>(c.az = true /\ (x = true -> a.az = true) /\ (x = false -> b.az = true),bif x then a.strip else b.strip)
 | _=>dt
def iz (P:Program) (t:TypeId) (e:V) (o:Nat) (c:Prop):Ev :=
 if dn P t = true then (c /\ cY P t = true /\ o + aF P t <= e.cells.length,.agg ((e.cells.drop o).take (aF P t)))
 else (c /\ cY P t = true /\ o < e.cells.length,e.cells.getD o .cU)
def dM (P:Program) (bx:aa) (t:TypeId) (a:V):Ev :=
 match a.strip with
 | .ep e o=>iz P t e o (a.az = true)
 | .ptr b sz i o =>
   match bx b with
   | some (.row _ eU es)=>iz P t (es.getD i .cU) o (a.az = true /\ sz = eU /\ i < es.length)
   | _=>dt
 | _=>dt
def gF (P:Program) (s:TypeId) (f:Nat) (x:V):Ev :=
 match cZ P s f with
 | some (off,ty) =>
   match x.strip with
   | .ep e o=>(x.az = true /\ aF P ty ≠ 0,.ep e (o + off))
   | .ptr b sz i o=>(x.az = true /\ aF P ty ≠ 0,.ptr b sz i (o + off))
   | _=>dt
 | none=>dt
def gG (P:Program) (t:TypeId) (x ix:V):Ev :=
 match bC P t,x.strip,ix.strip with
 | .slice e,.sl sz es,.int _ i=>(x.az = true /\ ix.az = true /\ cY P e = true /\ sz = aF P e /\ 0 <= i /\ i < es.length,.ep (es.getD i.toNat .cU) 0)
 | .slice e,.own b sz o n,.int _ i=>(x.az = true /\ ix.az = true /\ cY P e = true /\ sz = aF P e /\ 0 <= i /\ i < n,.ptr b sz (o + i.toNat) 0)
 | .arr n e,.ptr b sz i0 o,.int _ i=>(x.az = true /\ ix.az = true /\ cY P e = true /\ 0 <= i /\ i < n,.ptr b sz i0 (o + i.toNat * aF P e))
 | .arr n e,.ep v o,.int _ i=>(x.az = true /\ ix.az = true /\ cY P e = true /\ 0 <= i /\ i < n,.ep v (o + i.toNat * aF P e))
 | _,_,_=>dt
def oG (P:Program) (s:TypeId) (f:Nat) (x:V):Ev :=
 match cZ P s f with
 | some (off,ty) =>
   match x.strip with
   | .agg cs=>iz P ty (.agg cs) off (x.az = true)
   | _=>dt
 | none=>dt
def oH (P:Program) (t:TypeId) (x ix:V):Ev :=
 match bC P t,x.strip,ix.strip with
 | .arr n e,.agg cs,.int _ i=>iz P e (.agg cs) (i.toNat * aF P e) (x.az = true /\ ix.az = true /\ 0 <= i /\ i < n)
 | .str,.str s,.int _ i=>(x.az = true /\ ix.az = true /\ 0 <= i /\ i < s.length,.int .u8 (s.getD i.toNat 0).toNat)
 | _,_,_=>dt
def jM (i:Nat) (x:V):Ev :=
 match x.strip with
 | .dc cs=>(x.az = true /\ i < cs.length,cs.getD i .cU)
 | _=>dt
def Dn (op:BinOp) (k:IntKind) (a b:Int):Ev :=
 match op with
 | .add=>(True,.int k (k.wrap (a + b)))
 | .sub=>(True,.int k (k.wrap (a - b)))
 | .mul=>(True,.int k (k.wrap (a * b)))
 | .quo=>(b ≠ 0,.int k (k.wrap (a.tdiv b)))
 | .rem=>(b ≠ 0,.int k (a.tmod b))
 | .and=>(True,.int k (bits .and k a b))
 | .or=>(True,.int k (bits .or k a b))
 | .xor=>(True,.int k (bits .xor k a b))
 | .andNot=>(True,.int k (bits .andNot k a b))
 | .eql=>(True,.bool (decide (a = b)))
 | .neq=>(True,.bool (!decide (a = b)))
 | .lss=>(True,.bool (decide (a < b)))
 | .leq=>(True,.bool (decide (a <= b)))
 | .gtr=>(True,.bool (decide (b < a)))
 | .geq=>(True,.bool (decide (b <= a)))
 | _=>dt
def Dp (op:BinOp) (a b:List UInt8):Ev :=
 match op with
 | .add=>(a.length + b.length <= 9223372036854775807,.str (a ++ b))
 | .eql=>(True,.bool (decide (a = b)))
 | .neq=>(True,.bool (!decide (a = b)))
 | .lss=>(True,.bool (Op.bytesLess a b))
 | .leq=>(True,.bool (Op.bytesLess a b || decide (a = b)))
 | .gtr=>(True,.bool (!(Op.bytesLess a b || decide (a = b))))
 | .geq=>(True,.bool (!Op.bytesLess a b))
 | _=>dt
def qy:vt -> V -> V -> Option Bool
 | .int _,.int k a,.int k' b=>if k = k' then some (decide (a = b)) else none
 | .bool,.bool a,.bool b=>some (a == b)
 | .str,.str a,.str b=>some (decide (a = b))
 | _,_,_=>none
def gy:List vt -> List V -> List V -> Option Bool
 | [],[],[]=>some true
 | k :: ks,x :: xs,y :: ys =>
   match qy k x y,gy ks xs ys with
   | some a,some b=>some (a && b)
   | _,_=>none
 | _,_,_=>none
def sY:vt -> V -> V -> Option Bool
 | .ptr _,.ptr _ _ _ _,.eD | .ptr _,.ep _ _,.eD | .ptr _,.eD,.ptr _ _ _ _ | .ptr _,.eD,.ep _ _=>some false
 | .ptr _,.eD,.eD=>some true
 | .fn,.fn _ _,.gY | .fn,.gY,.fn _ _=>some false
 | .fn,.gY,.gY=>some true
 | .map _ _,.mp _,.gE | .map _ _,.gE,.mp _=>some false
 | .map _ _,.gE,.gE=>some true
 | _,_,_=>none
def A6 (P:Program) (op:BinOp) (t:TypeId) (x y:V):Ev :=
 match x.strip,y.strip with
 | .int k a,.int k' b =>
   match op with
   | .shl=>(x.az = true /\ y.az = true /\ 0 <= b,.int k (k.wrap (a * 2 ^ (min b.toNat k.bits))))
   | .shr=>(x.az = true /\ y.az = true /\ 0 <= b,.int k (a.fdiv (2 ^ (min b.toNat k.bits))))
   | op=>(x.az = true /\ y.az = true /\ k = k' /\ (Dn op k a b).1,(Dn op k a b).2)
 | .str a,.str b=>(x.az = true /\ y.az = true /\ (Dp op a b).1,(Dp op a b).2)
 | .bool a,.bool b =>
   match op with
   | .eql=>(x.az = true /\ y.az = true /\ bC P t = .bool,.bool (a == b))
   | .neq=>(x.az = true /\ y.az = true /\ bC P t = .bool,.bool (!(a == b)))
   | _=>dt
 | .agg cs,.agg ds =>
   match op with
   | .eql=>(x.az = true /\ y.az = true /\ wD P t = true /\ (gy (jL P t) cs ds).isSome = true,.bool ((gy (jL P t) cs ds).getD false))
   | .neq=>(x.az = true /\ y.az = true /\ wD P t = true /\ (gy (jL P t) cs ds).isSome = true,.bool (!(gy (jL P t) cs ds).getD false))
   | _=>dt
 | x',y' =>
   match op with
   | .eql=>(x.az = true /\ y.az = true /\ (sY (bC P t) x' y').isSome = true,.bool ((sY (bC P t) x' y').getD false))
   | .neq=>(x.az = true /\ y.az = true /\ (sY (bC P t) x' y').isSome = true,.bool (!(sY (bC P t) x' y').getD false))
   | _=>dt
def Mb (op:UnOp) (x:V):Ev :=
 match op,x.strip with
 | .not,.bool b=>(x.az = true,.bool (!b))
 | .neg,.int k n=>(x.az = true,.int k (k.wrap (0 - n)))
 | _,_=>dt
def dN (b:UInt8):V:=.int .u8 b.toNat
def intOf:V -> Int
 | .int _ n=>n
 | _=>0
def toByte:V -> UInt8
 | .int _ n=>UInt8.ofNat n.toNat
 | _=>0
def yK:V -> Bool
 | .int .u8 _=>true
 | _=>false
def km (P:Program) (src dst:TypeId) (x:V):Ev :=
 match bC P src,bC P dst,x.strip with
 | .int _,.int k,.int _ n=>(x.az = true,.int k (k.wrap n))
 | .str,.str,.str s=>(x.az = true,.str s)
 | .str,.slice e,.str s=>(x.az = true /\ bC P e = .int .u8 /\ s.length <= 9223372036854775807,.sl 1 (s.map dN))
 | .slice e,.str,.sl sz es=>(x.az = true /\ bC P e = .int .u8 /\ sz = 1 /\ es.all yK = true,.str (es.map toByte))
 | .slice e,.str,.aH=>(x.az = true /\ bC P e = .int .u8,.str [])
 | _,_,_=>dt
def wE (P:Program) (o:Oper):Bool :=
 match o.op with
 | .convert s d _=>match bC P s,bC P d with
   | .str,.slice _=>true
   | _,_=>false
 | _=>false
def fF (d:Int):Option V -> Option (Prop × Int)
 | none=>some (True,d)
 | some v=>match v.strip with
   | .int _ i=>some (v.az = true,i)
   | _=>none
def kB (P:Program) (t:TypeId) (x:V) (lo hi:Option V):Ev :=
 match bC P t,x.strip with
 | .slice e,.sl sz es =>
   match fF 0 lo,fF es.length hi with
   | some (c,l),some (d,h)=>(x.az = true /\ c /\ d /\ cY P e = true /\ sz = aF P e /\ 0 <= l /\ l <= h /\ h <= es.length,.sl sz ((es.take h.toNat).drop l.toNat))
   | _,_=>dt
 | .slice e,.own b sz o n =>
   match fF 0 lo,fF n hi with
   | some (c,l),some (d,h)=>(x.az = true /\ c /\ d /\ cY P e = true /\ sz = aF P e /\ (l = 0 \/ (0 <= l /\ l < h) \/ l = h) /\ 0 <= h /\ h <= n,if l = 0 \/ (0 <= l /\ l < h) then .own b sz (o + l.toNat) (h.toNat - l.toNat) else .sl sz [])
   | _,_=>dt
 | .slice e,.aH =>
   match fF 0 lo,fF 0 hi with
   | some (c,l),some (d,h)=>(x.az = true /\ c /\ d /\ cY P e = true /\ l = 0 /\ h = 0,.aH)
   | _,_=>dt
 | .str,.str s =>
   match fF 0 lo,fF s.length hi with
   | some (c,l),some (d,h)=>(x.az = true /\ c /\ d /\ 0 <= l /\ l <= h /\ h <= s.length,.str ((s.take h.toNat).drop l.toNat))
   | _,_=>dt
 | _,_=>dt
def Rz:V -> Option Nat
 | .sl _ es=>some es.length
 | .own _ _ _ n=>some n
 | .aH=>some 0
 | _=>none
def ln (P:Program) (t:TypeId) (x:V) (lo:Option V) (hi mx:V):Ev :=
 match Rz x.strip,fF 0 (some hi),fF 0 (some mx) with
 | some n,some (_,h),some (d,m)=>((kB P t x lo (some hi)).1 /\ d /\ h <= m /\ m <= n,(kB P t x lo (some hi)).2)
 | _,_,_=>dt
def nO (P:Program) (bx:aa) (t:TypeId) (x:V):Ev :=
 match bC P t,x.strip with
 | .slice _,.sl _ es=>(x.az = true,.int .i64 es.length)
 | .slice _,.own _ _ _ n=>(x.az = true,.int .i64 n)
 | .slice _,.aH=>(x.az = true,.int .i64 0)
 | .str,.str s=>(x.az = true,.int .i64 s.length)
 | .arr n _,_=>(True,.int .i64 n)
 | .map _ _,.gE=>(x.az = true,.int .i64 0)
 | .map _ _,.mp b=>match bx b with
   | some (.map es)=>(x.az = true,.int .i64 es.length)
   | _=>dt
 | _,_=>dt
def A7 (x y:V):Ev :=
 match x.strip,y.strip with
 | .int k a,.int _ b=>(x.az = true /\ y.az = true,.int k (if b < a then b else a))
 | _,_=>dt
def A8 (x y:V):Ev :=
 match x.strip,y.strip with
 | .int k a,.int _ b=>(x.az = true /\ y.az = true,.int k (if a < b then b else a))
 | _,_=>dt
def R0:Fn -> Prop
 | .yield _=>False
 | _=>True
def BS (f:Fn) (caps:List V):Ev:=((∀ c,c ∈ caps -> c.az = true) /\ R0 f,.fn f (caps.map V.strip))
def wF (f:Fn) (x:V) (n:Nat):Ev :=
 match f with
 | .func g=>(x.az = true /\ n = 0,.fn (.yield g) [x.strip])
 | _=>dt
def okV:V -> Bool
 | .agg _=>true
 | .cU=>false
 | .dc _=>false
 | .dead _=>false
 | _=>true
def aT (P:Program) (t:TypeId) (i:Nat):Option (Nat × Nat) :=
 match P.underlying t with
 | some (.struct fs)=>(fs[i]?).bind fun f=>(P.info? f.type).map fun ie=>(f.offset,ie.size)
 | some (.array _ e)=>(P.info? e).map fun ie=>(i * ie.size,ie.size)
 | _=>none
def dG (P:Program) (t:TypeId):Bool :=
 match P.underlying t with
 | some (.struct fs)=>fs.toList.all fun f=>(P.info? f.type).isSome
 | some (.array _ e)=>(P.info? e).isSome
 | _=>false
def ml (cs:List V) (off:Nat) (vs:List V):List V:=cs.take off ++ vs ++ cs.drop (off + vs.length)
def A9 (x:V) (n:Nat) (c:Prop) (p:Option (Nat × Nat)):Prop :=
 match p with
 | some (off,sz)=>okV x = true /\ x.cells.length = sz /\ off + sz <= n /\ c
 | none=>False
def sZ (cs:List V) (x:V) (p:Option (Nat × Nat)):List V :=
 match p with
 | some (off,_)=>ml cs off x.cells
 | none=>cs
def fG (P:Program) (t:TypeId):List V -> List (Nat × V) -> Prop × List V
 | cs,[]=>(True,cs)
 | cs,(i,x) :: ps=>(A9 x cs.length (fG P t (sZ cs x (aT P t i)) ps).1 (aT P t i),(fG P t (sZ cs x (aT P t i)) ps).2)
def kC (P:Program) (t:TypeId) (z:Option Value) (ps:List (Nat × V)):Ev :=
 match z with
 | some z=>(dG P t = true /\ okV (ofValue z) = true /\ (fG P t (ofValue z).cells ps).1,.agg (fG P t (ofValue z).cells ps).2)
 | none=>dt
def mn (P:Program) (st:St):Callee -> List Operand -> List TypeId -> Ev
 | .builtin .len,[x],[t]=>nO P st.bx t (st.get x)
 | .builtin .min,[x,y],_=>A7 (st.get x) (st.get y)
 | .builtin .max,[x,y],_=>A8 (st.get x) (st.get y)
 | _,_,_=>dt
def lO:V -> V -> Option Bool
 | .int k a,.int k' b=>if k = k' then some (a == b) else none
 | .str a,.str b=>some (a == b)
 | .bool a,.bool b=>some (a == b)
 | _,_=>none
def fq (k:V):List (V × V) -> Nat -> Option (Option (Nat × V))
 | [],_=>some none
 | e :: es,i=>match lO k e.1 with
   | some true=>some (some (i,e.2))
   | some false=>fq k es (i + 1)
   | none=>none
def wG (a v:V) (es:List (V × V)):Option (List (V × V)) :=
 match fq a es 0 with
 | some (some (i,_))=>some (es.set i (a,v))
 | some none=>some (es ++ [(a,v)])
 | none=>none
def wH (a:V) (es:List (V × V)):Option (List (V × V)) :=
 match fq a es 0 with
 | some (some (i,_))=>some (es.eraseIdx i)
 | some none=>some es
 | none=>none
def oI:vt -> V -> Bool
 | .int k,.int k' _=>k == k'
 | .str,.str _=>true
 | .bool,.bool _=>true
 | _,_=>false
def kM (ok b:Bool) (v:V):V:=bif ok then .dc [v,.bool b] else v
def lp (P:Program) (bx:aa) (t:TypeId) (x ix:V) (ok:Bool):Ev :=
 match bC P t,x.strip with
 | .map k e,.gE=>match aV P e with
   | some z=>(x.az = true /\ ix.az = true /\ oI (bC P k) ix.strip = true,kM ok false (ofValue z))
   | none=>dt
 | .map k e,.mp b=>match bx b,aV P e with
   | some (.map es),some z=>match fq ix.strip es 0 with
     | some (some (_,v))=>(x.az = true /\ ix.az = true /\ oI (bC P k) ix.strip = true,kM ok true v)
     | some none=>(x.az = true /\ ix.az = true /\ oI (bC P k) ix.strip = true,kM ok false (ofValue z))
     | none=>dt
   | _,_=>dt
 | _,_=>dt
def vu:vt -> Bool
 | .iface | .none=>false
 | _=>true
def iC (P:Program) (t:TypeId) (x:V):Ev:=(x.az = true /\ vu (bC P t) = true,.iface t x.strip)
def ns (P:Program) (x:V) (a:TypeId) (ok:Bool):Ev :=
 match x.strip with
 | .iface t v=>if t = a then (x.az = true /\ vu (bC P a) = true,kM ok true v) else
   match aV P a with
   | some z=>(x.az = true /\ vu (bC P a) = true /\ ok = true,kM true false (ofValue z))
   | none=>dt
 | .ir=>match aV P a with
   | some z=>(x.az = true /\ vu (bC P a) = true /\ ok = true,kM true false (ofValue z))
   | none=>dt
 | _=>dt
def kQ (x:V):Ev :=
 match x.strip with
 | .ptr _ _ _ _=>(x.az = true,x.strip)
 | .ep _ _=>(x.az = true,x.strip)
 | _=>dt
def ev (P:Program) (st:St) (o:Oper):Ev :=
 match o.op with
 | .move x=>(True,st.get x)
 | .assign x=>(True,st.get x)
 | .pick c a b=>sX (st.get c) (st.get a) (st.get b)
 | .load t a=>dM P st.bx t (gv P st a)
 | .fieldAddr s x f=>gF P s f (st.get x)
 | .indexAddr t x ix=>gG P t (gv P st x) (st.get ix)
 | .field s x f=>oG P s f (st.get x)
 | .index t x ix=>oH P t (st.get x) (st.get ix)
 | .extract x i=>jM i (st.get x)
 | .binOp op t x y _=>A6 P op t (st.get x) (st.get y)
 | .unOp op _ x=>Mb op (st.get x)
 | .convert s d x=>km P s d (st.get x)
 | .slice t x lo hi none=>kB P t (st.get x) (lo.map st.get) (hi.map st.get)
 | .slice t x lo (some hi) (some mx)=>ln P t (st.get x) (lo.map st.get) (st.get hi) (st.get mx)
 | .makeFunc f first caps =>
   match first.toList with
   | []=>BS f (caps.toList.map st.get)
   | [x]=>wF f (st.get x) caps.size
   | _=>dt
 | .build t parts=>kC P t (aV P t) (parts.toList.map fun p=>(p.1,st.get p.2))
 | .call c=>mn P st c.callee c.args.toList c.argTypes.toList
 | .lookup t x ix ok=>lp P st.bx t (st.get x) (st.get ix) ok
 | .makeInterface t x=>iC P t (st.get x)
 | .typeAssert x _ a ok=>ns P (st.get x) a ok
 | .nilCheck x=>kQ (st.get x)
 | _=>dt
end Go.Pl
namespace Go.Pl
open Go
theorem aS {v:V} (h:v.az = true):v.strip = v:=by cases v <;> first | rfl | (simp [V.az] at h)
section
variable {P:Program} {β:Beta} {w:World} {F:Nat -> Prop}
theorem ta (u:Value):aP β w F (sV u) u:=by
 unfold sV
 split <;> first | exact .int _ _ | exact .bool _ | exact .str _ | exact .aH | exact .eD | exact .gY | exact .ir | exact .gE | exact .cU _
theorem dp (u:Value):aP β w F (ofValue u) u:=by
 cases u
 case func f fs caps =>
  simp only [ofValue]
  split
  ·rename_i h
   obtain ⟨rfl⟩:fs = #[]:=by simpa using h.1
   obtain ⟨rfl⟩:caps = #[]:=by simpa using h.2
   exact .fn _ [] #[] rfl (fun i c h=>by simp at h) (fun _ _ _ h=>by cases h)
  ·exact .cU _
 case agg cs =>
  simp only [ofValue]
  split
  ·rename_i h
   refine .agg _ _ (by simp) (fun i hi=>?_) (fun i c hc=>?_)
   ·simp at hi
    have:=Array.all_eq_true.1 h i hi
    simpa [hi] using this
   ·simp at hc
    obtain ⟨x,hx,rfl⟩:=hc
    simp [hx]
    exact ta _
  ·exact .cU _
 all_goals (simp only [ofValue]; exact ta _)
theorem aP.bE {k:IntKind} {n:Int} {u:Value} (h:aP β w F (.int k n) u):u = .int k n:=by cases h; rfl
theorem aP.fH {b:Bool} {u:Value} (h:aP β w F (.bool b) u):u = .bool b:=by cases h; rfl
theorem aP.eg {s:List UInt8} {u:Value} (h:aP β w F (.str s) u):∃ x:ByteArray,u = .string x /\ x.data.toList = s:=by cases h; exact ⟨_,rfl,rfl⟩
structure tc (β:Beta) (F:Nat -> Prop) (st:St) (a:Act) (w:World):Prop where
 rep:∀ t,aP β w F (st.sl t) (a.tmps.getD t undef)
def p3 (P:Program) (β:Beta) (w:World) (F:Nat -> Prop):Prop:=∀ g,aP β w F (Ma P g) (.pointer (some ⟨g,0,none⟩)) /\
 ∀ vs,Ma P g = .ep (.agg vs) 0 -> ∃ b,aP β w F (.own b 1 0 vs.length) (.slice (some ⟨g,0,none⟩) vs.length vs.length) /\ ∃ ty,w.shape? g = some (ty,vs.length)
theorem p3.imp {P:Program} {β β':Beta} {w w':World} {F F':Nat -> Prop} (h:p3 P β w F) (hi:∀ v u,aP β w F v u -> aP β' w' F' v u) (hs:∀ k x,w.shape? k = some x -> w'.shape? k = some x:=by first | exact fun _ _ h=>h | assumption):p3 P β' w' F' :=
 fun g=>⟨hi _ _ (h g).1,fun vs hv=>let ⟨b,hb,ty,ht⟩:=(h g).2 vs hv; ⟨b,hi _ _ hb,ty,hs _ _ ht⟩⟩
theorem tc.get {st:St} {a:Act} (h:tc β F st a w) (x:Operand):aP β w F (st.get x) (a.eval x):=by
 cases x with
 | tmp t=>exact h.rep t
 | const v=>exact dp v
 | global g=>exact .cU _
 | func f=>exact .fn _ [] #[] rfl (fun i c h=>by simp at h) (fun _ _ _ h=>by cases h)
theorem tc.gv {P:Program} {st:St} {a:Act} (h:tc β F st a w) (hg:p3 P β w F) (x:Operand):aP β w F (gv P st x) (a.eval x):=by
 cases x with
 | global g=>exact (hg g).1
 | tmp t=>exact h.get (.tmp t)
 | const v=>exact h.get (.const v)
 | func f=>exact h.get (.func f)
theorem AA {c a b:V} {uc ua ub:Value} (hc:(sX c a b).1) (rc:aP β w F c uc) (ra:aP β w F a ua) (rb:aP β w F b ub) :
 ∃ t:Bool,uc = .bool t /\ aP β w F (sX c a b).2 (if t = true then ua else ub):=by
 unfold sX at hc ⊢
 split at hc
 ·rename_i x hx
  obtain ⟨h1,h2,h3⟩:=hc
  rw [aS h1] at hx
  subst hx
  refine ⟨x,rc.fH,?_⟩
  cases x
  ·simpa [aS (h3 rfl)] using rb
  ·simpa [aS (h2 rfl)] using ra
 ·exact hc.elim
def EU (β:Beta) (w:World) (F:Nat -> Prop) (a:Addr) (e:V):Prop :=
 ∃ u:Nat -> Value,∀ (j:Nat) (c:V),e.cells[j]? = some c -> w.cell? (a.add j) = some (u j) /\ (u j).oneCell' = true /\ aP β w F c (u j)
theorem td {t:TypeId} (h:dn P t = false) {d:TypeDesc} (hd:P.underlying t = some d):(isAgg t).run P w = .ok false w:=by
 unfold dn at h
 rw [hd] at h
 unfold isAgg
 simp only [Sem.run_bind,run_underlying hd,Result.andThen_ok]
 cases d <;> simp_all
theorem vw {t:TypeId} (h:dn P t = true) {d:TypeDesc} (hd:P.underlying t = some d):(isAgg t).run P w = .ok true w:=by
 unfold dn at h
 rw [hd] at h
 unfold isAgg
 simp only [Sem.run_bind,run_underlying hd,Result.andThen_ok]
 cases d <;> simp_all
theorem p4 {t:TypeId} (h:cY P t = true):∃ d i,P.underlying t = some d /\ P.info? t = some i /\ aF P t = i.size:=by
 simp only [cY,Bool.and_eq_true] at h
 obtain ⟨d,hd⟩:=Option.isSome_iff_exists.1 h.1
 obtain ⟨i,hi⟩:=Option.isSome_iff_exists.1 h.2
 exact ⟨d,i,hd,hi,by simp [aF,hi]⟩
theorem te {t:TypeId} {e:V} {o:Nat} {c:Prop} {a:Addr} (hc:(iz P t e o c).1) (he:EU β w F a e) :
 ∃ v,(loadVar t (a.add o)).run P w = .ok v w /\ aP β w F (iz P t e o c).2 v:=by
 obtain ⟨u,hu⟩:=he
 unfold iz at hc ⊢
 split
 ·rename_i ha
  rw [if_pos ha] at hc
  obtain ⟨_,fb,hle⟩:=hc
  obtain ⟨d,i,hd,hi,bW⟩:=p4 fb
  have iD:=vw (w:=w) ha hd
  have Mc:=run_loadCells (P:=P) w (a.add o) i.size (fun j=>u (o + j)) (fun j hj=>by
   rw [Go.Deep.add_add]
   exact (hu (o + j) _ (List.getElem?_eq_getElem (by omega))).1)
  refine ⟨_,by unfold loadVar sizeOf typeInfo; simp [iD,hi,Mc]; rfl,?_⟩
  refine .agg _ _ (by simp; omega) (fun j hj=>?_) (fun j c hj=>?_)
  ·simp at hj
   have:=(hu (o + j) _ (List.getElem?_eq_getElem (by omega))).2.1
   have BT:j < i.size:=by omega
   simpa [BT] using this
  ·simp only [List.getElem?_take,List.getElem?_drop] at hj
   split at hj
   ·have:=(hu (o + j) _ hj).2.2
    have BT:j < i.size:=by omega
    simpa [BT] using this
   ·cases hj
 ·rename_i ha
  rw [if_neg ha] at hc
  obtain ⟨_,fb,dr⟩:=hc
  obtain ⟨d,i,hd,hi,bW⟩:=p4 fb
  have nt:=hu o e.cells[o] (List.getElem?_eq_getElem dr)
  have iD:=td (w:=w) (P:=P) (t:=t) (by simpa using ha) hd
  refine ⟨u o,by unfold loadVar; simp [iD,nt.1],?_⟩
  simpa [List.getD,List.getElem?_eq_getElem dr] using nt.2.2
def EV (β:Beta) (F:Nat -> Prop) (bx:aa) (w:World):Prop :=
 ∀ b box,bx b = some box -> (β b = some none /\ box.empty) \/ ∃ k,β b = some (some k) /\ od β w F k box
theorem yL {k:Nat} {ty:TypeId} {sz:Nat} {es:List V} (h:KP β w F k ty sz es) {i:Nat} (hi:i < es.length):EU β w F ⟨k,i * sz,none⟩ (es.getD i .cU):=by
 obtain ⟨cur,fr,hk,_,hl,hr⟩:=h
 refine ⟨fun j=>cur.getD (i * sz + j) undef,fun j c hc=>?_⟩
 obtain ⟨h1,h2⟩:=hr i _ (by simp [List.getD,List.getElem?_eq_getElem hi]:es[i]? = some (es.getD i .cU))
 obtain ⟨h3,h4⟩:=h2 j c hc
 refine ⟨?_,h3,h4⟩
 have hj:j < sz:=by have:=(List.getElem?_eq_some_iff.1 hc).1; omega
 have dr:i * sz + j < cur.size:=by
  have:(i + 1) * sz <= es.length * sz:=Nat.mul_le_mul_right _ hi
  have h5:(i + 1) * sz = i * sz + sz:=Nat.succ_mul _ _
  omega
 have:(⟨k,i * sz,none⟩:Addr).add j = ⟨k,i * sz + j,none⟩:=by unfold Addr.add; split <;> simp_all
 rw [this,cell_of_row w k (i * sz + j) cur ty fr hk]
 simp [dr]
theorem tf {t:TypeId} {bx:aa} {a:V} {ua:Value} (hc:(dM P bx t a).1) (hb:EV β F bx w) (ra:aP β w F a ua) :
 ∃ v,(Instr.loadAt t ua).run P w = .ok v w /\ aP β w F (dM P bx t a).2 v:=by
 unfold dM at hc ⊢
 split at hc
 ·rename_i e o ha
  have hl:a.az = true:=by unfold iz at hc; split at hc <;> exact hc.1
  rw [aS hl] at ha
  subst ha
  cases ra with
  | ep e o ad u bD bO =>
    obtain ⟨v,h1,h2⟩:=te (a:=ad) (w:=w) (F:=F) (β:=β) hc ⟨u,fun j c hj=>by
     obtain ⟨a',fI,_,h3,h4⟩:=bD j c hj
     injection fI with fI
     subst fI
     exact ⟨h3,h4,bO j c hj⟩⟩
    exact ⟨v,by simp [Instr.loadAt,Instr.sureAddr,h1],h2⟩
 ·rename_i b sz i o ha
  split at hc
  ·rename_i ty eU es pt
   have hl:a.az = true /\ sz = eU /\ i < es.length:=by unfold iz at hc; split at hc <;> exact hc.1
   obtain ⟨hl,rfl,hi⟩:=hl
   rw [aS hl] at ha
   subst ha
   cases ra with
   | ptr b sz i o k dm =>
     rcases hb b _ pt with ⟨h0,he⟩ | ⟨k',jZ,au⟩
     ·rw [dm] at h0; cases h0
     ·rw [dm] at jZ
      injection jZ with jZ
      injection jZ with jZ
      subst jZ
      have R2:=yL au hi
      obtain ⟨v,h1,h2⟩:=te hc R2
      have had:(⟨k,i * sz,none⟩:Addr).add o = ⟨k,i * sz + o,none⟩:=by unfold Addr.add; split <;> simp_all
      rw [had] at h1
      exact ⟨v,by simp [Instr.loadAt,Instr.sureAddr,h1],by simpa [pt] using h2⟩
  ·exact hc.elim
 ·exact hc.elim
end
end Go.Pl
namespace Go.Pl
open Go
section
variable {P:Program} {β:Beta} {w:World} {F:Nat -> Prop}
theorem EW {s:TypeId} {f off:Nat} {ty:TypeId} (h:cZ P s f = some (off,ty)):∃ fs x,P.underlying s = some (.struct fs) /\ fs[f]? = some x /\ x.offset = off /\ x.type = ty:=by
 unfold cZ at h
 split at h
 ·rename_i fs hs
  simp at h
  obtain ⟨x,hx,h1,h2⟩:=h
  exact ⟨fs,x,hs,hx,h1,h2⟩
 ·cases h
theorem Md {t:TypeId} (h:aF P t ≠ 0):∃ i,P.info? t = some i /\ i.size = aF P t:=by
 unfold aF at h ⊢
 cases hi:P.info? t with
 | none=>simp [hi] at h
 | some i=>exact ⟨i,rfl,by simp⟩
theorem add_lit (k o j:Nat):(⟨k,o,none⟩:Addr).add j = ⟨k,o + j,none⟩:=by unfold Addr.add; split <;> simp_all
theorem qX {s:TypeId} {f off:Nat} {ty:TypeId} (h:cZ P s f = some (off,ty)) (hz:aF P ty ≠ 0) (a:Addr) :
 (Instr.fieldAt s (.pointer (some a)) f).run P w = .ok (.pointer (some (a.add off))) w:=by
 obtain ⟨fs,x,hs,hx,rfl,rfl⟩:=EW h
 obtain ⟨i,hi,mf⟩:=Md hz
 have:i.size ≠ 0:=by omega
 unfold Instr.fieldAt fieldPlace sizeOf typeInfo Instr.sureAddr
 simp [run_underlying hs,hx,hi,this]
theorem rU {s:TypeId} {f:Nat} {x:V} {u:Value} (hc:(gF P s f x).1) (r:aP β w F x u) :
 ∃ v,(Instr.fieldAt s u f).run P w = .ok v w /\ aP β w F (gF P s f x).2 v:=by
 unfold gF at hc ⊢
 split at hc
 ·rename_i off ty hf
  split at hc
  ·rename_i e o hx
   obtain ⟨hl,hz⟩:=hc
   rw [aS hl] at hx
   subst hx
   cases r with
   | ep e o a u0 bD hr =>
     refine ⟨_,qX hf hz _,?_⟩
     rw [Go.Deep.add_add]
     simpa [hf,V.strip] using aP.ep e (o + off) a u0 bD hr
  ·rename_i b sz i o hx
   obtain ⟨hl,hz⟩:=hc
   rw [aS hl] at hx
   subst hx
   cases r with
   | ptr b sz i o k hb =>
     refine ⟨_,qX hf hz _,?_⟩
     rw [add_lit,Nat.add_assoc]
     simpa [hf,V.strip] using aP.ptr (w:=w) (F:=F) b sz i (o + off) k hb
  ·exact hc.elim
 ·exact hc.elim
theorem bA {t e:TypeId} (h:bC P t = .slice e):P.underlying t = some (.slice e):=by
 unfold bC at h; split at h <;> simp_all
theorem p5 {t e:TypeId} {n:Nat} (h:bC P t = .arr n e):P.underlying t = some (.array n e):=by
 unfold bC at h; split at h <;> simp_all
theorem ft {t:TypeId} (h:bC P t = .str):P.underlying t = some .string:=by
 unfold bC at h; split at h <;> simp_all
theorem mo {t:TypeId} (h:bC P t = .bool):P.underlying t = some .bool:=by
 unfold bC at h; split at h <;> simp_all
theorem iQ {t:TypeId} {k:IntKind} (h:bC P t = .int k):P.underlying t = some (.int k):=by
 unfold bC at h; split at h <;> simp_all
theorem fS {t k e:TypeId} (h:bC P t = .map k e):P.underlying t = some (.map k e):=by
 unfold bC at h; split at h <;> simp_all
theorem aG {x:V} (h:x.az = true) {y:V} (hx:x.strip = y):x = y:=by rw [<- hx,aS h]
theorem fT {t:TypeId} (h:cY P t = true):∃ i,P.info? t = some i /\ aF P t = i.size:=by
 obtain ⟨_,i,_,h1,h2⟩:=p4 h
 exact ⟨i,h1,h2⟩
theorem block_add (a:Addr) (n:Nat):(a.add n).block = a.block:=by unfold Addr.add; split <;> rfl
theorem mq {t e:TypeId} {inf:TypeInfo} (ht:P.underlying t = some (.slice e)) (hi:P.info? e = some inf) (a:Addr) (len cap n:Nat) (k:IntKind) (hn:n < len) :
 (Instr.indexAt t (.slice (some a) len cap) (.int k n)).run P w = .ok (.pointer (some (a.add (n * inf.size)))) w:=by
 unfold Instr.indexAt sizeOf typeInfo asIntOf
 simp [run_underlying ht,hi,hn]
theorem lP {t e:TypeId} {inf:TypeInfo} {len:Nat} (ht:P.underlying t = some (.array len e)) (hi:P.info? e = some inf) (a:Addr) (n:Nat) (k:IntKind) (hn:n < len) :
 (Instr.indexAt t (.pointer (some a)) (.int k n)).run P w = .ok (.pointer (some (a.add (n * inf.size)))) w:=by
 unfold Instr.indexAt sizeOf typeInfo asIntOf Instr.sureAddr
 simp [run_underlying ht,hi,hn]
theorem AB {sz:Nat} {es:List V} {A:Option Addr} {u0:Nat -> Value}
 (bD:∀ (i:Nat) (e:V) (j:Nat) (c:V),es[i]? = some e -> e.cells[j]? = some c -> sT w F A (i * sz + j) (u0 (i * sz + j)))
 (hr:∀ (i:Nat) (e:V) (j:Nat) (c:V),es[i]? = some e -> e.cells[j]? = some c -> aP β w F c (u0 (i * sz + j))) {a:Addr} (hA:A = some a) {n:Nat} (hn:n < es.length) :
 aP β w F (.ep (es.getD n .cU) 0) (.pointer (some (a.add (n * sz)))):=by
 subst hA
 have tg:es[n]? = some (es.getD n .cU):=by simp [List.getD,List.getElem?_eq_getElem hn]
 have:=aP.ep (β:=β) (w:=w) (F:=F) (es.getD n .cU) 0 (a.add (n * sz)) (fun j=>u0 (n * sz + j)) (fun j c hj=>?_) (fun j c hj=>hr n _ j c tg hj)
 ·rwa [show (a.add (n * sz)).add 0 = a.add (n * sz) from rfl] at this
 ·obtain ⟨a',fI,h1,h2,h3⟩:=bD n _ j c tg hj
  injection fI with fI
  subst fI
  exact ⟨_,rfl,by rw [block_add]; exact h1,by rw [Go.Deep.add_add]; exact h2,h3⟩
theorem rV {t:TypeId} {x ix:V} {u ui:Value} (hc:(gG P t x ix).1) (r:aP β w F x u) (ri:aP β w F ix ui) :
 ∃ v,(Instr.indexAt t u ui).run P w = .ok v w /\ aP β w F (gG P t x ix).2 v:=by
 unfold gG at hc ⊢
 split at hc
 ·rename_i e sz es k i hk hx hi
  obtain ⟨hl,wI,fb,rfl,h0,dr⟩:=hc
  obtain rfl:=aG hl hx
  obtain rfl:=aG wI hi
  obtain rfl:=ri.bE
  obtain ⟨inf,wJ,bW⟩:=fT fb
  obtain ⟨n,rfl⟩:=Int.eq_ofNat_of_zero_le h0
  have hn:n < es.length:=by omega
  cases r with
  | sl sz es A cap u0 kP gZ hA hs bD hr =>
    obtain ⟨a,rfl⟩:∃ a,A = some a:=by
     cases A with
     | some a=>exact ⟨a,rfl⟩
     | none=>exact absurd rfl (hA (by intro h; simp [h] at hn))
    refine ⟨_,mq (bA hk) wJ a _ cap n k hn,?_⟩
    have:=AB bD hr rfl hn
    rw [bW] at this
    simpa [hk,V.strip] using this
 ·rename_i e b sz o m k i hk hx hi
  obtain ⟨hl,wI,fb,rfl,h0,dr⟩:=hc
  obtain rfl:=aG hl hx
  obtain rfl:=aG wI hi
  obtain rfl:=ri.bE
  obtain ⟨inf,wJ,bW⟩:=fT fb
  obtain ⟨n,rfl⟩:=Int.eq_ofNat_of_zero_le h0
  have hn:n < m:=by omega
  cases r with
  | mi b sz hb=>omega
  | own b sz o m k' cap mm ty hb hs hm si gZ =>
    refine ⟨_,mq (bA hk) wJ _ _ cap n k hn,?_⟩
    rw [add_lit,<- bW,<- Nat.add_mul]
    simpa [hk,V.strip] using aP.ptr (w:=w) (F:=F) b (aF P e) (o + n) 0 k' hb
 ·rename_i m e b sz i0 o k i hk hx hi
  obtain ⟨hl,wI,fb,h0,dr⟩:=hc
  obtain rfl:=aG hl hx
  obtain rfl:=aG wI hi
  obtain rfl:=ri.bE
  obtain ⟨inf,wJ,bW⟩:=fT fb
  obtain ⟨n,rfl⟩:=Int.eq_ofNat_of_zero_le h0
  have hn:n < m:=by omega
  cases r with
  | ptr b sz i0 o k' hb =>
    refine ⟨_,lP (p5 hk) wJ _ n k hn,?_⟩
    rw [add_lit,<- bW,Nat.add_assoc]
    simpa [hk,V.strip] using aP.ptr (w:=w) (F:=F) b sz i0 (o + n * aF P e) k' hb
 ·rename_i m e v o k i hk hx hi
  obtain ⟨hl,wI,fb,h0,dr⟩:=hc
  obtain rfl:=aG hl hx
  obtain rfl:=aG wI hi
  obtain rfl:=ri.bE
  obtain ⟨inf,wJ,bW⟩:=fT fb
  obtain ⟨n,rfl⟩:=Int.eq_ofNat_of_zero_le h0
  have hn:n < m:=by omega
  cases r with
  | ep v o a u0 bD hr =>
    refine ⟨_,lP (p5 hk) wJ _ n k hn,?_⟩
    rw [Go.Deep.add_add,<- bW]
    simpa [hk,V.strip] using aP.ep v (o + n * aF P e) a u0 bD hr
 ·exact hc.elim
theorem yM {t:TypeId} {cs:List V} {o:Nat} {c:Prop} {us:Array Value} (hc:(iz P t (.agg cs) o c).1) (r:aP β w F (.agg cs) (.agg us)) :
 ∃ v,(part t us o).run P w = .ok v w /\ aP β w F (iz P t (.agg cs) o c).2 v:=by
 obtain ⟨hl,h1,hr⟩:us.size = cs.length /\ (∀ (i:Nat),i < cs.length -> (us.getD i undef).oneCell' = true) /\ (∀ (i:Nat) (c:V),cs[i]? = some c -> aP β w F c (us.getD i undef)):=by
  cases r with | agg cs us hl h1 hr=>exact ⟨hl,h1,hr⟩
 unfold iz at hc ⊢
 simp only [V.cells] at hc ⊢
 split
 ·rename_i ha
  rw [if_pos ha] at hc
  obtain ⟨_,fb,hle⟩:=hc
  obtain ⟨d,i,hd,hi,bW⟩:=p4 fb
  have iD:=vw (w:=w) ha hd
  refine ⟨.agg (us.extract o (o + i.size)),by unfold part sizeOf typeInfo; simp [iD,hi],?_⟩
  refine .agg _ _ (by simp; omega) (fun j hj=>?_) (fun j c hj=>?_)
  ·simp at hj
   have:=h1 (o + j) (by omega)
   simp only [Array.getD_eq_getD_getElem?] at this ⊢
   rw [Array.getElem?_extract,if_pos (by omega)]
   exact this
  ·simp only [List.getElem?_take,List.getElem?_drop] at hj
   split at hj
   ·have:=hr (o + j) c hj
    have dr:=(List.getElem?_eq_some_iff.1 hj).1
    simp only [Array.getD_eq_getD_getElem?] at this ⊢
    rw [Array.getElem?_extract,if_pos (by omega)]
    exact this
   ·cases hj
 ·rename_i ha
  rw [if_neg ha] at hc
  obtain ⟨_,fb,dr⟩:=hc
  obtain ⟨d,i,hd,hi,bW⟩:=p4 fb
  have iD:=td (w:=w) (P:=P) (t:=t) (by simpa using ha) hd
  have EX:o < us.size:=by omega
  refine ⟨us[o],by unfold part; simp [iD,EX],?_⟩
  have:=hr o cs[o] (List.getElem?_eq_getElem dr)
  simpa [List.getD,List.getElem?_eq_getElem dr,EX] using this
theorem aP.nu {cs:List V} {u:Value} (h:aP β w F (.agg cs) u):∃ us,u = .agg us /\ us.size = cs.length:=by cases h with | agg cs us hl _ _=>exact ⟨us,rfl,hl⟩
theorem yN {s:TypeId} {f:Nat} {x:V} {u:Value} (hc:(oG P s f x).1) (r:aP β w F x u) :
 ∃ v,(Instr.field s u f).run P w = .ok v w /\ aP β w F (oG P s f x).2 v:=by
 unfold oG at hc ⊢
 split at hc
 ·rename_i off ty hf
  split at hc
  ·rename_i cs hx
   have hl:x.az = true:=by unfold iz at hc; split at hc <;> exact hc.1
   obtain rfl:=aG hl hx
   obtain ⟨us,rfl,_⟩:=r.nu
   obtain ⟨v,h1,h2⟩:=yM hc r
   obtain ⟨fs,x,hs,hx,rfl,rfl⟩:=EW hf
   exact ⟨v,by unfold Instr.field asAgg; simp [run_underlying hs,hx,h1],by simpa [hf,V.strip] using h2⟩
  ·exact hc.elim
 ·exact hc.elim
theorem yO {t:TypeId} {x ix:V} {u ui:Value} (hc:(oH P t x ix).1) (r:aP β w F x u) (ri:aP β w F ix ui) :
 ∃ v,(Instr.index t u ui).run P w = .ok v w /\ aP β w F (oH P t x ix).2 v:=by
 unfold oH at hc ⊢
 split at hc
 ·rename_i n e cs k i hk hx hi
  have hl:x.az = true /\ ix.az = true /\ 0 <= i /\ i < n:=by unfold iz at hc; split at hc <;> exact hc.1
  obtain ⟨hl,wI,h0,dr⟩:=hl
  obtain rfl:=aG hl hx
  obtain rfl:=aG wI hi
  obtain rfl:=ri.bE
  obtain ⟨us,rfl,_⟩:=r.nu
  have fb:cY P e = true:=by unfold iz at hc; split at hc <;> exact hc.2.1
  obtain ⟨inf,wJ,bW⟩:=fT fb
  obtain ⟨v,h1,h2⟩:=yM hc r
  obtain ⟨m,rfl⟩:=Int.eq_ofNat_of_zero_le h0
  have hm:m < n:=by omega
  simp only [Int.toNat_natCast] at h1
  rw [bW] at h1
  refine ⟨v,by unfold Instr.index asIntOf sizeOf typeInfo; simp [run_underlying (p5 hk),hm,wJ,h1],by simpa [hk,V.strip] using h2⟩
 ·rename_i s k i hk hx hi
  obtain ⟨hl,wI,h0,dr⟩:=hc
  obtain rfl:=aG hl hx
  obtain rfl:=aG wI hi
  obtain rfl:=ri.bE
  obtain ⟨b,rfl,rfl⟩:=r.eg
  obtain ⟨m,rfl⟩:=Int.eq_ofNat_of_zero_le h0
  have hm:m < b.data.toList.length:=by omega
  have R4:m < b.size:=by simpa using hm
  refine ⟨.int .u8 (b[m]).toNat,by unfold Instr.index asIntOf; simp [run_underlying (ft hk),R4],?_⟩
  have:b.data.toList.getD m 0 = b[m]:=by
   simp [List.getD,R4]
   rfl
  simp only [Int.toNat_natCast,this]
  exact .int _ _
 ·exact hc.elim
theorem uP {i:Nat} {x:V} {u:Value} (hc:(jM i x).1) (r:aP β w F x u) :
 ∃ v,(Instr.extract u i).run P w = .ok v w /\ aP β w F (jM i x).2 v:=by
 unfold jM at hc ⊢
 split at hc
 ·rename_i cs hx
  obtain ⟨hl,dr⟩:=hc
  obtain rfl:=aG hl hx
  cases r with
  | dc cs us hl hr =>
    have h1:=hr i cs[i] (List.getElem?_eq_getElem dr)
    have EX:i < us.size:=by omega
    refine ⟨us[i],by unfold Instr.extract; simp [EX],?_⟩
    simpa [V.strip,List.getD,List.getElem?_eq_getElem dr,EX] using h1
 ·exact hc.elim
end
end Go.Pl
namespace Go.Pl
open Go
section
variable {P:Program} {β:Beta} {w:World} {F:Nat -> Prop}
theorem Dq {op:BinOp} {k:IntKind} {a b:Int} (h:(Dn op k a b).1) (t:TypeId):∃ v,(binOp op t (.int k a) (.int k b)).run P w = .ok v w /\ aP β w F (Dn op k a b).2 v:=by
 cases op <;> simp only [Dn,dt] at h ⊢ <;> simp only [binOp,Op.intArith,Op.intDiv,Op.intCmp,intBits_and,intBits_or,intBits_xor,intBits_andNot]
 all_goals first
  | exact h.elim
  | (refine ⟨_,by simp; rfl,?_⟩; first | exact .int _ _ | exact .bool _)
  | (refine ⟨_,by simp [h]; rfl,?_⟩; first | exact .int _ _ | exact .bool _)
  | (refine ⟨.bool (a == b),by simp,?_⟩; rw [show (a == b) = decide (a = b) from rfl]; exact .bool _)
  | (refine ⟨.bool (a != b),by simp,?_⟩; rw [show (a != b) = !decide (a = b) from rfl]; exact .bool _)
  | skip
theorem Dr {op:BinOp} {x y:ByteArray} (h:(Dp op x.data.toList y.data.toList).1) (t:TypeId):∃ v,(binOp op t (.string x) (.string y)).run P w = .ok v w /\ aP β w F (Dp op x.data.toList y.data.toList).2 v:=by
 have e1:(x.toList == y.toList) = decide (x.data.toList = y.data.toList):=by rw [ByteArray.toList_eq,ByteArray.toList_eq,Bool.eq_iff_iff]; simp
 have e2:Op.bytesLess x.toList y.toList = Op.bytesLess x.data.toList y.data.toList:=by rw [ByteArray.toList_eq,ByteArray.toList_eq]
 cases op <;> simp only [Dp,dt] at h ⊢ <;> simp only [binOp,Op.stringOp,e1,e2]
 case add =>
  have hs:¬ (((x.size + y.size:Nat):Int) > IntKind.i64.max):=by
   have h1:x.size = x.data.toList.length:=by simp
   have h2:y.size = y.data.toList.length:=by simp
   have h3:IntKind.i64.max = 9223372036854775807:=by decide
   omega
  refine ⟨.string (x ++ y),by rw [if_neg hs]; simp,?_⟩
  have:(x ++ y).data.toList = x.data.toList ++ y.data.toList:=by simp
  rw [<- this]
  exact .str _
 all_goals first
  | exact h.elim
  | exact ⟨_,rfl,.bool _⟩
theorem wK {d:Nat} {t:TypeId} {a b:V} {ua ub:Value} {r:Bool} (h:qy (bC P t) a b = some r) (ra:aP β w F a ua) (rb:aP β w F b ub) :
 (Op.equalIn (d + 1) t ua ub).run P w = .ok r w:=by
 unfold qy at h
 split at h
 ·rename_i k0 k x k' y hk
  split at h
  ·rename_i jx
   subst jx
   injection h with h
   subst h
   rw [ra.bE,rb.bE,run_equalIn_int w d t k k0 x y (iQ hk)]
   rfl
  ·cases h
 ·rename_i x y hk
  injection h with h
  subst h
  rw [ra.fH,rb.fH,run_equalIn_bool' w d t x y (mo hk)]
 ·rename_i x y hk
  injection h with h
  subst h
  obtain ⟨bx,rfl,rfl⟩:=ra.eg
  obtain ⟨bY,rfl,rfl⟩:=rb.eg
  rw [run_equalIn_string w d t bx bY (ft hk),ByteArray.toList_eq,ByteArray.toList_eq]
  congr 1
  rw [Bool.eq_iff_iff]
  simp
 ·cases h
theorem EY {t:TypeId} (h:bC P t = .bool \/ (∃ k,bC P t = .int k) \/ bC P t = .str) (w:World):(isAgg t).run P w = .ok false w:=by
 unfold isAgg
 rcases h with h | ⟨k,h⟩ | h
 ·simp [run_underlying (mo h)]
 ·simp [run_underlying (iQ h)]
 ·simp [run_underlying (ft h)]
theorem yP {k:vt} {a b:V} {r:Bool} (h:qy k a b = some r):k = .bool \/ (∃ q,k = .int q) \/ k = .str:=by
 unfold qy at h
 split at h
 ·exact .inr (.inl ⟨_,rfl⟩)
 ·exact .inl rfl
 ·exact .inr (.inr rfl)
 ·cases h
theorem mu {d:Nat} (xs ys:Array Value) (cs ds:List V) (rx:∀ (i:Nat) (c:V),cs[i]? = some c -> aP β w F c (xs.getD i undef)) (ry:∀ (i:Nat) (c:V),ds[i]? = some c -> aP β w F c (ys.getD i undef))
 (hx:xs.size = cs.length) (hy:ys.size = ds.length):∀ (fs:List Field) (i:Nat) (r:Bool),Iy i fs = true -> gy (fs.map fun f=>bC P f.type) (cs.drop i) (ds.drop i) = some r ->
 (Op.eqFields (d + 1) xs ys fs).run P w = .ok r w
 | [],i,r,_,h=>by
   simp only [List.map_nil] at h
   generalize cs.drop i = c at h
   generalize ds.drop i = e at h
   cases c <;> cases e <;> simp [gy] at h
   subst h
   simp [Op.eqFields]
 | f :: fs,i,r,hf,h=>by
   simp only [Iy,Bool.and_eq_true,beq_iff_eq,bne_iff_ne] at hf
   obtain ⟨⟨ho,hn⟩,hf⟩:=hf
   simp only [List.map_cons] at h
   rcases Nat.lt_or_ge i cs.length with hc | hc
   ·rcases Nat.lt_or_ge i ds.length with hd | hd
    ·rw [List.drop_eq_getElem_cons hc,List.drop_eq_getElem_cons hd] at h
     simp only [gy] at h
     split at h
     ·rename_i a b h1 h2
      injection h with h
      have ih:=mu (d:=d) xs ys cs ds rx ry hx hy fs (i + 1) b hf h2
      have iD:=EY (yP h1) w
      have e1:(part f.type xs f.offset).run P w = .ok (xs.getD i undef) w:=by
       unfold part
       simp [iD,ho,show i < xs.size by omega]
      have e2:(part f.type ys f.offset).run P w = .ok (ys.getD i undef) w:=by
       unfold part
       simp [iD,ho,show i < ys.size by omega]
      have e3:=wK (d:=d) h1 (rx i _ (List.getElem?_eq_getElem hc)) (ry i _ (List.getElem?_eq_getElem hd))
      simp only [Op.eqFields,Sem.run_ite,Sem.run_bind,e1,e2,e3,Result.andThen_ok,ih,ne_eq,hn,not_false_eq_true,if_true]
      cases a
      ·simp [<- h]
      ·simp [<- h]
     ·cases h
    ·rw [List.drop_eq_nil_of_le hd,List.drop_eq_getElem_cons hc] at h
     simp [gy] at h
   ·rw [List.drop_eq_nil_of_le hc] at h
    simp [gy] at h
theorem p6 {t:TypeId} {cs ds:List V} {xs ys:Array Value} {r:Bool} (ho:wD P t = true) (h:gy (jL P t) cs ds = some r) (ra:aP β w F (.agg cs) (.agg xs)) (rb:aP β w F (.agg ds) (.agg ys)) (op:BinOp) (x y:Operand) :
 (eqGuard op t x y (.agg xs) (.agg ys)).run P w = .ok () w /\ (Op.equalIn 10000 t (.agg xs) (.agg ys)).run P w = .ok r w:=by
 unfold wD at ho
 unfold jL at h
 split at ho
 ·rename_i fs hu
  simp only [hu] at h
  simp only [Bool.and_eq_true,Bool.not_eq_true',beq_iff_eq] at ho
  obtain ⟨⟨⟨h1,h2⟩,_⟩,h4⟩:=ho
  have hfs:P.fieldsOf t = fs:=by simp [Program.fieldsOf,hu]
  have ha:xs.size = cs.length /\ (∀ (i:Nat) (c:V),cs[i]? = some c -> aP β w F c (xs.getD i undef)):=by cases ra with | agg _ _ hl _ hr=>exact ⟨hl,hr⟩
  have hb:ys.size = ds.length /\ (∀ (i:Nat) (c:V),ds[i]? = some c -> aP β w F c (ys.getD i undef)):=by cases rb with | agg _ _ hl _ hr=>exact ⟨hl,hr⟩
  refine ⟨run_eqGuard_agg w op t x y xs ys h1,?_⟩
  rw [run_equalIn_struct w 9999 t xs ys (by rw [hfs]; exact hu) h2,hfs]
  exact mu (d:=9998) xs ys cs ds ha.2 hb.2 ha.1 hb.1 fs.toList 0 r h4 (by simpa using h)
 ·cases ho
end
end Go.Pl
set_option linter.unusedSimpArgs false
namespace Go.Pl
open Go
section
variable {P:Program} {β:Beta} {w:World} {F:Nat -> Prop}
theorem yQ {x:V} {u:Value} (h:aP β w F x u) (hx:(∃ b sz i o,x = .ptr b sz i o) \/ (∃ e o,x = .ep e o)):∃ a,u = .pointer (some a):=by
 rcases hx with ⟨b,sz,i,o,rfl⟩ | ⟨e,o,rfl⟩
 ·cases h; exact ⟨_,rfl⟩
 ·cases h; exact ⟨_,rfl⟩
theorem Iz {t e:TypeId} (h:bC P t = .ptr e):P.underlying t = some (.pointer e):=by
 unfold bC at h; split at h <;> simp_all
theorem Me {t:TypeId} (h:bC P t = .fn):∃ a b c,P.underlying t = some (.func a b c):=by
 unfold bC at h; split at h <;> simp_all
theorem AD {t:TypeId} {ux uy:Value} {r:Bool} (h:(Op.equalIn (9999 + 1) t ux uy).run P w = .ok r w) (h1:binOp .eql t ux uy = (do pure (.bool (<- Op.equal t ux uy)))) (h2:binOp .neq t ux uy = (do pure (.bool (!(<- Op.equal t ux uy)))))
 (hg:∀ op ox oy,(eqGuard op t ox oy ux uy).run P w = .ok () w) (op:BinOp) (ox oy:Operand) :
 (eqGuard op t ox oy ux uy).run P w = .ok () w /\ (binOp .eql t ux uy).run P w = .ok (.bool r) w /\ (binOp .neq t ux uy).run P w = .ok (.bool (!r)) w:=by
 have h3:(Op.equal t ux uy).run P w = .ok r w:=h
 refine ⟨hg op ox oy,?_,?_⟩
 ·rw [h1,Sem.run_bind,h3]; rfl
 ·rw [h2,Sem.run_bind,h3]; rfl
theorem vy {t:TypeId} {x y:V} {ux uy:Value} {r:Bool} (h:sY (bC P t) x y = some r) (rx:aP β w F x ux) (ry:aP β w F y uy) (op:BinOp) (ox oy:Operand) :
 (eqGuard op t ox oy ux uy).run P w = .ok () w /\ (binOp .eql t ux uy).run P w = .ok (.bool r) w /\ (binOp .neq t ux uy).run P w = .ok (.bool (!r)) w:=by
 unfold sY at h
 split at h
 all_goals first
  | (cases h; done)
  | (rename_i hk
     injection h with h
     subst h
     cases rx
     cases ry
     refine AD ?_ rfl rfl (fun op ox oy=>by cases op <;> rfl) op ox oy
     rw [Op.equalIn,Sem.run_bind,run_underlying (Iz hk),Result.andThen_ok]
     rfl)
  | (rename_i hk
     injection h with h
     subst h
     cases rx
     cases ry
     refine AD ?_ rfl rfl (fun op ox oy=>by cases op <;> rfl) op ox oy
     rw [Op.equalIn,Sem.run_bind,run_underlying (fS hk),Result.andThen_ok]
     rfl)
  | (rename_i hk
     obtain ⟨p,q,s,hk⟩:=Me hk
     injection h with h
     subst h
     cases rx <;> cases ry <;>
     (refine AD ?_ rfl rfl (fun op ox oy=>by cases op <;> rfl) op ox oy
      rw [Op.equalIn,Sem.run_bind,run_underlying hk,Result.andThen_ok]
      rfl))
theorem Ds {op:BinOp} {t:TypeId} {x y:V} {ux uy:Value} (hc:(A6 P op t x y).1) (rx:aP β w F x ux) (ry:aP β w F y uy) (ox oy:Operand) :
 ∃ v,(do eqGuard op t ox oy ux uy; binOp op t ux uy:Sem Value).run P w = .ok v w /\ aP β w F (A6 P op t x y).2 v:=by
 have hg:∀ (k k':IntKind) (a b:Int),(eqGuard op t ox oy (.int k a) (.int k' b)).run P w = .ok () w:=fun k k' a b=>by cases op <;> simp [eqGuard]
 have Ic:∀ (a b:Bool),(eqGuard op t ox oy (.bool a) (.bool b)).run P w = .ok () w:=fun a b=>by cases op <;> simp [eqGuard]
 have R5:∀ (a b:ByteArray),(eqGuard op t ox oy (.string a) (.string b)).run P w = .ok () w:=fun a b=>by cases op <;> simp [eqGuard]
 unfold A6 at hc ⊢
 split at hc
 ·rename_i k a k' b hx hy
  split at hc
  ·obtain ⟨h1,h2,h3⟩:=hc
   obtain rfl:=aG h1 hx
   obtain rfl:=aG h2 hy
   rw [rx.bE,ry.bE]
   refine ⟨_,by simp [hg,binOp,Op.shift,show ¬ b < 0 by omega]; rfl,?_⟩
   simp only [V.strip]
   exact .int _ _
  ·obtain ⟨h1,h2,h3⟩:=hc
   obtain rfl:=aG h1 hx
   obtain rfl:=aG h2 hy
   rw [rx.bE,ry.bE]
   refine ⟨_,by simp [hg,binOp,Op.shift,show ¬ b < 0 by omega]; rfl,?_⟩
   simp only [V.strip]
   exact .int _ _
  ·obtain ⟨h1,h2,rfl,h3⟩:=hc
   obtain rfl:=aG h1 hx
   obtain rfl:=aG h2 hy
   rw [rx.bE,ry.bE]
   obtain ⟨v,h4,h5⟩:=Dq (w:=w) (P:=P) (β:=β) (F:=F) h3 t
   exact ⟨v,by simp [hg,h4],h5⟩
 ·rename_i a b hx hy
  obtain ⟨h1,h2,h3⟩:=hc
  obtain rfl:=aG h1 hx
  obtain rfl:=aG h2 hy
  obtain ⟨xb,rfl,rfl⟩:=rx.eg
  obtain ⟨yb,rfl,rfl⟩:=ry.eg
  obtain ⟨v,h4,h5⟩:=Dr (w:=w) (P:=P) (β:=β) (F:=F) h3 t
  exact ⟨v,by simp [R5,h4],by simpa [V.strip] using h5⟩
 ·rename_i a b hx hy
  split at hc
  ·obtain ⟨h1,h2,h3⟩:=hc
   obtain rfl:=aG h1 hx
   obtain rfl:=aG h2 hy
   rw [rx.fH,ry.fH]
   refine ⟨.bool (a == b),?_,by simp only [V.strip]; exact .bool _⟩
   simp [Ic,binOp,Op.equal,Op.maxDepth,run_equalIn_bool' w 9999 t a b (mo h3)]
  ·obtain ⟨h1,h2,h3⟩:=hc
   obtain rfl:=aG h1 hx
   obtain rfl:=aG h2 hy
   rw [rx.fH,ry.fH]
   refine ⟨.bool (!(a == b)),?_,by simp only [V.strip]; exact .bool _⟩
   simp [Ic,binOp,Op.equal,Op.maxDepth,run_equalIn_bool' w 9999 t a b (mo h3)]
  ·exact hc.elim
 ·rename_i cs ds hx hy
  split at hc
  ·obtain ⟨h1,h2,h3,h4⟩:=hc
   obtain rfl:=aG h1 hx
   obtain rfl:=aG h2 hy
   obtain ⟨r,h4⟩:=Option.isSome_iff_exists.1 h4
   obtain ⟨us,rfl,_⟩:=rx.nu
   obtain ⟨vs,rfl,_⟩:=ry.nu
   obtain ⟨h5,h6⟩:=p6 h3 h4 rx ry .eql ox oy
   refine ⟨.bool r,?_,by simp only [V.strip,h4]; exact .bool _⟩
   simp [h5,run_eql_struct,h6]
  ·obtain ⟨h1,h2,h3,h4⟩:=hc
   obtain rfl:=aG h1 hx
   obtain rfl:=aG h2 hy
   obtain ⟨r,h4⟩:=Option.isSome_iff_exists.1 h4
   obtain ⟨us,rfl,_⟩:=rx.nu
   obtain ⟨vs,rfl,_⟩:=ry.nu
   obtain ⟨h5,h6⟩:=p6 h3 h4 rx ry .neq ox oy
   refine ⟨.bool (!r),?_,by simp only [V.strip,h4]; exact .bool _⟩
   simp [h5,run_neq_struct,h6]
  ·exact hc.elim
 ·split at hc
  ·obtain ⟨h1,h2,h3⟩:=hc
   obtain ⟨r,h3⟩:=Option.isSome_iff_exists.1 h3
   rw [aS h1,aS h2] at h3
   obtain ⟨h5,h6,_⟩:=vy h3 rx ry .eql ox oy
   refine ⟨.bool r,by simp [h5,h6],?_⟩
   rw [aS h1,aS h2,h3]
   exact .bool _
  ·obtain ⟨h1,h2,h3⟩:=hc
   obtain ⟨r,h3⟩:=Option.isSome_iff_exists.1 h3
   rw [aS h1,aS h2] at h3
   obtain ⟨h5,_,h6⟩:=vy h3 rx ry .neq ox oy
   refine ⟨.bool (!r),by simp [h5,h6],?_⟩
   rw [aS h1,aS h2,h3]
   exact .bool _
  ·exact hc.elim
theorem EZ {op:UnOp} {x:V} {u:Value} (hc:(Mb op x).1) (r:aP β w F x u):∃ v,(Op.unary op u).run P w = .ok v w /\ aP β w F (Mb op x).2 v:=by
 unfold Mb at hc ⊢
 split at hc
 ·rename_i b hx
  obtain rfl:=aG hc hx
  rw [r.fH]
  exact ⟨_,rfl,by simp only [V.strip]; exact .bool _⟩
 ·rename_i k n hx
  obtain rfl:=aG hc hx
  rw [r.bE]
  exact ⟨_,rfl,by simp only [V.strip]; exact .int _ _⟩
 ·exact hc.elim
theorem run_convert_int {s d:TypeId} {k0 k k1:IntKind} (n:Int) (h1:P.underlying s = some (.int k0)) (h2:P.underlying d = some (.int k)):(convert s d (.int k1 n)).run P w = .ok (.int k (k.wrap n)) w:=by
 unfold convert
 rw [Sem.run_bind,run_underlying h1,Result.andThen_ok,Sem.run_bind,run_underlying h2,Result.andThen_ok]
 rfl
theorem rW {s d:TypeId} (b:ByteArray) (h1:P.underlying s = some .string) (h2:P.underlying d = some .string):(convert s d (.string b)).run P w = .ok (.string b) w:=by
 unfold convert
 rw [Sem.run_bind,run_underlying h1,Result.andThen_ok,Sem.run_bind,run_underlying h2,Result.andThen_ok]
 rfl
theorem foldl_push:∀ (l:List UInt8) (s:ByteArray),(l.foldl (fun r n=>r.push n) s).data.toList = s.data.toList ++ l
 | [],s=>by simp
 | b :: l,s=>by
   rw [List.foldl_cons,foldl_push l]
   simp [ByteArray.push]
theorem oJ {s d:TypeId} {x:V} {u:Value} (hg:∀ e,¬ (bC P s = .str /\ bC P d = .slice e)) (hc:(km P s d x).1) (r:aP β w F x u):∃ v,(convert s d u).run P w = .ok v w /\ aP β w F (km P s d x).2 v:=by
 unfold km at hc ⊢
 split at hc
 ·rename_i k0 k k1 n h1 h2 hx
  obtain rfl:=aG hc hx
  rw [r.bE]
  refine ⟨_,run_convert_int n (iQ h1) (iQ h2),?_⟩
  simp only [h1,h2,V.strip]
  exact .int _ _
 ·rename_i s h1 h2 hx
  obtain rfl:=aG hc hx
  obtain ⟨b,rfl,rfl⟩:=r.eg
  refine ⟨_,rW b (ft h1) (ft h2),?_⟩
  simp only [h1,h2,V.strip]
  exact .str _
 ·rename_i e s h1 h2 hx
  exact absurd ⟨h1,h2⟩ (hg e)
 ·rename_i e sz es h1 h2 hx
  obtain ⟨hl,he,rfl,hu⟩:=hc
  obtain rfl:=aG hl hx
  have KQ:∀ (i:Nat) (c:V),es[i]? = some c -> ∃ n,c = .int .u8 n:=by
   intro i c hi
   have:=List.all_eq_true.1 hu c (List.mem_of_getElem? hi)
   unfold yK at this
   split at this
   ·exact ⟨_,rfl⟩
   ·cases this
  simp only [h1,h2,V.strip]
  cases r with
  | sl _ _ A cap uu kP gZ hA bW bD bO =>
    rw [run_convert_bytes_string w s d e A es.length cap (bA h1) (iQ he) (ft h2)]
    cases A with
    | none =>
      have:es = []:=by
       by_cases h0:es = []
       ·exact h0
       ·exact absurd rfl (hA h0)
      subst this
      exact ⟨_,rfl,.str ByteArray.empty⟩
    | some a =>
      have Mc:=run_loadCells (P:=P) w a es.length (fun j=>.int .u8 (intOf (es.getD j .cU))) (fun j hj=>by
       have BT:=List.getElem?_eq_getElem hj
       obtain ⟨n,hn⟩:=KQ j _ BT
       obtain ⟨a',fI,_,h3,_⟩:=bD j _ 0 es[j] BT (by rw [hn]; rfl)
       have h4:=bO j _ 0 es[j] BT (by rw [hn]; rfl)
       injection fI with fI
       subst fI
       simp only [Nat.mul_one,Nat.add_zero] at h3 h4
       rw [h3]
       have e1:es.getD j .cU = .int .u8 n:=by simp [List.getD,BT,hn]
       rw [hn] at h4
       rw [e1,h4.bE]
       rfl)
      have e2:(List.range es.length).map (fun j=>Value.int .u8 (intOf (es.getD j .cU))) = (es.map intOf).map (Value.int .u8):=by
       apply List.ext_getElem
       ·simp
       ·intro k h3 h4
        simp at h3
        simp [List.getD,List.getElem?_eq_getElem h3]
      rw [e2] at Mc
      refine ⟨_,run_bytesToString w a es.length cap _ Mc,?_⟩
      have e3:es.map toByte = (((es.map intOf).foldl (fun (r:ByteArray) (n:Int)=>r.push (UInt8.ofNat n.toNat)) ByteArray.empty)).data.toList:=by
       have:=foldl_push ((es.map intOf).map fun n:Int=>UInt8.ofNat n.toNat) ByteArray.empty
       rw [List.foldl_map] at this
       rw [this]
       simp only [List.map_map]
       rw [show (ByteArray.empty).data.toList = [] from rfl,List.nil_append]
       apply List.map_congr_left
       intro c hc
       obtain ⟨k,hk⟩:=List.getElem?_of_mem hc
       obtain ⟨n,rfl⟩:=KQ k c hk
       rfl
      rw [e3]
      exact .str _
 ·rename_i e h1 h2 hx
  obtain ⟨hl,he⟩:=hc
  obtain rfl:=aG hl hx
  cases r
  simp only [h1,h2,V.strip]
  rw [run_convert_bytes_string w s d e none 0 0 (bA h1) (iQ he) (ft h2)]
  exact ⟨_,rfl,.str ByteArray.empty⟩
 ·exact hc.elim
theorem Dt {bx:aa} {t:TypeId} {x:V} {u:Value} {ty:TypeId} (hc:(nO P bx t x).1) (hb:EV β F bx w) (r:aP β w F x u) :
 ∃ v,(Builtin.len_ #[t] ty #[u]).run P w = .ok v w /\ aP β w F (nO P bx t x).2 v:=by
 unfold nO at hc ⊢
 split at hc
 ·rename_i e sz es hk hx
  obtain rfl:=aG hc hx
  cases r
  refine ⟨_,by unfold Builtin.len_; simp [run_underlying (bA hk)]; rfl,?_⟩
  simp only [hk,V.strip,goInt]; exact .int _ _
 ·rename_i e b sz o n hk hx
  obtain rfl:=aG hc hx
  cases r
  ·refine ⟨_,by unfold Builtin.len_; simp [run_underlying (bA hk)]; rfl,?_⟩
   simp only [hk,V.strip,goInt]; exact .int _ _
  ·refine ⟨_,by unfold Builtin.len_; simp [run_underlying (bA hk)]; rfl,?_⟩
   simp only [hk,V.strip,goInt]; exact .int _ _
 ·rename_i e hk hx
  obtain rfl:=aG hc hx
  cases r
  refine ⟨_,by unfold Builtin.len_; simp [run_underlying (bA hk)]; rfl,?_⟩
  simp only [hk,V.strip,goInt]; exact .int _ _
 ·rename_i s hk hx
  obtain rfl:=aG hc hx
  obtain ⟨b,rfl,rfl⟩:=r.eg
  refine ⟨_,by unfold Builtin.len_; simp [run_underlying (ft hk)]; rfl,?_⟩
  have:(b.size:Int) = (b.data.toList.length:Int):=by simp
  simp only [hk,V.strip,goInt,this]; exact .int _ _
 ·rename_i n e hk
  refine ⟨goInt n,by unfold Builtin.len_; simp [run_underlying (p5 hk)],?_⟩
  simp only [hk,goInt]; exact .int _ _
 ·rename_i a e hk hx
  obtain rfl:=aG hc hx
  cases r
  refine ⟨_,by unfold Builtin.len_; simp [run_underlying (fS hk)]; rfl,?_⟩
  simp only [hk,V.strip,goInt]; exact .int _ _
 ·rename_i a e b hk hx
  split at hc
  ·rename_i es pt
   obtain rfl:=aG hc hx
   cases r with
   | mp b k dm =>
     rcases hb b _ pt with ⟨_,h0⟩ | ⟨k',jZ,hm⟩
     ·exact h0.elim
     ·rw [dm] at jZ
      injection jZ with jZ
      injection jZ with jZ
      subst jZ
      obtain ⟨ms,clock,h1,h2,_⟩:=hm
      refine ⟨_,by unfold Builtin.len_ getObj; simp [run_underlying (fS hk),Sem.run,h1]; rfl,?_⟩
      simp only [hk,V.strip,goInt,pt,h2]; exact .int _ _
  ·exact hc.elim
 ·exact hc.elim
theorem Du {x y:V} {ux uy:Value} {ts:Array TypeId} {ty:TypeId} (hc:(A7 x y).1) (rx:aP β w F x ux) (ry:aP β w F y uy) :
 ∃ v,(Builtin.min_ ts ty #[ux,uy]).run P w = .ok v w /\ aP β w F (A7 x y).2 v:=by
 unfold A7 at hc ⊢
 split at hc
 ·rename_i k a k' b hx hy
  obtain rfl:=aG hc.1 hx
  obtain rfl:=aG hc.2 hy
  rw [rx.bE,ry.bE]
  refine ⟨_,by simp [Builtin.min_,Builtin.min2]; rfl,?_⟩
  simp only [V.strip]; exact .int _ _
 ·exact hc.elim
theorem Dv {x y:V} {ux uy:Value} {ts:Array TypeId} {ty:TypeId} (hc:(A8 x y).1) (rx:aP β w F x ux) (ry:aP β w F y uy) :
 ∃ v,(Builtin.max_ ts ty #[ux,uy]).run P w = .ok v w /\ aP β w F (A8 x y).2 v:=by
 unfold A8 at hc ⊢
 split at hc
 ·rename_i k a k' b hx hy
  obtain rfl:=aG hc.1 hx
  obtain rfl:=aG hc.2 hy
  rw [rx.bE,ry.bE]
  refine ⟨_,by simp [Builtin.max_,Builtin.max2]; rfl,?_⟩
  simp only [V.strip]; exact .int _ _
 ·exact hc.elim
end
end Go.Pl
set_option linter.unusedVariables false
namespace Go.Pl
open Go
section
variable {P:Program} {β:Beta} {w:World}
theorem hI {F:Nat -> Prop} {v:V} {u:Value} (ho:okV v = true) (h:aP β w F v u) :
 u.cells.size = v.cells.length /\ ∀ (j:Nat) (c:V),v.cells[j]? = some c -> (u.cells.getD j undef).oneCell' = true /\ aP β w F c (u.cells.getD j undef):=by
 have one:∀ (hv:v.cells = [v]) (hu:u.cells = #[u]) (h1:u.oneCell' = true),u.cells.size = v.cells.length /\ ∀ (j:Nat) (c:V),v.cells[j]? = some c -> (u.cells.getD j undef).oneCell' = true /\ aP β w F c (u.cells.getD j undef):=by
  intro hv hu h1
  rw [hv,hu]
  refine ⟨rfl,fun j c hc=>?_⟩
  match j,hc with
  | 0,hc=>simp at hc; subst hc; exact ⟨h1,h⟩
  | j + 1,hc=>simp at hc
 cases h with
 | agg cs us hl h1 hr =>
   refine ⟨hl,fun j c hc=>⟨h1 j ?_,hr j c hc⟩⟩
   exact (List.getElem?_eq_some_iff.1 hc).1
 | cU=>simp [okV] at ho
 | dc=>simp [okV] at ho
 | dead=>simp [okV] at ho
 | _=>exact one rfl rfl rfl
theorem foldl_set (off:Nat):∀ (vs:List Value) (s:Nat) (cs:Array Value),off + s + vs.length <= cs.size ->
 (((vs.zipIdx s).foldl (fun (cs:Array Value) (x:Value × Nat)=>cs.setIfInBounds (off + x.2) x.1) cs).size = cs.size /\
  ∀ m,((vs.zipIdx s).foldl (fun (cs:Array Value) (x:Value × Nat)=>cs.setIfInBounds (off + x.2) x.1) cs).getD m undef = if off + s <= m /\ m < off + s + vs.length then vs.getD (m - (off + s)) undef else cs.getD m undef)
 | [],s,cs,_=>by
   refine ⟨by simp,fun m=>?_⟩
   rw [if_neg (by simp)]
   simp
 | v :: vs,s,cs,h=>by
   simp only [List.length_cons] at h
   simp only [List.zipIdx_cons,List.foldl_cons]
   have ih:=foldl_set off vs (s + 1) (cs.setIfInBounds (off + s) v) (by simp; omega)
   refine ⟨by rw [ih.1]; simp,fun m=>?_⟩
   rw [ih.2 m]
   by_cases h1:off + (s + 1) <= m /\ m < off + (s + 1) + vs.length
   ·rw [if_pos h1,if_pos (by simp; omega)]
    have:m - (off + s) = (m - (off + (s + 1))) + 1:=by omega
    rw [this]
    simp
   ·rw [if_neg h1]
    by_cases h2:m = off + s
    ·subst h2
     rw [if_pos (by simp)]
     have:off + s < cs.size:=by omega
     simp [this]
    ·rw [if_neg (by simp only [List.length_cons]; omega)]
     simp [Array.getElem?_setIfInBounds_ne (Ne.symm h2)]
def kR (β:Beta) (w:World) (F:Nat -> Prop) (cs:List V) (us:Array Value):Prop :=
 us.size = cs.length /\ ∀ (j:Nat) (c:V),cs[j]? = some c -> (us.getD j undef).oneCell' = true /\ aP β w F c (us.getD j undef)
theorem th (cs vs:List V) (off j:Nat) (h:off + vs.length <= cs.length):(ml cs off vs).length = cs.length /\ (ml cs off vs)[j]? = if off <= j /\ j < off + vs.length then vs[j - off]? else cs[j]?:=by
 unfold ml
 refine ⟨by simp; omega,?_⟩
 rw [List.append_assoc]
 by_cases h1:j < off
 ·rw [if_neg (by omega),List.getElem?_append_left (by simp; omega),List.getElem?_take]
  rw [if_pos h1]
 ·rw [List.getElem?_append_right (by simp; omega)]
  have hl:(cs.take off).length = off:=by simp; omega
  rw [hl]
  by_cases h2:j < off + vs.length
  ·rw [if_pos (by omega),List.getElem?_append_left (by omega)]
  ·rw [if_neg (by omega),List.getElem?_append_right (by omega),List.getElem?_drop]
   congr 1
   omega
theorem wL {F:Nat -> Prop} {cs:List V} {us:Array Value} (h:kR β w F cs us) {x:V} {u:Value} {off sz:Nat} (ho:okV x = true) (hl:x.cells.length = sz) (fB:off + sz <= cs.length) (hr:aP β w F x u) :
 kR β w F (ml cs off x.cells) (u.cells.zipIdx.foldl (fun cs (c,j)=>cs.setIfInBounds (off + j) c) us):=by
 have hu:=hI ho hr
 obtain ⟨h1,h2⟩:=foldl_set off u.cells.toList 0 us (by simp; rw [hu.1,h.1]; omega)
 have hz:(u.cells.zipIdx.foldl (fun cs (c,j)=>cs.setIfInBounds (off + j) c) us) = (u.cells.toList.zipIdx 0).foldl (fun (cs:Array Value) (x:Value × Nat)=>cs.setIfInBounds (off + x.2) x.1) us:=by
  rw [<- Array.foldl_toList]
  simp
 rw [hz]
 subst hl
 refine ⟨by rw [h1,h.1,(th cs x.cells off 0 fB).1],fun j c hc=>?_⟩
 rw [(th cs x.cells off j fB).2] at hc
 rw [h2 j]
 simp only [Nat.add_zero,Array.length_toList,hu.1]
 split at hc
 ·rename_i hj
  rw [if_pos hj]
  simpa using hu.2 _ c hc
 ·rename_i hj
  rw [if_neg hj]
  exact h.2 j c hc
theorem oK {F:Nat -> Prop} {st:St} {a:Act} (hg:∀ x,aP β w F (st.get x) (a.eval x)) {t:TypeId} {place:Nat -> Option (Nat × Nat)} (rX:∀ i p,aT P t i = some p -> place i = some p):∀ (ps:List (Nat × Operand)) (cs:List V) (us:Array Value),kR β w F cs us ->
 (fG P t cs (ps.map fun p=>(p.1,st.get p.2))).1 ->
 ∃ BU,Instr.fill place us (ps.map fun (i,x)=>(i,a.eval x)) = some BU /\ kR β w F (fG P t cs (ps.map fun p=>(p.1,st.get p.2))).2 BU
 | [],cs,us,h,_=>⟨us,rfl,h⟩
 | (i,x) :: ps,cs,us,h,hc=>by
   simp only [List.map_cons,fG,A9,sZ] at hc ⊢
   cases hp:aT P t i with
   | none=>simp [hp] at hc
   | some p =>
     obtain ⟨off,sz⟩:=p
     simp only [hp] at hc ⊢
     obtain ⟨h1,h2,h3,h4⟩:=hc
     have hu:=hI h1 (hg x)
     obtain ⟨BU,h5,h6⟩:=oK hg rX ps _ _ (wL h h1 h2 h3 (hg x)) h4
     refine ⟨BU,?_,h6⟩
     simp only [Instr.fill,rX i _ hp]
     rw [if_neg (by simp; rw [hu.1,h2,h.1]; omega)]
     exact h5
theorem qY:∀ (fs:List Field),fs.all (fun f:Field=>(P.info? f.type).isSome) = true -> ∃ places:List (Nat × Nat),fs.mapM (fun f:Field=>(P.info? f.type).map fun i=>(f.offset,i.size)) = some places /\ ∀ i:Nat,places[i]? = (fs[i]?).bind fun f:Field=>(P.info? f.type).map fun ie=>(f.offset,ie.size)
 | [],_=>⟨[],by simp,by simp⟩
 | f :: fs,h=>by
   simp only [List.all_cons,Bool.and_eq_true] at h
   obtain ⟨ie,hi⟩:=Option.isSome_iff_exists.1 h.1
   obtain ⟨places,h1,h2⟩:=qY fs h.2
   refine ⟨(f.offset,ie.size) :: places,by simp [List.mapM_cons,hi,h1],fun i=>?_⟩
   cases i with
   | zero=>simp [hi]
   | succ i=>simpa using h2 i
theorem yR {F:Nat -> Prop} {st:St} {a:Act} (hg:∀ x,aP β w F (st.get x) (a.eval x)) {t:TypeId} {parts:Array (Nat × Operand)} (hc:(kC P t (aV P t) (parts.toList.map fun p=>(p.1,st.get p.2))).1) :
 ∃ v,(Instr.build t (parts.map fun (i,x)=>(i,a.eval x))).run P w = .ok v w /\ aP β w F (kC P t (aV P t) (parts.toList.map fun p=>(p.1,st.get p.2))).2 v:=by
 cases hz:aV P t with
 | none=>simp [kC,hz,dt] at hc
 | some z =>
   simp only [hz,kC] at hc ⊢
   obtain ⟨hb,ho,hc⟩:=hc
   have hzi:∃ it,P.info? t = some it /\ it.zero = some z:=by
    unfold aV at hz
    cases hi:P.info? t with
    | none=>simp [hi] at hz
    | some i=>exact ⟨i,rfl,by simpa [hi] using hz⟩
   obtain ⟨it,hit,hz⟩:=hzi
   have h0:=hI (β:=β) (w:=w) (F:=F) ho (dp z)
   have bD:kR β w F (ofValue z).cells z.cells:=h0
   have key:∀ BU,P.built t ((parts.map fun (i,x)=>(i,a.eval x)).toList) = some BU -> kR β w F (fG P t (ofValue z).cells (parts.toList.map fun p=>(p.1,st.get p.2))).2 BU ->
    ∃ v,(Instr.build t (parts.map fun (i,x)=>(i,a.eval x))).run P w = .ok v w /\ aP β w F (.agg (fG P t (ofValue z).cells (parts.toList.map fun p=>(p.1,st.get p.2))).2) v:=by
    intro BU h1 h2
    refine ⟨.agg BU,run_build w t _ BU h1,?_⟩
    refine .agg _ _ h2.1 (fun i hi=>?_) (fun i c hi=>(h2.2 i c hi).2)
    exact (h2.2 i _ (List.getElem?_eq_getElem hi)).1
   unfold dG at hb
   split at hb
   ·rename_i fs hu
    obtain ⟨places,h1,h2⟩:=qY fs.toList hb
    obtain ⟨BU,h3,h4⟩:=oK hg (place:=(places.toArray[·]?)) (fun i p hp=>by
     simp only [aT,hu] at hp
     simp only [List.getElem?_toArray]
     rw [h2 i]
     simpa using hp) parts.toList _ _ bD hc
    refine key BU ?_ h4
    simp only [Program.built,hit,hu,hz,h1,Array.toList_map]
    exact h3
   ·rename_i n e hu
    obtain ⟨ie,hie⟩:=Option.isSome_iff_exists.1 hb
    obtain ⟨BU,h3,h4⟩:=oK hg (place:=fun i=>some (i * ie.size,ie.size)) (fun i p hp=>by
     simp only [aT,hu,hie,Option.map_some] at hp
     exact hp) parts.toList _ _ bD hc
    refine key BU ?_ h4
    simp only [Program.built,hit,hu,hz,hie,Array.toList_map]
    exact h3
   ·cases hb
end
end Go.Pl
namespace Go.Pl
open Go
section
variable {P:Program} {β:Beta} {w:World} {F:Nat -> Prop}
theorem p7 {t:TypeId} (h:vu (bC P t) = true):∃ d,P.underlying t = some d /\ ∀ m,d ≠ .interface m:=by
 unfold bC at h
 split at h
 all_goals first | (exact absurd h (by decide)) | (rename_i h1; exact ⟨_,h1,by intro m hm; cases hm⟩)
theorem nv {ok b:Bool} {v:V} {u:Value} (r:aP β w F v u):aP β w F (kM ok b v) (if ok = true then .tuple #[u,.bool b] else u):=by
 cases ok
 ·exact r
 ·refine .dc _ _ rfl fun i c hi=>?_
  rcases i with _ | _ | i
  ·cases hi; exact r
  ·cases hi; exact .bool b
  ·simp at hi
theorem rY {t:TypeId} {x:V} {u:Value} (hc:(iC P t x).1) (r:aP β w F x u) :
 ∃ v,(Instr.makeInterface t u).run P w = .ok v w /\ aP β w F (iC P t x).2 v:=by
 obtain ⟨hl,hk⟩:=hc
 obtain ⟨d,h1,h2⟩:=p7 hk
 refine ⟨.iface t u,?_,?_⟩
 ·unfold Instr.makeInterface
  cases d <;> simp [run_underlying h1] <;> exact absurd rfl (h2 _)
 ·unfold iC
  rw [aS hl]
  exact .iface t x u r
theorem iV {t:TypeId} {z:Value} (h:aV P t = some z):(zeroValue t).run P w = .ok z w:=by
 unfold aV at h
 unfold zeroValue typeInfo
 cases hi:P.info? t with
 | none=>rw [hi] at h; cases h
 | some i =>
   rw [hi] at h
   simp at h
   simp [hi,h]
theorem wM {x:V} {xT a:TypeId} {ok:Bool} {u:Value} (hc:(ns P x a ok).1) (r:aP β w F x u) :
 ∃ v,(Instr.typeAssert u xT a ok).run P w = .ok v w /\ aP β w F (ns P x a ok).2 v:=by
 unfold ns at hc ⊢
 split at hc
 ·rename_i t v hx
  split at hc
  ·rename_i hta
   obtain ⟨hl,hk⟩:=hc
   obtain rfl:=aG hl hx
   obtain ⟨d,h1,h2⟩:=p7 hk
   cases r with
   | iface t v u r =>
     subst hta
     simp only [V.strip,if_true]
     refine ⟨if ok = true then .tuple #[u,.bool true] else u,?_,nv r⟩
     unfold Instr.typeAssert
     cases d <;> first | (exact absurd rfl (h2 _)) | (cases ok <;> simp [run_underlying h1])
  ·rename_i hta
   split at hc
   ·rename_i z hz
    obtain ⟨hl,hk,rfl⟩:=hc
    obtain rfl:=aG hl hx
    obtain ⟨d,h1,h2⟩:=p7 hk
    cases r with
    | iface t v u r =>
      simp only [V.strip,if_neg hta,hz]
      refine ⟨.tuple #[z,.bool false],?_,nv (ok:=true) (dp z)⟩
      unfold Instr.typeAssert
      cases d <;> first | (exact absurd rfl (h2 _)) | simp [run_underlying h1,hta,iV hz]
   ·exact hc.elim
 ·rename_i hx
  split at hc
  ·rename_i z hz
   obtain ⟨hl,hk,rfl⟩:=hc
   obtain rfl:=aG hl hx
   obtain ⟨d,h1,h2⟩:=p7 hk
   cases r with
   | ir =>
     simp only [V.strip,hz]
     refine ⟨.tuple #[z,.bool false],?_,nv (ok:=true) (dp z)⟩
     unfold Instr.typeAssert
     cases d <;> first | (exact absurd rfl (h2 _)) | simp [run_underlying h1,iV hz]
  ·exact hc.elim
 ·exact hc.elim
theorem kn {t:TypeId} {x:V} (h:oI (bC P t) x = true):∃ d,P.underlying t = some d /\ ((d = .bool /\ ∃ b,x = .bool b) \/ (d = .string /\ ∃ b,x = .str b) \/ ∃ k i,d = .int k /\ x = .int k i):=by
 unfold oI at h
 split at h
 ·rename_i k k' i hk
  have:k = k':=by simpa using h
  subst this
  exact ⟨_,iQ hk,.inr (.inr ⟨k,i,rfl,rfl⟩)⟩
 ·rename_i b hk
  exact ⟨_,ft hk,.inr (.inl ⟨rfl,b,rfl⟩)⟩
 ·rename_i b hk
  exact ⟨_,mo hk,.inl ⟨rfl,b,rfl⟩⟩
 ·cases h
theorem run_checkKey {t:TypeId} {x:V} (h:oI (bC P t) x = true) (e:Bool) (n:Nat) (u:Value):(Instr.checkKey e (n + 1) t u).run P w = .ok () w:=by
 obtain ⟨d,h1,h2⟩:=kn h
 unfold Instr.checkKey
 rcases h2 with ⟨rfl,_⟩ | ⟨rfl,_⟩ | ⟨k,i,rfl,_⟩ <;> simp [run_underlying h1]
theorem Dw {t:TypeId} {d:TypeDesc} {a b:V} {ua ub:Value} {c:Bool} (hk:oI (bC P t) a = true) (hd:P.underlying t = some d) (h:lO a b = some c) (ra:aP β w F a ua) (rb:aP β w F b ub):Instr.sameNow d ua ub = some c:=by
 obtain ⟨d',h1,h2⟩:=kn hk
 rw [hd] at h1
 obtain rfl:=Option.some.inj h1
 unfold lO at h
 split at h
 ·rw [ra.bE,rb.bE]
  rcases h2 with ⟨rfl,_,h2⟩ | ⟨rfl,_,h2⟩ | ⟨k,i,rfl,h2⟩
  ·cases h2
  ·cases h2
  ·exact h
 ·obtain ⟨x,rfl,rfl⟩:=ra.eg
  obtain ⟨y,rfl,rfl⟩:=rb.eg
  rcases h2 with ⟨rfl,_,h2⟩ | ⟨rfl,_,h2⟩ | ⟨k,i,rfl,h2⟩
  ·cases h2
  ·simp only [Instr.sameNow]
   rw [<- h]
   congr 1
   rw [Bool.eq_iff_iff,Go.MapKept.bytes_beq]
   rw [beq_iff_eq]
   constructor
   ·rintro rfl; rfl
   ·intro e
    obtain ⟨⟨x⟩⟩:=x
    obtain ⟨⟨y⟩⟩:=y
    simp at e
    rw [e]
  ·cases h2
 ·rcases h2 with ⟨rfl,_,h2⟩ | ⟨rfl,_,h2⟩ | ⟨k,i,rfl,h2⟩
  ·cases ra; cases rb
   exact h
  ·cases h2
  ·cases h2
 ·cases h
theorem kS {t:TypeId} {d:TypeDesc} {a:V} {ua:Value} (hk:oI (bC P t) a = true) (hd:P.underlying t = some d) (ra:aP β w F a ua) :
 ∀ (es:List (V × V)) (ms:List MapEntry) (i:Nat) (r:Option (Nat × V)),es.length = ms.length -> (∀ (j:Nat) (x:V × V) (m:MapEntry),es[j]? = some x -> ms[j]? = some m -> aP β w F x.1 m.key /\ aP β w F x.2 m.val) -> fq a es i = some r ->
  (r = none /\ Instr.findNow d ua ms i = some none) \/ ∃ j v u,r = some (j,v) /\ Instr.findNow d ua ms i = some (some (j,u)) /\ aP β w F v u /\ i <= j /\ (es[j - i]?).map (·.2) = some v
 | [],[],i,r,_,_,h=>by
   simp only [fq,Option.some.injEq] at h
   exact .inl ⟨h.symm,rfl⟩
 | e :: es,m :: ms,i,r,hl,hr,h=>by
   obtain ⟨r1,r2⟩:=hr 0 e m rfl rfl
   rw [fq] at h
   cases hs:lO a e.1 with
   | none=>rw [hs] at h; cases h
   | some c =>
     rw [hs] at h
     have hn:=Dw hk hd hs ra r1
     cases c with
     | true =>
       simp only [Option.some.injEq] at h
       refine .inr ⟨i,e.2,m.val,h.symm,?_,r2,Nat.le_refl _,by simp⟩
       rw [Instr.findNow,hn]
     | false =>
       simp only at h
       have ih:=kS hk hd ra es ms (i + 1) r (by simpa using hl) (fun j x m h1 h2=>hr (j + 1) x m (by simpa using h1) (by simpa using h2)) h
       rcases ih with ⟨h1,h2⟩ | ⟨j,v,u,h1,h2,h3,h4,h5⟩
       ·exact .inl ⟨h1,by rw [Instr.findNow,hn]; exact h2⟩
       ·refine .inr ⟨j,v,u,h1,by rw [Instr.findNow,hn]; exact h2,h3,by omega,?_⟩
        rw [show j - i = (j - (i + 1)) + 1 from by omega,List.getElem?_cons_succ]
        exact h5
theorem wN {bx:aa} {t:TypeId} {x ix:V} {ok:Bool} {u ui:Value} (hc:(lp P bx t x ix ok).1) (hb:EV β F bx w) (r:aP β w F x u) (ri:aP β w F ix ui) :
 ∃ v,(Instr.lookup t u ui ok).run P w = .ok v w /\ aP β w F (lp P bx t x ix ok).2 v:=by
 unfold lp at hc ⊢
 split at hc
 ·rename_i k e hk hx
  split at hc
  ·rename_i z hz
   obtain ⟨hl,wI,jx⟩:=hc
   obtain rfl:=aG hl hx
   rw [aS wI] at jx
   obtain ⟨d,hd,_⟩:=kn jx
   cases r
   refine ⟨if ok = true then .tuple #[z,.bool false] else z,?_,?_⟩
   ·unfold Instr.lookup Instr.findKey
    simp [run_underlying (fS hk),run_checkKey jx,run_underlying hd,Instr.findNow,iV hz]
   ·simp only [hk,V.strip,hz]; exact nv (dp z)
  ·exact hc.elim
 ·rename_i k e b hk hx
  split at hc
  ·rename_i es z pt hz
   split at hc
   ·rename_i j v hf
    obtain ⟨hl,wI,jx⟩:=hc
    obtain rfl:=aG hl hx
    rw [aS wI] at jx hf
    obtain ⟨d,hd,_⟩:=kn jx
    cases r with
    | mp b k' dm =>
      rcases hb b _ pt with ⟨_,h0⟩ | ⟨k2,fJ,hm⟩
      ·exact h0.elim
      ·rw [dm] at fJ
       injection fJ with fJ
       injection fJ with fJ
       subst fJ
       obtain ⟨ms,clock,h1,h2,_,h4⟩:=hm
       rcases kS jx hd ri es ms.toList 0 (some (j,v)) (by simp [h2]) (fun j x m g1 g2=>h4 j x m g1 (by simpa using g2)) hf with ⟨h5,_⟩ | ⟨j',v',u',h5,h6,h7,_⟩
       ·cases h5
       ·injection h5 with h5
        injection h5 with h5 R6
        subst h5 R6
        refine ⟨if ok = true then .tuple #[u',.bool true] else u',?_,?_⟩
        ·unfold Instr.lookup Instr.findKey getObj
         simp [run_underlying (fS hk),run_checkKey jx,run_underlying hd,Sem.run,h1,h6]
        ·simp only [hk,V.strip,hz,pt,aS wI,hf]; exact nv h7
   ·rename_i hf
    obtain ⟨hl,wI,jx⟩:=hc
    obtain rfl:=aG hl hx
    rw [aS wI] at jx hf
    obtain ⟨d,hd,_⟩:=kn jx
    cases r with
    | mp b k' dm =>
      rcases hb b _ pt with ⟨_,h0⟩ | ⟨k2,fJ,hm⟩
      ·exact h0.elim
      ·rw [dm] at fJ
       injection fJ with fJ
       injection fJ with fJ
       subst fJ
       obtain ⟨ms,clock,h1,h2,_,h4⟩:=hm
       rcases kS jx hd ri es ms.toList 0 none (by simp [h2]) (fun j x m g1 g2=>h4 j x m g1 (by simpa using g2)) hf with ⟨_,h6⟩ | ⟨j',v',u',h5,_⟩
       ·refine ⟨if ok = true then .tuple #[z,.bool false] else z,?_,?_⟩
        ·have XJ:=iV (w:=w) hz
         unfold Instr.lookup Instr.findKey getObj
         simp [run_underlying (fS hk),run_checkKey jx,run_underlying hd,Sem.run,h1,h6,XJ]
        ·simp only [hk,V.strip,hz,pt,aS wI,hf]; exact nv (dp z)
       ·cases h5
   ·exact hc.elim
  ·exact hc.elim
 ·exact hc.elim
end
end Go.Pl
namespace Go.Pl
open Go
section
variable {P:Program} {β:Beta} {w:World} {F:Nat -> Prop}
theorem run_sliceBound (k:IntKind) (i:Int) (y:Nat) (c:BoundsCode) (h:0 <= i /\ i <= y):(Instr.sliceBound (.int k i) y c).run P w = .ok i.toNat w:=by
 unfold Instr.sliceBound asIntOf
 simp [h]
theorem jm {b:Bool} {len cap:Nat} {lo hi:Option Value} {l h:Int} (hl:(lo = none /\ l = 0) \/ ∃ k,lo = some (.int k l)) (hh:(hi = none /\ h = len) \/ ∃ k,hi = some (.int k h)) (h0:0 <= l) (h1:l <= h) (h2:h <= len) (h3:len <= cap) :
 (Instr.sliceBounds b len cap lo hi none).run P w = .ok (l.toNat,h.toNat,cap) w:=by
 have e2:∀ (k:IntKind) (c:BoundsCode),(Instr.sliceBound (.int k h) cap c).run P w = .ok h.toNat w:=fun k c=>run_sliceBound k h cap c ⟨by omega,by omega⟩
 have e1:∀ (k:IntKind) (c:BoundsCode),(Instr.sliceBound (.int k l) h.toNat c).run P w = .ok l.toNat w:=fun k c=>run_sliceBound k l _ c ⟨by omega,by omega⟩
 unfold Instr.sliceBounds
 rcases hl with ⟨rfl,rfl⟩ | ⟨k,rfl⟩ <;> rcases hh with ⟨rfl,rfl⟩ | ⟨k',rfl⟩
 ·simp
 ·simp [e2]
 ·simp only [Int.toNat_natCast] at e1
  simp [e1]
 ·simp [e1,e2]
theorem cX {o:Option V} {u:Option Value} {d i:Int} {c:Prop} (ho:fF d o = some (c,i)) (hc:c) (hr:(o = none /\ u = none) \/ ∃ v x,o = some v /\ u = some x /\ aP β w F v x):(u = none /\ i = d) \/ ∃ k,u = some (.int k i):=by
 rcases hr with ⟨rfl,rfl⟩ | ⟨v,x,rfl,rfl,r⟩
 ·simp [fF] at ho
  exact .inl ⟨rfl,ho.2.symm⟩
 ·simp only [fF] at ho
  split at ho
  ·rename_i k n hv
   simp only [Option.some.injEq,Prod.mk.injEq] at ho
   obtain ⟨rfl,rfl⟩:=ho
   obtain rfl:=aG hc hv
   exact .inr ⟨k,by rw [r.bE]⟩
  ·cases ho
theorem gA {t e:TypeId} {A:Option Addr} {len cap:Nat} {lo hi:Option Value} {l h:Int} (ht:P.underlying t = some (.slice e)) (he:cY P e = true)
 (hl:(lo = none /\ l = 0) \/ ∃ k,lo = some (.int k l)) (hh:(hi = none /\ h = len) \/ ∃ k,hi = some (.int k h)) (h0:0 <= l) (h1:l <= h) (h2:h <= len) (h3:len <= cap) :
 (Instr.sliceAt t (.slice A len cap) lo hi none).run P w = .ok (.slice (if cap = l.toNat then A else A.map (·.add (l.toNat * aF P e))) (h.toNat - l.toNat) (cap - l.toNat)) w:=by
 obtain ⟨inf,y7,mf⟩:=fT he
 unfold Instr.sliceAt Instr.slice sizeOf typeInfo
 simp [run_underlying ht,jm hl hh h0 h1 h2 h3,y7,mf]
theorem yS {t:TypeId} {x:V} {u:Value} {lo hi:Option V} {ul uh:Option Value} (hc:(kB P t x lo hi).1) (r:aP β w F x u)
 (rl:(lo = none /\ ul = none) \/ ∃ v x,lo = some v /\ ul = some x /\ aP β w F v x) (rh:(hi = none /\ uh = none) \/ ∃ v x,hi = some v /\ uh = some x /\ aP β w F v x) :
 ∃ v,(Instr.sliceAt t u ul uh none).run P w = .ok v w /\ aP β w F (kB P t x lo hi).2 v:=by
 unfold kB at hc ⊢
 split at hc
 ·rename_i e sz es hk hx
  split at hc
  ·rename_i c l d h e1 e2
   obtain ⟨hl,nt,hd,fb,rfl,h0,h1,h2⟩:=hc
   obtain rfl:=aG hl hx
   have a1:=cX e1 nt rl
   have a2:=cX e2 hd rh
   cases r with
   | sl sz es A cap u0 kP gZ hA hs bD hr =>
     refine ⟨_,gA (bA hk) fb a1 a2 h0 h1 h2 kP,?_⟩
     simp only [hk,V.strip,e1,e2]
     have hlen:((es.take h.toNat).drop l.toNat).length = h.toNat - l.toNat:=by simp; omega
     rw [<- hlen]
     have eI:∀ i e,((es.take h.toNat).drop l.toNat)[i]? = some e -> es[l.toNat + i]? = some e /\ l.toNat + i < h.toNat:=by
      intro i e hi
      rw [List.getElem?_drop,List.getElem?_take] at hi
      split at hi
      ·exact ⟨hi,by omega⟩
      ·cases hi
     have yT:∀ i j,l.toNat * aF P e + (i * aF P e + j) = (l.toNat + i) * aF P e + j:=fun i j=>by rw [Nat.add_mul]; omega
     refine .sl _ _ _ _ (fun j=>u0 (l.toNat * aF P e + j)) (by rw [hlen]; omega) (by omega) (fun bB=>?_) (fun e he=>hs e (List.mem_of_mem_take (List.mem_of_mem_drop he))) (fun i e' j c h5 h6=>?_) (fun i e' j c h5 h6=>?_)
     ·have:es ≠ []:=by intro h; simp [h] at bB
      have:=hA this
      split
      ·exact this
      ·simpa using this
     ·obtain ⟨h7,h8⟩:=eI i e' h5
      obtain ⟨a,ha,h9,qu,Ie⟩:=bD _ _ _ _ h7 h6
      subst ha
      refine ⟨a.add (l.toNat * aF P e),by rw [if_neg (by omega)]; rfl,by rw [block_add]; exact h9,?_,?_⟩
      ·rw [Go.Deep.add_add,yT]; exact qu
      ·rw [yT]; exact Ie
     ·obtain ⟨h7,h8⟩:=eI i e' h5
      have:=hr _ _ _ _ h7 h6
      rw [yT]
      exact this
  ·exact hc.elim
 ·rename_i e b sz o n hk hx
  split at hc
  ·rename_i c l d h e1 e2
   obtain ⟨hl,nt,hd,fb,rfl,h0,h1,h2⟩:=hc
   obtain rfl:=aG hl hx
   have a1:=cX e1 nt rl
   have a2:=cX e2 hd rh
   cases r with
   | mi b sz hb =>
     obtain rfl:l = 0:=by omega
     refine ⟨_,gA (bA hk) fb a1 a2 (by omega) h1 h2 (by omega),?_⟩
     simp only [hk,V.strip,e1,e2]
     have:h.toNat = 0:=by omega
     simp [this]
     exact .mi _ _ hb
   | own b sz o n k cap m ty hb hs hm hn gZ =>
     refine ⟨_,gA (bA hk) fb a1 a2 (by omega) (by omega) h2 hn,?_⟩
     simp only [hk,V.strip,e1,e2]
     by_cases PS:l = 0 \/ (0 <= l /\ l < h)
     case neg =>
      rw [if_neg PS]
      have:h.toNat - l.toNat = 0:=by omega
      rw [this]
      exact .sl _ _ _ _ (fun _=>undef) (by simp) (by omega) (fun bB=>absurd rfl bB) (fun e he=>by cases he) (fun i e' j c h5=>by simp at h5) (fun i e' j c h5=>by simp at h5)
     rw [if_pos PS]
     rcases PS with rfl | ⟨h3,h4⟩
     ·have:=aP.own (w:=w) (F:=F) b (aF P e) o h.toNat k cap m ty hb hs hm (by omega) gZ
      simpa [Addr.add] using this
     ·have:=aP.own (w:=w) (F:=F) b (aF P e) (o + l.toNat) (h.toNat - l.toNat) k (cap - l.toNat) m ty hb hs (by rw [show o + l.toNat + (cap - l.toNat) = o + cap by omega]; exact hm) (by omega) (by omega)
      have hA:(⟨k,o * aF P e,none⟩:Addr).add (l.toNat * aF P e) = ⟨k,(o + l.toNat) * aF P e,none⟩:=by
       rw [Nat.add_mul]
       by_cases hz:l.toNat * aF P e = 0
       ·simp [Addr.add,hz]
       ·simp [Addr.add,hz]
      rw [if_neg (by omega),Option.map_some,hA]
      exact this
  ·exact hc.elim
 ·rename_i e hk hx
  split at hc
  ·rename_i c l d h e1 e2
   obtain ⟨hl,nt,hd,fb,rfl,rfl⟩:=hc
   obtain rfl:=aG hl hx
   have a1:=cX e1 nt rl
   have a2:=cX e2 hd rh
   cases r
   refine ⟨_,gA (bA hk) fb a1 a2 (by omega) (by omega) (by omega) (by omega),?_⟩
   simp [hk,V.strip,e1,e2]
   exact .aH
  ·exact hc.elim
 ·rename_i s hk hx
  split at hc
  ·rename_i c l d h e1 e2
   obtain ⟨hl,nt,hd,h0,h1,h2⟩:=hc
   obtain rfl:=aG hl hx
   have a1:=cX e1 nt rl
   have a2:=cX e2 hd rh
   obtain ⟨b,rfl,rfl⟩:=r.eg
   have bW:(b.data.toList.length:Int) = b.size:=by simp
   rw [bW] at a2 h2
   refine ⟨.string (b.extract l.toNat h.toNat),by unfold Instr.sliceAt Instr.slice; simp [run_underlying (ft hk),jm (P:=P) (w:=w) (b:=false) a1 a2 h0 h1 h2 (Nat.le_refl _)],?_⟩
   simp only [hk,V.strip,e1,e2]
   have:(b.extract l.toNat h.toNat).data.toList = (b.data.toList.take h.toNat).drop l.toNat:=by
    simp [List.drop_take]
   rw [<- this]
   exact .str _
  ·exact hc.elim
 ·exact hc.elim
theorem lq {t e:TypeId} {A:Option Addr} {len cap:Nat} {lo:Option Value} {k k':IntKind} {l h m:Int} (ht:P.underlying t = some (.slice e)) (he:cY P e = true)
 (hl:(lo = none /\ l = 0) \/ ∃ k,lo = some (.int k l)) (h0:0 <= l) (h1:l <= h) (h2:h <= m) (h3:m <= cap) :
 (Instr.sliceAt t (.slice A len cap) lo (some (.int k h)) (some (.int k' m))).run P w = .ok (.slice (if m.toNat = l.toNat then A else A.map (·.add (l.toNat * aF P e))) (h.toNat - l.toNat) (m.toNat - l.toNat)) w:=by
 obtain ⟨inf,y7,mf⟩:=fT he
 have e3:∀ (c:BoundsCode),(Instr.sliceBound (.int k' m) cap c).run P w = .ok m.toNat w:=fun c=>run_sliceBound k' m cap c ⟨by omega,by omega⟩
 have e2:∀ (c:BoundsCode),(Instr.sliceBound (.int k h) m.toNat c).run P w = .ok h.toNat w:=fun c=>run_sliceBound k h _ c ⟨by omega,by omega⟩
 have e1:∀ (k:IntKind) (c:BoundsCode),(Instr.sliceBound (.int k l) h.toNat c).run P w = .ok l.toNat w:=fun k c=>run_sliceBound k l _ c ⟨by omega,by omega⟩
 have eb:∀ b:Bool,(Instr.sliceBounds b len cap lo (some (.int k h)) (some (.int k' m))).run P w = .ok (l.toNat,h.toNat,m.toNat) w:=fun b=>by
  unfold Instr.sliceBounds
  rcases hl with ⟨rfl,rfl⟩ | ⟨k,rfl⟩
  ·simp [e2,e3]
  ·simp [e1,e2,e3]
 unfold Instr.sliceAt Instr.slice sizeOf typeInfo
 simp [run_underlying ht,eb,y7,mf]
theorem wO {t:TypeId} {x hi mx:V} {u:Value} {lo:Option V} {ul:Option Value} {uh um:Value} (hc:(ln P t x lo hi mx).1) (r:aP β w F x u)
 (rl:(lo = none /\ ul = none) \/ ∃ v x,lo = some v /\ ul = some x /\ aP β w F v x) (rh:aP β w F hi uh) (rm:aP β w F mx um) :
 ∃ v,(Instr.sliceAt t u ul (some uh) (some um)).run P w = .ok v w /\ aP β w F (ln P t x lo hi mx).2 v:=by
 unfold ln at hc ⊢
 split at hc
 ·rename_i n c0 h0 d m hn eh em
  obtain ⟨hc,hd,hhm,hmn⟩:=hc
  simp only [hn,eh,em]
  have am:=cX em hd (.inr ⟨_,_,rfl,rfl,rm⟩)
  obtain ⟨k',rfl⟩:∃ k',um = .int k' m:=by
   rcases am with ⟨q,_⟩ | ⟨k',q⟩
   ·cases q
   ·injection q with q; exact ⟨k',q⟩
  have hq:∀ z c h,fF z (some hi) = some (c,h) -> h = h0:=fun z c h q=>by
   unfold fF at q eh
   dsimp only at q eh
   split at q
   ·rename_i hs; rw [hs] at eh; simp at q eh; omega
   ·cases q
  unfold kB at hc ⊢
  split at hc
  ·rename_i e sz es hk hx
   rw [hx] at hn
   injection hn with hn
   subst hn
   split at hc
   ·rename_i c l d h e1 e2
    obtain ⟨hl,nt,hd,fb,rfl,PS,h1,h2⟩:=hc
    obtain rfl:=aG hl hx
    obtain rfl:=hq _ _ _ e2
    have a1:=cX e1 nt rl
    obtain ⟨k,rfl⟩:∃ k,uh = .int k h:=by
     rcases cX e2 hd (.inr ⟨_,_,rfl,rfl,rh⟩) with ⟨q,_⟩ | ⟨k',q⟩
     ·cases q
     ·injection q with q; exact ⟨k',q⟩
    cases r with
    | sl sz es A cap u0 kP gZ hA hs bD hr =>
      refine ⟨_,lq (bA hk) fb a1 PS h1 hhm (by omega),?_⟩
      simp only [hk,V.strip,e1,e2]
      have hlen:((es.take h.toNat).drop l.toNat).length = h.toNat - l.toNat:=by simp; omega
      rw [<- hlen]
      have eI:∀ i e,((es.take h.toNat).drop l.toNat)[i]? = some e -> es[l.toNat + i]? = some e /\ l.toNat + i < h.toNat:=by
       intro i e hi
       rw [List.getElem?_drop,List.getElem?_take] at hi
       split at hi
       ·exact ⟨hi,by omega⟩
       ·cases hi
      have yT:∀ i j,l.toNat * aF P e + (i * aF P e + j) = (l.toNat + i) * aF P e + j:=fun i j=>by rw [Nat.add_mul]; omega
      refine .sl _ _ _ _ (fun j=>u0 (l.toNat * aF P e + j)) (by rw [hlen]; omega) (by omega) (fun bB=>?_) (fun e he=>hs e (List.mem_of_mem_take (List.mem_of_mem_drop he))) (fun i e' j c h5 h6=>?_) (fun i e' j c h5 h6=>?_)
      ·have:es ≠ []:=by intro h; simp [h] at bB
       have:=hA this
       split
       ·exact this
       ·simpa using this
      ·obtain ⟨h7,h8⟩:=eI i e' h5
       obtain ⟨a,ha,h9,qu,Ie⟩:=bD _ _ _ _ h7 h6
       subst ha
       refine ⟨a.add (l.toNat * aF P e),by rw [if_neg (by omega)]; rfl,by rw [block_add]; exact h9,?_,?_⟩
       ·rw [Go.Deep.add_add,yT]; exact qu
       ·rw [yT]; exact Ie
      ·obtain ⟨h7,h8⟩:=eI i e' h5
       have:=hr _ _ _ _ h7 h6
       rw [yT]
       exact this
   ·exact hc.elim
  ·rename_i e b sz o n' hk hx
   rw [hx] at hn
   injection hn with hn
   subst hn
   split at hc
   ·rename_i c l d h e1 e2
    obtain ⟨hl,nt,hd,fb,rfl,PS,h1,h2⟩:=hc
    obtain rfl:=aG hl hx
    obtain rfl:=hq _ _ _ e2
    have a1:=cX e1 nt rl
    obtain ⟨k,rfl⟩:∃ k,uh = .int k h:=by
     rcases cX e2 hd (.inr ⟨_,_,rfl,rfl,rh⟩) with ⟨q,_⟩ | ⟨k',q⟩
     ·cases q
     ·injection q with q; exact ⟨k',q⟩
    cases r with
    | mi b sz hb =>
      obtain rfl:l = 0:=by omega
      refine ⟨_,lq (bA hk) fb a1 (by omega) h1 hhm (by omega),?_⟩
      simp only [hk,V.strip,e1,e2]
      have h9:h.toNat = 0:=by omega
      have h8:m.toNat = 0:=by omega
      simp [h9,h8]
      exact .mi _ _ hb
    | own b sz o n k9 cap m9 ty hb hs hm hn gZ =>
      refine ⟨_,lq (bA hk) fb a1 (by omega) (by omega) hhm (by omega),?_⟩
      simp only [hk,V.strip,e1,e2]
      by_cases h0'':l = 0 \/ (0 <= l /\ l < h)
      case neg =>
       rw [if_neg h0'']
       have:h.toNat - l.toNat = 0:=by omega
       rw [this]
       exact .sl _ _ _ _ (fun _=>undef) (by simp) (by omega) (fun bB=>absurd rfl bB) (fun e he=>by cases he) (fun i e' j c h5=>by simp at h5) (fun i e' j c h5=>by simp at h5)
      rw [if_pos h0'']
      rcases h0'' with rfl | ⟨h3,h4⟩
      ·have:=aP.own (w:=w) (F:=F) b (aF P e) o h.toNat k9 m.toNat m9 ty hb hs (Nat.le_trans (Nat.mul_le_mul_right _ (by omega)) hm) (by omega) (by omega)
       simpa [Addr.add] using this
      ·have:=aP.own (w:=w) (F:=F) b (aF P e) (o + l.toNat) (h.toNat - l.toNat) k9 (m.toNat - l.toNat) m9 ty hb hs (Nat.le_trans (Nat.mul_le_mul_right _ (by omega)) hm) (by omega) (by omega)
       have hA:(⟨k9,o * aF P e,none⟩:Addr).add (l.toNat * aF P e) = ⟨k9,(o + l.toNat) * aF P e,none⟩:=by
        rw [Nat.add_mul]
        by_cases hz:l.toNat * aF P e = 0
        ·simp [Addr.add,hz]
        ·simp [Addr.add,hz]
       rw [if_neg (by omega),Option.map_some,hA]
       exact this
   ·exact hc.elim
  ·rename_i e hk hx
   rw [hx] at hn
   injection hn with hn
   subst hn
   split at hc
   ·rename_i c l d h e1 e2
    obtain ⟨hl,nt,hd,fb,rfl,rfl⟩:=hc
    obtain rfl:=aG hl hx
    have hz:=hq _ _ _ e2
    have a1:=cX e1 nt rl
    obtain ⟨k,rfl⟩:∃ k,uh = .int k 0:=by
     rcases cX e2 hd (.inr ⟨_,_,rfl,rfl,rh⟩) with ⟨q,_⟩ | ⟨k',q⟩
     ·cases q
     ·injection q with q; exact ⟨k',q⟩
    cases r
    have I0:m = 0:=by omega
    subst I0
    refine ⟨_,lq (bA hk) fb a1 (by omega) (by omega) (by omega) (by omega),?_⟩
    simp [hk,V.strip,e1,e2]
    exact .aH
   ·exact hc.elim
  ·rename_i s hk hx
   rw [hx] at hn
   cases hn
  ·exact hc.elim
 ·exact hc.elim
theorem wP {st:St} {a:Act} (h:tc β F st a w) (o:Option Operand):(o.map st.get = none /\ o.map a.eval = none) \/ ∃ v x,o.map st.get = some v /\ o.map a.eval = some x /\ aP β w F v x:=by
 cases o with
 | none=>exact .inl ⟨rfl,rfl⟩
 | some x=>exact .inr ⟨_,_,rfl,rfl,h.get x⟩
theorem Fa {st:St} {a:Act} {o:Oper} (h:tc β F st a w) (hb:EV β F st.bx w) (kN:p3 P β w F) (rZ:wE P o = false) (hc:(ev P st o).1) :
 ∃ v,(execOp a.eval o).run P w = .ok (.value v) w /\ aP β w F (ev P st o).2 v:=by
 obtain ⟨dst,op,type,pos,after,guard⟩:=o
 have fin:∀ {x:Sem Value} {q:V},(∃ v,x.run P w = .ok v w /\ aP β w F q v) -> ∃ v,(do pure (Next.value (<- x)):Sem Next).run P w = .ok (.value v) w /\ aP β w F q v:=by
  rintro x q ⟨v,h1,h2⟩
  exact ⟨v,by rw [Sem.run_bind,h1]; rfl,h2⟩
 unfold ev at hc ⊢
 simp only at hc ⊢
 split at hc
 ·exact ⟨_,rfl,h.get _⟩
 ·exact ⟨_,rfl,h.get _⟩
 ·rename_i c x y
  obtain ⟨t,h1,h2⟩:=AA hc (h.get c) (h.get x) (h.get y)
  refine ⟨_,?_,h2⟩
  simp only [execOp,h1,asBool,Sem.run_bind,Sem.run_pure,Result.andThen_ok]
 ·exact fin (tf hc hb (h.gv kN _))
 ·exact fin (rU hc (h.get _))
 ·exact fin (rV hc (h.gv kN _) (h.get _))
 ·exact fin (yN hc (h.get _))
 ·exact fin (yO hc (h.get _) (h.get _))
 ·exact fin (uP hc (h.get _))
 ·exact fin (Ds hc (h.get _) (h.get _) _ _)
 ·exact fin (EZ hc (h.get _))
 ·refine fin (oJ (fun e he=>?_) hc (h.get _))
  simp only [wE,he.1,he.2] at rZ
  cases rZ
 ·exact fin (yS hc (h.get _) (wP h _) (wP h _))
 ·exact fin (wO hc (h.get _) (wP h _) (h.get _) (h.get _))
 ·rename_i f first caps
  split at hc
  ·rename_i h0
   obtain rfl:first = #[]:=by simpa using h0
   refine ⟨.func f #[] (caps.map a.eval),by simp [execOp,Instr.makeFunc],?_⟩
   refine .fn _ _ _ (by simp) (fun i c hi=>?_) (fun g r hf _=>by rw [hf] at hc; exact hc.2)
   simp at hi
   obtain ⟨x,hx,rfl⟩:=hi
   have hl:(st.get x).az = true:=hc.1 _ (by simp; exact ⟨x,Array.mem_of_getElem? hx,rfl⟩)
   rw [aS hl]
   simp [hx]
   exact h.get x
  ·rename_i x h0
   obtain rfl:first = #[x]:=by rw [<- Array.toArray_toList (xs:=first),h0]
   unfold wF at hc ⊢
   split at hc
   ·rename_i g
    obtain ⟨hl,hn⟩:=hc
    obtain rfl:caps = #[]:=by simpa using hn
    refine ⟨.func (.func g) #[a.eval x] #[],by simp [execOp,Instr.makeFunc],?_⟩
    dsimp only
    rw [aS hl]
    exact .bm g _ _ (h.get x)
   ·exact hc.elim
  ·exact hc.elim
 ·exact fin (yR h.get hc)
 ·rename_i c
  obtain ⟨callee,args,ts⟩:=c
  unfold mn at hc ⊢
  simp only at hc ⊢
  split at hc
  ·rename_i x t h1 h2
   obtain rfl:args = #[x]:=by rw [<- Array.toArray_toList (xs:=args),h1]
   obtain rfl:ts = #[t]:=by rw [<- Array.toArray_toList (xs:=ts),h2]
   obtain ⟨v,h1,h2⟩:=Dt (ty:=type) hc hb (h.get x)
   refine ⟨v,?_,h2⟩
   show (do let d <- resolve a.eval _ type; invoke d.target d.args:Sem Next).run P w = _
   simp only [resolve,invoke,builtin,Sem.run_bind,Sem.run_pure,Result.andThen_ok,List.map_toArray,List.map_cons,List.map_nil,h1]
  ·rename_i x y h1
   obtain rfl:args = #[x,y]:=by rw [<- Array.toArray_toList (xs:=args),h1]
   obtain ⟨v,h1,h2⟩:=Du (P:=P) (ts:=ts) (ty:=type) hc (h.get x) (h.get y)
   refine ⟨v,?_,h2⟩
   show (do let d <- resolve a.eval _ type; invoke d.target d.args:Sem Next).run P w = _
   simp only [resolve,invoke,builtin,Sem.run_bind,Sem.run_pure,Result.andThen_ok,List.map_toArray,List.map_cons,List.map_nil,h1]
  ·rename_i x y h1
   obtain rfl:args = #[x,y]:=by rw [<- Array.toArray_toList (xs:=args),h1]
   obtain ⟨v,h1,h2⟩:=Dv (P:=P) (ts:=ts) (ty:=type) hc (h.get x) (h.get y)
   refine ⟨v,?_,h2⟩
   show (do let d <- resolve a.eval _ type; invoke d.target d.args:Sem Next).run P w = _
   simp only [resolve,invoke,builtin,Sem.run_bind,Sem.run_pure,Result.andThen_ok,List.map_toArray,List.map_cons,List.map_nil,h1]
  ·exact hc.elim
 ·exact fin (wN hc hb (h.get _) (h.get _))
 ·exact fin (rY hc (h.get _))
 ·exact fin (wM hc (h.get _))
 ·rename_i x
  have rx:=h.get x
  unfold kQ at hc ⊢
  split at hc
  ·rename_i b sz i o hx
   obtain hx':=aG hc hx
   rw [hx'] at rx
   generalize hu:a.eval x = u at rx
   cases rx with
   | ptr _ _ _ _ k hb =>
     refine ⟨_,by simp only [execOp,hu]; rfl,?_⟩
     simp only [hx]
     exact .ptr _ _ _ _ k hb
  ·rename_i e o hx
   obtain hx':=aG hc hx
   rw [hx'] at rx
   generalize hu:a.eval x = u at rx
   cases rx with
   | ep _ _ ad u0 bD hr =>
     refine ⟨_,by simp only [execOp,hu]; rfl,?_⟩
     simp only [hx]
     exact .ep _ _ ad u0 bD hr
  ·exact hc.elim
 ·exact hc.elim
end
end Go.Pl
namespace Go.Pl
open Go
section
variable {P:Program} {β:Beta} {M:dR} {bx:aa} {w:World}
def dZ (β:Beta) (w:World) (F:Nat -> Prop) (sz:Nat) (es:List V) (cur:Array Value):Prop :=
 ∀ (i:Nat) (e:V),es[i]? = some e -> e.cells.length = sz /\ ∀ (j:Nat) (c:V),e.cells[j]? = some c -> (cur.getD (i * sz + j) undef).oneCell' = true /\ aP β w F c (cur.getD (i * sz + j) undef)
theorem er.R7 (h:er β M bx w):EV β (Fz β M bx w) bx w:=by
 intro b box hb
 rcases h.live b box hb with h1 | ⟨k,h1,_,_,h2⟩
 ·exact .inl h1
 ·exact .inr ⟨k,h1,h2⟩
theorem bN {k:Nat} {cur:Array Value} {ty:TypeId} {fz:Nat × Nat} (h:w.heap[k]? = some (.cells cur ty fz)):w.shape? k = some (ty,cur.size):=by simp [World.shape?,h]
theorem bI {w':World} {k:Nat} (h:w'.heap[k]? = w.heap[k]?):w'.shape? k = w.shape? k:=by simp [World.shape?,h]
theorem af {α:Type} (f:Nat -> α) (x:Nat) (v:α):aB f x v x = v:=by simp [aB]
theorem ae {α:Type} (f:Nat -> α) {x y:Nat} (v:α) (h:y ≠ x):aB f x v y = f y:=by simp [aB,h]
theorem bn {β':Beta} {w':World} {F F':Nat -> Prop} {k:Nat} {box:bF} (h:od β w F k box) (hk:w'.heap[k]? = w.heap[k]?)
 (bQ:∀ b x,β b = some x -> β' b = some x) (hF:∀ k,F k -> F' k /\ w'.heap[k]? = w.heap[k]?) (hs:∀ k x,w.shape? k = some x -> w'.shape? k = some x):od β' w' F' k box:=by
 cases box with
 | row ty sz es =>
   obtain ⟨cur,fr,h1,h0,h2,h3⟩:=h
   exact ⟨cur,fr,hk.trans h1,h0,h2,fun i e he=>⟨(h3 i e he).1,fun j c hc=>⟨((h3 i e he).2 j c hc).1,((h3 i e he).2 j c hc).2.mono bQ hF hs⟩⟩⟩
 | map es =>
   obtain ⟨ms,clock,h1,h2,h3,h4⟩:=h
   exact ⟨ms,clock,hk.trans h1,h2,h3,fun i x m hx hm=>⟨(h4 i x m hx hm).1.mono bQ hF hs,(h4 i x m hx hm).2.mono bQ hF hs⟩⟩
 | loop pend ps good n sl =>
   obtain ⟨rec,h1,h2,h3,h4,h5,h6,h7⟩:=h
   exact ⟨rec,hk.trans h1,h2,h3,h4,h5,h6,fun t=>(h7 t).mono bQ hF hs⟩
 | kz es bs c =>
   obtain ⟨ms,h1,h0,h2,h3,h4⟩:=h
   exact ⟨ms,hk.trans h1,h0,h2,h3,fun i x m hx hm=>⟨(h4 i x m hx hm).1.mono bQ hF hs,(h4 i x m hx hm).2.mono bQ hF hs⟩⟩
 | iter b since c0 seen =>
   obtain ⟨kb,h1,h2,h3⟩:=h
   exact ⟨kb,bQ _ _ h1,hk.trans h2,h3⟩
theorem er.grown {β':Beta} {w':World} (h:er β M bx w) (bW:w.heap.size <= w'.heap.size) (Dx:∃ n,∀ b,n <= b -> β' b = none) (bQ:∀ b x,β b = some x -> β' b = some x)
 (hk:∀ k,k < w.heap.size -> w'.heap[k]? = w.heap[k]?):er β' M bx w':=by
 have hs:∀ k x,w.shape? k = some x -> w'.shape? k = some x:=fun k x hx=>by
  have:k < w.heap.size:=by
   rcases Nat.lt_or_ge k w.heap.size with h1 | h1
   ·exact h1
   ·simp [World.shape?,Array.getElem?_eq_none h1] at hx
  rw [bI (hk k this)]; exact hx
 have wQ:∀ b k,bx b ≠ none -> β' b = some (some k) -> β b = some (some k):=by
  intro b k hb aR
  obtain ⟨box,dP⟩:=Option.ne_none_iff_exists'.1 hb
  rcases h.live b box dP with ⟨h1,_⟩ | ⟨k',h1,_⟩
  ·rw [bQ _ _ h1] at aR; cases aR
  ·rw [bQ _ _ h1] at aR; injection aR with e; injection e with e; subst e; exact h1
 have hF:∀ k,Fz β M bx w k -> Fz β' M bx w' k /\ w'.heap[k]? = w.heap[k]?:=by
  rintro k ⟨h1,h2,h3⟩
  exact ⟨⟨by omega,h2,fun b hb he=>h3 b hb (wQ b k hb he)⟩,hk k h1⟩
 refine ⟨Dx,fun k o hM=>(hk k (h.oE hM)).trans (h.mlt k o hM),fun b box hb=>?_,fun b b' k h1 h2 h3 h4=>h.inj b b' k h1 h2 (wQ _ _ h1 h3) (wQ _ _ h2 h4)⟩
 rcases h.live b box hb with ⟨h1,h2⟩ | ⟨k,h1,h2,h3,h4⟩
 ·exact .inl ⟨bQ _ _ h1,h2⟩
 ·exact .inr ⟨k,bQ _ _ h1,by omega,h3,bn h4 (hk k h2) bQ hF hs⟩
theorem Tr.grown {β':Beta} {w':World} (h:er β M bx w) (vz:w'.os = w.os) (ht:w'.tape = w.tape) (ho:w'.output = w.output) (wR:w.drawn <= w'.drawn) (bW:w.heap.size <= w'.heap.size) (bQ:∀ b x,β b = some x -> β' b = some x)
 (hk:∀ k,k < w.heap.size -> w'.heap[k]? = w.heap[k]?):Tr β bx w β' bx w' where
 os:=vz
 tape:=ht
 output:=ho
 drawn _:=wR
 A5 h:=h
 size:=bW
 cw k h1 _:=hk k h1
 shape k x hx:=by
  have:k < w.heap.size:=by
   rcases Nat.lt_or_ge k w.heap.size with h1 | h1
   ·exact h1
   ·simp [World.shape?,Array.getElem?_eq_none h1] at hx
  rw [bI (hk k this)]; exact hx
 ext:=bQ
 news b' k h1 h2:=by
  obtain ⟨box,dP⟩:=Option.ne_none_iff_exists'.1 h1
  rcases h.live b' box dP with ⟨h3,_⟩ | ⟨k',h3,_⟩
  ·rw [bQ _ _ h3] at h2; cases h2
  ·rw [bQ _ _ h3] at h2; injection h2 with e; injection e with e; subst e; exact .inl ⟨b',h1,h3⟩
theorem er.drew (h:er β M bx w):er β M bx w.drew:=h.grown (Nat.le_refl _) h.fin (fun _ _ h=>h) (fun _ _=>rfl)
theorem Tr.drew (h:er β M bx w):Tr β bx w β bx w.drew:=Tr.grown h rfl rfl rfl (Nat.le_succ w.drawn) (Nat.le_refl _) (fun _ _ h=>h) (fun _ _=>rfl)
theorem er.fresh (h:er β M bx w):∃ b,β b = none /\ bx b = none:=by
 obtain ⟨n,hn⟩:=h.fin
 refine ⟨n,hn n (Nat.le_refl _),?_⟩
 cases hb:bx n with
 | none=>rfl
 | some box =>
   rcases h.live n box hb with ⟨h1,_⟩ | ⟨k,h1,_⟩ <;> rw [hn n (Nat.le_refl _)] at h1 <;> cases h1
theorem v7 (h:er β M bx w) {b:Nat} (bQ:β b = none) (hb:bx b = none) (cur:Array Value) (ty:TypeId) (sz:Nat) (es:List V) (BV:0 < sz \/ es ≠ []) (hl:es.length * sz <= cur.size) (hr:dZ β w (Fz β M bx w) sz es cur) :
 er (aB β b (some (some w.heap.size))) M (aB bx b (some (.row ty sz es))) (w.alloc (.cells cur ty)) /\
 Tr β bx w (aB β b (some (some w.heap.size))) (aB bx b (some (.row ty sz es))) (w.alloc (.cells cur ty)):=by
 have iW:∀ b' x,β b' = some x -> aB β b (some (some w.heap.size)) b' = some x:=by
  intro b' x hx
  rw [ae _ _ (by rintro rfl; rw [bQ] at hx; cases hx)]; exact hx
 have hk:∀ k,k < w.heap.size -> (w.alloc (.cells cur ty)).heap[k]? = w.heap[k]?:=fun k hk=>Go.RowKit.Below.heap_alloc w _ k hk
 have hs:∀ k x,w.shape? k = some x -> (w.alloc (.cells cur ty)).shape? k = some x:=fun k x hx=>by
  have:k < w.heap.size:=by
   rcases Nat.lt_or_ge k w.heap.size with h1 | h1
   ·exact h1
   ·simp [World.shape?,Array.getElem?_eq_none h1] at hx
  rw [bI (hk k this)]; exact hx
 have hF:∀ k,Fz β M bx w k -> Fz (aB β b (some (some w.heap.size))) M (aB bx b (some (.row ty sz es))) (w.alloc (.cells cur ty)) k /\ (w.alloc (.cells cur ty)).heap[k]? = w.heap[k]?:=by
  rintro k ⟨h1,h2,h3⟩
  refine ⟨⟨by simp; omega,h2,fun b' aR he=>?_⟩,hk k h1⟩
  by_cases e:b' = b
  ·subst e
   rw [af] at he
   injection he with he; injection he with he
   omega
  ·rw [ae _ _ e] at he aR
   exact h3 b' aR he
 constructor
 ·refine ⟨?_,fun k o hM=>(Go.RowKit.Below.heap_alloc w _ k (h.oE hM)).trans (h.mlt k o hM),fun b' box aR=>?_,fun b1 b2 k h1 h2 h3 h4=>?_⟩
  ·obtain ⟨n,hn⟩:=h.fin
   refine ⟨max n (b + 1),fun b' aR=>?_⟩
   rw [ae _ _ (by omega)]
   exact hn b' (by omega)
  ·by_cases e:b' = b
   ·subst e
    rw [af] at aR
    injection aR with aR
    subst aR
    refine .inr ⟨w.heap.size,af _ _ _,by simp,h.sU (Nat.le_refl _),cur,(0,0),heap_alloc_new w _,.inl rfl,hl,fun i e he=>⟨(hr i e he).1,fun j c hc=>⟨((hr i e he).2 j c hc).1,((hr i e he).2 j c hc).2.mono iW hF hs⟩⟩⟩
   ·rw [ae _ _ e] at aR
    rcases h.live b' box aR with ⟨h1,h2⟩ | ⟨k,h1,h2,h3,h4⟩
    ·exact .inl ⟨iW _ _ h1,h2⟩
    ·exact .inr ⟨k,iW _ _ h1,by simp; omega,h3,bn h4 (hk k h2) iW hF hs⟩
  ·have old:∀ b',b' ≠ b -> aB bx b (some (.row ty sz es)) b' ≠ none -> aB β b (some (some w.heap.size)) b' = some (some k) -> β b' = some (some k) /\ bx b' ≠ none /\ k < w.heap.size:=by
    intro b' bB aR he
    rw [ae _ _ bB] at aR he
    refine ⟨he,aR,?_⟩
    obtain ⟨box,dP⟩:=Option.ne_none_iff_exists'.1 aR
    rcases h.live b' box dP with ⟨h5,_⟩ | ⟨k',h5,h6,_⟩
    ·rw [h5] at he; cases he
    ·rw [h5] at he; injection he with he; injection he with he; omega
   by_cases e1:b1 = b <;> by_cases e2:b2 = b
   ·rw [e1,e2]
   ·obtain ⟨_,_,h5⟩:=old b2 e2 h2 h4
    rw [e1,af] at h3; injection h3 with h3; injection h3 with h3; omega
   ·obtain ⟨_,_,h5⟩:=old b1 e1 h1 h3
    rw [e2,af] at h4; injection h4 with h4; injection h4 with h4; omega
   ·obtain ⟨h5,h6,_⟩:=old b1 e1 h1 h3
    obtain ⟨h7,h8,_⟩:=old b2 e2 h2 h4
    exact h.inj b1 b2 k h6 h8 h5 h7
 ·refine ⟨rfl,rfl,rfl,fun _=>Nat.le_refl _,fun hm=>Mk.kA hm (yI BV),by simp,fun k h1 _=>hk k h1,hs,iW,fun b' k h1 h2=>?_⟩
  by_cases e:b' = b
  ·subst e
   rw [af] at h2
   injection h2 with h2; injection h2 with h2
   exact .inr (by omega)
  ·rw [ae _ _ e] at h1 h2
   exact .inl ⟨b',h1,h2⟩
theorem qz (h:er β M bx w) {b k:Nat} {ty:TypeId} {sz:Nat} {es:List V} (hb:bx b = some (.row ty sz es)) (bQ:β b = some (some k)) {cur:Array Value} {fr:Nat × Nat} (aU:w.heap[k]? = some (.cells cur ty fr)) (iA:p0 cur.size fr)
 (cur':Array Value) (ti:cur'.size = cur.size) (j7:List V) (hlen:j7.length = es.length) (hl:j7.length * sz <= cur'.size) (hr:dZ β w (Fz β M bx w) sz j7 cur') :
 er β M (aB bx b (some (.row ty sz j7))) (w.setRow k cur') /\ Tr β bx w β (aB bx b (some (.row ty sz j7))) (w.setRow k cur'):=by
 have hk:∀ k',k' ≠ k -> (w.setRow k cur').heap[k']? = w.heap[k']?:=fun k' bB=>setRow_other w k k' cur' bB
 have jx:(w.setRow k cur').heap[k]? = some (.cells cur' ty fr):=setRow_heap w k cur cur' ty fr aU
 have hs:∀ k' x,w.shape? k' = some x -> (w.setRow k cur').shape? k' = some x:=fun k' x hx=>by
  by_cases e:k' = k
  ·subst e
   rw [bN jx,ti,<- bN aU]; exact hx
  ·rw [bI (hk k' e)]; exact hx
 have fc:∀ b',aB bx b (some (.row ty sz j7)) b' ≠ none ↔ bx b' ≠ none:=by
  intro b'
  by_cases e:b' = b
  ·subst e; simp [af,hb]
  ·rw [ae _ _ e]
 have hF:∀ k',Fz β M bx w k' -> Fz β M (aB bx b (some (.row ty sz j7))) (w.setRow k cur') k' /\ (w.setRow k cur').heap[k']? = w.heap[k']?:=by
  rintro k' ⟨h1,h2,h3⟩
  refine ⟨⟨by simpa using h1,h2,fun b' aR he=>h3 b' ((fc b').1 aR) he⟩,hk k' ?_⟩
  rintro rfl
  exact h3 b (by simp [hb]) bQ
 constructor
 ·refine ⟨h.fin,fun k' o hM=>(hk k' (fun e=>by
   subst e
   rcases h.live b _ hb with ⟨h1,_⟩ | ⟨k2,h1,_,h3,_⟩
   ·rw [bQ] at h1; cases h1
   ·rw [bQ] at h1; injection h1 with h1; injection h1 with h1; subst h1
    rw [h3] at hM; cases hM)).trans (h.mlt k' o hM),fun b' box aR=>?_,fun b1 b2 k' h1 h2 h3 h4=>h.inj b1 b2 k' ((fc _).1 h1) ((fc _).1 h2) h3 h4⟩
  by_cases e:b' = b
  ·subst e
   rw [af] at aR
   injection aR with aR
   subst aR
   rcases h.live b' _ hb with ⟨h1,_⟩ | ⟨k',h1,h2,h3,_⟩
   ·rw [bQ] at h1; cases h1
   ·rw [bQ] at h1; injection h1 with h1; injection h1 with h1; subst h1
    exact .inr ⟨k,bQ,by simpa using h2,h3,cur',fr,jx,by rw [ti]; exact iA,hl,fun i e he=>⟨(hr i e he).1,fun j c hc=>⟨((hr i e he).2 j c hc).1,((hr i e he).2 j c hc).2.mono (fun _ _ h=>h) hF hs⟩⟩⟩
  ·rw [ae _ _ e] at aR
   rcases h.live b' box aR with ⟨h1,h2⟩ | ⟨k',h1,h2,h3,h4⟩
   ·exact .inl ⟨h1,h2⟩
   ·refine .inr ⟨k',h1,by simpa using h2,h3,bn h4 (hk k' ?_) (fun _ _ h=>h) hF hs⟩
    rintro rfl
    exact e (h.inj b' b k' (by simp [aR]) (by simp [hb]) h1 bQ)
 ·refine ⟨rfl,rfl,rfl,fun _=>Nat.le_refl _,fun ⟨b',mj,hm⟩=>?_,by simp,fun k' h1 h2=>hk k' ?_,hs,fun _ _ h=>h,fun b' k' h1 h2=>.inl ⟨b',(fc b').1 h1,h2⟩⟩
  ·by_cases e:b' = b
   ·subst e
    rw [af] at hm
    injection hm with hm
    injection hm with e1 e2 e3
    subst e2 e3
    exact ⟨b',ty,by rw [hb,List.eq_nil_of_length_eq_zero hlen.symm]⟩
   ·exact ⟨b',mj,by rwa [ae _ _ e] at hm⟩
  rintro rfl
  exact h2 b (by simp [hb]) bQ
theorem er.drop (h:er β M bx w) (b:Nat):er β M (aB bx b none) w:=by
 have fc:∀ b',aB bx b none b' ≠ none -> bx b' ≠ none /\ b' ≠ b:=by
  intro b' aR
  by_cases e:b' = b
  ·subst e; simp [af] at aR
  ·rw [ae _ _ e] at aR; exact ⟨aR,e⟩
 have hF:∀ k,Fz β M bx w k -> Fz β M (aB bx b none) w k /\ w.heap[k]? = w.heap[k]?:=by
  rintro k ⟨h1,h2,h3⟩
  exact ⟨⟨h1,h2,fun b' aR he=>h3 b' (fc b' aR).1 he⟩,rfl⟩
 refine ⟨h.fin,h.mlt,fun b' box aR=>?_,fun b1 b2 k h1 h2 h3 h4=>h.inj b1 b2 k (fc _ h1).1 (fc _ h2).1 h3 h4⟩
 have bB:b' ≠ b:=by rintro rfl; rw [af] at aR; cases aR
 rw [ae _ _ bB] at aR
 rcases h.live b' box aR with h1 | ⟨k,h1,h2,h3,h4⟩
 ·exact .inl h1
 ·exact .inr ⟨k,h1,h2,h3,bn h4 rfl (fun _ _ h=>h) hF (fun _ _ h=>h)⟩
end
end Go.Pl
namespace Go.Pl
open Go
@[simp] theorem yU (c:Bool) (v:V):(eB c v).strip = v.strip:=by
 cases c
 ·simp only [eB,cond_false,V.strip]; exact oD v
 ·rfl
@[simp] theorem yV (c:Bool) (v:V):(eB c v).az = (c && v.az):=by cases c <;> simp [eB,V.az]
@[simp] theorem Mf (v:V):eB true v = v:=rfl
def storable (P:Program) (t:TypeId) (v:V):Prop:=cY P t = true /\ okV v = true /\ v.cells.length = aF P t
def bh (e:V) (o:Nat) (vs:List V):V :=
 match e with
 | .agg cs=>match vs with
   | [v]=>.agg (cs.set o v)
   | vs=>.agg (cs.take o ++ vs ++ cs.drop (o + vs.length))
 | e=>match vs with
   | [v]=>v
   | _=>e
def dS (st:St):List V -> List (Nat × Operand) -> List V
 | es,[]=>es
 | es,(i,x) :: ps=>dS st (es.set i (st.get x)) ps
def ba (bx:aa):Prop:=∃ n,∀ b,n <= b -> bx b = none
theorem an (bx:aa) (b:Nat) (x:Option bF):ba (aB bx b x) ↔ ba bx:=by
 constructor
 ·rintro ⟨n,hn⟩
  refine ⟨max n (b + 1),fun b' aR=>?_⟩
  have:=hn b' (by omega)
  rwa [ae _ _ (by omega)] at this
 ·rintro ⟨n,hn⟩
  refine ⟨max n (b + 1),fun b' aR=>?_⟩
  rw [ae _ _ (by omega)]
  exact hn b' (by omega)
def St.put (st:St) (dst:Option Tmp) (v:V):St :=
 match dst with
 | some d=>{ st with sl:=aB st.sl d v }
 | none=>st
def aL (st:St) (dst:Option Tmp):Prop :=
 match dst with
 | some d=>d < st.n
 | none=>True
def St.box (st:St) (b:Nat) (x:Option bF):St:={ st with bx:=aB st.bx b x }
def aw (P:Program) (f:FuncId) (args:List V) (bx:aa) (Kc:V -> aa -> Prop):Prop :=
 (∀ vs w,(callFunc f vs).run P w = .ok (.enter f vs) w) /\
 ∀ (β:Beta) (M:dR) (w:World) (vs:Array Value),er β M bx w -> p3 P β w (Fz β M bx w) -> vs.size = args.length ->
  (∀ (i:Nat) (c:V),args[i]? = some c -> aP β w (Fz β M bx w) c (vs.getD i undef)) ->
  Calls P f vs w fun e w'=>∃ v r bx' β',e = .returned v /\ Kc r bx' /\ er β' M bx' w' /\ Tr β bx w β' bx' w' /\ aP β' w' (Fz β' M bx' w') r v
def ay (P:Program) (f:FuncId) (args:List V) (bx:aa) (r:V):Prop:=aw P f args bx fun r' bx'=>r' = r /\ bx' = bx
def callee (st:St) (f:Operand) (args:List Operand):Option (FuncId × List V) :=
 match (st.get f).strip with
 | .fn (.func g) caps=>some (g,(args.map fun x=>(st.get x).strip) ++ caps)
 | .fn (.yield g) [r]=>some (g,r :: (args.map fun x=>(st.get x).strip))
 | _=>none
def eV (st:St) (f:Operand) (args:List Operand):Prop:=(st.get f).az = true /\ ∀ x,x ∈ args -> (st.get x).az = true
def bM (st:St) (sz:Nat) (x:V):Option (List V) :=
 match x with
 | .aH=>some []
 | .sl eU es=>if eU = sz then some es else none
 | .own b eU o n=>match st.bx b with
   | some (.row _ sz'' es)=>if eU = sz /\ sz'' = sz /\ o + n <= es.length then some ((es.drop o).take n) else none
   | _=>none
 | .str s=>if sz = 1 then some (s.map dN) else none
 | _=>none
def da (P:Program) (st:St) (dst:Option Tmp) (t:TypeId) (s x:V) (K:St -> Prop):Prop :=
 match bC P t with
 | .slice e =>
   match bM st (aF P e) x,aV P e with
   | some news,some z =>
     storable P e (ofValue z) /\ 0 < aF P e /\ aL st dst /\ ba st.bx /\
     match s with
     | .aH=>news.length * oF P e <= 140737488355328 /\ news.length <= 9223372036854775807 /\
      ∀ b,st.bx b = none -> K ((st.box b (some (.row e (aF P e) news))).put dst (.own b (aF P e) 0 news.length))
     | .own b sz 0 n=>match st.bx b with
       | some (.row e' eU es)=>e' = e /\ eU = aF P e /\ sz = aF P e /\ n <= es.length /\ (n + news.length) * oF P e <= 140737488355328 /\ n + news.length <= 9223372036854775807 /\
        ∀ b',aB st.bx b none b' = none -> K (((st.box b none).box b' (some (.row e (aF P e) (es.take n ++ news)))).put dst (.own b' (aF P e) 0 (n + news.length)))
       | _=>False
     | _=>False
   | _,_=>False
 | _=>False
def tj (P:Program) (st:St) (t:TypeId) (x:V) (K:St -> Prop):Prop :=
 match bC P t,x with
 | .slice e,.own b sz o n=>match aV P e,st.bx b with
   | some z,some (.row e' eU es)=>storable P e (ofValue z) /\ 0 < aF P e /\ sz = aF P e /\ eU = aF P e /\ 0 < n /\ o + n <= es.length /\ K (st.box b (some (.row e' eU (es.take o ++ List.replicate n (ofValue z) ++ es.drop (o + n)))))
   | _,_=>False
 | _,_=>False
def p8 (P:Program) (st:St) (t:TypeId) (m k v:V) (K:St -> Prop):Prop :=
 match bC P t,m with
 | .map kt _,.mp b=>match st.bx b with
   | some (.map es)=>match wG k.strip v es with
     | some j7=>k.az = true /\ oI (bC P kt) k.strip = true /\ K (st.box b (some (.map j7)))
     | none=>False
   | _=>False
 | _,_=>False
def tk (P:Program) (st:St) (t:TypeId) (m k:V) (K:St -> Prop):Prop :=
 match bC P t,m with
 | .map kt _,.mp b=>match st.bx b with
   | some (.map es)=>match wH k.strip es with
     | some j7=>k.az = true /\ oI (bC P kt) k.strip = true /\ K (st.box b (some (.map j7)))
     | none=>False
   | _=>False
 | _,_=>False
def kD (a z:V) (es:List (V × V)):Option (List (V × V) × Nat × V) :=
 match fq a es 0 with
 | some (some (j,v))=>some (es,j,v)
 | some none=>some (es ++ [(a,z)],es.length,z)
 | none=>none
def q0 (P:Program) (st:St) (t:TypeId) (m k:V) (dst:Option Tmp) (K:St -> Prop):Prop :=
 match bC P t,m with
 | .map kt et,.mp b=>match st.bx b,aV P et with
   | some (.map es),some z=>match kD k.strip (ofValue z) es with
     | some (wS,j,v)=>k.az = true /\ oI (bC P kt) k.strip = true /\ aL st dst /\ ∀ (bs:List Nat) (c q:Nat),bs.length = wS.length -> bs.Nodup -> bs[j]? = some q -> K ((st.box b (some (.kz wS bs c))).put dst (.dc [v,.int .i64 q]))
     | none=>False
   | _,_=>False
 | _,_=>False
def jn (st:St) (m s x:V) (K:St -> Prop):Prop :=
 match m,s with
 | .mp b,.int .i64 q=>match st.bx b with
   | some (.kz es bs _)=>∃ (i q':Nat) (e:V × V),(q':Int) = q /\ bs[i]? = some q' /\ es[i]? = some e /\ K (st.box b (some (.map (es.set i (e.1,x)))))
   | _=>False
 | _,_=>False
def I1 (P:Program) (s t:TypeId) (x:V) (dst:Option Tmp) (K:St -> Prop) (st:St):Prop :=
 match bC P s,bC P t,x with
 | .str,.slice e,.str q=>(bC P e = .int .u8 /\ q.length <= 9223372036854775807) /\ aL st dst /\ ba st.bx /\ ∀ b,st.bx b = none -> K ((st.box b (some (.row e 1 (q.map dN)))).put dst (.own b 1 0 q.length))
 | _,_,_=>False
def q8 (P:Program) (st:St) (t:TypeId) (x:V) (dst:Option Tmp) (K:St -> Prop):Prop :=
 match bC P t,x with
 | .map _ _,.mp b=>match st.bx b with
   | some (.map es)=>aL st dst /\ ba st.bx /\ ∀ (bs:List Nat) (c b':Nat),bs.length = es.length -> bs.Nodup -> (∀ q,q ∈ bs -> q < c) -> aB st.bx b (some (.kz es bs c)) b' = none ->
    K (((st.box b (some (.kz es bs c))).box b' (some (.iter b c c []))).put dst (.ptr b' 1 0 0))
   | _=>False
 | _,_=>False
def v8 (st:St) (x:V) (dst:Option Tmp) (K:St -> Prop):Prop :=
 match x with
 | .ptr b' 1 0 0=>match st.bx b' with
   | some (.iter b since c0 seen)=>match st.bx b with
     | some (.kz es bs c)=>aL st dst /\ (∀ q,q ∈ bs -> q < since) /\ since <= c /\ ((∀ q,q ∈ bs -> q ∈ seen) -> K (st.put dst (.dc [.bool false]))) /\
      ∀ (i:Nat) (q:Nat) (e:V × V),bs[i]? = some q -> es[i]? = some e -> ¬ q ∈ seen -> K ((st.box b' (some (.iter b since c (seen ++ [q])))).put dst (.dc [.bool true,e.1,e.2]))
     | _=>False
   | _=>False
 | _=>False
def q9 (st:St) (x:V) (dst:Option Tmp) (K:St -> Prop):Prop :=
 match x with
 | .ptr b' 1 0 0=>match st.bx b' with
   | some (.iter b since c0 seen)=>match st.bx b with
     | some (.kz es bs c)=>aL st dst /\ c0 = c /\ ∃ (i:Nat) (e:V × V) (pre:List Nat) (q:Nat),seen = pre ++ [q] /\ bs[i]? = some q /\ es[i]? = some e /\ K (st.put dst (.dc [e.1,e.2]))
     | _=>False
   | _=>False
 | _=>False
def p9 (P:Program) (t:TypeId) (name:String):Option FuncId :=
 match bC P t,P.info? t with
 | .ptr _,some i=>match i.methods.find? (·.name == name) with
   | some m=>if m.path.isEmpty = true then (match m.func with | some (f,true)=>some f | _=>none) else none
   | none=>none
 | _,_=>none
def uQ (P:Program) (st:St) (o:Option Tmp) (recv:V) (name:String) (args:List V) (K:St -> Prop):Prop :=
 match recv with
 | .iface t v=>match p9 P t name with
   | some g=>(∀ x,x ∈ args -> x.az = true) /\ aL st o /\ aw P g (v :: args.map V.strip) st.bx fun r bx'=>K ({ st with bx:=bx' }.put o r)
   | none=>False
 | _=>False
def bV:Op -> Bool
 | .build .. | .move _ | .assign _ | .pick .. | .load .. | .fieldAddr .. | .indexAddr .. | .field .. | .index .. | .extract .. | .binOp .. | .unOp .. | .slice .. | .makeFunc .. | .lookup .. | .makeInterface .. | .typeAssert .. | .nilCheck _=>true
 | .convert s d _=>s != d
 | .call { callee:=.builtin .len,.. } | .call { callee:=.builtin .min,.. } | .call { callee:=.builtin .max,.. }=>true
 | _=>false
def aK (P:Program) (d:Bool) (o:Oper) (K:St -> Prop) (st:St):Prop :=
 if bV o.op = true then (ev P st o).1 /\ aL st o.dst /\ K (st.put o.dst (ev P st o).2) else
 match o.op with
 | .alloc e=>match aV P e with
   | some z=>storable P e (ofValue z) /\ aL st o.dst /\ ba st.bx /\ ∀ b,st.bx b = none -> K ((st.box b (some (.row e (aF P e) [ofValue z]))).put o.dst (.ptr b (aF P e) 0 0))
   | none=>False
 | .box e x=>storable P e (st.get x) /\ aL st o.dst /\ ba st.bx /\ ∀ b,st.bx b = none -> K ((st.box b (some (.row e (aF P e) [st.get x]))).put o.dst (.ptr b (aF P e) 0 0))
 | .buildSlice t len parts=>match bC P t with
   | .slice e=>match aV P e with
     | some z=>storable P e (ofValue z) /\ 0 < aF P e /\ len * aF P e <= 16777216 /\ (∀ p,p ∈ parts.toList -> p.1 < len /\ storable P e (st.get p.2)) /\ aL st o.dst /\ ba st.bx /\
      ∀ b,st.bx b = none -> K ((st.box b (some (.row e (aF P e) (dS st (List.replicate len (ofValue z)) parts.toList)))).put o.dst (.own b (aF P e) 0 len))
     | none=>False
   | _=>False
 | .makeSlice t l c=>match bC P t,(st.get l).strip,(st.get c).strip with
   | .slice e,.int _ l',.int _ c'=>match aV P e with
     | some z=>(st.get l).az = true /\ (st.get c).az = true /\ storable P e (ofValue z) /\ 0 < aF P e /\ l' = c' /\ 0 <= l' /\ (oF P e:Int) * c' <= 281474976710656 /\ c' <= 9223372036854775807 /\ aL st o.dst /\ ba st.bx /\
      ∀ b,st.bx b = none -> K ((st.box b (some (.row e (aF P e) (List.replicate l'.toNat (ofValue z))))).put o.dst (.own b (aF P e) 0 l'.toNat))
     | none=>False
   | _,_,_=>False
 | .store t a x=>match st.get a with
   | .ptr b sz i o'=>match st.bx b with
     | some (.row ty eU es)=>sz = eU /\ i < es.length /\ storable P t (st.get x) /\ 0 < (st.get x).cells.length /\ o' + (st.get x).cells.length <= (es.getD i .cU).cells.length /\ o.dst = none /\
      K (st.box b (some (.row ty sz (es.set i (bh (es.getD i .cU) o' (st.get x).cells)))))
     | _=>False
   | _=>False
 | .makeMap _ none=>aL st o.dst /\ ba st.bx /\ ∀ b,st.bx b = none -> K ((st.box b (some (.map []))).put o.dst (.mp b))
 | .range t x=>d = false /\ q8 P st t (st.get x) o.dst K
 | .next x false=>d = false /\ v8 st (st.get x) o.dst K
 | .entry x=>d = false /\ q9 st (st.get x) o.dst K
 | .mapUpdate t m k x=>o.dst = none /\ p8 P st t (st.get m) (st.get k) (st.get x) K
 | .insert t m k x=>o.dst = none /\ p8 P st t (st.get m) (st.get k) (st.get x) K
 | .mapEntry t m k=>q0 P st t (st.get m) (st.get k) o.dst K
 | .entryStore _ m s x=>o.dst = none /\ jn st (st.get m) (st.get s) (st.get x) K
 | .convert s _ x=>match bC P s,st.get x with
   | .slice e,.own b sz 0 n=>match st.bx b with
     | some (.row _ eU es)=>bC P e = .int .u8 /\ sz = 1 /\ eU = 1 /\ n = es.length /\ 0 < n /\ es.all yK = true /\ aL st o.dst /\ K ((st.box b none).put o.dst (.sl 1 es))
     | _=>False
   | _,_=>False
 | .call c=>match c.callee,c.args.toList,c.argTypes.toList with
   | .builtin .append,[s,x],[t,t']=>(t = t' \/ bC P t' = .str) /\ da P st o.dst t (st.get s) (st.get x) K
   | .builtin .clear,[x],[t]=>d = false /\ o.dst = none /\ tj P st t (st.get x) K
   | .builtin .delete,[m,k],[t,_]=>o.dst = none /\ tk P st t (st.get m) (st.get k) K
   | .invoke recv name,args,_=>d = false /\ uQ P st o.dst (st.get recv) name (args.map st.get) K
   | .value f,args,_=>match callee st f args with
     | some (g,vs)=>eV st f args /\ aL st o.dst /\
      (if d = true then ∃ r,ay P g vs st.bx r /\ K (st.put o.dst r)
       else aw P g vs st.bx fun r bx'=>K ({ st with bx:=bx' }.put o.dst r))
     | none=>False
   | _,_,_=>False
 | _=>False
def dV (ops:Array Oper) (st:St) (g:Nat) (want:Bool):Option Bool :=
 match (ops[g]?).bind (·.dst) with
 | some d=>match (st.sl d).strip with
   | .bool c=>some ((st.sl d).az && (c == want))
   | _=>none
 | none=>none
def bJ (P:Program) (d:Bool) (ops:Array Oper) (o:Oper) (K:St -> Prop) (st:St):Prop :=
 match o.guard with
 | none=>aK P d o K st
 | some (g,want)=>match dV ops st g want with
   | some wb =>
     if bV o.op = true then (wb = true -> (ev P st o).1) /\ aL st o.dst /\ K (st.put o.dst (eB wb (ev P st o).2)) else
     match o.op with
     | .call { callee:=.value f,args:=args,.. }=>match callee st f args.toList with
       | some (q,vs)=>aL st o.dst /\ ∃ r,(wb = true -> eV st f args.toList /\ ay P q vs st.bx r) /\ K (st.put o.dst (eB wb r))
       | none=>False
     | _=>(wb = true -> aK P d o K st) /\ (wb = false -> aL st o.dst /\ K (st.put o.dst (.dead .cU)))
   | none=>False
def oL (P:Program) (d:Bool) (ops:Array Oper) (K:St -> Prop):List Oper -> St -> Prop
 | [],st=>K st
 | o :: rest,st=>bJ P d ops o (oL P d ops K rest) st
section
variable {P:Program} {β:Beta} {M:dR} {bx:aa} {w:World}
theorem iX {k:Nat} {x:TypeId × Nat} (hx:w.shape? k = some x):k < w.heap.size:=by
 rcases Nat.lt_or_ge k w.heap.size with h1 | h1
 ·exact h1
 ·simp [World.shape?,Array.getElem?_eq_none h1] at hx
theorem BW (h:er β M bx w) (b:Nat) {b':Nat} (hβ':β b' = none) {w':World} (vz:w'.os = w.os) (R8:w'.tape = w.tape) (Mg:w'.output = w.output) (wR:w.drawn <= w'.drawn) (bW:w.heap.size <= w'.heap.size)
 (pA:∀ k,k < w.heap.size -> (bx b ≠ none -> β b ≠ some (some k)) -> w'.heap[k]? = w.heap[k]?) (fj:∀ k x,w.shape? k = some x -> w'.shape? k = some x)
 (tgt:Option Nat) (ty:TypeId) (sz:Nat) (es:List V) (BV:0 < sz \/ es ≠ []) (jN:tgt = none -> es = [])
 (hsome:∀ g,tgt = some g -> (w.heap.size <= g \/ (bx b ≠ none /\ β b = some (some g))) /\ g < w'.heap.size /\ ∃ cur fr,w'.heap[g]? = some (.cells cur ty fr) /\ p0 cur.size fr /\ es.length * sz <= cur.size /\ dZ β w (Fz β M bx w) sz es cur) :
 er (aB β b' (some tgt)) M (aB (aB bx b none) b' (some (.row ty sz es))) w' /\ Tr β bx w (aB β b' (some tgt)) (aB (aB bx b none) b' (some (.row ty sz es))) w':=by
 have iW:∀ q x,β q = some x -> aB β b' (some tgt) q = some x:=by
  intro q x hx
  rw [ae _ _ (by rintro rfl; rw [hβ'] at hx; cases hx)]; exact hx
 have hold:∀ q,q ≠ b' -> aB (aB bx b none) b' (some (.row ty sz es)) q ≠ none -> bx q ≠ none /\ q ≠ b:=by
  intro q hq h1
  rw [ae _ _ hq] at h1
  by_cases e:q = b
  ·subst e; simp [af] at h1
  ·rw [ae _ _ e] at h1; exact ⟨h1,e⟩
 have dr:∀ q k,bx q ≠ none -> β q = some (some k) -> k < w.heap.size /\ M k = none:=by
  intro q k h1 h2
  obtain ⟨box,dP⟩:=Option.ne_none_iff_exists'.1 h1
  rcases h.live q box dP with ⟨h3,_⟩ | ⟨k',h3,h4,h5,_⟩
  ·rw [h3] at h2; cases h2
  ·rw [h3] at h2; injection h2 with e; injection e with e; subst e; exact ⟨h4,h5⟩
 have hF:∀ k,Fz β M bx w k -> Fz (aB β b' (some tgt)) M (aB (aB bx b none) b' (some (.row ty sz es))) w' k /\ w'.heap[k]? = w.heap[k]?:=by
  rintro k ⟨h1,h2,h3⟩
  refine ⟨⟨by omega,h2,fun q hq he=>?_⟩,pA k h1 (fun hb=>h3 b hb)⟩
  by_cases e:q = b'
  ·subst e
   rw [af] at he
   injection he with he
   rcases (hsome k he).1 with h4 | ⟨h4,h5⟩
   ·omega
   ·exact h3 b h4 h5
  ·rw [ae _ _ e] at he
   exact h3 q (hold q e hq).1 he
 constructor
 ·refine ⟨?_,fun k o hM=>(pA k (h.oE hM) (fun hb he=>by have:=(dr b k hb he).2; rw [hM] at this; cases this)).trans (h.mlt k o hM),fun q box hq=>?_,fun q1 q2 k h1 h2 h3 h4=>?_⟩
  ·obtain ⟨n,hn⟩:=h.fin
   refine ⟨max n (b' + 1),fun q hq=>?_⟩
   rw [ae _ _ (by omega)]
   exact hn q (by omega)
  ·by_cases e:q = b'
   ·subst e
    rw [af] at hq
    injection hq with hq
    subst hq
    cases tgt with
    | none=>exact .inl ⟨af _ _ _,jN rfl⟩
    | some g =>
      obtain ⟨h1,h2,cur,fr,h3,h30,h4,h5⟩:=hsome g rfl
      refine .inr ⟨g,af _ _ _,h2,?_,cur,fr,h3,h30,h4,fun i e he=>⟨(h5 i e he).1,fun j c hc=>⟨((h5 i e he).2 j c hc).1,((h5 i e he).2 j c hc).2.mono iW hF fj⟩⟩⟩
      rcases h1 with h1 | ⟨h1,h6⟩
      ·exact h.sU h1
      ·exact (dr b g h1 h6).2
   ·obtain ⟨h1,h2⟩:=hold q e (by rw [hq]; simp)
    rw [ae _ _ e,ae _ _ h2] at hq
    rcases h.live q box hq with ⟨h3,h4⟩ | ⟨k,h3,h4,h5,h6⟩
    ·exact .inl ⟨iW _ _ h3,h4⟩
    ·refine .inr ⟨k,iW _ _ h3,by omega,h5,bn h6 (pA k h4 (fun hb he=>h2 (h.inj q b k h1 hb h3 he))) iW hF fj⟩
  ·by_cases e1:q1 = b' <;> by_cases e2:q2 = b'
   ·rw [e1,e2]
   ·obtain ⟨h5,h6⟩:=hold q2 e2 h2
    rw [ae _ _ e2] at h4
    rw [e1,af] at h3
    injection h3 with h3
    rcases (hsome k h3).1 with h7 | ⟨h7,h8⟩
    ·have:=(dr q2 k h5 h4).1; omega
    ·exact absurd (h.inj q2 b k h5 h7 h4 h8) h6
   ·obtain ⟨h5,h6⟩:=hold q1 e1 h1
    rw [ae _ _ e1] at h3
    rw [e2,af] at h4
    injection h4 with h4
    rcases (hsome k h4).1 with h7 | ⟨h7,h8⟩
    ·have:=(dr q1 k h5 h3).1; omega
    ·exact absurd (h.inj q1 b k h5 h7 h3 h8) h6
   ·rw [ae _ _ e1] at h3
    rw [ae _ _ e2] at h4
    exact h.inj q1 q2 k (hold q1 e1 h1).1 (hold q2 e2 h2).1 h3 h4
 ·refine ⟨vz,R8,Mg,fun _=>wR,fun hm=>?_,bW,fun k h1 h2=>pA k h1 (h2 b),fj,iW,fun q k h1 h2=>?_⟩
  ·obtain ⟨q,mj,hq⟩:=Mk.kA hm (yI BV)
   by_cases e:q = b
   ·subst e; rw [af] at hq; cases hq
   ·exact ⟨q,mj,by rwa [ae _ _ e] at hq⟩
  by_cases e:q = b'
  ·subst e
   rw [af] at h2
   injection h2 with h2
   rcases (hsome k h2).1 with h3 | h3
   ·exact .inr h3
   ·exact .inl ⟨b,h3⟩
  ·rw [ae _ _ e] at h2
   exact .inl ⟨q,(hold q e h1).1,h2⟩
def Marks (B:Nat):(Nat -> Option Obj) -> List Deferred -> Prop
 | _,[]=>True
 | M,d :: ds=>∃ D,d = { target:=.collected D,args:=#[] } /\ B <= D /\ M D = some (.deferred (some [])) /\ Marks B (aB M D none) ds
theorem Marks.mono {B:Nat}:∀ {ds:List Deferred} {M M':Nat -> Option Obj},(∀ k o,M k = some o -> M' k = some o) -> Marks B M ds -> Marks B M' ds
 | [],_,_,_,h=>h
 | d :: ds,M,M',hm,⟨D,h1,hB,h2,h3⟩=>⟨D,h1,hB,hm _ _ h2,Marks.mono (fun k o hk=>by
  by_cases e:k = D
  ·subst e; simp [aB] at hk
  ·rw [ae _ _ e] at hk ⊢; exact hm k o hk) h3⟩
structure Rs (P:Program) (β:Beta) (M:dR) (st:St) (a:Act) (w:World):Prop where
 ok:er β M st.bx w
 sl:∀ t,aP β w (Fz β M st.bx w) (st.sl t) (a.tmps.getD t undef)
 sz:st.n <= a.tmps.size
 df:∃ ms,a.defers = ms ++ M.df /\ Marks M.base M.obj ms
 bs:M.base <= w.heap.size
 gl:p3 P β w (Fz β M st.bx w)
theorem Rs.KS {st:St} {a:Act} (h:Rs P β M st a w):tc β (Fz β M st.bx w) st a w:=⟨h.sl⟩
theorem Rs.get {st:St} {a:Act} (h:Rs P β M st a w) (x:Operand):aP β w (Fz β M st.bx w) (st.get x) (a.eval x):=h.KS.get x
theorem Rs.put {st:St} {a:Act} (h:Rs P β M st a w) {dst:Option Tmp} {v:V} {u:Value} (hd:aL st dst) (hv:aP β w (Fz β M st.bx w) v u):Rs P β M (st.put dst v) (a.put dst u) w:=by
 cases dst with
 | none=>exact h
 | some d =>
   have R9:d < a.tmps.size:=Nat.lt_of_lt_of_le hd h.sz
   refine ⟨h.ok,fun t=>?_,by simpa [St.put,Act.put] using h.sz,h.df,h.bs,h.gl⟩
   simp only [St.put,Act.put,aB]
   by_cases e:t = d
   ·subst e
    simpa [R9] using hv
   ·rw [if_neg e]
    have:=h.sl t
    simpa [Array.getElem?_setIfInBounds_ne (Ne.symm e)] using this
theorem Rs.step {st:St} {a:Act} (h:Rs P β M st a w) {β':Beta} {bx':aa} {w':World} (h1:er β' M bx' w') (h2:Tr β st.bx w β' bx' w'):Rs P β' M { st with bx:=bx' } a w' :=
 ⟨h1,fun t=>h2.rep (h.sl t),h.sz,h.df,Nat.le_trans h.bs h2.size,h.gl.imp (fun _ _ hh=>h2.rep hh) h2.shape⟩
theorem tl {F:Nat -> Prop} {v:V} {u:Value} {sz:Nat} (ho:okV v = true) (hl:v.cells.length = sz) (h:aP β w F v u):dZ β w F sz [v] u.cells:=by
 intro i e he
 match i,he with
 | 0,he =>
   simp at he
   subst he
   refine ⟨hl,fun j c hc=>?_⟩
   simpa using (hI ho h).2 j c hc
 | i + 1,he=>simp at he
theorem wT {α:Type} (f:Nat -> α) (x:Nat) (u v:α):aB (aB f x u) x v = aB f x v:=by
 funext y
 by_cases e:y = x
 ·subst e; simp [af]
 ·simp [ae _ _ e]
theorem Rs.alloc {st:St} {a:Act} (h:Rs P β M st a w) {K:St -> Prop} {K':Act -> World -> Prop} (hK:∀ st' β' a' w',K st' -> Rs P β' M st' a' w' -> Tr β st.bx w β' st'.bx w' -> K' a' w')
 (cur:Array Value) (ty:TypeId) (sz:Nat) (es:List V) (BV:0 < sz \/ es ≠ []) (hl:es.length * sz <= cur.size) (hr:dZ β w (Fz β M st.bx w) sz es cur) {dst:Option Tmp} (hd:aL st dst) (v:Nat -> V) (u:Value)
 (hv:∀ b β' w' F,β' b = some (some w.heap.size) -> w'.shape? w.heap.size = some (ty,cur.size) -> aP β' w' F (v b) u) (hk:∀ b,st.bx b = none -> K ((st.box b (some (.row ty sz es))).put dst (v b))) :
 K' (a.put dst u) (w.alloc (.cells cur ty)):=by
 obtain ⟨b,h1,h2⟩:=h.ok.fresh
 obtain ⟨h3,h4⟩:=v7 h.ok h1 h2 cur ty sz es BV hl hr
 refine hK _ _ _ _ (hk b h2) (((h.step h3 h4)).put (st:={ st with bx:=_ }) ?_ (hv b _ _ _ (af _ _ _) (bN (heap_alloc_new w _)))) ?_
 ·cases dst <;> exact hd
 ·cases dst <;> exact h4
end
end Go.Pl
namespace Go.Pl
open Go
section
variable {P:Program} {β:Beta} {M:dR} {w:World}
theorem I2 {e:TypeId} {u:Value}:(Instr.box e u).run P w = .ok (.pointer (some ⟨w.heap.size,0,none⟩)) (w.alloc (.cells u.cells e)):=by
 simp [Instr.box,newVar,newRow]
theorem ko {e:TypeId} {z:Value} (h:aV P e = some z):∃ i,P.info? e = some i /\ i.zero = some z:=by
 unfold aV at h
 cases hi:P.info? e with
 | none=>simp [hi] at h
 | some i=>exact ⟨i,rfl,by simpa [hi] using h⟩
theorem Dy {e:TypeId} {z:Value} (h:aV P e = some z):(Instr.alloc e true (.tuple #[])).run P w = .ok (.pointer (some ⟨w.heap.size,0,none⟩)) (w.alloc (.cells z.cells e)):=by
 obtain ⟨i,h1,h2⟩:=ko h
 simp [Instr.alloc,zeroValue,typeInfo,h1,h2,newVar,newRow]
theorem AE {F:Nat -> Prop} {sz:Nat} {es:List V} {cur cur':Array Value} (h:dZ β w F sz es cur) {i:Nat} (hi:i < es.length) (bW:es.length * sz <= cur.size) {v:V} {u:Value} (ho:okV v = true) (hl:v.cells.length = sz) (hr:aP β w F v u)
 (aU:∀ m,cur'.getD m undef = if i * sz <= m /\ m < i * sz + sz then u.cells.toList.getD (m - i * sz) undef else cur.getD m undef):dZ β w F sz (es.set i v) cur':=by
 intro i' e he
 by_cases e1:i' = i
 ·subst e1
  rw [List.getElem?_set_self hi] at he
  injection he with he
  subst he
  refine ⟨hl,fun j c hc=>?_⟩
  have hj:j < sz:=by have:=(List.getElem?_eq_some_iff.1 hc).1; omega
  rw [aU,if_pos (by omega)]
  have:=(hI ho hr).2 j c hc
  have e2:i' * sz + j - i' * sz = j:=by omega
  rw [e2]
  simpa using this
 ·rw [List.getElem?_set_ne (Ne.symm e1)] at he
  obtain ⟨h1,h2⟩:=h i' e he
  refine ⟨h1,fun j c hc=>?_⟩
  have hj:j < sz:=by have:=(List.getElem?_eq_some_iff.1 hc).1; omega
  have bB:¬ (i * sz <= i' * sz + j /\ i' * sz + j < i * sz + sz):=by
   rintro ⟨h3,h4⟩
   rcases Nat.lt_or_gt_of_ne e1 with h5 | h5
   ·have:(i' + 1) * sz <= i * sz:=Nat.mul_le_mul_right _ h5
    rw [Nat.succ_mul] at this
    omega
   ·have:(i + 1) * sz <= i' * sz:=Nat.mul_le_mul_right _ h5
    rw [Nat.succ_mul] at this
    omega
  rw [aU,if_neg bB]
  exact h2 j c hc
theorem tm {F:Nat -> Prop} {st:St} {a:Act} (hg:∀ x,aP β w F (st.get x) (a.eval x)) {t:TypeId} {sz len:Nat} (bW:aF P t = sz):∀ (ps:List (Nat × Operand)) (es:List V) (cur:Array Value),es.length = len -> len * sz <= cur.size -> dZ β w F sz es cur ->
 (∀ p,p ∈ ps -> p.1 < len /\ storable P t (st.get p.2)) ->
 ∃ cur',Instr.fill (fun i=>some (i * sz,sz)) cur (ps.map fun (i,x)=>(i,a.eval x)) = some cur' /\ cur'.size = cur.size /\ dZ β w F sz (dS st es ps) cur' /\ (dS st es ps).length = len
 | [],es,cur,hl,hs,hr,_=>⟨cur,rfl,rfl,hr,hl⟩
 | (i,x) :: ps,es,cur,hl,hs,hr,hp=>by
   obtain ⟨hi,_,ho,KT⟩:=hp (i,x) (by simp)
   simp only at hi ho KT
   have hu:=hI ho (hg x)
   have RA:(a.eval x).cells.size = sz:=by rw [hu.1,KT,bW]
   have fB:i * sz + sz <= cur.size:=by
    have:(i + 1) * sz <= len * sz:=Nat.mul_le_mul_right _ hi
    rw [Nat.succ_mul] at this
    omega
   obtain ⟨h1,h2⟩:=foldl_set (i * sz) (a.eval x).cells.toList 0 cur (by simp; omega)
   have hz:∀ (c:Array Value),((a.eval x).cells.zipIdx.foldl (fun cs (c,j)=>cs.setIfInBounds (i * sz + j) c) c) = ((a.eval x).cells.toList.zipIdx 0).foldl (fun (cs:Array Value) (x:Value × Nat)=>cs.setIfInBounds (i * sz + x.2) x.1) c:=by
    intro c
    rw [<- Array.foldl_toList]
    simp
   obtain ⟨cur',h3,h4,h5,h6⟩:=tm hg bW ps (es.set i (st.get x)) _ (by simpa using hl) (by rw [h1]; exact hs)
    (AE (cur':=((a.eval x).cells.toList.zipIdx 0).foldl (fun (cs:Array Value) (x:Value × Nat)=>cs.setIfInBounds (i * sz + x.2) x.1) cur) hr (by omega) (by rw [hl]; exact hs) ho (by rw [KT,bW]) (hg x) (fun m=>by
     rw [h2 m]
     simp only [Nat.add_zero,Array.length_toList,RA])) (fun p qZ=>hp p (by simp [qZ]))
   refine ⟨cur',?_,by rw [h4,h1],h5,h6⟩
   simp only [List.map_cons,Instr.fill,RA,ne_eq,not_true_eq_false,false_or]
   rw [if_neg (by simp; omega)]
   have h3':=h3
   rw [<- hz] at h3'
   exact h3'
theorem kE {F:Nat -> Prop} {z:Value} {sz n len:Nat} (ho:okV (ofValue z) = true) (hl:(ofValue z).cells.length = sz) (bW:0 < sz) (cur:Array Value) (hn:len * sz <= n) (aU:∀ m,m < n -> cur.getD m undef = z.cells.getD (m % sz) undef):dZ β w F sz (List.replicate len (ofValue z)) cur:=by
 intro i e he
 rw [List.getElem?_replicate] at he
 split at he
 ·rename_i hi
  injection he with he
  subst he
  refine ⟨hl,fun j c hc=>?_⟩
  have hj:j < sz:=by have:=(List.getElem?_eq_some_iff.1 hc).1; omega
  have fB:i * sz + j < len * sz:=by
   have:(i + 1) * sz <= len * sz:=Nat.mul_le_mul_right _ hi
   rw [Nat.succ_mul] at this
   omega
  rw [aU _ (by omega)]
  have:(i * sz + j) % sz = j:=by rw [Nat.mul_comm,Nat.mul_add_mod]; exact Nat.mod_eq_of_lt hj
  rw [this]
  exact (hI ho (dp z)).2 j c hc
 ·cases he
theorem eW {z:Value} (ho:okV (ofValue z) = true):z.cells.size = (ofValue z).cells.length :=
 (hI (β:=fun _=>none) (w:=default) (F:=fun _=>False) ho (dp z)).1
theorem yW (z:Value) (sz n:Nat) (bW:0 < sz) (hz:z.cells.size = sz) (m:Nat) (hm:m < n):((Array.range n).map (z.cells[· % z.cells.size]!)).getD m undef = z.cells.getD (m % sz) undef:=by
 have h1:m % sz < z.cells.size:=by rw [hz]; exact Nat.mod_lt _ bW
 have h2:m % z.cells.size < z.cells.size:=by rw [hz] at h1 ⊢; exact h1
 simp only [Array.getD_eq_getD_getElem?,Array.getElem?_map,Array.getElem?_range,hm,if_true,Option.map_some,Option.getD_some,hz]
 simp [h1]
theorem pB {base:Nat} {t ty e:TypeId} {i:TypeInfo} {size:Nat} (ht:P.underlying t = some (.slice e)) (hi:P.info? e = some i)
 {v:Value} {n:Nat} {xs:List Value} (fC:w.ownsRow base e size v n xs) (c:Nat):(Builtin.append_ #[t,t] ty #[v,.slice none 0 c]).run P w = .ok v w:=by
 rcases fC.2 with ⟨rfl,rfl⟩ | ⟨g,cap,cur,rfl,_,_,si,_⟩
 ·simp [Builtin.append_,run_underlying ht,sizeOf,typeInfo,hi,Builtin.lenOf,Builtin.firstCells]
 ·simp [Builtin.append_,run_underlying ht,sizeOf,typeInfo,hi,Builtin.lenOf,Builtin.firstCells,si,storeCells]
theorem Dz {st:St} {a:Act} (h:Rs P β M st a w) {sz:Nat} (bW:0 < sz) {x:V} {u:Value} (hx:aP β w (Fz β M st.bx w) x u) {news:List V} (hs:bM st sz x = some news) (Mh:∀ s,x ≠ .str s) :
 ∃ (A:Option Addr) (c:Nat) (vals:List Value),u = .slice A news.length c /\ vals.length = news.length * sz /\ (∀ v,v ∈ vals -> v.oneCell' = true) /\ dZ β w (Fz β M st.bx w) sz news vals.toArray /\
  ((A = none /\ news = []) \/ ∃ ad,A = some ad /\ ∀ (j:Nat) (v:Value),vals[j]? = some v -> w.cell? (ad.add j) = some v):=by
 unfold bM at hs
 split at hs
 ·injection hs with hs
  subst hs
  cases hx
  exact ⟨none,0,[],rfl,by simp,by simp,fun i e he=>by simp at he,.inl ⟨rfl,rfl⟩⟩
 ·rename_i eU es
  split at hs
  ·rename_i e
   have e':=e.symm
   subst e'
   injection hs with hs
   subst hs
   cases hx with
   | sl sz es A cap u0 kP gZ hA hse hc hr =>
     have eI:∀ m,m < es.length * sz -> ((List.range (es.length * sz)).map u0).toArray.getD m undef = u0 m:=fun m hm=>by simp [hm]
     have hbound:∀ (i:Nat) (e:V) (j:Nat) (c:V),es[i]? = some e -> e.cells[j]? = some c -> i * sz + j < es.length * sz:=by
      intro i e j c he ec
      have h1:=(List.getElem?_eq_some_iff.1 he).1
      have h2:=(List.getElem?_eq_some_iff.1 ec).1
      have h3:=hse e (List.mem_of_getElem? he)
      have:(i + 1) * sz <= es.length * sz:=Nat.mul_le_mul_right _ h1
      rw [Nat.succ_mul] at this
      omega
     have RD:∀ m,m < es.length * sz -> ∃ (i:Nat) (e:V) (j:Nat) (c:V),es[i]? = some e /\ e.cells[j]? = some c /\ i * sz + j = m:=by
      intro m hm
      have h1:m / sz < es.length:=(Nat.div_lt_iff_lt_mul bW).2 hm
      have h2:m % sz < sz:=Nat.mod_lt _ bW
      have h3:=hse _ (List.getElem_mem h1)
      refine ⟨m / sz,es[m / sz],m % sz,(es[m / sz]).cells[m % sz]'(by omega),List.getElem?_eq_getElem h1,List.getElem?_eq_getElem _,?_⟩
      have:=Nat.div_add_mod m sz
      rw [Nat.mul_comm] at this
      exact this
     refine ⟨A,cap,(List.range (es.length * sz)).map u0,rfl,by simp,fun v hv=>?_,fun i e he=>⟨hse e (List.mem_of_getElem? he),fun j c ec=>?_⟩,?_⟩
     ·obtain ⟨m,hm,rfl⟩:=List.mem_map.1 hv
      obtain ⟨i,e,j,c,h1,h2,rfl⟩:=RD m (by simpa using hm)
      obtain ⟨_,_,_,_,h3⟩:=hc i e j c h1 h2
      exact h3
     ·have hb:=hbound i e j c he ec
      rw [eI _ hb]
      obtain ⟨_,_,_,_,h3⟩:=hc i e j c he ec
      exact ⟨h3,hr i e j c he ec⟩
     ·cases A with
      | none =>
        by_cases wU:es = []
        ·exact .inl ⟨rfl,wU⟩
        ·exact absurd rfl (hA wU)
      | some ad =>
        refine .inr ⟨ad,rfl,fun j v hj=>?_⟩
        rw [List.getElem?_map] at hj
        by_cases hjm:j < es.length * sz
        ·rw [List.getElem?_range hjm] at hj
         simp at hj
         subst hj
         obtain ⟨i,e,j',c,h1,h2,rfl⟩:=RD j hjm
         obtain ⟨a',ha,_,h3,_⟩:=hc i e j' c h1 h2
         injection ha with ha
         subst ha
         exact h3
        ·rw [List.getElem?_eq_none (by simpa using hjm)] at hj
         simp at hj
  ·cases hs
 ·rename_i b eU o n
  split at hs
  ·rename_i ty sz'' es hb
   split at hs
   ·rename_i hh
    obtain ⟨e1,e2,hle⟩:=hh
    have e1':=e1.symm
    have e2':=e2.symm
    subst e1'
    subst e2'
    injection hs with hs
    subst hs
    have hlen:((es.drop o).take n).length = n:=by simp; omega
    cases hx with
    | mi b sz bQ =>
      exact ⟨none,0,[],by simp,by simp,by simp,fun i e he=>by simp at he,.inl ⟨rfl,by simp⟩⟩
    | own b sz o n k cap m mj bQ fj hm hn gZ =>
      rcases h.ok.live b _ hb with ⟨h1,_⟩ | ⟨k',h1,_,_,cur,fr,aU,iA,jj,au⟩
      ·rw [bQ] at h1; cases h1
      ·rw [bQ] at h1
       injection h1 with h1
       injection h1 with h1
       subst h1
       have yT:∀ i,o * sz + i * sz = (o + i) * sz:=fun i=>(Nat.add_mul _ _ _).symm
       have fB:(o + n) * sz <= cur.size:=Nat.le_trans (Nat.mul_le_mul_right _ hle) jj
       rw [Nat.add_mul] at fB
       have eI:∀ m,m < n * sz -> ((cur.toList.drop (o * sz)).take (n * sz)).toArray.getD m undef = cur.getD (o * sz + m) undef:=by
        intro m hm
        simp only [Array.getD_eq_getD_getElem?,List.getElem?_toArray,List.getElem?_take,hm,if_true,List.getElem?_drop,Array.getElem?_toList]
       refine ⟨some ⟨k,o * sz,none⟩,cap,(cur.toList.drop (o * sz)).take (n * sz),by rw [hlen],by rw [hlen]; simp; omega,fun v hv=>?_,fun i e he=>?_,.inr ⟨_,rfl,fun j v hj=>?_⟩⟩
       ·obtain ⟨m,RE⟩:=List.mem_iff_getElem?.1 hv
        have RF:m < n * sz:=by
         have:=(List.getElem?_eq_some_iff.1 RE).1
         simp at this
         omega
        have h4:m / sz < n:=(Nat.div_lt_iff_lt_mul bW).2 RF
        have h5:m % sz < sz:=Nat.mod_lt _ bW
        have h6:o + m / sz < es.length:=by omega
        obtain ⟨h7,h8⟩:=au (o + m / sz) _ (List.getElem?_eq_getElem h6)
        have h9:=(h8 (m % sz) _ (List.getElem?_eq_getElem (by omega))).1
        have qu:(o + m / sz) * sz + m % sz = o * sz + m:=by
         have:=Nat.div_add_mod m sz
         rw [Nat.mul_comm] at this
         rw [Nat.add_mul]
         omega
        rw [qu,<- eI m RF] at h9
        simp only [Array.getD_eq_getD_getElem?,List.getElem?_toArray,RE,Option.getD_some] at h9
        exact h9
       ·rw [List.getElem?_take,List.getElem?_drop] at he
        split at he
        ·rename_i hi
         obtain ⟨h7,h8⟩:=au (o + i) e he
         refine ⟨h7,fun j c hc=>?_⟩
         have hj:j < sz:=by have:=(List.getElem?_eq_some_iff.1 hc).1; omega
         have aR:i * sz + j < n * sz:=by
          have:(i + 1) * sz <= n * sz:=Nat.mul_le_mul_right _ hi
          rw [Nat.succ_mul] at this
          omega
         rw [eI _ aR]
         have:=h8 j c hc
         rwa [show (o + i) * sz + j = o * sz + (i * sz + j) by rw [Nat.add_mul]; omega] at this
        ·cases he
       ·rw [List.getElem?_take,List.getElem?_drop] at hj
        split at hj
        ·rw [add_lit,cell_of_row w k _ cur ty fr aU]
         simpa using hj
        ·cases hj
   ·cases hs
  ·cases hs
 ·exact absurd rfl (Mh _)
 ·cases hs
end
end Go.Pl
namespace Go.Pl
open Go
section
variable {P:Program} {β:Beta} {M:dR} {w:World}
theorem vA {w:World} {g:Nat} {cur:Array Value} {t:TypeId} {fr:Nat × Nat} (hg:w.heap[g]? = some (.cells cur t fr)) (hf:p0 cur.size fr) {o:Nat} (ho:o < cur.size):w.frozen? ⟨g,o,none⟩ = false:=by
 rcases hf with rfl | rfl
 ·simp [World.frozen?,hg]
 ·simp [World.frozen?,hg]
  omega
theorem du (g o:Nat) (t:TypeId) (fr:Nat × Nat):∀ (vs:List Value) (i:Nat) (cur:Array Value) (w:World),w.heap[g]? = some (.cells cur t fr) -> p0 cur.size fr -> o + i + vs.length <= cur.size -> (∀ v ∈ vs,v.oneCell' = true) ->
 (storeCells ⟨g,o,none⟩ vs i).run P w = .ok () (w.setRow g (cur.toList.take (o + i) ++ vs ++ cur.toList.drop (o + i + vs.length)).toArray)
 | [],i,cur,w,hg,_,_,_=>by
   simp only [storeCells,List.append_nil,List.length_nil,Nat.add_zero,List.take_append_drop,Array.toArray_toList]
   rw [setRow_self w g cur t fr hg]
   rfl
 | v :: rest,i,cur,w,hg,iA,hl,h1=>by
   have hi:o + i < cur.size:=by simp at hl; omega
   have wV:(⟨g,o,none⟩:Addr).add i = ⟨g,o + i,none⟩:=by unfold Addr.add; split <;> simp_all
   have bD:w.cell? ⟨g,o + i,none⟩ = some cur[o + i]:=by simp [World.cell?,hg,hi]
   have aac:w.frozen? ⟨g,o + i,none⟩ = false:=vA hg iA hi
   have iB:(store ((⟨g,o,none⟩:Addr).add i) v).run P w = .ok () (w.setRow g (cur.setIfInBounds (o + i) v)):=by
    rw [wV,run_store P w _ v _ (h1 v (by simp)),bD]
    simp [aac,setCell_eq_setRow w g (o + i) cur t fr v hg]
   have ih:=du g o t fr rest (i + 1) (cur.setIfInBounds (o + i) v) (w.setRow g (cur.setIfInBounds (o + i) v)) (setRow_heap w g cur _ t _ hg) (by simpa using iA) (by simp at hl ⊢; omega) (fun x hx=>h1 x (by simp [hx]))
   simp only [storeCells,Sem.run_bind,iB,Result.andThen_ok,ih,setRow_setRow]
   congr 3
   have e:=list_seg_step cur.toList (o + i) v rest (by simp at hl ⊢; omega)
   simpa [Array.toList_setIfInBounds,Nat.add_assoc] using e
theorem jO (t ty e:TypeId) (i:TypeInfo) (ht:P.underlying t = some (.slice e)) (hi:P.info? e = some i)
 (g sLen sCap:Nat) (cur:Array Value) {fr:Nat × Nat} (hg:w.heap[g]? = some (.cells cur e fr)) (iA:p0 cur.size fr)
 (a:Addr) (m c:Nat) (news:List Value) (hl:news.length = m * i.size) (kT:∀ j u,news[j]? = some u -> w.cell? (a.add j) = some u) (h1:∀ u ∈ news,u.oneCell' = true)
 (iY:sLen + m <= sCap) (fB:sLen * i.size + news.length <= cur.size) :
 (Builtin.append_ #[t,t] ty #[.slice (some ⟨g,0,none⟩) sLen sCap,.slice (some a) m c]).run P w =
  .ok (.slice (some ⟨g,0,none⟩) (sLen + m) sCap) (w.setRow g (cur.toList.take (sLen * i.size) ++ news ++ cur.toList.drop (sLen * i.size + news.length)).toArray):=by
 have hf:=run_firstCells_some (P:=P) w i.size m a m c news hl kT
 have iB:=du (P:=P) g (sLen * i.size) e fr news 0 cur w hg iA (by simpa using fB) h1
 simp only [Nat.add_zero] at iB
 simp [Builtin.append_,run_underlying ht,sizeOf,typeInfo,hi,Builtin.lenOf,iY,hf,Addr.add_lit,iB]
theorem gS {w':World} {row:Option Nat} (hg:w.grownBy w' row) (au:∀ k,row = some k -> ∀ x,w.shape? k = some x -> w'.shape? k = some x):∀ k x,w.shape? k = some x -> w'.shape? k = some x:=by
 intro k x hx
 by_cases e:row = some k
 ·exact au k e x hx
 ·rw [bI (hg.block k (iX hx) (fun h=>e h.symm))]; exact hx
theorem wW {t ty e:TypeId} {i:TypeInfo} {z:Value} (ht:P.underlying t = some (.slice e)) (hi:P.info? e = some i) (hz:i.zero = some z) {size:Nat} {v:Value} {n:Nat} {xs:List Value} (fC:w.ownsRow 0 e size v n xs)
 {ad:Addr} {m c:Nat} {vals:List Value} (hl:vals.length = m * size) (kT:∀ j u,vals[j]? = some u -> w.cell? (ad.add j) = some u) (h1:∀ u ∈ vals,u.oneCell' = true) (y8:n + m <= 9223372036854775807) (hbytes:(n + m) * i.bytes <= 140737488355328) (ti:i.size = size)
 {v':Value} {w':World} (h:(Builtin.append_ #[t,t] ty #[v,.slice (some ad) m c]).run P w = .ok v' w'):w.drawn <= w'.drawn:=by
 subst ti
 rcases fC.2 with ⟨rfl,rfl⟩ | ⟨g,cap,cur,rfl,hbg,hg,si,yX,qA,lQ⟩
 ·by_cases hm:m = 0
  ·subst hm
   have hn:vals = []:=List.eq_nil_of_length_eq_zero (by simpa using hl)
   subst hn
   have:(Builtin.append_ #[t,t] ty #[.slice none 0 0,.slice (some ad) 0 c]).run P w = .ok (.slice none 0 0) w:=by
    simp [Builtin.append_,run_underlying ht,sizeOf,typeInfo,hi,Builtin.lenOf,Builtin.firstCells,loadCells,loadCellsFrom]
   rw [this] at h
   injection h with _ h
   subst h
   exact Nat.le_refl _
  ·have hr:=run_append_nil (P:=P) w t ty e i z ht hi hz ad m c vals hl kT (by omega) (by omega) (by have hb:=hbytes; simp only [Nat.zero_add] at hb; omega)
   rw [hr] at h
   injection h with _ h
   subst h
   exact Nat.le_succ w.drawn
 ·by_cases iY:n + m <= cap
  ·have fB:n * i.size + vals.length <= cur.size:=by rw [hl,qA,<- Nat.add_mul]; exact Nat.mul_le_mul_right _ iY
   have hr:=run_append_room (P:=P) w t ty e i ht hi g n cap cur hg ad m c vals hl kT h1 iY fB
   rw [hr] at h
   injection h with _ h
   subst h
   exact Nat.le_refl _
  ·have holds:∀ j u,xs[j]? = some u -> w.cell? ((⟨g,0,none⟩:Addr).add j) = some u:=fC.cells (g:=g) rfl
   have hr:=run_append_grow (P:=P) w t ty e i z ht hi hz ⟨g,0,none⟩ n cap xs fC.1 holds ad m c vals hl kT (by omega) (by omega) (growslice_fits (by omega) hbytes)
   rw [hr] at h
   injection h with _ h
   subst h
   exact Nat.le_succ w.drawn
theorem AF {t ty e:TypeId} {z:Value} (ht:P.underlying t = some (.slice e)) (hz:aV P e = some z) (fb:storable P e (ofValue z)) (eJ:0 < aF P e)
 {v:Value} {n:Nat} {xs:List Value} (fC:w.ownsRow 0 e (aF P e) v n xs) (A:Option Addr) (m c:Nat) (vals:List Value) (hl:vals.length = m * aF P e) (h1:∀ u,u ∈ vals -> u.oneCell' = true)
 (hA:(A = none /\ m = 0) \/ ∃ ad,A = some ad /\ ∀ (j:Nat) (u:Value),vals[j]? = some u -> w.cell? (ad.add j) = some u) (y8:n + m <= 9223372036854775807) (hbytes:(n + m) * oF P e <= 140737488355328) :
 ∃ v' w',(Builtin.append_ #[t,t] ty #[v,.slice A m c]).run P w = .ok v' w' /\ w'.ownsRow 0 e (aF P e) v' (n + m) (xs ++ vals) /\ w.grownBy w' v.ownBlock /\ (v'.ownBlock = v.ownBlock \/ v'.ownBlock = some w.heap.size) /\
  w.drawn <= w'.drawn /\ (∀ k x,w.shape? k = some x -> w'.shape? k = some x):=by
 obtain ⟨i,hi,mf⟩:=ko hz
 have bW:i.size = aF P e:=by simp [aF,hi]
 have sa:i.bytes = oF P e:=by simp [oF,hi]
 rcases hA with ⟨rfl,rfl⟩ | ⟨ad,rfl,bD⟩
 ·have:vals = []:=List.eq_nil_of_length_eq_zero (by simpa using hl)
  subst this
  exact ⟨v,w,pB ht hi fC c,by simpa using fC,World.grownBy.refl w _,.inl rfl,Nat.le_refl _,fun _ _ h=>h⟩
 ·obtain ⟨v',w',h2,h3,h4,_,h6⟩:=run_append_own_at (P:=P) w 0 t ty e i z (aF P e) (oF P e) ht hi mf bW sa (by rw [eW fb.2.1]; exact fb.2.2) eJ v n xs fC ad m c vals hl bD h1 (by simp only [maxLen]; omega) hbytes (Nat.zero_le _)
  refine ⟨v',w',h2,h3,h4,h6,wW ht hi mf fC hl bD h1 y8 (by rw [sa]; exact hbytes) bW h2,?_⟩
  rcases fC.2 with ⟨rfl,_⟩ | ⟨g,cap,cur,rfl,_,aU,si,yX,qA,lQ⟩
  ·exact gS h4 (fun k hk=>by simp [Value.ownBlock] at hk)
  ·refine gS h4 (fun k hk x hx=>?_)
   simp [Value.ownBlock] at hk
   subst hk
   by_cases iY:n + m <= cap
   ·have fB:n * i.size + vals.length <= cur.size:=by rw [hl,bW,qA,<- Nat.add_mul]; exact Nat.mul_le_mul_right _ iY
    have hr:=run_append_room (P:=P) w t ty e i ht hi g n cap cur aU ad m c vals (by rw [bW]; exact hl) bD h1 iY fB
    rw [hr] at h2
    injection h2 with _ h2
    subst h2
    rw [bN aU] at hx
    rw [bN (setRow_heap w g cur _ e _ aU),<- hx]
    simp
    omega
   ·have hr:=run_append_grow (P:=P) w t ty e i z ht hi mf ⟨g,0,none⟩ n cap xs (by rw [bW]; exact fC.1) (fC.cells (g:=g) rfl) ad m c vals (by rw [bW]; exact hl) bD (by omega) (by omega) (growslice_fits (by omega) (by rw [sa]; exact hbytes))
    rw [hr] at h2
    injection h2 with _ h2
    subst h2
    rw [bI (Go.RowKit.Below.heap_alloc w.drew _ g (iX hx))]
    exact hx
def lr (w:World) (e:TypeId) (size:Nat) (v:Value) (n:Nat) (xs:List Value):Prop :=
 xs.length = n * size /\
 ((v = .slice none 0 0 /\ n = 0) \/
  ∃ g cap cur fr,v = .slice (some ⟨g,0,none⟩) n cap /\ w.heap[g]? = some (.cells cur e fr) /\ p0 cur.size fr /\ n <= cap /\ cap <= maxLen /\ cap * size <= cur.size /\ cur.toList.take (n * size) = xs)
theorem nx {e:TypeId} {size:Nat} {v:Value} {n:Nat} {xs:List Value} (h:w.ownsRow 0 e size v n xs):lr w e size v n xs:=by
 refine ⟨h.1,h.2.imp id ?_⟩
 rintro ⟨g,cap,cur,h1,_,h2,h3,h4,h5,h6⟩
 exact ⟨g,cap,cur,(0,0),h1,h2,.inl rfl,h3,h4,by omega,h6⟩
theorem uR {t ty e:TypeId} {z:Value} (ht:P.underlying t = some (.slice e)) (hz:aV P e = some z) (fb:storable P e (ofValue z)) (eJ:0 < aF P e)
 {v:Value} {n:Nat} {xs:List Value} (fC:lr w e (aF P e) v n xs) (A:Option Addr) (m c:Nat) (vals:List Value) (hl:vals.length = m * aF P e) (h1:∀ u,u ∈ vals -> u.oneCell' = true)
 (hA:(A = none /\ m = 0) \/ ∃ ad,A = some ad /\ ∀ (j:Nat) (u:Value),vals[j]? = some u -> w.cell? (ad.add j) = some u) (y8:n + m <= 9223372036854775807) (hbytes:(n + m) * oF P e <= 140737488355328) :
 ∃ v' w',(Builtin.append_ #[t,t] ty #[v,.slice A m c]).run P w = .ok v' w' /\ lr w' e (aF P e) v' (n + m) (xs ++ vals) /\ w.grownBy w' v.ownBlock /\ (v'.ownBlock = v.ownBlock \/ v'.ownBlock = some w.heap.size) /\
  w.drawn <= w'.drawn /\ (∀ k x,w.shape? k = some x -> w'.shape? k = some x):=by
 have old:w.ownsRow 0 e (aF P e) v n xs -> _:=fun h=>AF (ty:=ty) ht hz fb eJ h A m c vals hl h1 hA y8 hbytes
 rcases fC.2 with ⟨rfl,rfl⟩ | ⟨g,cap,cur,fr,rfl,hg,iA,si,yX,qA,lQ⟩
 ·obtain ⟨v',w',a1,a2,a3⟩:=old ⟨fC.1,.inl ⟨rfl,rfl⟩⟩
  exact ⟨v',w',a1,nx a2,a3⟩
 by_cases heq:cur.size = cap * aF P e /\ fr = (0,0)
 ·obtain ⟨heq,rfl⟩:=heq
  obtain ⟨v',w',a1,a2,a3⟩:=old ⟨fC.1,.inr ⟨g,cap,cur,rfl,Nat.zero_le _,hg,si,yX,heq,lQ⟩⟩
  exact ⟨v',w',a1,nx a2,a3⟩
 obtain ⟨i,hi,mf⟩:=ko hz
 have bW:i.size = aF P e:=by simp [aF,hi]
 have sa:i.bytes = oF P e:=by simp [oF,hi]
 have Fb:z.cells.size = i.size:=by rw [bW,eW fb.2.1]; exact fb.2.2
 rw [<- bW] at hl fC qA lQ eJ ⊢
 rw [<- sa] at hbytes
 have hlen:(xs ++ vals).length = (n + m) * i.size:=by rw [List.length_append,fC.1,hl,Nat.add_mul]
 rcases hA with ⟨rfl,rfl⟩ | ⟨ad,rfl,kT⟩
 ·have:vals = []:=List.eq_nil_of_length_eq_zero (by simpa using hl)
  subst this
  refine ⟨_,w,?_,by simpa using fC,World.grownBy.refl w _,.inl rfl,Nat.le_refl _,fun _ _ h=>h⟩
  simp [Builtin.append_,run_underlying ht,sizeOf,typeInfo,hi,Builtin.lenOf,Builtin.firstCells,si,storeCells]
 ·by_cases iY:n + m <= cap
  ·have fB:n * i.size + vals.length <= cur.size:=by
    rw [hl,<- Nat.add_mul]; exact Nat.le_trans (Nat.mul_le_mul_right _ iY) qA
   have hr:=jO (P:=P) (w:=w) t ty e i ht hi g n cap cur hg iA ad m c vals hl kT h1 iY fB
   have rZ:w.grownBy (w.setRow g (cur.toList.take (n * i.size) ++ vals ++ cur.toList.drop (n * i.size + vals.length)).toArray) (Value.ownBlock (.slice (some ⟨g,0,none⟩) n cap)) :=
    ⟨rfl,rfl,rfl,by simp,fun k _ hk=>setRow_other w g k _ (fun e=>hk (by simp [Value.ownBlock,e]))⟩
   refine ⟨_,_,hr,⟨hlen,.inr ⟨g,cap,_,fr,rfl,setRow_heap w g cur _ e _ hg,by rw [show (cur.toList.take (n * i.size) ++ vals ++ cur.toList.drop (n * i.size + vals.length)).toArray.size = cur.size by simp only [List.size_toArray,List.length_append,List.length_take,List.length_drop,Array.length_toList]; omega]; exact iA,iY,yX,?_,?_⟩⟩,rZ,.inl rfl,Nat.le_refl _,gS rZ fun k hk x hx=>?_⟩
   ·simp only [List.size_toArray,List.length_append,List.length_take,List.length_drop,Array.length_toList]
    omega
   ·rw [lQ,<- hlen]
    exact List.take_left
   ·simp [Value.ownBlock] at hk
    subst hk
    rw [bN hg] at hx
    rw [bN (setRow_heap w g cur _ e _ hg),<- hx]
    simp
    omega
  ·have holds:∀ j u,xs[j]? = some u -> w.cell? ((⟨g,0,none⟩:Addr).add j) = some u:=by
    intro j u hu
    have wV:(⟨g,0,none⟩:Addr).add j = ⟨g,j,none⟩:=by unfold Addr.add; split <;> simp_all
    rw [wV,cell_of_row w g j cur e fr hg]
    rw [<- lQ,List.getElem?_take] at hu
    split at hu
    ·simpa using hu
    ·cases hu
   have hr:=run_append_grow (P:=P) w t ty e i z ht hi mf ⟨g,0,none⟩ n cap xs fC.1 holds ad m c vals hl kT (by omega) (by omega) (growslice_fits (by omega) hbytes)
   have rZ:w.grownBy (w.drew.alloc (.cells (xs.toArray ++ vals.toArray ++ Builtin.zeroCells z.cells (grownCap w (n + m) cap e - (n + m))) e)) (Value.ownBlock (.slice (some ⟨g,0,none⟩) n cap)) :=
    ⟨rfl,rfl,rfl,by simp,fun k hk _=>heap_alloc_old w.drew _ hk⟩
   have tg:=grownCap_ge w (n + m) cap e
   have aad:grownCap w (n + m) cap e <= maxLen:=grownCap_le_maxLen w (n + m) cap e (by simp only [maxLen]; omega)
   refine ⟨_,_,hr,⟨hlen,.inr ⟨w.heap.size,_,_,(0,0),rfl,heap_alloc_new w.drew _,.inl rfl,tg,aad,?_,?_⟩⟩,rZ,.inr rfl,Nat.le_succ w.drawn,gS rZ fun k hk x hx=>?_⟩
   ·simp only [Array.size_append,List.size_toArray,size_zeroCells,Fb,fC.1,hl,<- Nat.add_mul]
    exact Nat.le_of_eq (by congr 1; omega)
   ·simp only [Array.toList_append,List.append_assoc]
    rw [<- List.append_assoc,<- hlen]
    exact List.take_left
   ·rw [bI (Go.RowKit.Below.heap_alloc w.drew _ k (iX hx))]
    exact hx
theorem om {F:Nat -> Prop} {sz:Nat} {es news:List V} {xs vals:List Value} (XK:xs.length = es.length * sz) (h1:dZ β w F sz es xs.toArray) (h2:dZ β w F sz news vals.toArray) (hv:vals.length = news.length * sz) (cur:Array Value)
 (aU:cur.toList.take ((es.length + news.length) * sz) = xs ++ vals):dZ β w F sz (es ++ news) cur:=by
 have eI:∀ m,m < (es.length + news.length) * sz -> cur.getD m undef = (xs ++ vals).toArray.getD m undef:=by
  intro m hm
  rw [<- aU]
  simp only [Array.getD_eq_getD_getElem?,List.getElem?_toArray,List.getElem?_take,hm,if_true,Array.getElem?_toList]
 intro i e he
 by_cases hi:i < es.length
 ·rw [List.getElem?_append_left hi] at he
  obtain ⟨h3,h4⟩:=h1 i e he
  refine ⟨h3,fun j c hc=>?_⟩
  have hj:j < sz:=by have:=(List.getElem?_eq_some_iff.1 hc).1; omega
  have hb:i * sz + j < es.length * sz:=by
   have:(i + 1) * sz <= es.length * sz:=Nat.mul_le_mul_right _ hi
   rw [Nat.succ_mul] at this
   omega
  have aR:i * sz + j < (es.length + news.length) * sz:=by rw [Nat.add_mul]; omega
  rw [eI _ aR]
  have:=h4 j c hc
  have e2:(xs ++ vals).toArray.getD (i * sz + j) undef = xs.toArray.getD (i * sz + j) undef:=by
   simp only [Array.getD_eq_getD_getElem?,List.getElem?_toArray]
   rw [List.getElem?_append_left (by omega)]
  rw [e2]; exact this
 ·have y9:es.length <= i:=by omega
  rw [List.getElem?_append_right y9] at he
  obtain ⟨h3,h4⟩:=h2 _ e he
  refine ⟨h3,fun j c hc=>?_⟩
  have hj:j < sz:=by have:=(List.getElem?_eq_some_iff.1 hc).1; omega
  have Au:=(List.getElem?_eq_some_iff.1 he).1
  have aR:i * sz + j < (es.length + news.length) * sz:=by
   have:(i + 1) * sz <= (es.length + news.length) * sz:=Nat.mul_le_mul_right _ (by omega)
   rw [Nat.succ_mul] at this
   omega
  rw [eI _ aR]
  have:=h4 j c hc
  have e3:i * sz = es.length * sz + (i - es.length) * sz:=by rw [<- Nat.add_mul]; congr 1; omega
  have e2:(xs ++ vals).toArray.getD (i * sz + j) undef = vals.toArray.getD ((i - es.length) * sz + j) undef:=by
   simp only [Array.getD_eq_getD_getElem?,List.getElem?_toArray]
   rw [List.getElem?_append_right (by omega)]
   congr 2
   omega
  rw [e2]; exact this
theorem nP {t u ty e:TypeId} {i:TypeInfo} (ht:P.underlying t = some (.slice e)) (hu:P.underlying u = some .string \/ u = t) (hi:P.info? e = some i) (KU:i.size = 1)
 (g sLen sCap:Nat) (cur:Array Value) {fr:Nat × Nat} (hg:w.heap[g]? = some (.cells cur e fr)) (iA:p0 cur.size fr) (s:ByteArray) (iY:sLen + s.size <= sCap) (fB:sLen + s.size <= cur.size) :
 (Builtin.append_ #[t,u] ty #[.slice (some ⟨g,0,none⟩) sLen sCap,.string s]).run P w =
  .ok (.slice (some ⟨g,0,none⟩) (sLen + s.size) sCap) (w.setRow g (cur.toList.take sLen ++ Lib.strCells s ++ cur.toList.drop (sLen + s.size)).toArray):=by
 have hf:=Lib.run_firstCells_string (P:=P) w 1 s
 have iB:=du (P:=P) g sLen e fr (Lib.strCells s) 0 cur w hg iA (by simpa [Lib.strCells_length] using fB) (Lib.strCells_oneCell s)
 rcases hu with hu | rfl
 ·simp only [Nat.add_zero,Lib.strCells_length] at iB
  simp [Builtin.append_,run_underlying ht,run_underlying hu,sizeOf,typeInfo,hi,KU,Builtin.lenOf,iY,hf,Addr.add_lit,iB]
 ·skip
  simp only [Nat.add_zero,Lib.strCells_length] at iB
  simp [Builtin.append_,run_underlying ht,sizeOf,typeInfo,hi,KU,Builtin.lenOf,iY,hf,Addr.add_lit,iB]
theorem nQ {t u ty e:TypeId} {i:TypeInfo} {z:Value} (ht:P.underlying t = some (.slice e)) (hu:P.underlying u = some .string \/ u = t) (hi:P.info? e = some i) (hz:i.zero = some z)
 (b:Addr) (sLen sCap:Nat) (olds:List Value) (sj:olds.length = sLen * i.size) (holds:∀ j v,olds[j]? = some v -> w.cell? (b.add j) = some v) (s:ByteArray)
 (hg:sCap < sLen + s.size) (y8:((sLen + s.size:Nat):Int) <= 9223372036854775807) (fB:Builtin.nextslicecap (sLen + s.size) sCap * i.bytes <= 281474976710656) :
 (Builtin.append_ #[t,u] ty #[.slice (some b) sLen sCap,.string s]).run P w =
  .ok (.slice (some ⟨w.heap.size,0,none⟩) (sLen + s.size) (grownCap w (sLen + s.size) sCap e))
   (w.drew.alloc (.cells (olds.toArray ++ (Lib.strCells s).toArray ++ Builtin.zeroCells z.cells (grownCap w (sLen + s.size) sCap e - (sLen + s.size))) e)):=by
 rcases hu with hu | rfl
 ·exact Lib.run_append_grow_string w t u ty e i z ht hu hi hz b sLen sCap olds sj holds s hg y8 fB
 ·have hn:¬ (sLen + s.size <= sCap):=by omega
  have I3:¬ (9223372036854775807 < ((sLen:Int) + (s.size:Int))):=by omega
  have I4:¬ (281474976710656 < Builtin.nextslicecap (sLen + s.size) sCap * i.bytes):=by omega
  have hf:=Lib.run_firstCells_string (P:=P) w.drew i.size s
  have hfo:=run_firstCells_some (P:=P) w.drew i.size sLen b sLen sCap olds sj (by simpa using holds)
  simp [Builtin.append_,run_underlying ht,sizeOf,typeInfo,zeroValue,hi,hz,Builtin.lenOf,hn,I3,I4,Question.forced,hf,hfo,newRow,grownCap]
  congr 2
  apply Array.ext'
  simp [List.append_assoc]
theorem oM {t u ty e:TypeId} {i:TypeInfo} {z:Value} (ht:P.underlying t = some (.slice e)) (hu:P.underlying u = some .string \/ u = t) (hi:P.info? e = some i) (hz:i.zero = some z)
 (s:ByteArray) (h0:0 < s.size) (y8:(s.size:Int) <= 9223372036854775807) (h48:s.size * i.bytes <= 281474976710656) :
 (Builtin.append_ #[t,u] ty #[.slice none 0 0,.string s]).run P w =
  .ok (.slice (some ⟨w.heap.size,0,none⟩) s.size (grownCap w s.size 0 e))
   (w.drew.alloc (.cells ((Lib.strCells s).toArray ++ Builtin.zeroCells z.cells (grownCap w s.size 0 e - s.size)) e)):=by
 have hn:s.size ≠ 0:=by omega
 have I3:¬ (9223372036854775807 < (s.size:Int)):=by omega
 have I4:¬ (281474976710656 < Builtin.nextslicecap s.size 0 * i.bytes):=by rw [nextslicecap_zero h0]; omega
 have hf:=Lib.run_firstCells_string (P:=P) w.drew i.size s
 have hx:(Array.map (fun b:UInt8=>Value.int IntKind.u8 (b.toNat:Int)) s.data).extract 0 s.size = Array.map (fun b:UInt8=>Value.int IntKind.u8 (b.toNat:Int)) s.data:=by
  have hs:s.size = (Array.map (fun b:UInt8=>Value.int IntKind.u8 (b.toNat:Int)) s.data).size:=by rw [Array.size_map]; rfl
  rw [hs,Array.extract_size]
 rcases hu with hu | rfl
 ·simp [Builtin.append_,run_underlying ht,run_underlying hu,sizeOf,typeInfo,zeroValue,hi,hz,Builtin.lenOf,hn,I3,I4,Question.forced,hf,newRow,grownCap,Builtin.firstCells]
  rw [show (Lib.strCells s).toArray = Array.map (fun b:UInt8=>Value.int IntKind.u8 (b.toNat:Int)) s.data by apply Array.ext'; simp [Lib.strCells]]
  rw [hx]
 ·simp [Builtin.append_,run_underlying ht,sizeOf,typeInfo,zeroValue,hi,hz,Builtin.lenOf,hn,I3,I4,Question.forced,hf,newRow,grownCap,Builtin.firstCells]
  rw [show (Lib.strCells s).toArray = Array.map (fun b:UInt8=>Value.int IntKind.u8 (b.toNat:Int)) s.data by apply Array.ext'; simp [Lib.strCells]]
  rw [hx]
theorem pC {t u ty e:TypeId} {z:Value} (ht:P.underlying t = some (.slice e)) (hu:P.underlying u = some .string \/ u = t) (hz:aV P e = some z) (fb:storable P e (ofValue z)) (KU:aF P e = 1)
 {v:Value} {n:Nat} {xs:List Value} (fC:lr w e (aF P e) v n xs) (s:ByteArray) (y8:n + s.size <= 9223372036854775807) (hbytes:(n + s.size) * oF P e <= 140737488355328) :
 ∃ v' w',(Builtin.append_ #[t,u] ty #[v,.string s]).run P w = .ok v' w' /\ lr w' e (aF P e) v' (n + s.size) (xs ++ Lib.strCells s) /\ w.grownBy w' v.ownBlock /\ (v'.ownBlock = v.ownBlock \/ v'.ownBlock = some w.heap.size) /\
  w.drawn <= w'.drawn /\ (∀ k x,w.shape? k = some x -> w'.shape? k = some x):=by
 obtain ⟨i,hi,mf⟩:=ko hz
 have bW:i.size = aF P e:=by simp [aF,hi]
 have sa:i.bytes = oF P e:=by simp [oF,hi]
 have Fb:z.cells.size = i.size:=by rw [bW,eW fb.2.1]; exact fb.2.2
 rw [<- sa] at hbytes
 rw [KU] at bW fC ⊢
 have RG:xs.length = n:=by simpa using fC.1
 have hlen:(xs ++ Lib.strCells s).length = (n + s.size) * 1:=by rw [List.length_append,RG,Lib.strCells_length,Nat.mul_one]
 rcases fC.2 with ⟨rfl,rfl⟩ | ⟨g,cap,cur,fr,rfl,hg,iA,si,yX,qA,lQ⟩
 ·have hx:xs = []:=List.eq_nil_of_length_eq_zero RG
  subst hx
  by_cases hm:s.size = 0
  ·have hn:Lib.strCells s = []:=List.eq_nil_of_length_eq_zero (by rw [Lib.strCells_length]; exact hm)
   refine ⟨.slice none 0 0,w,?_,by rw [hm,hn]; exact ⟨rfl,.inl ⟨rfl,rfl⟩⟩,⟨rfl,rfl,rfl,Nat.le_refl _,fun _ _ _=>rfl⟩,.inl rfl,Nat.le_refl _,fun _ _ h=>h⟩
   have hf:=Lib.run_firstCells_string (P:=P) w 1 s
   rw [hm] at hf
   rcases hu with hu | rfl
   ·simp [Builtin.append_,run_underlying ht,run_underlying hu,sizeOf,typeInfo,hi,bW,Builtin.lenOf,hm,hf]
   ·simp [Builtin.append_,run_underlying ht,sizeOf,typeInfo,hi,bW,Builtin.lenOf,hm,hf]
  ·have hr:=oM (P:=P) (w:=w) (ty:=ty) ht hu hi mf s (by omega) (by omega) (by have hb:=hbytes; simp only [Nat.zero_add] at hb; omega)
   have tg:=grownCap_ge w s.size 0 e
   have yX:grownCap w s.size 0 e <= maxLen:=grownCap_le_maxLen w s.size 0 e (by simp only [maxLen]; omega)
   refine ⟨_,_,hr,⟨hlen,.inr ⟨w.heap.size,grownCap w s.size 0 e,_,(0,0),by simp,heap_alloc_new w.drew _,.inl rfl,by simpa using tg,yX,?_,?_⟩⟩,⟨rfl,rfl,rfl,by simp,fun k hk _=>heap_alloc_old w.drew _ hk⟩,.inr rfl,Nat.le_succ w.drawn,?_⟩
   ·simp only [Array.size_append,List.size_toArray,size_zeroCells,Fb,bW,Lib.strCells_length]
    omega
   ·simp only [Array.toList_append,List.nil_append,Nat.zero_add,Nat.mul_one]
    exact List.take_left' (Lib.strCells_length s)
   ·intro k x hx
    rw [bI (Go.RowKit.Below.heap_alloc w.drew _ k (iX hx))]
    exact hx
 ·by_cases iY:n + s.size <= cap
  ·have fB:n + s.size <= cur.size:=by omega
   have hr:=nP (P:=P) (w:=w) (ty:=ty) ht hu hi bW g n cap cur hg iA s iY fB
   have rZ:w.grownBy (w.setRow g (cur.toList.take n ++ Lib.strCells s ++ cur.toList.drop (n + s.size)).toArray) (Value.ownBlock (.slice (some ⟨g,0,none⟩) n cap)) :=
    ⟨rfl,rfl,rfl,by simp,fun k _ hk=>setRow_other w g k _ (fun e=>hk (by simp [Value.ownBlock,e]))⟩
   refine ⟨_,_,hr,⟨hlen,.inr ⟨g,cap,_,fr,rfl,setRow_heap w g cur _ e _ hg,by rw [show (cur.toList.take n ++ Lib.strCells s ++ cur.toList.drop (n + s.size)).toArray.size = cur.size by simp only [List.size_toArray,List.length_append,List.length_take,List.length_drop,Array.length_toList,Lib.strCells_length]; omega]; exact iA,iY,yX,?_,?_⟩⟩,rZ,.inl rfl,Nat.le_refl _,gS rZ fun k hk x hx=>?_⟩
   ·simp only [List.size_toArray,List.length_append,List.length_take,List.length_drop,Array.length_toList,Lib.strCells_length]
    omega
   ·rw [Nat.mul_one] at lQ
    rw [lQ,<- hlen]
    exact List.take_left
   ·simp [Value.ownBlock] at hk
    subst hk
    rw [bN hg] at hx
    rw [bN (setRow_heap w g cur _ e _ hg),<- hx]
    simp only [List.size_toArray,List.length_append,List.length_take,List.length_drop,Array.length_toList,Lib.strCells_length]
    congr 2
    omega
  ·have holds:∀ j u,xs[j]? = some u -> w.cell? ((⟨g,0,none⟩:Addr).add j) = some u:=by
    intro j u hj
    rw [<- lQ,List.getElem?_take] at hj
    split at hj
    ·rw [Array.getElem?_toList] at hj
     have:(⟨g,0,none⟩:Addr).add j = ⟨g,j,none⟩:=by unfold Addr.add; by_cases h:j = 0 <;> simp [h]
     rw [this]
     simp [World.cell?,hg,hj]
    ·cases hj
   have hr:=nQ (P:=P) (w:=w) (ty:=ty) ht hu hi mf ⟨g,0,none⟩ n cap xs (by rw [bW]; exact fC.1) holds s (by omega) (by omega) (growslice_fits (by omega) hbytes)
   have tg:=grownCap_ge w (n + s.size) cap e
   have yX:grownCap w (n + s.size) cap e <= maxLen:=grownCap_le_maxLen w (n + s.size) cap e (by simp only [maxLen]; omega)
   refine ⟨_,_,hr,⟨hlen,.inr ⟨w.heap.size,_,_,(0,0),rfl,heap_alloc_new w.drew _,.inl rfl,tg,yX,?_,?_⟩⟩,⟨rfl,rfl,rfl,by simp,fun k hk _=>heap_alloc_old w.drew _ hk⟩,.inr rfl,Nat.le_succ w.drawn,?_⟩
   ·simp only [Array.size_append,List.size_toArray,size_zeroCells,Fb,bW,RG,Lib.strCells_length]
    omega
   ·simp only [Array.toList_append,List.append_assoc]
    rw [<- List.append_assoc,<- hlen]
    exact List.take_left
   ·intro k x hx
    rw [bI (Go.RowKit.Below.heap_alloc w.drew _ k (iX hx))]
    exact hx
theorem wX {st:St} {a:Act} {K:St -> Prop} {K':Act -> World -> Prop} {dst:Option Tmp} {t ty:TypeId} {s x:V} {us ux:Value} (h:da P st dst t s x K) {t':TypeId} (Ig:t = t' \/ bC P t' = .str) (hr:Rs P β M st a w)
 (rs:aP β w (Fz β M st.bx w) s us) (rx:aP β w (Fz β M st.bx w) x ux) (hK:∀ st' β' a' w',K st' -> Rs P β' M st' a' w' -> Tr β st.bx w β' st'.bx w' -> K' a' w') :
 ∃ v w',(Builtin.append_ #[t,t'] ty #[us,ux]).run P w = .ok v w' /\ K' (a.put dst v) w':=by
 unfold da at h
 split at h
 ·rename_i e hk
  have ht:=bA hk
  split at h
  ·rename_i news z ka hz
   obtain ⟨fb,eJ,hd,_,h⟩:=h
   obtain ⟨vals,KT,hvr,run⟩:∃ vals:List Value,vals.length = news.length * aF P e /\ dZ β w (Fz β M st.bx w) (aF P e) news vals.toArray /\
    ∀ (v:Value) (n:Nat) (xs:List Value),lr w e (aF P e) v n xs -> n + news.length <= 9223372036854775807 -> (n + news.length) * oF P e <= 140737488355328 ->
     ∃ v' w',(Builtin.append_ #[t,t'] ty #[v,ux]).run P w = .ok v' w' /\ lr w' e (aF P e) v' (n + news.length) (xs ++ vals) /\ w.grownBy w' v.ownBlock /\ (v'.ownBlock = v.ownBlock \/ v'.ownBlock = some w.heap.size) /\
      w.drawn <= w'.drawn /\ (∀ k x,w.shape? k = some x -> w'.shape? k = some x):=by
    by_cases hstr:∃ bs,x = .str bs
    ·obtain ⟨bs,rfl⟩:=hstr
     obtain ⟨sx,rfl,rfl⟩:=rx.eg
     simp only [bM] at ka
     split at ka
     ·rename_i h1
      injection ka with ka
      subst ka
      have hu:P.underlying t' = some .string \/ t' = t:=Ig.elim (fun h=>.inr h.symm) (fun h=>.inl (ft h))
      have hl:(sx.data.toList.map dN).length = sx.size:=by simp
      refine ⟨Lib.strCells sx,by rw [Lib.strCells_length,hl,h1,Nat.mul_one],fun i e0 he=>?_,fun v n xs fC y8 sa=>?_⟩
      ·simp only [List.getElem?_map,Option.map_eq_some_iff] at he
       obtain ⟨b0,dH,rfl⟩:=he
       refine ⟨by rw [h1]; rfl,fun j c hc=>?_⟩
       have hj:j = 0:=by rcases j with _ | j; rfl; simp [dN,V.cells] at hc
       subst hj
       simp [dN,V.cells] at hc
       subst hc
       rw [h1,Nat.mul_one,Nat.add_zero]
       have:(Lib.strCells sx).toArray.getD i undef = .int .u8 b0.toNat:=by
        simp [Lib.strCells,Array.getD_eq_getD_getElem?,dH]
       rw [this]
       exact ⟨rfl,.int _ _⟩
      ·rw [hl] at y8 sa ⊢
       exact pC ht hu hz fb h1 fC sx y8 sa
     ·cases ka
    ·obtain ⟨A,c,vals,rfl,KT,D0,hvr,hA⟩:=Dz hr eJ rx ka fun s e=>hstr ⟨s,e⟩
     have hA':(A = none /\ news.length = 0) \/ ∃ ad,A = some ad /\ ∀ (j:Nat) (u:Value),vals[j]? = some u -> w.cell? (ad.add j) = some u:=by
      rcases hA with ⟨h1,h2⟩ | h1
      ·exact .inl ⟨h1,by simp [h2]⟩
      ·exact .inr h1
     refine ⟨vals,KT,hvr,fun v n xs fC y8 sa=>?_⟩
     obtain ⟨v',w',h1,h2⟩:=uR (ty:=ty) ht hz fb eJ fC A news.length c vals KT D0 hA' y8 sa
     refine ⟨v',w',?_,h2⟩
     have he:(Builtin.append_ #[t,t'] ty #[v,.slice A news.length c]).run P w = (Builtin.append_ #[t,t] ty #[v,.slice A news.length c]).run P w:=by
      rcases Ig with rfl | Ig
      ·rfl
      ·obtain ⟨i,hi,_⟩:=ko hz
       cases v with
       | slice base sLen sCap=>simp [Builtin.append_,run_underlying ht,run_underlying (ft Ig),sizeOf,typeInfo,hi,Builtin.lenOf]
       | _=>simp [Builtin.append_,run_underlying ht,stuck]
     rw [he]
     exact h1
   have finish:∀ (b:Nat) (n:Nat) (es:List V) (xs:List Value) (v:Value) (v':Value) (w':World),(st.bx b ≠ none -> (β b = some none /\ v.ownBlock = none) \/ ∃ k,β b = some (some k) /\ v.ownBlock = some k /\ k < w.heap.size) -> (st.bx b = none -> v.ownBlock = none) -> es.length = n -> xs.length = n * aF P e ->
    dZ β w (Fz β M st.bx w) (aF P e) es xs.toArray -> lr w' e (aF P e) v' (n + news.length) (xs ++ vals) -> w.grownBy w' v.ownBlock -> w.drawn <= w'.drawn -> (v'.ownBlock = v.ownBlock \/ v'.ownBlock = some w.heap.size) -> (∀ k,v.ownBlock = some k -> ∀ x,w.shape? k = some x -> w'.shape? k = some x) ->
    (∀ b',aB st.bx b none b' = none -> K (((st.box b none).box b' (some (.row e (aF P e) (es ++ news)))).put dst (.own b' (aF P e) 0 (n + news.length)))) -> K' (a.put dst v') w':=by
    intro b n es xs v v' w' hb hbn wU XK au fC hg wR D1 vr hk
    obtain ⟨b',eK,cz⟩:=hr.ok.fresh
    have uU:aB st.bx b none b' = none:=by
     by_cases e0:b' = b
     ·subst e0; exact af _ _ _
     ·rw [ae _ _ e0]; exact cz
    have pA:∀ k,k < w.heap.size -> (st.bx b ≠ none -> β b ≠ some (some k)) -> w'.heap[k]? = w.heap[k]?:=by
     intro k ee fJ
     refine hg.block k ee (fun e0=>?_)
     by_cases ff:st.bx b = none
     ·rw [hbn ff] at e0; cases e0
     ·rcases hb ff with ⟨_,h3⟩ | ⟨k',h3,h4,_⟩
      ·rw [h3] at e0; cases e0
      ·rw [h4] at e0; injection e0 with e0; subst e0; exact fJ ff h3
    have fj:=gS hg vr
    have RH:=fC.2
    rcases RH with ⟨Mi,hzero⟩ | ⟨g,cap,cur,fr,wY,aU,iA,hle,yX,qA,lQ⟩
    ·
     have D2:es = []:=List.eq_nil_of_length_eq_zero (by omega)
     have PT:news = []:=List.eq_nil_of_length_eq_zero (by omega)
     obtain ⟨h3,h4⟩:=BW hr.ok b eK hg.os hg.tape hg.output wR hg.size pA fj none e (aF P e) (es ++ news) (.inl eJ) (fun _=>by simp [D2,PT]) (fun g hg=>by cases hg)
     refine hK _ _ _ _ (hk b' uU) ((hr.step h3 h4).put (st:={ st with bx:=_ }) (by cases dst <;> exact hd) ?_) (by cases dst <;> exact h4)
     rw [Mi,hzero]
     exact .mi b' _ (af _ _ _)
    ·have yA:g = w.heap.size \/ (st.bx b ≠ none /\ β b = some (some g)):=by
      rcases D1 with h5 | h5
      ·have R6:v'.ownBlock = some g:=by rw [wY]; rfl
       rw [R6] at h5
       by_cases ff:st.bx b = none
       ·rw [hbn ff] at h5; cases h5
       ·rcases hb ff with ⟨_,h6⟩ | ⟨k',h6,h7,_⟩
        ·rw [h6] at h5; cases h5
        ·rw [h7] at h5; injection h5 with h5; subst h5; exact .inr ⟨ff,h6⟩
      ·have R6:v'.ownBlock = some g:=by rw [wY]; rfl
       rw [R6] at h5
       injection h5 with h5
       exact .inl h5
     have dr:g < w'.heap.size:=(Array.getElem?_eq_some_iff.1 aU).1
     obtain ⟨h3,h4⟩:=BW hr.ok b eK hg.os hg.tape hg.output wR hg.size pA fj (some g) e (aF P e) (es ++ news) (.inl eJ) (fun h0=>by cases h0) (fun g0 hg0=>by
      injection hg0 with hg0
      subst hg0
      refine ⟨yA.imp (fun h=>by omega) id,dr,cur,fr,aU,iA,?_,om (by rw [wU]; exact XK) au hvr KT cur (by rw [wU]; exact lQ)⟩
      rw [List.length_append,wU]
      exact Nat.le_trans (Nat.mul_le_mul_right _ hle) qA)
     refine hK _ _ _ _ (hk b' uU) ((hr.step h3 h4).put (st:={ st with bx:=_ }) (by cases dst <;> exact hd) ?_) (by cases dst <;> exact h4)
     rw [wY]
     have:=aP.own (β:=aB β b' (some (some g))) (w:=w') (F:=Fz (aB β b' (some (some g))) M (aB (aB st.bx b none) b' (some (.row e (aF P e) (es ++ news)))) w') b' (aF P e) 0 (n + news.length) g cap _ e (af _ _ _) (bN aU) (by simpa using qA) hle (by simpa using yX)
     simpa using this
   split at h
   ·
    obtain ⟨sa,y8,h⟩:=h
    cases rs
    obtain ⟨v',w',h1,h2,h3,h4,wR,vr⟩:=run _ _ _ (nx (World.ownsRow_nil w 0 e (aF P e))) (by omega) (by simpa using sa)
    refine ⟨v',w',h1,?_⟩
    obtain ⟨b,eK,cz⟩:=hr.ok.fresh
    refine finish b 0 [] [] (.slice none 0 0) v' w' (fun hb=>absurd cz hb) (fun _=>rfl) rfl (by simp) (fun i e he=>by simp at he) h2 h3 wR h4 (fun k _=>vr k) (fun b' aR=>?_)
    have aae:st.bx b' = none:=by
     by_cases e0:b' = b
     ·rw [e0]; exact cz
     ·rwa [ae _ _ e0] at aR
    have:=h b' aae
    have heq:(st.box b none) = st:=by
     unfold St.box
     have:aB st.bx b none = st.bx:=by
      funext q
      by_cases e0:q = b
      ·subst e0; rw [af,cz]
      ·rw [ae _ _ e0]
     rw [this]
    rw [heq]
    simpa using this
   ·
    rename_i b sz n
    split at h
    ·rename_i e' eU es hb
     obtain ⟨rfl,rfl,rfl,hn,sa,y8,h⟩:=h
     cases rs with
     | mi b sz bQ =>
       have wU:es = []:=by
        rcases hr.ok.live b _ hb with ⟨_,h1⟩ | ⟨k,h1,_⟩
        ·exact h1
        ·rw [bQ] at h1; cases h1
       subst wU
       obtain ⟨v',w',h1,h2,h3,h4,wR,vr⟩:=run _ _ _ (nx (World.ownsRow_nil w 0 e' (aF P e'))) (by omega) sa
       refine ⟨v',w',h1,?_⟩
       refine finish b 0 [] [] (.slice none 0 0) v' w' (fun _=>.inl ⟨bQ,rfl⟩) (fun _=>rfl) rfl (by simp) (fun i e he=>by simp at he) h2 h3 wR h4 (fun k _=>vr k) (fun b' aR=>?_)
       simpa using h b' aR
     | own b sz o n k cap m mj bQ fj hm si gZ =>
       rcases hr.ok.live b _ hb with ⟨h1,_⟩ | ⟨k',h1,my,_,cur,fr,aU,iA,jj,au⟩
       ·rw [bQ] at h1; cases h1
       ·rw [bQ] at h1
        injection h1 with h1
        injection h1 with h1
        subst h1
        have qA:cap * aF P e' <= cur.size:=by
         rw [bN aU] at fj
         injection fj with fj
         injection fj with _ fj
         rw [fj]
         simpa using hm
        have fC:lr w e' (aF P e') (.slice (some ⟨k,0 * aF P e',none⟩) n cap) n (cur.toList.take (n * aF P e')):=by
         refine ⟨?_,.inr ⟨k,cap,cur,fr,by simp,aU,iA,si,by omega,qA,rfl⟩⟩
         have:n * aF P e' <= cur.size:=Nat.le_trans (Nat.mul_le_mul_right _ si) qA
         simp
         omega
        obtain ⟨v',w',h1,h2,h3,h4,wR,vr⟩:=run _ _ _ fC y8 sa
        refine ⟨v',w',h1,?_⟩
        refine finish b n (es.take n) (cur.toList.take (n * aF P e')) _ v' w' (fun _=>.inr ⟨k,bQ,rfl,my⟩) (fun ff=>absurd hb (by rw [ff]; simp)) (by simp; omega) fC.1 ?_ h2 h3 wR h4 ?_ h
        ·intro i e0 he
         rw [List.getElem?_take] at he
         split at he
         ·rename_i hi
          obtain ⟨h5,h6⟩:=au i e0 he
          refine ⟨h5,fun j c0 hc=>?_⟩
          have hj:j < aF P e':=by have:=(List.getElem?_eq_some_iff.1 hc).1; omega
          have aR:i * aF P e' + j < n * aF P e':=by
           have:(i + 1) * aF P e' <= n * aF P e':=Nat.mul_le_mul_right _ hi
           rw [Nat.succ_mul] at this
           omega
          have e2:(cur.toList.take (n * aF P e')).toArray.getD (i * aF P e' + j) undef = cur.getD (i * aF P e' + j) undef:=by
           simp only [Array.getD_eq_getD_getElem?,List.getElem?_toArray,List.getElem?_take,aR,if_true,Array.getElem?_toList]
          rw [e2]
          exact h6 j c0 hc
         ·cases he
        ·exact fun k0 _ x hx=>vr k0 x hx
    ·exact h.elim
   ·exact h.elim
  ·exact h.elim
 ·exact h.elim
end
end Go.Pl
