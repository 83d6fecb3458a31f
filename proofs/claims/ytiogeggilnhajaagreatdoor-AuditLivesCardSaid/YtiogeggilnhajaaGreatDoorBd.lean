/- Texts of the proof, put together: PlU, PlV, PlW, PlAa, PlUn, PlUm, PlRw, PlIt. -/
import Derived.Test.YtiogeggilnhajaaGreatDoorBc
import Derived.Shelf.Abstract
import Derived.IntWalk
import Derived.Test.YtiogeggilnhajaaGreatDoorBb
set_option linter.unusedSimpArgs false
set_option linter.unusedVariables false
namespace Go.Pl
open Go
section
variable {P : Program}
def th (Q : Exit -> St -> Prop) (ks : List Nat) (s : St) : Prop:=Q .normal (s.ch ks)
def Fh (P : Program) (a b : PC) (Q : Exit -> St -> Prop) (g : V) (st : St) : Prop :=
 match g.strip with
 | .bool x=>g.ax = true /\ (x = true -> pw P a Q st) /\ (x = false -> pw P b Q st)
 | _=>False
def fN (P : Program) (rs : List ResultVar) (Kc : V -> aa -> Prop) (e : Exit) (st : St) : Prop:=(e = .normal \/ e = .ret) /\ zZ P rs Kc st
def RF (i j : Nat) (Q : Exit -> St -> Prop) (st : St) : Prop:=if j = i then Q .normal st else Q (.exit j) st
@[go_sem ↓] theorem Xa {Q : Exit -> St -> Prop} {st : St} : pw P .skip Q st = Q .normal st:=rfl
@[go_sem ↓] theorem ZT {Q : Exit -> St -> Prop} {st : St} : pw P .ret Q st = Q .ret st:=rfl
@[go_sem ↓] theorem Xb {i : Nat} {Q : Exit -> St -> Prop} {st : St} : pw P (.exit i) Q st = Q (.exit i) st:=rfl
@[go_sem ↓] theorem ZU {a b : PC} {Q : Exit -> St -> Prop} {st : St} : pw P (.seq a b) Q st = pw P a (jo (pw P b Q) Q) st:=rfl
@[go_sem ↓] theorem RG {i : Nat} {c : PC} {Q : Exit -> St -> Prop} {st : St} : pw P (.block i c) Q st = pw P c (oz i Q) st:=rfl
@[go_sem ↓] theorem ZV {d : Bool} {l : List bO} {ks : List Nat} {Q : Exit -> St -> Prop} {st : St} : pw P (.bn d l ks) Q st = wJ P d (th Q ks) l st:=rfl
@[go_sem ↓] theorem RH {d : Bool} {K : St -> Prop} {st : St} : wJ P d K [] st = K st:=rfl
@[go_sem ↓] theorem Pt {d : Bool} {K : St -> Prop} {o : bO} {l : List bO} {st : St} : wJ P d K (o :: l) st = du P d o (wJ P d K l) st:=rfl
@[go_sem ↓] theorem Xc {c : Operand} {a b : PC} {Q : Exit -> St -> Prop} {st : St} : pw P (.cond c a b) Q st = Fh P a b Q (st.get c) st:=rfl
def Xd (P : Program) (t : Nat) (c : PC) (Q : Exit -> St -> Prop) (st : St) (b sz i o : Nat) (r : Option bI) : Prop :=
 match r with
 | some (.row _ eT es)=>sz = eT /\ i < es.length /\ pw P c Q ⟨st.n,aA st.sl t (.ep (es.getD i .cX) o),aA st.bx b none⟩
 | _=>False
def fzV (P : Program) (t : Nat) (c : PC) (Q : Exit -> St -> Prop) (st : St) (v : V) : Prop :=
 match v with
 | .ptr b sz i o=>Xd P t c Q st b sz i o (st.bx b)
 | _=>False
@[go_sem ↓] theorem ad8 {t : Nat} {c : PC} {Q : Exit -> St -> Prop} {st : St} : pw P (.fz t c) Q st = fzV P t c Q st (st.sl t):=rfl
@[go_sem] theorem Xe {t : Nat} {c : PC} {Q : Exit -> St -> Prop} {st : St} {b sz i o : Nat} : fzV P t c Q st (.ptr b sz i o) = Xd P t c Q st b sz i o (st.bx b):=rfl
@[go_sem] theorem LZ {a b : PC} {Q : Exit -> St -> Prop} {x : Bool} {st : St} : Fh P a b Q (.bool x) st = ((x = true -> pw P a Q st) /\ (x = false -> pw P b Q st)):=by simp [Fh,V.strip,V.ax]
@[go_sem ↓] theorem I0 {n : St -> Prop} {Q : Exit -> St -> Prop} {st : St} : jo n Q .normal st = n st:=rfl
@[go_sem ↓] theorem Pu {n : St -> Prop} {Q : Exit -> St -> Prop} {st : St} : jo n Q .ret st = Q .ret st:=rfl
@[go_sem ↓] theorem Ma {i : Nat} {n : St -> Prop} {Q : Exit -> St -> Prop} {st : St} : jo n Q (.exit i) st = Q (.exit i) st:=rfl
@[go_sem ↓] theorem HG {i : Nat} {Q : Exit -> St -> Prop} {st : St} : oz i Q .normal st = Q .normal st:=rfl
@[go_sem ↓] theorem Mb {i : Nat} {Q : Exit -> St -> Prop} {st : St} : oz i Q .ret st = Q .ret st:=rfl
@[go_sem ↓] theorem K3 {i j : Nat} {Q : Exit -> St -> Prop} {st : St} : oz i Q (.exit j) st = RF i j Q st:=rfl
@[go_sem ↓ high] theorem RI {i : Nat} {Q : Exit -> St -> Prop} {st : St} : RF i i Q st = Q .normal st:=if_pos rfl
@[go_sem] theorem K4 {rs : List ResultVar} {Kc : V -> aa -> Prop} {st : St} : fN P rs Kc .normal st = zZ P rs Kc st:=by simp [fN]
@[go_sem] theorem RJ {rs : List ResultVar} {Kc : V -> aa -> Prop} {st : St} : fN P rs Kc .ret st = zZ P rs Kc st:=by simp [fN]
def AF (l : List (Nat × V)) : List Nat -> List (Nat × V)
 | []=>[]
 | k :: ks=>(k,bR l k) :: AF l ks
def ZW (Q : Exit -> St -> Prop) (n : Nat) (bx : aa) (l : List (Nat × V)) : Prop:=Q .normal ⟨n,bR l,bx⟩
theorem yS (l : List (Nat × V)) : ∀ ks,AF l ks = ks.map fun k=>(k,bR l k)
 | []=>rfl
 | k :: ks=>by simp [AF,yS l ks]
@[go_sem] theorem RK (l : List (Nat × V)) : AF l [] = []:=rfl
@[go_sem] theorem Pv (l : List (Nat × V)) (k : Nat) (ks : List Nat) : AF l (k :: ks) = (k,bR l k) :: AF l ks:=rfl
@[go_sem] theorem Xf {Q : Exit -> St -> Prop} {ks : List Nat} {n : Nat} {l : List (Nat × V)} {bx : aa} : th Q ks ⟨n,bR l,bx⟩ = ZW Q n bx (AF l ks):=by
 simp only [th,ZW,St.ch,yS]
@[go_sem] theorem Xg {Q : Exit -> St -> Prop} {n : Nat} {bx : aa} {l : List (Nat × V)} : ZW Q n bx l = Q .normal ⟨n,bR l,bx⟩:=rfl
@[go_sem] theorem Pw : V.cX.strip = .cX:=rfl
@[go_sem] theorem Px (k : IntKind) (n : Int) : (V.int k n).strip = .int k n:=rfl
@[go_sem] theorem ti (n : Bool) : (V.bool n).strip = .bool n:=rfl
@[go_sem] theorem Py (n : List UInt8) : (V.str n).strip = .str n:=rfl
@[go_sem] theorem Mc : V.aI.strip = .aI:=rfl
@[go_sem] theorem RM (n : Nat) (es : List V) : (V.sl n es).strip = .sl n es:=rfl
@[go_sem] theorem Pz (b n i o : Nat) : (V.own b n i o).strip = .own b n i o:=rfl
@[go_sem] theorem P0 (b n i o : Nat) : (V.ptr b n i o).strip = .ptr b n i o:=rfl
@[go_sem] theorem RO (e : V) (o : Nat) : (V.ep e o).strip = .ep e o:=rfl
@[go_sem] theorem Md : V.eJ.strip = .eJ:=rfl
@[go_sem] theorem yT (f : Fn) (l : List V) : (V.fn f l).strip = .fn f l:=rfl
@[go_sem] theorem Me : V.ic.strip = .ic:=rfl
@[go_sem] theorem K5 (t : TypeId) (v : V) : (V.iface t v).strip = .iface t v:=rfl
@[go_sem] theorem Mf : V.iM.strip = .iM:=rfl
@[go_sem] theorem RP (b : Nat) : (V.mp b).strip = .mp b:=rfl
@[go_sem] theorem Mg : V.gS.strip = .gS:=rfl
@[go_sem] theorem P1 (l : List V) : (V.agg l).strip = .agg l:=rfl
@[go_sem] theorem P2 (l : List V) : (V.dh l).strip = .dh l:=rfl
@[go_sem] theorem AG (v : V) : (V.dead v).strip = v.strip:=rfl
@[go_sem] theorem RQ : V.cX.ax = true:=rfl
@[go_sem] theorem RS (k : IntKind) (n : Int) : (V.int k n).ax = true:=rfl
@[go_sem] theorem vd (n : Bool) : (V.bool n).ax = true:=rfl
@[go_sem] theorem RT (n : List UInt8) : (V.str n).ax = true:=rfl
@[go_sem] theorem P3 : V.aI.ax = true:=rfl
@[go_sem] theorem Xh (n : Nat) (es : List V) : (V.sl n es).ax = true:=rfl
@[go_sem] theorem RU (b n i o : Nat) : (V.own b n i o).ax = true:=rfl
@[go_sem] theorem RV (b n i o : Nat) : (V.ptr b n i o).ax = true:=rfl
@[go_sem] theorem Xi (e : V) (o : Nat) : (V.ep e o).ax = true:=rfl
@[go_sem] theorem P4 : V.eJ.ax = true:=rfl
@[go_sem] theorem I1 (f : Fn) (l : List V) : (V.fn f l).ax = true:=rfl
@[go_sem] theorem P5 : V.ic.ax = true:=rfl
@[go_sem] theorem Mh (t : TypeId) (v : V) : (V.iface t v).ax = true:=rfl
@[go_sem] theorem P6 : V.iM.ax = true:=rfl
@[go_sem] theorem Xj (b : Nat) : (V.mp b).ax = true:=rfl
@[go_sem] theorem P7 : V.gS.ax = true:=rfl
@[go_sem] theorem RX (l : List V) : (V.agg l).ax = true:=rfl
@[go_sem] theorem RY (l : List V) : (V.dh l).ax = true:=rfl
@[go_sem] theorem DB (v : V) : (V.dead v).ax = false:=rfl
@[go_sem] theorem Xk (v : V) : eo true v = v:=rfl
@[go_sem] theorem Xl (v : V) : eo false v = .dead v.strip:=rfl
@[go_sem high] theorem Xm (k : Nat) (v : V) (l : List (Nat × V)) : bR ((k,v) :: l) k = v:=by simp [bR]
@[go_sem] theorem RZ {k t : Nat} (v : V) (l : List (Nat × V)) (h : (t == k) = false) : bR ((k,v) :: l) t = bR l t:=by
 have : t ≠ k:=by rintro rfl; simp at h
 simp [bR,this]
@[go_sem] theorem look_nil (t : Nat) : bR [] t = .cX:=rfl
theorem iU (l : List (Nat × V)) (t : Nat) (v : V) : aA (bR l) t v = bR ((t,v) :: l):=by
 funext x; rfl
@[go_sem] theorem Xn {t : Nat} {c : PC} {Q : Exit -> St -> Prop} {n : Nat} {l : List (Nat × V)} {bx : aa} {b sz i o : Nat} {ty : TypeId} {eT : Nat} {es : List V} :
 Xd P t c Q ⟨n,bR l,bx⟩ b sz i o (some (.row ty eT es)) = (sz = eT /\ i < es.length /\ pw P c Q ⟨n,bR ((t,.ep (es.getD i .cX) o) :: l),aA bx b none⟩):=by
 simp only [Xd,iU]
@[go_sem] theorem jF (n d : Nat) (l : List (Nat × V)) (bx : aa) (v : V) : St.put ⟨n,bR l,bx⟩ (some d) v = ⟨n,bR ((d,v) :: l),bx⟩:=by
 simp only [St.put,iU]
@[go_sem] theorem Sa (st : St) (v : V) : st.put none v = st:=rfl
@[go_sem] theorem P8 (n : Nat) (sl : Nat -> V) (bx : aa) (ks : List Nat) : St.ch ⟨n,sl,bx⟩ ks = ⟨n,bR (ks.map fun k=>(k,sl k)),bx⟩:=rfl
@[go_sem] theorem Xo (n t : Nat) (sl : Nat -> V) (bx : aa) : St.get ⟨n,sl,bx⟩ (.tmp t) = sl t:=rfl
@[go_sem] theorem ZX (n t : Nat) (sl : Nat -> V) (bx : aa) : gv P ⟨n,sl,bx⟩ (.tmp t) = sl t:=rfl
@[go_sem] theorem Sb (v : Value) (st : St) : gv P st (.const v) = ofValue v:=rfl
@[go_sem] theorem P9 (g : Nat) (st : St) : gv P st (.global g) = Ly P g:=rfl
@[go_sem] theorem Xp (f : FuncId) (st : St) : gv P st (.func f) = .fn (.func f) []:=rfl
@[go_sem] theorem PA (v : Value) (st : St) : st.get (.const v) = ofValue v:=rfl
@[go_sem] theorem Sc (f : FuncId) (st : St) : st.get (.func f) = .fn (.func f) []:=rfl
@[go_sem] theorem Mi (g : Nat) (st : St) : st.get (.global g) = .cX:=rfl
@[go_sem] theorem tj (n : Nat) (sl : Nat -> V) (bx : aa) (b : Nat) (x : Option bI) : St.box ⟨n,sl,bx⟩ b x = ⟨n,sl,aA bx b x⟩:=rfl
theorem iB (k : Nat) : jf k [] = bR []:=rfl
@[go_sem] theorem Fi (n : Nat) (bx : aa) : bW n [] bx = ⟨n,bR [],bx⟩:=rfl
@[go_sem] theorem Fj (n : Nat) (bx : aa) (a : V) : bW n [a] bx = ⟨n,bR [(0,a)],bx⟩:=by
 simp only [bW,jf,iB]; rw [show (fun _ : Nat=>V.cX) = bR [] from rfl]; simp only [iU]
@[go_sem] theorem kI (n : Nat) (bx : aa) (a b : V) : bW n [a,b] bx = ⟨n,bR [(0,a),(1,b)],bx⟩:=by
 simp only [bW,jf,iB]; rw [show (fun _ : Nat=>V.cX) = bR [] from rfl]; simp only [iU,Nat.zero_add]
@[go_sem] theorem yU (n : Nat) (bx : aa) (a b c : V) : bW n [a,b,c] bx = ⟨n,bR [(0,a),(1,b),(2,c)],bx⟩:=by
 simp only [bW,jf,iB]; rw [show (fun _ : Nat=>V.cX) = bR [] from rfl]; simp only [iU,Nat.zero_add,Nat.reduceAdd]
@[go_sem] theorem Fk (n : Nat) (bx : aa) (a b c d : V) : bW n [a,b,c,d] bx = ⟨n,bR [(0,a),(1,b),(2,c),(3,d)],bx⟩:=by
 simp only [bW,jf,iB]; rw [show (fun _ : Nat=>V.cX) = bR [] from rfl]; simp only [iU,Nat.zero_add,Nat.reduceAdd]
@[go_sem] theorem Fl (n : Nat) (bx : aa) (a b c d e : V) : bW n [a,b,c,d,e] bx = ⟨n,bR [(0,a),(1,b),(2,c),(3,d),(4,e)],bx⟩:=by
 simp only [bW,jf,iB]; rw [show (fun _ : Nat=>V.cX) = bR [] from rfl]; simp only [iU,Nat.zero_add,Nat.reduceAdd]
@[go_sem] theorem Sd (n : Nat) (bx : aa) (a b c d e f : V) : bW n [a,b,c,d,e,f] bx = ⟨n,bR [(0,a),(1,b),(2,c),(3,d),(4,e),(5,f)],bx⟩:=by
 simp only [bW,jf,iB]; rw [show (fun _ : Nat=>V.cX) = bR [] from rfl]; simp only [iU,Nat.zero_add,Nat.reduceAdd]
theorem al {n : Nat} {sl : Nat -> V} {bx : aa} {l : List (Nat × V)} (h : ∀ p,p ∈ l -> sl p.1 = p.2) : je ⟨n,sl,bx⟩ ⟨n,bR l,bx⟩:=by
 refine ⟨Nat.le_refl _,fun t=>?_,cj.refl _⟩
 induction l with
 | nil=>exact .inl rfl
 | cons p l ih =>
   obtain ⟨k,v⟩:=p
   simp only [bR]
   by_cases ht : t = k
   ·subst ht; rw [if_pos rfl]; exact .inr (.inl (h (t,v) (by simp)).symm)
   ·rw [if_neg ht]; exact ih (fun q hq=>h q (by simp [hq]))
def p6 (e : Ev) (o : Option Tmp) (K : St -> Prop) (st : St) : Prop:=e.1 /\ aJ st o /\ K (st.put o e.2)
def I2 (wb : Bool) (e : Ev) (o : Option Tmp) (K : St -> Prop) (st : St) : Prop:=(wb = true -> e.1) /\ aJ st o /\ K (st.put o (eo wb e.2))
def dL (g : V) (w : Bool) (e : Ev) (o : Option Tmp) (K : St -> Prop) (st : St) : Prop :=
 match g.strip with
 | .bool c=>I2 (g.ax && (c == w)) e o K st
 | _=>False
@[go_sem] theorem Se (c : Prop) (v : V) (d : Nat) (K : St -> Prop) (n : Nat) (l : List (Nat × V)) (bx : aa) : p6 (c,v) (some d) K ⟨n,bR l,bx⟩ = (c /\ d < n /\ K ⟨n,bR ((d,v) :: l),bx⟩):=by
 simp only [p6,aJ,jF]
@[go_sem] theorem Sf (wb : Bool) (c : Prop) (v : V) (d : Nat) (K : St -> Prop) (n : Nat) (l : List (Nat × V)) (bx : aa) : I2 wb (c,v) (some d) K ⟨n,bR l,bx⟩ = ((wb = true -> c) /\ d < n /\ K ⟨n,bR ((d,eo wb v) :: l),bx⟩):=by
 simp only [I2,aJ,jF]
@[go_sem] theorem Sg (c : Bool) (e : Ev) (o : Option Tmp) (K : St -> Prop) (st : St) : dL (.bool c) true e o K st = I2 c e o K st:=by
 simp [dL,V.strip,V.ax]
@[go_sem] theorem PB (c : Bool) (e : Ev) (o : Option Tmp) (K : St -> Prop) (st : St) : dL (.bool c) false e o K st = I2 (!c) e o K st:=by
 simp [dL,V.strip,V.ax]
@[go_sem] theorem PD (b c w : Bool) (e : Ev) (o : Option Tmp) (K : St -> Prop) (st : St) : dL (eo b (.bool c)) w e o K st = I2 (b && (c == w)) e o K st:=by
 simp only [dL,y5,y6,ti,vd,Bool.and_true]
@[go_sem ↓] theorem Sh (d z : Bool) (o : Option Tmp) (x : Operand) (K : St -> Prop) (st : St) : du P d ⟨o,.move x,none,z⟩ K st = p6 ((True,st.get x)) o K st:=by cases z <;> rfl
@[go_sem ↓] theorem Si (d z : Bool) (o : Option Tmp) (x : Operand) (s : Nat) (w : Bool) (K : St -> Prop) (st : St) : du P d ⟨o,.move x,some (s,w),z⟩ K st = dL (st.sl s) w ((True,st.get x)) o K st:=by cases z <;> rfl
@[go_sem ↓] theorem Mj (d z : Bool) (o : Option Tmp) (x : Operand) (K : St -> Prop) (st : St) : du P d ⟨o,.assign x,none,z⟩ K st = p6 ((True,st.get x)) o K st:=by cases z <;> rfl
@[go_sem ↓] theorem Ml (d z : Bool) (o : Option Tmp) (x : Operand) (s : Nat) (w : Bool) (K : St -> Prop) (st : St) : du P d ⟨o,.assign x,some (s,w),z⟩ K st = dL (st.sl s) w ((True,st.get x)) o K st:=by cases z <;> rfl
@[go_sem ↓] theorem Sj (d z : Bool) (o : Option Tmp) (c a b : Operand) (K : St -> Prop) (st : St) : du P d ⟨o,.pick c a b,none,z⟩ K st = p6 (s8 (st.get c) (st.get a) (st.get b)) o K st:=by cases z <;> rfl
@[go_sem ↓] theorem Sk (d z : Bool) (o : Option Tmp) (c a b : Operand) (s : Nat) (w : Bool) (K : St -> Prop) (st : St) : du P d ⟨o,.pick c a b,some (s,w),z⟩ K st = dL (st.sl s) w (s8 (st.get c) (st.get a) (st.get b)) o K st:=by cases z <;> rfl
@[go_sem ↓] theorem Sl (d z : Bool) (o : Option Tmp) (t : TypeId) (a : Operand) (K : St -> Prop) (st : St) : du P d ⟨o,.load t a,none,z⟩ K st = p6 (dH P st.bx t (gv P st a)) o K st:=by cases z <;> rfl
@[go_sem ↓] theorem Sm (d z : Bool) (o : Option Tmp) (t : TypeId) (a : Operand) (s : Nat) (w : Bool) (K : St -> Prop) (st : St) : du P d ⟨o,.load t a,some (s,w),z⟩ K st = dL (st.sl s) w (dH P st.bx t (gv P st a)) o K st:=by cases z <;> rfl
@[go_sem ↓] theorem HH (d z : Bool) (o : Option Tmp) (t : TypeId) (a : Operand) (f : Nat) (K : St -> Prop) (st : St) : du P d ⟨o,.fieldAddr t a f,none,z⟩ K st = p6 (gy P t f (st.get a)) o K st:=by cases z <;> rfl
@[go_sem ↓] theorem HI (d z : Bool) (o : Option Tmp) (t : TypeId) (a : Operand) (f : Nat) (s : Nat) (w : Bool) (K : St -> Prop) (st : St) : du P d ⟨o,.fieldAddr t a f,some (s,w),z⟩ K st = dL (st.sl s) w (gy P t f (st.get a)) o K st:=by cases z <;> rfl
@[go_sem ↓] theorem HJ (d z : Bool) (o : Option Tmp) (t : TypeId) (a i : Operand) (K : St -> Prop) (st : St) : du P d ⟨o,.indexAddr t a i,none,z⟩ K st = p6 (gA P t (gv P st a) (st.get i)) o K st:=by cases z <;> rfl
@[go_sem ↓] theorem HK (d z : Bool) (o : Option Tmp) (t : TypeId) (a i : Operand) (s : Nat) (w : Bool) (K : St -> Prop) (st : St) : du P d ⟨o,.indexAddr t a i,some (s,w),z⟩ K st = dL (st.sl s) w (gA P t (gv P st a) (st.get i)) o K st:=by cases z <;> rfl
@[go_sem ↓] theorem PE (d z : Bool) (o : Option Tmp) (t : TypeId) (a : Operand) (f : Nat) (K : St -> Prop) (st : St) : du P d ⟨o,.field t a f,none,z⟩ K st = p6 (nY P t f (st.get a)) o K st:=by cases z <;> rfl
@[go_sem ↓] theorem PF (d z : Bool) (o : Option Tmp) (t : TypeId) (a : Operand) (f : Nat) (s : Nat) (w : Bool) (K : St -> Prop) (st : St) : du P d ⟨o,.field t a f,some (s,w),z⟩ K st = dL (st.sl s) w (nY P t f (st.get a)) o K st:=by cases z <;> rfl
@[go_sem ↓] theorem PG (d z : Bool) (o : Option Tmp) (t : TypeId) (a i : Operand) (K : St -> Prop) (st : St) : du P d ⟨o,.index t a i,none,z⟩ K st = p6 (nZ P t (st.get a) (st.get i)) o K st:=by cases z <;> rfl
@[go_sem ↓] theorem PH (d z : Bool) (o : Option Tmp) (t : TypeId) (a i : Operand) (s : Nat) (w : Bool) (K : St -> Prop) (st : St) : du P d ⟨o,.index t a i,some (s,w),z⟩ K st = dL (st.sl s) w (nZ P t (st.get a) (st.get i)) o K st:=by cases z <;> rfl
@[go_sem ↓] theorem K6 (d z : Bool) (o : Option Tmp) (a : Operand) (i : Nat) (K : St -> Prop) (st : St) : du P d ⟨o,.extract a i,none,z⟩ K st = p6 (j5 i (st.get a)) o K st:=by cases z <;> rfl
@[go_sem ↓] theorem K7 (d z : Bool) (o : Option Tmp) (a : Operand) (i : Nat) (s : Nat) (w : Bool) (K : St -> Prop) (st : St) : du P d ⟨o,.extract a i,some (s,w),z⟩ K st = dL (st.sl s) w (j5 i (st.get a)) o K st:=by cases z <;> rfl
@[go_sem ↓] theorem PI (d : Bool) (o : Option Tmp) (b : BinOp) (t : TypeId) (x y : Operand) (t' : TypeId) (K : St -> Prop) (st : St) : du P d ⟨o,.binOp b t x y t',none,false⟩ K st = p6 (Ai P b t (st.get x) (st.get y)) o K st:=rfl
@[go_sem ↓] theorem Sn (o : Option Tmp) (b : BinOp) (t : TypeId) (x y : Operand) (t' : TypeId) (K : St -> Prop) (st : St) : du P false ⟨o,.binOp b t x y t',none,true⟩ K st = td (bu P t) b (st.get x) (st.get y) o K st:=by
 show (false = false /\ (none : Option (Tmp × Bool)) = none /\ _) = _
 simp only [true_and]
@[go_sem ↓] theorem PJ (d : Bool) (o : Option Tmp) (b : BinOp) (t : TypeId) (x y : Operand) (t' : TypeId) (s : Nat) (w : Bool) (K : St -> Prop) (st : St) : du P d ⟨o,.binOp b t x y t',some (s,w),false⟩ K st = dL (st.sl s) w (Ai P b t (st.get x) (st.get y)) o K st:=rfl
@[go_sem ↓] theorem So (d z : Bool) (o : Option Tmp) (u : UnOp) (t : TypeId) (x : Operand) (K : St -> Prop) (st : St) : du P d ⟨o,.unOp u t x,none,z⟩ K st = p6 (L0 u (st.get x)) o K st:=by cases z <;> rfl
@[go_sem ↓] theorem Sp (d z : Bool) (o : Option Tmp) (u : UnOp) (t : TypeId) (x : Operand) (s : Nat) (w : Bool) (K : St -> Prop) (st : St) : du P d ⟨o,.unOp u t x,some (s,w),z⟩ K st = dL (st.sl s) w (L0 u (st.get x)) o K st:=by cases z <;> rfl
def I3 (P : Program) (e : TypeId) (b sz n : Nat) (r : Option bI) (o : Option Tmp) (K : St -> Prop) (st : St) : Prop :=
 match r with
 | some (.row _ eT es)=>bu P e = .int .u8 /\ sz = 1 /\ eT = 1 /\ n = es.length /\ 0 < n /\ es.all yu = true /\ aJ st o /\ K ((st.box b none).put o (.sl 1 es))
 | _=>False
def DC (P : Program) (k : uJ) (x : V) (o : Option Tmp) (K : St -> Prop) (st : St) : Prop :=
 match k,x with
 | .slice e,.own b sz 0 n=>I3 P e b sz n (st.bx b) o K st
 | _,_=>False
def Sq (P : Program) (g : V) (w : Bool) (k : uJ) (x : V) (o : Option Tmp) (K : St -> Prop) (st : St) : Prop :=
 match g.strip with
 | .bool c=>((g.ax && (c == w)) = true -> DC P k x o K st) /\ ((g.ax && (c == w)) = false -> aJ st o /\ K (st.put o (.dead .cX)))
 | _=>False
theorem BP (d : Bool) (o : Option Tmp) (s : TypeId) (x : Operand) (K : St -> Prop) (st : St) : aH P d (bO.oper ⟨o,.convert s s x,none,false⟩) K st = DC P (bu P s) (st.get x) o K st:=by
 unfold aH
 have bp : ¬ bU (bO.oper ⟨o,.convert s s x,none,false⟩).op = true:=by simp [bO.oper,bU]
 rw [if_neg bp]
 unfold DC I3
 simp only [bO.oper]
 cases bu P s <;> cases st.get x <;> rfl
@[go_sem] theorem Sr (s t : TypeId) (x : V) (dst : Option Tmp) (K : St -> Prop) (st : St) : Is P .str s t x dst K st = HX P s t x dst K st:=rfl
@[go_sem ↓] theorem K8 (d : Bool) (o : Option Tmp) (s t : TypeId) (x : Operand) (K : St -> Prop) (st : St) : du P d ⟨o,.convert s t x,none,false⟩ K st = if s = t then DC P (bu P s) (st.get x) o K st else p6 (jT P s t (st.get x)) o K st:=by
 have e0 : du P d ⟨o,.convert s t x,none,false⟩ K st = aH P d (bO.oper ⟨o,.convert s t x,none,false⟩) K st:=rfl
 rw [e0]
 by_cases h : s = t
 ·subst h; rw [if_pos rfl,BP]
 ·rw [if_neg h]
  unfold aH
  have bp : bU (bO.oper ⟨o,.convert s t x,none,false⟩).op = true:=by simp [bO.oper,bU,h]
  rw [if_pos bp]; rfl
@[go_sem ↓] theorem K9 (d : Bool) (o : Option Tmp) (s t : TypeId) (x : Operand) (g : Nat) (w : Bool) (K : St -> Prop) (st : St) : du P d ⟨o,.convert s t x,some (g,w),false⟩ K st = if s = t then Sq P (st.sl g) w (bu P s) (st.get x) o K st else dL (st.sl g) w (jT P s t (st.get x)) o K st:=by
 have e0 : du P d ⟨o,.convert s t x,some (g,w),false⟩ K st = eZ P d ⟨o,.convert s t x,some (g,w),false⟩ K st:=rfl
 rw [e0]
 by_cases h : s = t
 ·subst h
  rw [if_pos rfl]
  unfold eZ Sq
  simp only [yieldOf]
  generalize (st.sl g).strip = v
  cases v <;> try rfl
  rename_i c
  have bp : bU (Op.convert s s x) = false:=by simp [bU]
  simp only [bp,Bool.false_eq_true,if_false]
  unfold dX p3
  simp only [bp,Bool.false_eq_true,if_false]
  have e1 : aH P d (bO.oper ⟨o,.convert s s x,some (g,w),false⟩) K st = DC P (bu P s) (st.get x) o K st:=BP d o s x K st
  rw [e1]
  exact propext ⟨fun h=>h.elim id (fun h=>h.2),fun h=>.inl h⟩
 ·rw [if_neg h]
  unfold eZ dL
  simp only [yieldOf]
  have bp : bU (Op.convert s t x) = true:=by simp [bU,h]
  generalize (st.sl g).strip = v
  cases v <;> try rfl
  simp only [bp,if_true]
  unfold dX
  simp only [bp,if_true]
  rfl
@[go_sem] theorem Ss {e b sz n : Nat} {o : Option Tmp} {K : St -> Prop} {st : St} : DC P (.slice e) (.own b sz 0 n) o K st = I3 P e b sz n (st.bx b) o K st:=rfl
@[go_sem] theorem Su {e b sz n eT : Nat} {ty : TypeId} {es : List V} {o : Option Tmp} {K : St -> Prop} {st : St} : I3 P e b sz n (some (.row ty eT es)) o K st = (bu P e = .int .u8 /\ sz = 1 /\ eT = 1 /\ n = es.length /\ 0 < n /\ es.all yu = true /\ aJ st o /\ K ((st.box b none).put o (.sl 1 es))):=rfl
@[go_sem] theorem Sv (n : Int) : yu (.int .u8 n) = true:=rfl
@[go_sem ↓] theorem PK (d : Bool) (o : Option Tmp) (t : TypeId) (x : Operand) (lo hi : Option Operand) (K : St -> Prop) (st : St) : du P d ⟨o,.slice t x lo hi none,none,false⟩ K st = p6 (kj P t (st.get x) (lo.map st.get) (hi.map st.get)) o K st:=rfl
@[go_sem ↓] theorem PM (d : Bool) (o : Option Tmp) (t : TypeId) (x : Operand) (lo hi : Option Operand) (s : Nat) (w : Bool) (K : St -> Prop) (st : St) : du P d ⟨o,.slice t x lo hi none,some (s,w),false⟩ K st = dL (st.sl s) w (kj P t (st.get x) (lo.map st.get) (hi.map st.get)) o K st:=rfl
@[go_sem ↓] theorem Mm (d z : Bool) (o : Option Tmp) (t : TypeId) (x : Operand) (lo : Option Operand) (hi mx : Operand) (K : St -> Prop) (st : St) : du P d ⟨o,.slice t x lo (some hi) (some mx),none,z⟩ K st = p6 (kR P t (st.get x) (lo.map st.get) (st.get hi) (st.get mx)) o K st:=by cases z <;> rfl
@[go_sem ↓] theorem Mn (d z : Bool) (o : Option Tmp) (t : TypeId) (x : Operand) (lo : Option Operand) (hi mx : Operand) (s : Nat) (w : Bool) (K : St -> Prop) (st : St) : du P d ⟨o,.slice t x lo (some hi) (some mx),some (s,w),z⟩ K st = dL (st.sl s) w (kR P t (st.get x) (lo.map st.get) (st.get hi) (st.get mx)) o K st:=by cases z <;> rfl
@[go_sem ↓] theorem Xq (d z : Bool) (o : Option Tmp) (x : Operand) (t : TypeId) (K : St -> Prop) (st : St) : du P d ⟨o,.call { callee:=.builtin .len,args:=#[x],argTypes:=#[t] },none,z⟩ K st = p6 (nx P st.bx t (st.get x)) o K st:=by cases z <;> rfl
@[go_sem ↓] theorem Xr (d z : Bool) (o : Option Tmp) (x : Operand) (t : TypeId) (s : Nat) (w : Bool) (K : St -> Prop) (st : St) : du P d ⟨o,.call { callee:=.builtin .len,args:=#[x],argTypes:=#[t] },some (s,w),z⟩ K st = dL (st.sl s) w (nx P st.bx t (st.get x)) o K st:=by cases z <;> rfl
@[go_sem ↓] theorem Xs (d z : Bool) (o : Option Tmp) (x y : Operand) (t t' : TypeId) (K : St -> Prop) (st : St) : du P d ⟨o,.call { callee:=.builtin .min,args:=#[x,y],argTypes:=#[t,t'] },none,z⟩ K st = p6 (Aj (st.get x) (st.get y)) o K st:=by cases z <;> rfl
@[go_sem ↓] theorem Xt (d z : Bool) (o : Option Tmp) (x y : Operand) (t t' : TypeId) (s : Nat) (w : Bool) (K : St -> Prop) (st : St) : du P d ⟨o,.call { callee:=.builtin .min,args:=#[x,y],argTypes:=#[t,t'] },some (s,w),z⟩ K st = dL (st.sl s) w (Aj (st.get x) (st.get y)) o K st:=by cases z <;> rfl
@[go_sem ↓] theorem Xu (d z : Bool) (o : Option Tmp) (x y : Operand) (t t' : TypeId) (K : St -> Prop) (st : St) : du P d ⟨o,.call { callee:=.builtin .max,args:=#[x,y],argTypes:=#[t,t'] },none,z⟩ K st = p6 (Ak (st.get x) (st.get y)) o K st:=by cases z <;> rfl
@[go_sem ↓] theorem Xv (d z : Bool) (o : Option Tmp) (x y : Operand) (t t' : TypeId) (s : Nat) (w : Bool) (K : St -> Prop) (st : St) : du P d ⟨o,.call { callee:=.builtin .max,args:=#[x,y],argTypes:=#[t,t'] },some (s,w),z⟩ K st = dL (st.sl s) w (Ak (st.get x) (st.get y)) o K st:=by cases z <;> rfl
@[go_sem ↓] theorem I4 (d z : Bool) (o : Option Tmp) (f : Fn) (caps : Array Operand) (K : St -> Prop) (st : St) : du P d ⟨o,.makeFunc f #[] caps,none,z⟩ K st = p6 (B5 f (caps.toList.map st.get)) o K st:=by cases z <;> rfl
@[go_sem ↓] theorem HL (d z : Bool) (o : Option Tmp) (f : Fn) (x : Operand) (caps : Array Operand) (K : St -> Prop) (st : St) : du P d ⟨o,.makeFunc f #[x] caps,none,z⟩ K st = p6 (vU f (st.get x) caps.size) o K st:=by cases z <;> rfl
@[go_sem ↓] theorem I5 (d z : Bool) (o : Option Tmp) (f : Fn) (caps : Array Operand) (s : Nat) (w : Bool) (K : St -> Prop) (st : St) : du P d ⟨o,.makeFunc f #[] caps,some (s,w),z⟩ K st = dL (st.sl s) w (B5 f (caps.toList.map st.get)) o K st:=by cases z <;> rfl
@[go_sem] theorem ad9 (n : Nat) (sl : Nat -> V) (bx : aa) : (St.mk n sl bx).sl = sl:=rfl
@[go_sem] theorem aea (n : Nat) (sl : Nat -> V) (bx : aa) : (St.mk n sl bx).bx = bx:=rfl
@[go_sem] theorem fst_mk (a : Prop) (b : V) : (Prod.mk a b).1 = a:=rfl
@[go_sem] theorem snd_mk (a : Prop) (b : V) : (Prod.mk a b).2 = b:=rfl
@[go_sem ↓] theorem PN (d z : Bool) (o : Option Tmp) (x : Operand) (t : TypeId) (K : St -> Prop) (st : St) : du P d ⟨o,.call { callee:=.builtin .clear,args:=#[x],argTypes:=#[t] },none,z⟩ K st = (d = false /\ o = none /\ sJ P st t (st.get x) K):=by cases z <;> rfl
@[go_sem ↓] theorem Mo (d z : Bool) (o : Option Tmp) (s x : Operand) (t t' : TypeId) (K : St -> Prop) (st : St) : du P d ⟨o,.call { callee:=.builtin .append,args:=#[s,x],argTypes:=#[t,t'] },none,z⟩ K st = ((t = t' \/ bu P t' = .str) /\ c8 P st o t (st.get s) (st.get x) K):=by cases z <;> rfl
def fT : List V -> List V
 | []=>[]
 | v :: vs=>v.strip :: fT vs
def iV : List V -> Prop
 | []=>True
 | v :: vs=>v.ax = true /\ iV vs
theorem ee : ∀ l,fT l = l.map V.strip
 | []=>rfl
 | v :: vs=>by simp [fT,ee vs]
theorem eW : ∀ l,iV l ↔ ∀ v,v ∈ l -> v.ax = true
 | []=>by simp [iV]
 | v :: vs=>by simp [iV,eW vs]
@[go_sem] theorem Mp : fT [] = []:=rfl
@[go_sem] theorem KA (v : V) (vs : List V) : fT (v :: vs) = v.strip :: fT vs:=rfl
@[go_sem] theorem PO : iV [] = True:=rfl
@[go_sem] theorem Mq (v : V) (vs : List V) : iV (v :: vs) = (v.ax = true /\ iV vs):=rfl
def n9 (st : St) : List Operand -> List V
 | []=>[]
 | x :: xs=>st.get x :: n9 st xs
theorem dy (st : St) : ∀ l,n9 st l = l.map st.get
 | []=>rfl
 | v :: vs=>by simp [n9,dy st vs]
@[go_sem] theorem Sw (st : St) : n9 st [] = []:=rfl
@[go_sem] theorem PQ (st : St) (v : Operand) (vs : List Operand) : n9 st (v :: vs) = st.get v :: n9 st vs:=rfl
def mq (P : Program) (d : Bool) (q : FuncId) (args : List V) (o : Option Tmp) (K : St -> Prop) (st : St) : Prop :=
 if d = true then ∃ r,ay P q args st.bx r /\ K (st.put o r)
 else aw P q args st.bx fun r bx'=>K ({ st with bx:=bx' }.put o r)
def Sx (P : Program) (b : Nat) (args : List V) (o : Option Tmp) (K : St -> Prop) (st : St) : Prop :=
 iT P b args st.bx fun r bx'=>K ({ st with bx:=bx' }.put o r)
def nL (P : Program) (d : Bool) (f : V) (args : List V) (o : Option Tmp) (K : St -> Prop) (st : St) : Prop :=
 match f.strip with
 | .fn (.func g) caps=>f.ax = true /\ iV args /\ aJ st o /\ mq P d g (fT args ++ caps) o K st
 | .fn (.yield g) [r]=>f.ax = true /\ iV args /\ aJ st o /\ mq P d g (r :: fT args) o K st
 | .yl b=>d = false /\ f.ax = true /\ iV args /\ aJ st o /\ Sx P b (fT args) o K st
 | _=>False
theorem jw {d : Bool} {st : St} {f : Operand} {args : Array Operand} {o : Option Tmp} {K : St -> Prop} {tys : Array TypeId} (hy : ∀ b,(st.get f).strip ≠ .yl b) :
 aH P d (bO.oper ⟨o,.call { callee:=.value f,args:=args,argTypes:=tys },none,false⟩) K st = nL P d (st.get f) (n9 st args.toList) o K st:=by
 unfold aH nL mq
 simp only [bU,Bool.false_eq_true,if_false,bO.oper,callee,eN,dy,eW,ee]
 split
 ·rename_i q vs hq
  split at hq
  ·rename_i g caps hf
   simp only [Option.some.injEq,Prod.mk.injEq] at hq
   obtain ⟨rfl,rfl⟩:=hq
   simp only [hf,List.map_map,Function.comp_def]
   apply propext
   constructor
   ·rintro ⟨⟨h1,h2⟩,h3,h4⟩
    refine ⟨h1,fun v hv=>?_,h3,h4⟩
    obtain ⟨x,hx,rfl⟩:=List.mem_map.1 hv
    exact h2 x hx
   ·rintro ⟨h1,h2,h3,h4⟩
    exact ⟨⟨h1,fun x hx=>h2 _ (List.mem_map.2 ⟨x,hx,rfl⟩)⟩,h3,h4⟩
  ·rename_i g r hf
   simp only [Option.some.injEq,Prod.mk.injEq] at hq
   obtain ⟨rfl,rfl⟩:=hq
   simp only [hf,List.map_map,Function.comp_def]
   apply propext
   constructor
   ·rintro ⟨⟨h1,h2⟩,h3,h4⟩
    refine ⟨h1,fun v hv=>?_,h3,h4⟩
    obtain ⟨x,hx,rfl⟩:=List.mem_map.1 hv
    exact h2 x hx
   ·rintro ⟨h1,h2,h3,h4⟩
    exact ⟨⟨h1,fun x hx=>h2 _ (List.mem_map.2 ⟨x,hx,rfl⟩)⟩,h3,h4⟩
  ·cases hq
 ·rename_i hq
  split at hq
  ·cases hq
  ·cases hq
  ·rename_i bp AH
   split
   ·rename_i g caps hf; exact absurd hf (bp _ _)
   ·rename_i g r hf; exact absurd hf (AH _ _)
   ·rename_i b hf; exact absurd hf (hy b)
   ·rfl
def wkO (P : Program) (q : bO) (K : St -> Prop) (st : St) : Prop:=∃ st',je st st' /\ du P false q K st'
@[go_sem ↓] theorem PR (o : Option Tmp) (f : Operand) (args : Array Operand) (tys : Array TypeId) (g : Option (Tmp × Bool)) (K : St -> Prop) (st : St) : du P false ⟨o,.call { callee:=.value f,args:=args,argTypes:=tys },g,true⟩ K st = wkO P ⟨o,.call { callee:=.value f,args:=args,argTypes:=tys },g,false⟩ K st:=rfl
@[go_sem ↓] theorem Sy (d : Bool) (o : Option Tmp) (f : Operand) (args : Array Operand) (tys : Array TypeId) (K : St -> Prop) (st : St) : du P d ⟨o,.call { callee:=.value f,args:=args,argTypes:=tys },none,false⟩ K st = nL P d (st.get f) (n9 st args.toList) o K st:=by
 have ez : du P d ⟨o,.call { callee:=.value f,args:=args,argTypes:=tys },none,false⟩ K st = eZ P d ⟨o,.call { callee:=.value f,args:=args,argTypes:=tys },none,false⟩ K st:=rfl
 rw [ez]
 by_cases hy : ∃ b,(st.get f).strip = .yl b
 ·obtain ⟨b,hb⟩:=hy
  unfold eZ nL
  cases d with
  | true =>
    simp only [yieldOf,if_true,hb]
    simp [aH,bU,bO.oper,callee,hb]
  | false =>
    simp only [yieldOf,Bool.false_eq_true,if_false,hb,qj,Sx,uZ,eN,dy,eW,ee,List.map_map,Function.comp_def,true_and]
    apply propext
    constructor
    ·rintro ⟨⟨h1,h2⟩,h3,h4⟩
     refine ⟨h1,fun v hv=>?_,h3,h4⟩
     obtain ⟨x,hx,rfl⟩:=List.mem_map.1 hv
     exact h2 x hx
    ·rintro ⟨h1,h2,h3,h4⟩
     exact ⟨⟨h1,fun x hx=>h2 _ (List.mem_map.2 ⟨x,hx,rfl⟩)⟩,h3,h4⟩
 ·have BE : ∀ b,(st.get f).strip ≠ .yl b:=fun b hb=>hy ⟨b,hb⟩
  rw [<- jw (tys:=tys) BE]
  unfold eZ
  have : yieldOf st d (bO.mk o (.call { callee:=.value f,args:=args,argTypes:=tys }) none false).op = none:=by
   simp only [yieldOf]
   split <;> rfl
  simp only [this]
@[go_sem] theorem yV (d : Bool) (g : FuncId) (caps args : List V) (o : Option Tmp) (K : St -> Prop) (st : St) : nL P d (.fn (.func g) caps) args o K st = (iV args /\ aJ st o /\ mq P d g (fT args ++ caps) o K st):=by
 simp [nL,V.strip,V.ax]
@[go_sem] theorem Sz (b : Nat) : (V.yl b).strip = .yl b:=rfl
@[go_sem] theorem Xw (b : Nat) : (V.yl b).ax = true:=rfl
def BQ (P : Program) (wb : Bool) (f : V) (args : List V) (o : Option Tmp) (K : St -> Prop) (st : St) : Prop :=
 (wb = true -> nL P false f args o K st) /\ (wb = false -> aJ st o /\ K (st.put o (.dead .cX)))
def tk (P : Program) (wb : Bool) (f : V) (args : List V) (o : Option Tmp) (K : St -> Prop) (st : St) : Prop :=
 match f.strip with
 | .fn (.func g) caps=>aJ st o /\ ∃ r,(wb = true -> f.ax = true /\ iV args /\ ay P g (fT args ++ caps) st.bx r) /\ K (st.put o (eo wb r))
 | .fn (.yield g) [r0]=>aJ st o /\ ∃ r,(wb = true -> f.ax = true /\ iV args /\ ay P g (r0 :: fT args) st.bx r) /\ K (st.put o (eo wb r))
 | _=>False
def p7 (P : Program) (d : Bool) (g : V) (w : Bool) (f : V) (args : List V) (o : Option Tmp) (K : St -> Prop) (st : St) : Prop :=
 match g.strip with
 | .bool c=>tk P (g.ax && (c == w)) f args o K st \/ (d = false /\ BQ P (g.ax && (c == w)) f args o K st)
 | _=>False
theorem Fm (d : Bool) (o : Option Tmp) (f : Operand) (args : Array Operand) (tys : Array TypeId) (s : Nat) (w : Bool) (K : St -> Prop) (st : St) (h : p7 P d (st.sl s) w (st.get f) (n9 st args.toList) o K st) : du P d ⟨o,.call { callee:=.value f,args:=args,argTypes:=tys },some (s,w),false⟩ K st:=by
 have ez : du P d ⟨o,.call { callee:=.value f,args:=args,argTypes:=tys },some (s,w),false⟩ K st = eZ P d ⟨o,.call { callee:=.value f,args:=args,argTypes:=tys },some (s,w),false⟩ K st:=rfl
 rw [ez]
 unfold p7 at h
 split at h
 ·rename_i c hs
  by_cases hy : ∃ b,(st.get f).strip = .yl b
  ·obtain ⟨b,hb⟩:=hy
   rcases h with h | ⟨rfl,h1,h2⟩
   ·simp [tk,hb] at h
   ·unfold eZ
    simp only [yieldOf,Bool.false_eq_true,if_false,hb,hs]
    refine ⟨fun hw=>?_,h2⟩
    have h3:=h1 hw
    simp only [nL,hb,true_and] at h3
    obtain ⟨h4,h5,h6,h7⟩:=h3
    rw [dy,eW] at h5
    refine ⟨⟨h4,fun x hx=>h5 _ (List.mem_map.2 ⟨x,hx,rfl⟩)⟩,h6,?_⟩
    rw [dy,ee,List.map_map] at h7
    exact h7
  ·have BE : ∀ b,(st.get f).strip ≠ .yl b:=fun b hb=>hy ⟨b,hb⟩
   unfold eZ
   have : yieldOf st d (bO.mk o (.call { callee:=.value f,args:=args,argTypes:=tys }) (some (s,w)) false).op = none:=by
    simp only [yieldOf]
    split <;> rfl
   simp only [this,hs,bU,Bool.false_eq_true,if_false]
   rcases h with h | ⟨rfl,h1,h2⟩
   ·refine .inl ?_
    unfold tk at h
    split at h
    ·rename_i g caps hf
     obtain ⟨h3,r,h4,h5⟩:=h
     unfold dX
     simp only [bU,Bool.false_eq_true,if_false,callee,hf]
     refine ⟨h3,r,fun hw=>?_,h5⟩
     obtain ⟨h6,h7,h8⟩:=h4 hw
     rw [dy,eW] at h7
     rw [dy,ee,List.map_map] at h8
     exact ⟨⟨h6,fun x hx=>h7 _ (List.mem_map.2 ⟨x,hx,rfl⟩)⟩,h8⟩
    ·rename_i g r0 hf
     obtain ⟨h3,r,h4,h5⟩:=h
     unfold dX
     simp only [bU,Bool.false_eq_true,if_false,callee,hf]
     refine ⟨h3,r,fun hw=>?_,h5⟩
     obtain ⟨h6,h7,h8⟩:=h4 hw
     rw [dy,eW] at h7
     rw [dy,ee,List.map_map] at h8
     exact ⟨⟨h6,fun x hx=>h7 _ (List.mem_map.2 ⟨x,hx,rfl⟩)⟩,h8⟩
    ·exact h.elim
   ·refine .inr ⟨rfl,fun hw=>?_,h2⟩
    have h3:=h1 hw
    rw [<- jw (tys:=tys) BE] at h3
    exact h3
 ·exact h.elim
theorem ag {d : Bool} {q : FuncId} {args : List V} {o : Option Tmp} {K : St -> Prop} {st : St} {r : V} (h : ay P q args st.bx r) (hk : K (st.put o r)) : mq P d q args o K st:=by
 unfold mq
 split
 ·exact ⟨r,h,hk⟩
 ·refine ⟨h.1,fun β M w vs cY l9 bV fB=>(h.2 β M w vs cY l9 bV fB).mono ?_⟩
  rintro e w' ⟨v,r',bx',β',h1,⟨rfl,rfl⟩,h3⟩
  exact ⟨v,_,_,β',h1,hk,h3⟩
theorem an {q : FuncId} {args : List V} {o : Option Tmp} {K : St -> Prop} {st : St} {Kc : V -> aa -> Prop} (h : aw P q args st.bx Kc) (hk : ∀ r bx',Kc r bx' -> K ({ st with bx:=bx' }.put o r)) : mq P false q args o K st:=by
 unfold mq
 rw [if_neg (by simp)]
 refine ⟨h.1,fun β M w vs cY l9 bV fB=>(h.2 β M w vs cY l9 bV fB).mono ?_⟩
 rintro e w' ⟨v,r',bx',β',h1,h2,h3⟩
 exact ⟨v,_,_,β',h1,hk _ _ h2,h3⟩
theorem u6 (d : Bool) (o : Option Tmp) (f : Operand) (args : Array Operand) (tys : Array TypeId) (s : Nat) (w : Bool) (K : St -> Prop) (st : St) (h : du P d ⟨o,.call { callee:=.value f,args:=args,argTypes:=tys },some (s,w),false⟩ K st) : p7 P d (st.sl s) w (st.get f) (n9 st args.toList) o K st:=by
 have ez : du P d ⟨o,.call { callee:=.value f,args:=args,argTypes:=tys },some (s,w),false⟩ K st = eZ P d ⟨o,.call { callee:=.value f,args:=args,argTypes:=tys },some (s,w),false⟩ K st:=rfl
 rw [ez] at h
 unfold p7
 by_cases hy : ∃ b,(st.get f).strip = .yl b
 ·obtain ⟨b,hb⟩:=hy
  unfold eZ at h
  cases d with
  | true =>
    simp only [yieldOf,if_true] at h
    split at h
    ·rename_i c hs
     simp only [bU,Bool.false_eq_true,if_false] at h
     rcases h with h | h
     ·unfold dX at h
      simp [bU,callee,hb] at h
     ·exact absurd h.1 (by simp)
    ·exact h.elim
  | false =>
    simp only [yieldOf,Bool.false_eq_true,if_false,hb] at h
    split at h
    ·rename_i c hs
     simp only [hs]
     refine .inr ⟨trivial,fun hw=>?_,h.2⟩
     obtain ⟨⟨h4,h5⟩,h6,h7⟩:=h.1 hw
     simp only [nL,hb]
     refine ⟨trivial,h4,?_,h6,?_⟩
     ·rw [dy,eW]
      intro v hv
      obtain ⟨x,hx,rfl⟩:=List.mem_map.1 hv
      exact h5 x hx
     ·rw [dy,ee,List.map_map]
      exact h7
    ·exact h.elim
 ·have BE : ∀ b,(st.get f).strip ≠ .yl b:=fun b hb=>hy ⟨b,hb⟩
  unfold eZ at h
  have : yieldOf st d (bO.mk o (.call { callee:=.value f,args:=args,argTypes:=tys }) (some (s,w)) false).op = none:=by
   simp only [yieldOf]
   split <;> rfl
  simp only [this] at h
  split at h
  ·rename_i c hs
   simp only [hs]
   simp only [bU,Bool.false_eq_true,if_false] at h
   rcases h with h | ⟨rfl,h1,h2⟩
   ·refine .inl ?_
    unfold dX at h
    simp only [bU,Bool.false_eq_true,if_false,callee] at h
    unfold tk
    cases hf : (st.get f).strip with
    | fn fk caps =>
      cases fk with
      | func g =>
        simp only [hf] at h
        obtain ⟨h3,r,h4,h5⟩:=h
        refine ⟨h3,r,fun hw=>?_,h5⟩
        obtain ⟨⟨h6,h7⟩,h8⟩:=h4 hw
        refine ⟨h6,?_,?_⟩
        ·rw [dy,eW]
         intro v hv
         obtain ⟨x,hx,rfl⟩:=List.mem_map.1 hv
         exact h7 x hx
        ·rw [dy,ee,List.map_map]
         exact h8
      | yield g =>
        rcases caps with _ | ⟨r0,_ | ⟨r1,cs⟩⟩
        ·simp [hf] at h
        ·simp only [hf] at h
         obtain ⟨h3,r,h4,h5⟩:=h
         refine ⟨h3,r,fun hw=>?_,h5⟩
         obtain ⟨⟨h6,h7⟩,h8⟩:=h4 hw
         refine ⟨h6,?_,?_⟩
         ·rw [dy,eW]
          intro v hv
          obtain ⟨x,hx,rfl⟩:=List.mem_map.1 hv
          exact h7 x hx
         ·rw [dy,ee,List.map_map]
          exact h8
        ·simp [hf] at h
      | _=>simp [hf] at h
    | _=>simp [hf] at h
   ·refine .inr ⟨rfl,fun hw=>?_,h2⟩
    rw [<- jw (tys:=tys) BE]
    exact h1 hw
  ·exact h.elim
@[go_sem ↓] theorem KB (d : Bool) (o : Option Tmp) (f : Operand) (args : Array Operand) (tys : Array TypeId) (s : Nat) (w : Bool) (K : St -> Prop) (st : St) : du P d ⟨o,.call { callee:=.value f,args:=args,argTypes:=tys },some (s,w),false⟩ K st = p7 P d (st.sl s) w (st.get f) (n9 st args.toList) o K st :=
 propext ⟨u6 d o f args tys s w K st,Fm d o f args tys s w K st⟩
def mu (P : Program) (d wb : Bool) (f : V) (args : List V) (o : Option Tmp) (K : St -> Prop) (st : St) : Prop :=
 tk P wb f args o K st \/ (d = false /\ BQ P wb f args o K st)
@[go_sem] theorem Mr (d c : Bool) (f : V) (args : List V) (o : Option Tmp) (K : St -> Prop) (st : St) : p7 P d (.bool c) true f args o K st = mu P d c f args o K st:=by
 simp [p7,mu,V.strip,V.ax]
@[go_sem] theorem KC (d c : Bool) (f : V) (args : List V) (o : Option Tmp) (K : St -> Prop) (st : St) : p7 P d (.bool c) false f args o K st = mu P d (!c) f args o K st:=by
 simp [p7,mu,V.strip,V.ax]
def gK (P : Program) (d wb : Bool) (q : FuncId) (vs : List V) (lv : Prop) (o : Option Tmp) (K : St -> Prop) (st : St) : Prop :=
 (aJ st o /\ ∃ r,(wb = true -> lv /\ ay P q vs st.bx r) /\ K (st.put o (eo wb r))) \/
 (d = false /\ (wb = true -> lv /\ aJ st o /\ mq P false q vs o K st) /\ (wb = false -> aJ st o /\ K (st.put o (.dead .cX))))
@[go_sem] theorem PS (d wb : Bool) (q : FuncId) (caps args : List V) (o : Option Tmp) (K : St -> Prop) (st : St) : mu P d wb (.fn (.func q) caps) args o K st = gK P d wb q (fT args ++ caps) (iV args) o K st:=by
 simp only [mu,tk,BQ,yV,gK,yT,I1,true_and]
theorem dn {d wb : Bool} {q : FuncId} {vs : List V} {lv : Prop} {o : Option Tmp} {K : St -> Prop} {st : St} {r : V} (hc : ay P q vs st.bx r) (hl : wb = true -> lv) (hd : aJ st o) (hk : K (st.put o (eo wb r))) : gK P d wb q vs lv o K st :=
 .inl ⟨hd,r,fun hw=>⟨hl hw,hc⟩,hk⟩
def AI (P : Program) (c : Prop) (bo : bI) (v : Nat -> V) (o : Option Tmp) (K : St -> Prop) (st : St) : Prop:=c /\ aJ st o /\ bj st.bx /\ ∀ b,st.bx b = none -> K ((st.box b (some bo)).put o (v b))
@[go_sem] theorem PT (c : Prop) (bo : bI) (v : Nat -> V) (t : Nat) (K : St -> Prop) (n : Nat) (l : List (Nat × V)) (bx : aa) : AI P c bo v (some t) K ⟨n,bR l,bx⟩ = (c /\ t < n /\ bj bx /\ ∀ b,bx b = none -> K ⟨n,bR ((t,v b) :: l),aA bx b (some bo)⟩):=by
 simp only [AI,aJ,tj,jF]
def jG (st : St) : List (Nat × Operand) -> List (Nat × V)
 | []=>[]
 | (i,x) :: ps=>(i,st.get x) :: jG st ps
@[go_sem] theorem PU (es : List V) : jC es [] = es:=rfl
@[go_sem] theorem Ms (es : List V) (i : Nat) (x : V) (ps : List (Nat × V)) : jC es ((i,x) :: ps) = jC (es.set i x) ps:=rfl
@[go_sem] theorem S0 (st : St) : jG st [] = []:=rfl
@[go_sem] theorem PV (st : St) (i : Nat) (x : Operand) (ps : List (Nat × Operand)) : jG st ((i,x) :: ps) = (i,st.get x) :: jG st ps:=rfl
theorem my (st : St) : ∀ (ps : List (Nat × Operand)) (es : List V),dM st es ps = jC es (jG st ps)
 | [],es=>rfl
 | (i,x) :: ps,es=>by simp only [dM,jG,jC]; exact my st ps _
theorem p8 (st : St) : ∀ l : List (Nat × Operand),jG st l = l.map fun p=>(p.1,st.get p.2)
 | []=>rfl
 | (i,x) :: l=>by simp only [jG,List.map_cons,p8 st l]
@[go_sem ↓] theorem Xx (d z : Bool) (o : Option Tmp) (t : TypeId) (parts : Array (Nat × Operand)) (K : St -> Prop) (st : St) : du P d ⟨o,.build t parts,none,z⟩ K st = p6 (km P t (aT P t) (jG st parts.toList)) o K st:=by rw [p8]; cases z <;> rfl
@[go_sem ↓] theorem Xy (d z : Bool) (o : Option Tmp) (t : TypeId) (parts : Array (Nat × Operand)) (s : Nat) (w : Bool) (K : St -> Prop) (st : St) : du P d ⟨o,.build t parts,some (s,w),z⟩ K st = dL (st.sl s) w (km P t (aT P t) (jG st parts.toList)) o K st:=by rw [p8]; cases z <;> rfl
def S1 (P : Program) (t : TypeId) (cs : List V) (x : V) (ps : List (Nat × V)) (p : Option (Nat × Nat)) : Prop × List V:=(Al x cs.length (fx P t (sB cs x p) ps).1 p,(fx P t (sB cs x p) ps).2)
@[go_sem] theorem KD (t : TypeId) (z : Value) (ps : List (Nat × V)) : km P t (some z) ps = (dC P t = true /\ okV (ofValue z) = true /\ (fx P t (ofValue z).cells ps).1,.agg (fx P t (ofValue z).cells ps).2):=rfl
@[go_sem] theorem Mt (t : TypeId) (cs : List V) : fx P t cs [] = (True,cs):=rfl
@[go_sem] theorem KE (t : TypeId) (cs : List V) (i : Nat) (x : V) (ps : List (Nat × V)) : fx P t cs ((i,x) :: ps) = S1 P t cs x ps (aS P t i):=rfl
@[go_sem] theorem PW (t : TypeId) (cs : List V) (x : V) (ps : List (Nat × V)) (off sz : Nat) : S1 P t cs x ps (some (off,sz)) = (okV x = true /\ x.cells.length = sz /\ off + sz <= cs.length /\ (fx P t (lO cs off x.cells) ps).1,(fx P t (lO cs off x.cells) ps).2):=rfl
attribute [go_sem] lO
def nA (P : Program) (e : TypeId) (n : Nat) : List (Nat × V) -> Prop
 | []=>True
 | (i,x) :: ps=>i < n /\ storable P e x /\ nA P e n ps
@[go_sem] theorem S2 (e : TypeId) (n : Nat) : nA P e n [] = True:=rfl
@[go_sem] theorem PX (e : TypeId) (n i : Nat) (x : V) (ps : List (Nat × V)) : nA P e n ((i,x) :: ps) = (i < n /\ storable P e x /\ nA P e n ps):=rfl
theorem tl (st : St) (e : TypeId) (n : Nat) : ∀ ps : List (Nat × Operand),nA P e n (jG st ps) ↔ ∀ p,p ∈ ps -> p.1 < n /\ storable P e (st.get p.2)
 | []=>by simp [jG,nA]
 | (i,x) :: ps=>by simp [jG,nA,tl st e n ps,and_assoc]
def I6 (P : Program) (e : TypeId) (z : Option Value) (len : Nat) (ps : List (Nat × V)) (o : Option Tmp) (K : St -> Prop) (st : St) : Prop :=
 match z with
 | some z=>AI P (storable P e (ofValue z) /\ 0 < aE P e /\ len * aE P e <= 16777216 /\ nA P e len ps) (.row e (aE P e) (jC (List.replicate len (ofValue z)) ps)) (fun b=>.own b (aE P e) 0 len) o K st
 | none=>False
def AJ (P : Program) (k : uJ) (len : Nat) (ps : List (Nat × V)) (o : Option Tmp) (K : St -> Prop) (st : St) : Prop :=
 match k with
 | .slice e=>I6 P e (aT P e) len ps o K st
 | _=>False
@[go_sem ↓] theorem PY (d : Bool) (o : Option Tmp) (t : TypeId) (len : Nat) (parts : Array (Nat × Operand)) (K : St -> Prop) (st : St) : du P d ⟨o,.buildSlice t len parts,none,false⟩ K st = AJ P (bu P t) len (jG st parts.toList) o K st:=by
 have ez : du P d ⟨o,.buildSlice t len parts,none,false⟩ K st = aH P d (bO.oper ⟨o,.buildSlice t len parts,none,false⟩) K st:=rfl
 rw [ez]
 unfold aH AJ I6 AI
 simp only [bU,Bool.false_eq_true,if_false,bO.oper,tl,my]
 split
 ·rename_i e hk
  simp only [hk]
  split
  ·rename_i z hz
   simp only [hz,and_assoc]
  ·rename_i hz
   simp only [hz]
 ·rename_i bp
  split
  ·rename_i e hk; exact absurd hk (bp e)
  ·rfl
@[go_sem] theorem Mu {e : TypeId} {len : Nat} {ps : List (Nat × V)} {o : Option Tmp} {K : St -> Prop} {st : St} : AJ P (.slice e) len ps o K st = I6 P e (aT P e) len ps o K st:=rfl
@[go_sem] theorem PZ {e : TypeId} {z : Value} {len : Nat} {ps : List (Nat × V)} {o : Option Tmp} {K : St -> Prop} {st : St} : I6 P e (some z) len ps o K st = AI P (storable P e (ofValue z) /\ 0 < aE P e /\ len * aE P e <= 16777216 /\ nA P e len ps) (.row e (aE P e) (jC (List.replicate len (ofValue z)) ps)) (fun b=>.own b (aE P e) 0 len) o K st:=rfl
def BR (P : Program) (e : TypeId) (z : Option Value) (len : Nat) (ps : List (Nat × V)) (o : Option Tmp) (K : St -> Prop) (st : St) : Prop :=
 match z with
 | some z=>(storable P e (ofValue z) /\ 0 < aE P e /\ len * aE P e <= 16777216 /\ nA P e len ps) /\ aJ st o /\ bj st.bx /\ K (st.put o (.sl (aE P e) (jC (List.replicate len (ofValue z)) ps)))
 | none=>False
def yW (P : Program) (k : uJ) (len : Nat) (ps : List (Nat × V)) (o : Option Tmp) (K : St -> Prop) (st : St) : Prop :=
 match k with
 | .slice e=>BR P e (aT P e) len ps o K st
 | _=>False
theorem yX {t : TypeId} {len : Nat} {parts : List (Nat × Operand)} {o : Option Tmp} {K : St -> Prop} {st : St} : ml P t len parts o K st = yW P (bu P t) len (jG st parts) o K st:=by
 unfold ml yW BR
 simp only [tl,my]
 cases bu P t <;> rfl
def KF (P : Program) (g : V) (w : Bool) (k : uJ) (len : Nat) (ps : List (Nat × V)) (o : Option Tmp) (K : St -> Prop) (st : St) : Prop :=
 match g.strip with
 | .bool c=>((g.ax && (c == w)) = true -> yW P k len ps o K st) /\ ((g.ax && (c == w)) = false -> aJ st o /\ K (st.put o (.dead .cX)))
 | _=>False
@[go_sem ↓] theorem Mv (o : Option Tmp) (t : TypeId) (len : Nat) (parts : Array (Nat × Operand)) (K : St -> Prop) (st : St) : du P false ⟨o,.buildSlice t len parts,none,true⟩ K st = yW P (bu P t) len (jG st parts.toList) o K st:=by
 rw [<- yX]
 show (false = false /\ _) = _
 simp only [true_and]; rfl
@[go_sem ↓] theorem Mw (o : Option Tmp) (t : TypeId) (len : Nat) (parts : Array (Nat × Operand)) (s : Nat) (w : Bool) (K : St -> Prop) (st : St) : du P false ⟨o,.buildSlice t len parts,some (s,w),true⟩ K st = KF P (st.sl s) w (bu P t) len (jG st parts.toList) o K st:=by
 unfold KF
 simp only [<- yX]
 show (false = false /\ _) = _
 simp only [true_and]; rfl
@[go_sem] theorem KG {e : TypeId} {len : Nat} {ps : List (Nat × V)} {o : Option Tmp} {K : St -> Prop} {st : St} : yW P (.slice e) len ps o K st = BR P e (aT P e) len ps o K st:=rfl
@[go_sem] theorem Mx {e : TypeId} {z : Value} {len : Nat} {ps : List (Nat × V)} {o : Option Tmp} {K : St -> Prop} {st : St} : BR P e (some z) len ps o K st = ((storable P e (ofValue z) /\ 0 < aE P e /\ len * aE P e <= 16777216 /\ nA P e len ps) /\ aJ st o /\ bj st.bx /\ K (st.put o (.sl (aE P e) (jC (List.replicate len (ofValue z)) ps)))):=rfl
def My (P : Program) (e : TypeId) (v : V) (o : Option Tmp) (K : St -> Prop) (st : St) : Prop:=storable P e v /\ aJ st o /\ bj st.bx /\ K (st.put o (.ep v 0))
def Fo (P : Program) (e : TypeId) (v : V) (o : Option Tmp) (K : St -> Prop) (st : St) : Prop:=AI P (storable P e v) (.row e (aE P e) [v]) (fun b=>.ptr b (aE P e) 0 0) o K st
@[go_sem ↓] theorem S3 (o : Option Tmp) (e : TypeId) (x : Operand) (K : St -> Prop) (st : St) : du P false ⟨o,.box e x,none,true⟩ K st = My P e (st.get x) o K st:=by
 show (false = false /\ (none : Option (Tmp × Bool)) = none /\ R0 P e x o K st) = _
 simp only [true_and]; rfl
@[go_sem ↓] theorem S4 (d : Bool) (o : Option Tmp) (e : TypeId) (x : Operand) (K : St -> Prop) (st : St) : du P d ⟨o,.box e x,none,false⟩ K st = Fo P e (st.get x) o K st:=by
 have ez : du P d ⟨o,.box e x,none,false⟩ K st = aH P d (bO.oper ⟨o,.box e x,none,false⟩) K st:=rfl
 rw [ez]
 rfl
@[go_sem] theorem Qa (e : TypeId) (v : V) (t : Nat) (K : St -> Prop) (n : Nat) (l : List (Nat × V)) (bx : aa) : My P e v (some t) K ⟨n,bR l,bx⟩ = (storable P e v /\ t < n /\ bj bx /\ K ⟨n,bR ((t,.ep v 0) :: l),bx⟩):=by
 simp only [My,aJ,jF]
@[go_sem] theorem Qb (e : TypeId) (v : V) (t : Nat) (K : St -> Prop) (n : Nat) (l : List (Nat × V)) (bx : aa) : Fo P e v (some t) K ⟨n,bR l,bx⟩ = (storable P e v /\ t < n /\ bj bx /\ ∀ b,bx b = none -> K ⟨n,bR ((t,.ptr b (aE P e) 0 0) :: l),aA bx b (some (.row e (aE P e) [v]))⟩):=by
 simp only [Fo,AI,aJ,tj,jF]
def S5 (P : Program) (e : TypeId) (z : Option Value) (o : Option Tmp) (K : St -> Prop) (st : St) : Prop :=
 match z with
 | some z=>Fo P e (ofValue z) o K st
 | none=>False
@[go_sem ↓] theorem Qc (d z : Bool) (o : Option Tmp) (e : TypeId) (K : St -> Prop) (st : St) : du P d ⟨o,.alloc e,none,z⟩ K st = S5 P e (aT P e) o K st:=by
 have ez : du P d ⟨o,.alloc e,none,z⟩ K st = aH P d (bO.oper ⟨o,.alloc e,none,false⟩) K st:=by cases z <;> rfl
 rw [ez]
 rfl
@[go_sem] theorem Qd (e : TypeId) (z : Value) (o : Option Tmp) (K : St -> Prop) (st : St) : S5 P e (some z) o K st = Fo P e (ofValue z) o K st:=rfl
def Mz (P : Program) (t : TypeId) (a x : V) (o : Option Tmp) (K : St -> Prop) (st : St) : Prop :=
 match a with
 | .ptr b sz i o'=>match st.bx b with
   | some (.row ty eT es)=>sz = eT /\ i < es.length /\ storable P t x /\ 0 < x.cells.length /\ o' + x.cells.length <= (es.getD i .cX).cells.length /\ o = none /\
    K (st.box b (some (.row ty sz (es.set i (ba (es.getD i .cX) o' x.cells)))))
   | _=>False
 | _=>False
@[go_sem ↓] theorem Qe (d z : Bool) (o : Option Tmp) (t : TypeId) (a x : Operand) (K : St -> Prop) (st : St) : du P d ⟨o,.store t a x,none,z⟩ K st = Mz P t (st.get a) (st.get x) o K st:=by
 have ez : du P d ⟨o,.store t a x,none,z⟩ K st = aH P d (bO.oper ⟨o,.store t a x,none,false⟩) K st:=by cases z <;> rfl
 rw [ez]
 rfl
def M0 (P : Program) (t : TypeId) (b sz i o' : Nat) (r : Option bI) (x : V) (K : St -> Prop) (st : St) : Prop :=
 match r with
 | some (.row ty eT es)=>sz = eT /\ i < es.length /\ storable P t x /\ 0 < x.cells.length /\ o' + x.cells.length <= (es.getD i .cX).cells.length /\ K (st.box b (some (.row ty sz (es.set i (ba (es.getD i .cX) o' x.cells)))))
 | _=>False
@[go_sem] theorem S6 (t : TypeId) (b sz i o' : Nat) (x : V) (K : St -> Prop) (st : St) : Mz P t (.ptr b sz i o') x none K st = M0 P t b sz i o' (st.bx b) x K st:=by
 unfold Mz M0
 simp only [true_and]
@[go_sem] theorem S7 (t : TypeId) (b sz i o' : Nat) (ty : TypeId) (eT : Nat) (es : List V) (x : V) (K : St -> Prop) (n : Nat) (l : List (Nat × V)) (bx : aa) : M0 P t b sz i o' (some (.row ty eT es)) x K ⟨n,bR l,bx⟩ = (sz = eT /\ i < es.length /\ storable P t x /\ 0 < x.cells.length /\ o' + x.cells.length <= (es.getD i .cX).cells.length /\ K ⟨n,bR l,aA bx b (some (.row ty sz (es.set i (ba (es.getD i .cX) o' x.cells))))⟩):=rfl
@[go_sem high] theorem Xz (bx : aa) (b : Nat) (x : Option bI) : aA bx b x b = x:=af _ _ _
@[go_sem] theorem X0 (bx : aa) (b : Nat) (x y : Option bI) : aA (aA bx b x) b y = aA bx b y:=wq _ _ _ _
theorem eg {bx : aa} {b c : Nat} {x : bI} (h : aA bx b (some x) c = none) : c ≠ b /\ bx c = none:=by
 by_cases e : c = b
 ·subst e; rw [af] at h; cases h
 ·exact ⟨e,by rwa [ae _ _ e] at h⟩
def M3 (P : Program) (k : uJ) (l c : V) (o : Option Tmp) (K : St -> Prop) (st : St) : Prop :=
 match k,l.strip,c.strip with
 | .slice e,.int _ l',.int _ c'=>match aT P e with
   | some z=>l.ax = true /\ c.ax = true /\ storable P e (ofValue z) /\ 0 < aE P e /\ l' = c' /\ 0 <= l' /\ (nX P e : Int) * c' <= 281474976710656 /\ c' <= 9223372036854775807 /\ aJ st o /\ bj st.bx /\
    ∀ b,st.bx b = none -> K ((st.box b (some (.row e (aE P e) (List.replicate l'.toNat (ofValue z))))).put o (.own b (aE P e) 0 l'.toNat))
   | none=>False
 | _,_,_=>False
@[go_sem ↓] theorem S8 (d z : Bool) (o : Option Tmp) (t : TypeId) (l c : Operand) (K : St -> Prop) (st : St) : du P d ⟨o,.makeSlice t l c,none,z⟩ K st = M3 P (bu P t) (st.get l) (st.get c) o K st:=by
 have ez : du P d ⟨o,.makeSlice t l c,none,z⟩ K st = aH P d (bO.oper ⟨o,.makeSlice t l c,none,false⟩) K st:=by cases z <;> rfl
 rw [ez]
 rfl
@[go_sem] theorem Qf : V.cX.cells = [.cX]:=rfl
@[go_sem] theorem Qg (k : IntKind) (n : Int) : (V.int k n).cells = [.int k n]:=rfl
@[go_sem] theorem KH (n : Bool) : (V.bool n).cells = [.bool n]:=rfl
@[go_sem] theorem Qh (n : List UInt8) : (V.str n).cells = [.str n]:=rfl
@[go_sem] theorem M5 : V.aI.cells = [.aI]:=rfl
@[go_sem] theorem S9 (n : Nat) (es : List V) : (V.sl n es).cells = [.sl n es]:=rfl
@[go_sem] theorem Qi (b n i o : Nat) : (V.own b n i o).cells = [.own b n i o]:=rfl
@[go_sem] theorem Qj (b n i o : Nat) : (V.ptr b n i o).cells = [.ptr b n i o]:=rfl
@[go_sem] theorem SA (e : V) (o : Nat) : (V.ep e o).cells = [.ep e o]:=rfl
@[go_sem] theorem M6 : V.eJ.cells = [.eJ]:=rfl
@[go_sem] theorem SB (f : Fn) (l : List V) : (V.fn f l).cells = [.fn f l]:=rfl
@[go_sem] theorem M7 : V.ic.cells = [.ic]:=rfl
@[go_sem] theorem KI (t : TypeId) (v : V) : (V.iface t v).cells = [.iface t v]:=rfl
@[go_sem] theorem M8 : V.iM.cells = [.iM]:=rfl
@[go_sem] theorem SC (b : Nat) : (V.mp b).cells = [.mp b]:=rfl
@[go_sem] theorem M9 : V.gS.cells = [.gS]:=rfl
@[go_sem] theorem Qk (l : List V) : (V.agg l).cells = l:=rfl
@[go_sem] theorem SD (b : Nat) : (V.yl b).cells = [.yl b]:=rfl
@[go_sem] theorem X1 (k : IntKind) (n : Int) : okV (.int k n) = true:=rfl
@[go_sem] theorem Ql (n : Bool) : okV (.bool n) = true:=rfl
@[go_sem] theorem X2 (n : List UInt8) : okV (.str n) = true:=rfl
@[go_sem] theorem SE : okV .aI = true:=rfl
@[go_sem] theorem ZY (n : Nat) (es : List V) : okV (.sl n es) = true:=rfl
@[go_sem] theorem X3 (b n i o : Nat) : okV (.own b n i o) = true:=rfl
@[go_sem] theorem X4 (b n i o : Nat) : okV (.ptr b n i o) = true:=rfl
@[go_sem] theorem ZZ (e : V) (o : Nat) : okV (.ep e o) = true:=rfl
@[go_sem] theorem SF : okV .eJ = true:=rfl
@[go_sem] theorem aaa (f : Fn) (l : List V) : okV (.fn f l) = true:=rfl
@[go_sem] theorem SG : okV .ic = true:=rfl
@[go_sem] theorem Qm (t : TypeId) (v : V) : okV (.iface t v) = true:=rfl
@[go_sem] theorem SH : okV .iM = true:=rfl
@[go_sem] theorem aab (b : Nat) : okV (.mp b) = true:=rfl
@[go_sem] theorem SI : okV .gS = true:=rfl
@[go_sem] theorem X5 (l : List V) : okV (.agg l) = true:=rfl
@[go_sem] theorem aac (b : Nat) : okV (.yl b) = true:=rfl
@[go_sem] theorem Qn (cs : List V) (o : Nat) (v : V) : ba (.agg cs) o [v] = .agg (cs.set o v):=rfl
@[go_sem] theorem Qo (cs : List V) (o : Nat) (v w : V) (vs : List V) : ba (.agg cs) o (v :: w :: vs) = .agg (cs.take o ++ (v :: w :: vs) ++ cs.drop (o + (vs.length + 2))):=rfl
@[go_sem] theorem SJ (k : IntKind) (n : Int) (o : Nat) (v : V) : ba (.int k n) o [v] = v:=rfl
@[go_sem] theorem MA (n : Bool) (o : Nat) (v : V) : ba (.bool n) o [v] = v:=rfl
@[go_sem] theorem SK (n : List UInt8) (o : Nat) (v : V) : ba (.str n) o [v] = v:=rfl
@[go_sem] theorem Qp (o : Nat) (v : V) : ba .aI o [v] = v:=rfl
@[go_sem] theorem X6 (n : Nat) (es : List V) (o : Nat) (v : V) : ba (.sl n es) o [v] = v:=rfl
@[go_sem] theorem SL (b n i o' o : Nat) (v : V) : ba (.own b n i o') o [v] = v:=rfl
@[go_sem] theorem SM (b n i o' o : Nat) (v : V) : ba (.ptr b n i o') o [v] = v:=rfl
@[go_sem] theorem X7 (e : V) (o' o : Nat) (v : V) : ba (.ep e o') o [v] = v:=rfl
@[go_sem] theorem Qq (o : Nat) (v : V) : ba .eJ o [v] = v:=rfl
@[go_sem] theorem X8 (f : Fn) (l : List V) (o : Nat) (v : V) : ba (.fn f l) o [v] = v:=rfl
@[go_sem] theorem Qr (o : Nat) (v : V) : ba .ic o [v] = v:=rfl
@[go_sem] theorem MB (t : TypeId) (w : V) (o : Nat) (v : V) : ba (.iface t w) o [v] = v:=rfl
@[go_sem] theorem Qs (o : Nat) (v : V) : ba .iM o [v] = v:=rfl
@[go_sem] theorem X9 (b : Nat) (o : Nat) (v : V) : ba (.mp b) o [v] = v:=rfl
@[go_sem] theorem Qt (o : Nat) (v : V) : ba .gS o [v] = v:=rfl
attribute [go_sem] storable ar Value.oneCell'
@[go_sem] theorem Qu (x y z : Bool) : (bif x then V.bool y else V.bool z) = V.bool (bif x then y else z):=by cases x <;> rfl
@[go_sem] theorem XA (e : TypeId) (op : BinOp) (sz : Nat) (es : List V) (d : Option Tmp) (K : St -> Prop) (st : St) : td (.slice e) op (.sl sz es) .aI d K st = ((op = .eql \/ op = .neq) /\ aJ st d /\ ∀ c : Bool,(es ≠ [] -> c = false) -> K (st.put d (wI op c))):=rfl
@[go_sem] theorem SN (e : TypeId) (op : BinOp) (b sz o n : Nat) (d : Option Tmp) (K : St -> Prop) (st : St) : td (.slice e) op (.own b sz o n) .aI d K st = ((op = .eql \/ op = .neq) /\ aJ st d /\ ∀ c : Bool,(0 < n -> c = false) -> K (st.put d (wI op c))):=rfl
@[go_sem] theorem SO (e : TypeId) (op : BinOp) (d : Option Tmp) (K : St -> Prop) (st : St) : td (.slice e) op .aI .aI d K st = ((op = .eql \/ op = .neq) /\ aJ st d /\ K (st.put d (wI op true))):=rfl
@[go_sem] theorem SP (c : Bool) : wI .eql c = .bool c:=rfl
@[go_sem] theorem SQ (c : Bool) : wI .neq c = .bool (!c):=rfl
attribute [go_sem] gj pT sA
attribute [go_sem] dk s8 dH im nx gy gA j5 nZ nY Ai L0 jT kj kR QL fw Aj Ak B5 vU QM CV CW ofValue s6 aJ
attribute [go_sem] Bool.true_and Bool.and_true Bool.false_and Bool.and_false cond_true cond_false Bool.not_true Bool.not_false true_and and_true
@[go_sem ↓] theorem XB {so : List Bool} {l : List bO} {ks : List Nat} {Q : Exit -> St -> Prop} {st : St} : pw P (.jP so l ks) Q st = lf P (th Q ks) so l st:=rfl
@[go_sem ↓] theorem SR {K : St -> Prop} {so : List Bool} {st : St} : lf P K so [] st = K st:=by cases so <;> rfl
@[go_sem ↓] theorem Qv {K : St -> Prop} {so : List Bool} {o : bO} {l : List bO} {st : St} : lf P K (true :: so) (o :: l) st = du P false o (lf P K so l) st:=rfl
@[go_sem ↓] theorem MC {K : St -> Prop} {so : List Bool} {o : bO} {l : List bO} {st : St} : lf P K (false :: so) (o :: l) st = du P true o (lf P K so l) st:=rfl
@[go_sem ↓] theorem XC {un uv : List (Nat × Nat)} {l : List bO} {ks : List Nat} {Q : Exit -> St -> Prop} {st : St} : pw P (.hX un uv l ks) Q st = (((un.all fun p=>jh l p.1 || jh l p.2) = true /\ (uv.all fun p=>!(lj l p.1 || lj l p.2) || jh l p.1 || jh l p.2) = true) /\ lh P (th Q ks) l st):=rfl
attribute [go_sem] lj jE
def AK (P : Program) (q : FuncId) (args : List V) (o : Option Tmp) (K : St -> Prop) (st : St) : Prop :=
 (∃ bx v,K (st.at bx o v)) /\ mq P false q args o K st
@[go_sem ↓] theorem SU (o : Option Tmp) (f : FuncId) (args : Array Operand) (tys : Array TypeId) (K : St -> Prop) (st : St) : BJ P ⟨o,.call { callee:=.value (.func f),args:=args,argTypes:=tys },none,true⟩ K st = (iV (n9 st args.toList) /\ aJ st o /\ AK P f (fT (n9 st args.toList)) o K st):=by
 unfold BJ
 rw [if_neg (by simp [mi,lenOf]),if_pos (by simp [jE])]
 have:=jw (P:=P) (d:=false) (st:=st) (f:=.func f) (args:=args) (o:=o) (K:=K) (tys:=tys) (fun b=>by simp [St.get,V.strip])
 show (_ /\ aH P false (bO.oper ⟨o,.call { callee:=.value (.func f),args:=args,argTypes:=tys },none,false⟩) K st) = _
 rw [this]
 have h2 : st.get (.func f) = .fn (.func f) []:=rfl
 rw [h2,yV,List.append_nil]
 unfold AK
 exact propext ⟨fun h=>⟨h.2.1,h.2.2.1,h.1,h.2.2.2⟩,fun h=>⟨h.2.2.1,h.1,h.2.1,h.2.2.2⟩⟩
theorem iC {q : FuncId} {args : List V} {o : Option Tmp} {K : St -> Prop} {st : St} {Kc : V -> aa -> Prop} (h : aw P q args st.bx Kc) (hx : ∃ r bx',Kc r bx') (hk : ∀ r bx',Kc r bx' -> K ({ st with bx:=bx' }.put o r)) : AK P q args o K st:=by
 obtain ⟨r,bx',h1⟩:=hx
 exact ⟨⟨bx',r,hk r bx' h1⟩,an h hk⟩
@[go_sem ↓] theorem SV {K : St -> Prop} {st : St} : lh P K [] st = K st:=rfl
@[go_sem ↓] theorem Qw {K : St -> Prop} {o : bO} {l : List bO} {st : St} : lh P K (o :: l) st = BJ P o (lh P K l) st:=rfl
@[go_sem ↓] theorem opF_plain (o : Option Tmp) (op : Op) (g : Option (Tmp × Bool)) (K : St -> Prop) (st : St) : BJ P ⟨o,op,g,false⟩ K st = du P true ⟨o,op,g,false⟩ K st:=rfl
@[go_sem ↓] theorem SW (o : Option Tmp) (t : TypeId) (a : Operand) (K : St -> Prop) (st : St) : BJ P ⟨o,.load t a,none,true⟩ K st = p6 (dH P (fun _=>none) t (gv P st a)) o K st:=rfl
@[go_sem ↓] theorem Qx (o : Option Tmp) (t : TypeId) (a : Operand) (s : Nat) (w : Bool) (K : St -> Prop) (st : St) : BJ P ⟨o,.load t a,some (s,w),true⟩ K st = dL (st.sl s) w (dH P (fun _=>none) t (gv P st a)) o K st:=rfl
def BS (P : Program) (e : TypeId) (z : Option Value) (len : Nat) (ps : List (Nat × V)) : Ev :=
 match z with
 | some z=>(storable P e (ofValue z) /\ 0 < aE P e /\ len * aE P e <= 16777216 /\ nA P e len ps,.sl (aE P e) (jC (List.replicate len (ofValue z)) ps))
 | none=>dk
def yY (P : Program) (k : uJ) (len : Nat) (ps : List (Nat × V)) : Ev :=
 match k with
 | .slice e=>BS P e (aT P e) len ps
 | _=>dk
@[go_sem] theorem KJ {e : TypeId} {len : Nat} {ps : List (Nat × V)} : yY P (.slice e) len ps = BS P e (aT P e) len ps:=rfl
@[go_sem] theorem MD {e : TypeId} {z : Value} {len : Nat} {ps : List (Nat × V)} : BS P e (some z) len ps = (storable P e (ofValue z) /\ 0 < aE P e /\ len * aE P e <= 16777216 /\ nA P e len ps,.sl (aE P e) (jC (List.replicate len (ofValue z)) ps)):=rfl
theorem yZ (e : TypeId) (n : Nat) : ∀ ps : List (Nat × V),nA P e n ps ↔ ∀ p,p ∈ ps -> p.1 < n /\ storable P e p.2
 | []=>by simp [nA]
 | (i,x) :: ps=>by simp [nA,yZ e n ps,and_assoc]
theorem BT (st : St) (t : TypeId) (len : Nat) (parts : List (Nat × Operand)) : D5 P t len (parts.map fun p=>(p.1,st.get p.2)) = yY P (bu P t) len (jG st parts):=by
 rw [p8]
 unfold D5 yY
 cases bu P t with
 | slice e=>simp only [BS]; cases aT P e <;> simp only [yZ]
 | _=>rfl
@[go_sem ↓] theorem XD (o : Option Tmp) (x : Operand) (t : TypeId) (K : St -> Prop) (st : St) : BJ P ⟨o,.call { callee:=.builtin .len,args:=#[x],argTypes:=#[t] },none,true⟩ K st = p6 (nx P (fun _=>none) t (st.get x)) o K st:=rfl
@[go_sem ↓] theorem Qy (o : Option Tmp) (t : TypeId) (len : Nat) (parts : Array (Nat × Operand)) (K : St -> Prop) (st : St) : BJ P ⟨o,.buildSlice t len parts,none,true⟩ K st = p6 (yY P (bu P t) len (jG st parts.toList)) o K st:=by
 rw [<- BT]; rfl
@[go_sem ↓] theorem ME (o : Option Tmp) (t : TypeId) (len : Nat) (parts : Array (Nat × Operand)) (s : Nat) (w : Bool) (K : St -> Prop) (st : St) : BJ P ⟨o,.buildSlice t len parts,some (s,w),true⟩ K st = dL (st.sl s) w (yY P (bu P t) len (jG st parts.toList)) o K st:=by
 rw [<- BT]; rfl
theorem az {rs : List ResultVar} {Kc : V -> aa -> Prop} {st : St} (h : ∀ r,r ∈ rs -> (iS P st r).1) (hk : Kc (kq P st rs) st.bx) : zZ P rs Kc st :=
 ⟨h,st.bx,_,cj.refl _,.inl rfl,hk⟩
attribute [go_sem] iS kq
end
end Go.Pl
namespace Go.Pl
open Go
section
variable {P : Program}
def Fp {ι : Type} (I : ι -> Prop) (C : ι -> St) (μ : ι -> Nat) (m : Nat) (s : St) : Prop:=∃ i',I i' /\ je s (C i') /\ μ i' < m
theorem rS {ι : Type} (I : ι -> Prop) (C : ι -> St) (μ : ι -> Nat) (i : ι) {c : PC} {Q : Exit -> St -> Prop} {st : St} (hi : I i) (hc : je st (C i))
 (round : ∀ i,I i -> pw P c (jo (Fp I C μ (μ i)) Q) (C i)) : pw P (.loop c) Q st:=by
 refine ⟨{i : ι // I i},fun i=>C i.1,fun i=>μ i.1,⟨i,hi⟩,hc,fun i=>?_⟩
 have h:=round i.1 i.2
 have e : (jo (Fp I C μ (μ i.1)) Q) = (jo (fun s=>∃ i' : {i : ι // I i},je s (C i'.1) /\ μ i'.1 < μ i.1) Q):=by
  funext ex s
  cases ex with
  | normal =>
    simp only [jo,Fp]
    apply propext
    constructor
    ·rintro ⟨i',h1,h2,h3⟩; exact ⟨⟨i',h1⟩,h2,h3⟩
    ·rintro ⟨i',h2,h3⟩; exact ⟨i'.1,i'.2,h2,h3⟩
  | _=>rfl
 exact e ▸ h
def Ext (bx bx' : aa) : Prop:=∀ b,bx b ≠ none -> bx' b = bx b
theorem Ext.refl (bx : aa) : Ext bx bx:=fun _ _=>rfl
theorem Ext.trans {a b c : aa} (h : Ext a b) (h' : Ext b c) : Ext a c:=fun x hx=>by rw [h' x (by rw [h x hx]; exact hx),h x hx]
theorem Ext.new {a b : aa} {x : Nat} (h : Ext a b) (hx : b x = none) (v : Option bI) : Ext a (aA b x v):=by
 intro y hy
 by_cases e : y = x
 ·subst e; exact absurd (h y hy ▸ hx) hy
 ·rw [ae _ _ e]; exact h y hy
theorem Ext.sub {a b : aa} (h : Ext a b) : cj b a:=by
 intro x
 by_cases hx : a x = none
 ·exact .inl hx
 ·exact .inr (.inl (h x hx).symm)
theorem Ext.none {a b : aa} (h : Ext a b) {x : Nat} (hx : b x = none) : a x = none:=by
 by_cases e : a x = Option.none
 ·exact e
 ·rw [h x e] at hx; exact hx
structure Acc (bx : aa) (e sz : Nat) (es : List V) (v : V) (bx' : aa) : Prop where
 ext : Ext bx bx'
 fin : bj bx'
 is : (es = [] /\ v = .aI) \/ ∃ b,bx b = none /\ v = .own b sz 0 es.length /\ bx' b = some (.row e sz es)
theorem Acc.cells {bx bx' : aa} {e sz : Nat} {es : List V} {v : V} (h : Acc bx e sz es v bx') : v.cells = [v]:=by
 rcases h.is with ⟨_,rfl⟩ | ⟨b,_,rfl,_⟩ <;> rfl
theorem Acc.okV {bx bx' : aa} {e sz : Nat} {es : List V} {v : V} (h : Acc bx e sz es v bx') : okV v = true:=by
 rcases h.is with ⟨_,rfl⟩ | ⟨b,_,rfl,_⟩ <;> rfl
theorem Acc.strip {bx bx' : aa} {e sz : Nat} {es : List V} {v : V} (h : Acc bx e sz es v bx') : v.strip = v:=by
 rcases h.is with ⟨_,rfl⟩ | ⟨b,_,rfl,_⟩ <;> rfl
theorem Acc.live {bx bx' : aa} {e sz : Nat} {es : List V} {v : V} (h : Acc bx e sz es v bx') : v.ax = true:=by
 rcases h.is with ⟨_,rfl⟩ | ⟨b,_,rfl,_⟩ <;> rfl
theorem Acc.ba {bx bx' : aa} {e sz : Nat} {es : List V} {v : V} (h : Acc bx e sz es v bx') (o : Nat) (w : V) : ba v o [w] = w:=by
 rcases h.is with ⟨_,rfl⟩ | ⟨b,_,rfl,_⟩ <;> rfl
theorem wQ {bx : aa} (hf : bj bx) (e sz : Nat) : Acc bx e sz [] .aI bx:=⟨Ext.refl _,hf,.inl ⟨rfl,rfl⟩⟩
theorem Acc.ext' {bx bx' bx'' : aa} {e sz : Nat} {es : List V} {v : V} (h : Acc bx e sz es v bx') (he : Ext bx' bx'') (hf : bj bx'') : Acc bx e sz es v bx'':=by
 refine ⟨h.ext.trans he,hf,?_⟩
 rcases h.is with h1 | ⟨b,h1,h2,h3⟩
 ·exact .inl h1
 ·exact .inr ⟨b,h1,h2,by rw [he b (by rw [h3]; simp),h3]⟩
theorem jH {bx bM : aa} {e sz : Nat} {es news : List V} {v x : V} {t : TypeId} {dst : Option Tmp} {n : Nat} {sl : Nat -> V} {bx2 : aa} {K : St -> Prop} (z : Value)
 (ha : Acc bx e sz es v bM) (h2 : Ext bM bx2) (hf : bj bx2) (hk : bu P t = .slice e) (bV : aE P e = sz) (src : bP ⟨n,sl,bx2⟩ sz x = some news) (hz : aT P e = some z) (iq : storable P e (ofValue z)) (eK : 0 < sz)
 (rB : (es.length + news.length) * nX P e <= 140737488355328) (hlen : es.length + news.length <= 9223372036854775807) (hd : aJ ⟨n,sl,bx2⟩ dst)
 (hK : ∀ v' bx3,Acc bx e sz (es ++ news) v' bx3 -> K (St.put ⟨n,sl,bx3⟩ dst v')) : c8 P ⟨n,sl,bx2⟩ dst t v x K:=by
 subst bV
 have Fq:=ha.ext' h2 hf
 unfold c8
 simp only [hk,src,hz]
 refine ⟨iq,eK,hd,hf,?_⟩
 rcases Fq.is with ⟨rfl,rfl⟩ | ⟨b,hb,rfl,c9⟩
 ·simp only [List.length_nil,Nat.zero_add] at rB hlen
  refine ⟨rB,hlen,fun b hb=>?_⟩
  refine hK _ _ ⟨Fq.ext.new hb _,(ar _ _ _).2 hf,.inr ⟨b,Fq.ext.none hb,by simp,af _ _ _⟩⟩
 ·simp only [c9]
  refine ⟨trivial,trivial,trivial,Nat.le_refl _,rB,hlen,fun b' aQ=>?_⟩
  have e1 : Ext bx (aA bx2 b none):=by
   intro y hy
   by_cases e : y = b
   ·subst e; exact absurd hb hy
   ·rw [ae _ _ e]; exact Fq.ext y hy
  refine hK _ _ ⟨e1.new aQ _,(ar _ _ _).2 ((ar _ _ _).2 hf),.inr ⟨b',e1.none aQ,?_,?_⟩⟩
  ·simp
  ·rw [List.take_length]; exact af _ _ _
def Wk (v v' : V) : Prop:=∀ β w F u,aP β w F v u -> aP β w F v' u
theorem Wk.refl (v : V) : Wk v v:=fun _ _ _ _ h=>h
theorem wR (sz : Nat) : Wk .aI (.sl sz []):=by
 intro β w F u h
 cases h
 exact aP.sl (β:=β) (w:=w) (F:=F) sz [] none 0 (fun _=>undef) (Nat.le_refl _) (by simp) (fun h=>absurd rfl h) (fun e he=>by cases he) (fun i e j c he=>by simp at he) (fun i e j c he=>by simp at he)
theorem aw.D7 {f : FuncId} {args : List V} {bx : aa} {Kc Kc' : V -> aa -> Prop} (h : aw P f args bx Kc) (hk : ∀ r bx',Kc r bx' -> ∃ r',Wk r r' /\ Kc' r' bx') : aw P f args bx Kc':=by
 refine ⟨h.1,fun β M w vs cY l9 bV fB=>(h.2 β M w vs cY l9 bV fB).mono ?_⟩
 rintro e w' ⟨v,r,bx',β',h1,h2,h3,h4,h5⟩
 obtain ⟨r',hw,jM⟩:=hk r bx' h2
 exact ⟨v,r',bx',β',h1,jM,h3,h4,hw _ _ _ _ h5⟩
theorem aw.args {f : FuncId} {args args' : List V} {bx : aa} {Kc : V -> aa -> Prop} (h : aw P f args' bx Kc) (hl : args'.length = args.length) (hw : ∀ (i : Nat) (c c' : V),args[i]? = some c -> args'[i]? = some c' -> Wk c c') : aw P f args bx Kc:=by
 refine ⟨h.1,fun β M w vs cY l9 bV fB=>h.2 β M w vs cY l9 (bV.trans hl.symm) fun i c' gP=>?_⟩
 have hi : i < args'.length:=(List.getElem?_eq_some_iff.1 gP).1
 have hc:=List.getElem?_eq_getElem (l:=args) (i:=i) (by omega)
 exact hw i _ c' hc gP _ _ _ _ (fB i _ hc)
theorem I7 {rs : List ResultVar} {Kc : V -> aa -> Prop} {st : St} {bx : aa} {e sz : Nat} {es : List V} (h : ∀ r,r ∈ rs -> (iS P st r).1) (ha : Acc bx e sz es (kq P st rs) st.bx) (eK : 0 < sz)
 (hk : ∀ r,(r = .aI /\ es = []) \/ r = .sl sz es -> Kc r bx) : zZ P rs Kc st:=by
 rcases ha.is with ⟨h1,h2⟩ | ⟨b,h1,h2,h3⟩
 ·exact ⟨h,bx,_,ha.ext.sub,.inl rfl,hk _ (.inl ⟨h2,h1⟩)⟩
 ·refine ⟨h,bx,_,ha.ext.sub,.inr ⟨1,rfl⟩,hk _ (.inr ?_)⟩
  rw [h2]
  have e0 : ∀ v,dA st.bx bx 0 v = v:=fun v=>by cases v <;> rfl
  have : List.map (dA st.bx bx 0) es = es:=by rw [List.map_congr_left (g:=id) (fun a _=>e0 a)]; simp
  simp [dA,h3,h1,eK,this]
def za : V -> Bool
 | .int .. | .bool _ | .str _ | .aI | .eJ | .ic | .iM | .gS | .cX=>true
 | .agg cs | .dh cs=>cs.all fun c=>match c with
   | .int .. | .bool _ | .str _ | .aI | .eJ | .ic | .iM | .gS | .cX=>true
   | _=>false
 | _=>false
theorem Fs {β β' : Beta} {w w' : World} {F F' : Nat -> Prop} : ∀ {v : V} {u : Value},za v = true -> aP β w F v u -> aP β' w' F' v u:=by
 have one : ∀ {v : V} {u : Value},(match v with
  | .int .. | .bool _ | .str _ | .aI | .eJ | .ic | .iM | .gS | .cX=>true
  | _=>false) = true -> aP β w F v u -> aP β' w' F' v u:=by
  intro v u h1 h
  cases h with
  | cX u=>exact .cX u
  | int k n=>exact .int k n
  | bool b=>exact .bool b
  | str s=>exact .str s
  | aI=>exact .aI
  | eJ=>exact .eJ
  | ic=>exact .ic
  | iM=>exact .iM
  | gS=>exact .gS
  | _=>simp at h1
 intro v u hf h
 cases h with
 | agg cs us hl h1 hr =>
   refine .agg cs us hl h1 fun i c hc=>one ?_ (hr i c hc)
   simp only [za,List.all_eq_true] at hf
   exact hf c (List.mem_of_getElem? hc)
 | dh cs us hl hr =>
   refine .dh cs us hl fun i c hc=>one ?_ (hr i c hc)
   simp only [za,List.all_eq_true] at hf
   exact hf c (List.mem_of_getElem? hc)
 | cX u=>exact .cX u
 | int k n=>exact .int k n
 | bool b=>exact .bool b
 | str s=>exact .str s
 | aI=>exact .aI
 | eJ=>exact .eJ
 | ic=>exact .ic
 | iM=>exact .iM
 | gS=>exact .gS
 | _=>simp [za] at hf
theorem ay.frame {f : FuncId} {args args' : List V} {bx : aa} {r : V} (d : Nat) (h : ay P f args' (fun _=>none) r) (ha : args' = args.map (dA bx (fun _=>none) d)) (hr : za r = true) : ay P f args bx r:=by
 subst ha
 refine ⟨h.1,fun β M w vs cY l9 bV fB=>?_⟩
 have hs:=cj.none_ bx
 refine (h.2 β M w vs (cY.sub hs) (l9.imp fun _ _ hh=>hs.rep hh) (by simpa using bV) fun i c hc=>?_).mono ?_
 ·rw [List.getElem?_map,Option.map_eq_some_iff] at hc
  obtain ⟨c0,AL,rfl⟩:=hc
  exact kX cY hs d _ _ (fB i c0 AL)
 ·rintro e w' ⟨v,r',bx',β',h1,⟨rfl,rfl⟩,sO,ja,bN⟩
  have hb : ∀ b k,bx b ≠ none -> β' b = some (some k) -> β b = some (some k):=by
   intro b k hb hk
   obtain ⟨box,dK⟩:=Option.ne_none_iff_exists'.1 hb
   rcases cY.live b box dK with ⟨h2,_⟩ | ⟨k',h2,_⟩
   ·rw [ja.ext b _ h2] at hk; cases hk
   ·rw [ja.ext b _ h2] at hk; rw [h2,hk]
  have SY : Tr β bx w β' bx w':=⟨ja.os,ja.tape,ja.output,fun _=>ja.drawn (fun ⟨b,ty,h⟩=>by cases h),fun h=>h,ja.size,fun k hk _=>ja.ch k hk (fun b hb=>absurd rfl hb),ja.shape,ja.ext,fun b k h1 h2=>.inl ⟨b,h1,hb b k h1 h2⟩⟩
  refine ⟨v,r',bx,β',h1,⟨rfl,rfl⟩,?_,SY,Fs hr bN⟩
  refine ⟨sO.fin,sO.mlt,fun b box dK=>?_,fun b b' k h1 h2 h3 h4=>cY.inj b b' k h1 h2 (hb b k h1 h3) (hb b' k h2 h4)⟩
  rcases cY.live b box dK with ⟨h2,h3⟩ | ⟨k,h2,h3,h4,h5⟩
  ·exact .inl ⟨ja.ext b _ h2,h3⟩
  ·refine .inr ⟨k,ja.ext b _ h2,Nat.lt_of_lt_of_le h3 ja.size,h4,?_⟩
   exact bh h5 (ja.ch k h3 (fun b hb=>absurd rfl hb)) ja.ext (fun k' jM=>SY.fz jM) ja.shape
theorem ij {n : Int} (h : -9223372036854775808 <= n /\ n <= 9223372036854775807) : IntKind.i64.wrap n = n:=by
 unfold IntKind.wrap; simp [IntKind.bits,IntKind.signed]; omega
theorem Ft {n : Int} (h : 0 <= n /\ n <= 18446744073709551615) : IntKind.u64.wrap n = n:=by
 unfold IntKind.wrap; simp [IntKind.bits,IntKind.signed]; omega
end
end Go.Pl
namespace Go.Pl
open Go Classical
section
variable {P : Program} {β : Beta} {M : dP} {bxc bxi : aa} {w : World}
theorem iT.frame {b : Nat} {args : List V} {Kc : V -> aa -> Prop} (h : iT P b args bxc Kc) (hd : Dj bxc bxi) : iT P b args (ov bxc bxi) fun r bx'=>∃ bxc',Kc r bxc' /\ Dj bxc' bxi /\ bx' = ov bxc' bxi:=by
 intro n β M w vs k bL cY l9 ju mf
 obtain ⟨hw,hF⟩:=qc cY hd
 obtain ⟨fn,tmps,assign,body,h1,h2⟩:=h n β _ w vs k bL hw (l9.imp fun _ _ hh=>hh.mono (fun _ _ h=>h) (fun k hk=>⟨(hF k).1 hk,rfl⟩) (fun _ _ h=>h)) ju (fun i c hc=>(mf i c hc).mono (fun _ _ h=>h) (fun k hk=>⟨(hF k).1 hk,rfl⟩) (fun _ _ h=>h))
 refine ⟨fn,tmps,assign,body,h1,h2.mono ?_⟩
 rintro e w' ⟨v,r,bx',β',rfl,hk,sO,ja,bN⟩
 obtain ⟨a1,a2,a3,a4⟩:=sW cY hd sO ja
 exact ⟨v,r,_,β',rfl,⟨bx',hk,a1,rfl⟩,a2,a3,bN.mono (fun _ _ h=>h) (fun k hk=>⟨a4 k hk,rfl⟩) (fun _ _ h=>h)⟩
end
end Go.Pl
namespace Go.Pl
open Go
section
variable {P : Program}
theorem iT.mono {b : Nat} {args : List V} {bx : aa} {Kc Kc' : V -> aa -> Prop} (h : iT P b args bx Kc) (hk : ∀ r bx',Kc r bx' -> Kc' r bx') : iT P b args bx Kc':=by
 intro n β M w vs k bL cY l9 ju mf
 obtain ⟨fn,tmps,assign,body,h1,h2⟩:=h n β M w vs k bL cY l9 ju mf
 refine ⟨fn,tmps,assign,body,h1,h2.mono ?_⟩
 rintro e w' ⟨v,r,bx',β',rfl,jM,h3⟩
 exact ⟨v,r,bx',β',rfl,hk _ _ jM,h3⟩
theorem aw.mono {f : FuncId} {args : List V} {bx : aa} {Kc Kc' : V -> aa -> Prop} (h : aw P f args bx Kc) (hk : ∀ r bx',Kc r bx' -> Kc' r bx') : aw P f args bx Kc' :=
 h.D7 fun r bx' h'=>⟨r,Wk.refl _,hk r bx' h'⟩
@[go_sem] theorem KK (a b : Bool) (v : V) : eo a (eo b v) = eo (a && b) v:=by cases a <;> cases b <;> simp [eo,V.strip,nV]
@[go_sem] theorem Qz (e : Ev) (d : Nat) (K : St -> Prop) (n : Nat) (l : List (Nat × V)) (bx : aa) : I2 false e (some d) K ⟨n,bR l,bx⟩ = (d < n /\ K ⟨n,bR ((d,.dead e.2.strip) :: l),bx⟩):=by
 simp only [I2,aJ,jF,Bool.false_eq_true,false_implies,true_and,eo,cond_false]
theorem jI (r : V) {d : Bool} {q : FuncId} {vs : List V} {lv : Prop} {o : Option Tmp} {K : St -> Prop} {st : St} (hd : aJ st o) (hk : K (st.put o (.dead r.strip))) : gK P d false q vs lv o K st :=
 .inl ⟨hd,r,fun h=>(by cases h),hk⟩
@[go_sem] theorem SZ (c w : Bool) (e : Ev) (o : Option Tmp) (K : St -> Prop) (st : St) : dL (.dead (.bool c)) w e o K st = I2 false e o K st:=by
 simp [dL,V.strip,V.ax]
@[go_sem] theorem MF (d wb : Bool) (q : FuncId) (caps args : List V) (o : Option Tmp) (K : St -> Prop) (st : St) : mu P d wb (.dead (.fn (.func q) caps)) args o K st = gK P d wb q (fT args ++ caps) False o K st:=by
 simp only [mu,tk,BQ,nL,gK,AG,yT,DB,Bool.false_eq_true,false_and]
theorem tm {bx : aa} {b : Nat} (h : bx b = none) : aA bx b none = bx:=by
 funext x
 by_cases e : x = b
 ·subst e; rw [af,h]
 ·rw [ae _ _ e]
theorem bC {rs : List ResultVar} {Kc : V -> aa -> Prop} {st : St} {bx : aa} (h : ∀ r,r ∈ rs -> (iS P st r).1) (he : Ext bx st.bx) (hk : Kc (kq P st rs) bx) : zZ P rs Kc st :=
 ⟨h,bx,_,he.sub,.inl rfl,hk⟩
theorem fO {rs : List ResultVar} {Kc : V -> aa -> Prop} {st : St} {bx : aa} (d : Nat) (h : ∀ r,r ∈ rs -> (iS P st r).1) (he : Ext bx st.bx) (hk : Kc (dA st.bx bx d (kq P st rs)) bx) : zZ P rs Kc st :=
 ⟨h,bx,_,he.sub,.inr ⟨d,rfl⟩,hk⟩
theorem Ext.aN {bx bx' : aa} {b : Nat} (h : Ext bx bx') (hb : bx b = Option.none) (x : Option bI) : Ext bx (aA bx' b x):=by
 intro y hy
 by_cases e : y = b
 ·subst e; exact absurd hb hy
 ·rw [ae _ _ e]; exact h y hy
end
end Go.Pl
namespace Go.Pl
open Go
end Go.Pl
namespace Go.Pl
open Go
end Go.Pl
namespace Go.Pl
open Go
theorem ay.wk {P : Program} {f : FuncId} {args : List V} {bx : aa} {r : V} (h : aw P f args bx fun r' bx'=>Wk r' r /\ bx' = bx) : ay P f args bx r :=
 h.D7 fun r' bx' h'=>⟨r,h'.1,rfl,h'.2⟩
theorem I8 {cs ds : List V} (hl : cs.length = ds.length) (h : ∀ (i : Nat) (c d : V),cs[i]? = some c -> ds[i]? = some d -> Wk c d) : Wk (.dh cs) (.dh ds):=by
 intro β w F u hr
 cases hr with
 | dh cs us hs hr =>
   refine .dh ds us (hs.trans hl) fun i d hd=>?_
   have hi : i < cs.length:=by rw [hl]; exact (List.getElem?_eq_some_iff.1 hd).1
   exact h i cs[i] d (List.getElem?_eq_getElem hi) hd _ _ _ _ (hr i _ (List.getElem?_eq_getElem hi))
theorem p9 {a b c d : V} (h1 : Wk a c) (h2 : Wk b d) : Wk (.dh [a,b]) (.dh [c,d]):=by
 refine I8 rfl fun i x y hx hy=>?_
 match i with
 | 0=>simp at hx hy; subst hx hy; exact h1
 | 1=>simp at hx hy; subst hx hy; exact h2
 | i + 2=>simp at hx
theorem rT {sz : Nat} {es : List V} (h : es = []) : Wk .aI (.sl sz es):=by subst h; exact wR sz
theorem BU {P : Program} {rs : List ResultVar} {r : V} {st : St} (h : ∀ r,r ∈ rs -> (iS P st r).1) (hk : Wk (kq P st rs) r) : zZ P rs (fun r' bx'=>Wk r' r /\ bx' = st.bx) st :=
 bC h (Ext.refl _) ⟨hk,rfl⟩
end Go.Pl
namespace Go.Pl
open Go
theorem Acc.base {aC bx bx' : aa} {e sz : Nat} {es : List V} {v : V} (h : Acc bx e sz es v bx') (he : Ext aC bx) : Acc aC e sz es v bx':=by
 refine ⟨he.trans h.ext,h.fin,?_⟩
 rcases h.is with h1 | ⟨b,h1,h2,h3⟩
 ·exact .inl h1
 ·exact .inr ⟨b,he.none h1,h2,h3⟩
theorem Acc.at {bx bx' : aa} {e sz : Nat} {es : List V} {v : V} {b : Nat} {x : bI} (h : Acc (aA bx b (some x)) e sz es v bx') : bx' b = some x:=by
 rw [h.ext b (by simp [af]),af]
theorem Acc.put {bx bx' : aa} {e sz : Nat} {es : List V} {v : V} {b : Nat} {x : bI} (h : Acc (aA bx b (some x)) e sz es v bx') (y : bI) : Acc (aA bx b (some y)) e sz es v (aA bx' b (some y)):=by
 refine ⟨fun c hc=>?_,(ar _ _ _).2 h.fin,?_⟩
 ·by_cases e : c = b
  ·subst e; rw [af,af]
  ·rw [ae _ _ e,ae _ _ e]
   have:=h.ext c (by rw [ae _ _ e] at hc ⊢; exact hc)
   rwa [ae _ _ e] at this
 ·rcases h.is with h1 | ⟨b',h1,h2,h3⟩
  ·exact .inl h1
  ·have hn:=eg h1
   exact .inr ⟨b',by rw [ae _ _ hn.1]; exact hn.2,h2,by rw [ae _ _ hn.1]; exact h3⟩
theorem zb {P : Program} {rs : List ResultVar} {st : St} {bx : aa} {e sz : Nat} {es : List V} (h : ∀ r,r ∈ rs -> (iS P st r).1) (ha : Acc bx e sz es (kq P st rs) st.bx) (eK : 0 < sz) : zZ P rs (fun r bx'=>Wk r (.sl sz es) /\ bx' = bx) st :=
 I7 h ha eK fun r hr=>by
  rcases hr with ⟨rfl,h1⟩ | rfl
  ·exact ⟨rT h1,rfl⟩
  ·exact ⟨Wk.refl _,rfl⟩
end Go.Pl
namespace Go.Pl
open Go
theorem ji {P : Program} {ι : Type} (n : Nat) (J : Nat -> ι -> Prop) (C : Nat -> ι -> St) (i : ι) {c : PC} {Q : Exit -> St -> Prop} {st : St} (hi : J 0 i) (hc : je st (C 0 i))
 (round : ∀ k i,k < n -> J k i -> ∀ N : St -> Prop,(∀ s i',J (k + 1) i' -> je s (C (k + 1) i') -> N s) -> pw P c (jo N Q) (C k i)) (fin : ∀ i,J n i -> ∀ N : St -> Prop,pw P c (jo N Q) (C n i)) : pw P (.loop c) Q st:=by
 refine rS (ι:=Nat × ι) (fun p=>p.1 <= n /\ J p.1 p.2) (fun p=>C p.1 p.2) (fun p=>n - p.1) (0,i) ⟨Nat.zero_le _,hi⟩ hc ?_
 rintro ⟨k,i⟩ ⟨hk,hj⟩
 dsimp only at hk hj ⊢
 by_cases h : k < n
 ·exact round k i h hj _ fun s i' h1 h2=>⟨(k + 1,i'),⟨h,h1⟩,h2,by dsimp only; omega⟩
 ·obtain rfl : k = n:=by omega
  exact fin i hj _
theorem eP {P : Program} (n : Nat) (hit : Nat -> Bool) (C : Nat -> St) {c : PC} {Q : Exit -> St -> Prop} {st : St} (hc : je st (C 0))
 (round : ∀ k,k < n -> (∀ j,j < k -> hit j = false) -> ∀ N : St -> Prop,(∀ s,hit k = false -> je s (C (k + 1)) -> N s) -> pw P c (jo N Q) (C k)) (fin : (∀ j,j < n -> hit j = false) -> ∀ N : St -> Prop,pw P c (jo N Q) (C n)) : pw P (.loop c) Q st:=by
 refine ji (ι:=Unit) n (fun k _=>∀ j,j < k -> hit j = false) (fun k _=>C k) () (fun j hj=>by omega) hc (fun k _ hk hJ N hN=>round k hk hJ N fun s h1 h2=>hN s () (fun j hj=>?_) h2) (fun _ hJ N=>fin hJ N)
 by_cases e : j = k
 ·rw [e]; exact h1
 ·exact hJ j (by omega)
theorem ct {P : Program} (n : Nat) (C : Nat -> St) {c : PC} {Q : Exit -> St -> Prop} {st : St} (hc : je st (C 0))
 (round : ∀ k,k < n -> ∀ N : St -> Prop,(∀ s,je s (C (k + 1)) -> N s) -> pw P c (jo N Q) (C k)) (fin : ∀ N : St -> Prop,pw P c (jo N Q) (C n)) : pw P (.loop c) Q st :=
 ji (ι:=Unit) n (fun _ _=>True) (fun k _=>C k) () trivial hc (fun k _ hk _ N hN=>round k hk N fun s h=>hN s () trivial h) (fun _ _ N=>fin N)
theorem bt {k : Nat} (h : k < 1000000000) : IntKind.i64.wrap ((k : Int) + 1) = ((k + 1 : Nat) : Int):=by rw [ij (by omega)]; omega
theorem I9 {bx bx' : aa} {d b sz n : Nat} {ty : TypeId} {es : List V} (h : bx b = some (.row ty sz es)) (h' : bx' b = none) (hs : 0 < sz) (hn : n = es.length) : dA bx bx' (d + 1) (.own b sz 0 n) = .sl sz (es.map (dA bx bx' d)):=by
 subst hn
 simp [dA,h,h',hs]
theorem Ta (bx bx' : aa) (v : V) : dA bx bx' 0 v = v:=by cases v <;> rfl
theorem MG (bx bx' : aa) (l : List V) : l.map (dA bx bx' 0) = l:=by
 rw [List.map_congr_left (g:=id) (fun a _=>Ta _ _ a)]; simp
theorem Acc.row {bx bx' : aa} {e sz : Nat} {es : List V} {v : V} (h : Acc bx e sz es v bx') (bp : es ≠ []) : ∃ b,bx b = none /\ v = .own b sz 0 es.length /\ bx' b = some (.row e sz es):=by
 rcases h.is with ⟨h1,_⟩ | h1
 ·exact absurd h1 bp
 ·exact h1
theorem rU {bx : aa} {b : Nat} (hb : bx b = none) (hf : bj bx) (e sz : Nat) (es : List V) (n : Nat) (hn : n = es.length) : Acc bx e sz es (.own b sz 0 n) (aA bx b (some (.row e sz es))) :=
 ⟨(Ext.refl _).new hb _,(ar _ _ _).2 hf,.inr ⟨b,hb,by rw [hn],af _ _ _⟩⟩
theorem aj {P : Program} {rs : List ResultVar} {Kc : V -> aa -> Prop} {st : St} (h : ∀ r,r ∈ rs -> (iS P st r).1) (hk : Kc (kq P st rs) st.bx) : zZ P rs Kc st:=az h hk
end Go.Pl
namespace Go.Pl
open Go
end Go.Pl
namespace Go.Pl
open Go
@[go_sem] theorem XE (bx bx' : aa) (d : Nat) (cs : List V) : dA bx bx' (d + 1) (.dh cs) = .dh (cs.map (dA bx bx' d)):=rfl
@[go_sem] theorem XF (bx bx' : aa) (d : Nat) (cs : List V) : dA bx bx' (d + 1) (.agg cs) = .agg (cs.map (dA bx bx' d)):=rfl
@[go_sem] theorem XG (bx bx' : aa) (d : Nat) (k : IntKind) (n : Int) : dA bx bx' d (.int k n) = .int k n:=by cases d <;> rfl
@[go_sem] theorem Q0 (bx bx' : aa) (d : Nat) (n : Bool) : dA bx bx' d (.bool n) = .bool n:=by cases d <;> rfl
@[go_sem] theorem XH (bx bx' : aa) (d : Nat) (n : List UInt8) : dA bx bx' d (.str n) = .str n:=by cases d <;> rfl
@[go_sem] theorem Tb (bx bx' : aa) (d : Nat) : dA bx bx' d .aI = .aI:=by cases d <;> rfl
@[go_sem] theorem aad (bx bx' : aa) (d sz : Nat) (es : List V) : dA bx bx' d (.sl sz es) = .sl sz es:=by cases d <;> rfl
theorem gb {bx bx' : aa} {b sz n : Nat} {ty : TypeId} {es : List V} (h : bx b = some (.row ty sz es)) (h' : bx' b = none) (hs : 0 < sz) (hn : n = es.length) : dA bx bx' 1 (.own b sz 0 n) = .sl sz es:=by
 rw [I9 h h' hs hn,MG]
end Go.Pl
namespace Go.Pl
open Go
theorem jq {P : Program} {c : PC} {Q : Exit -> St -> Prop} {st st' : St} (h : je st st') (h2 : pw P c Q st') : pw P (.wk c) Q st:=⟨st',h,h2⟩
end Go.Pl
namespace Go.Pl
open Go
section
variable {P : Program}
@[go_sem ↓] theorem MH (d z : Bool) (o : Option Tmp) (t : TypeId) (x ix : Operand) (ok : Bool) (K : St -> Prop) (st : St) : du P d ⟨o,.lookup t x ix ok,none,z⟩ K st = p6 (kS P st.bx t (st.get x) (st.get ix) ok) o K st:=by cases z <;> rfl
@[go_sem ↓] theorem MI (d z : Bool) (o : Option Tmp) (t : TypeId) (x ix : Operand) (ok : Bool) (s : Nat) (w : Bool) (K : St -> Prop) (st : St) : du P d ⟨o,.lookup t x ix ok,some (s,w),z⟩ K st = dL (st.sl s) w (kS P st.bx t (st.get x) (st.get ix) ok) o K st:=by cases z <;> rfl
@[go_sem ↓] theorem KL (d z : Bool) (o : Option Tmp) (t : TypeId) (x : Operand) (K : St -> Prop) (st : St) : du P d ⟨o,.makeInterface t x,none,z⟩ K st = p6 (ir P t (st.get x)) o K st:=by cases z <;> rfl
@[go_sem ↓] theorem MJ (d z : Bool) (o : Option Tmp) (t a : TypeId) (x : Operand) (ok : Bool) (K : St -> Prop) (st : St) : du P d ⟨o,.typeAssert x t a ok,none,z⟩ K st = p6 (mR P (st.get x) a ok) o K st:=by cases z <;> rfl
@[go_sem ↓] theorem IA (d z : Bool) (o : Option Tmp) (x : Operand) (K : St -> Prop) (st : St) : du P d ⟨o,.nilCheck x,none,z⟩ K st = p6 (kA (st.get x)) o K st:=by cases z <;> rfl
@[go_sem ↓] theorem ID (d z : Bool) (o : Option Tmp) (x : Operand) (s : Nat) (w : Bool) (K : St -> Prop) (st : St) : du P d ⟨o,.nilCheck x,some (s,w),z⟩ K st = dL (st.sl s) w (kA (st.get x)) o K st:=by cases z <;> rfl
def Fu (o : Option Tmp) (K : St -> Prop) (st : St) : Prop:=aJ st o /\ bj st.bx /\ ∀ b,st.bx b = none -> K ((st.box b (some (.map []))).put o (.mp b))
@[go_sem ↓] theorem KM (d z : Bool) (o : Option Tmp) (t : TypeId) (K : St -> Prop) (st : St) : du P d ⟨o,.makeMap t none,none,z⟩ K st = Fu o K st:=by cases z <;> rfl
@[go_sem] theorem MK (t : Nat) (K : St -> Prop) (n : Nat) (l : List (Nat × V)) (bx : aa) : Fu (some t) K ⟨n,bR l,bx⟩ = (t < n /\ bj bx /\ ∀ b,bx b = none -> K ⟨n,bR ((t,.mp b) :: l),aA bx b (some (.map []))⟩):=by
 simp only [Fu,aJ,tj,jF]
@[go_sem ↓] theorem HM (d z : Bool) (o : Option Tmp) (t : TypeId) (m k x : Operand) (K : St -> Prop) (st : St) : du P d ⟨o,.mapUpdate t m k x,none,z⟩ K st = (o = none /\ oZ P st t (st.get m) (st.get k) (st.get x) K):=by cases z <;> rfl
@[go_sem ↓] theorem ML (d z : Bool) (o : Option Tmp) (t : TypeId) (m k x : Operand) (K : St -> Prop) (st : St) : du P d ⟨o,.insert t m k x,none,z⟩ K st = (o = none /\ oZ P st t (st.get m) (st.get k) (st.get x) K):=by cases z <;> rfl
@[go_sem ↓] theorem MM (d z : Bool) (o : Option Tmp) (t t2 : TypeId) (m k : Operand) (K : St -> Prop) (st : St) : du P d ⟨o,.call { callee:=.builtin .delete,args:=#[m,k],argTypes:=#[t,t2] },none,z⟩ K st = (o = none /\ sK P st t (st.get m) (st.get k) K):=by cases z <;> rfl
@[go_sem ↓] theorem IE (d z : Bool) (o : Option Tmp) (t : TypeId) (m k : Operand) (K : St -> Prop) (st : St) : du P d ⟨o,.mapEntry t m k,none,z⟩ K st = pV P st t (st.get m) (st.get k) o K:=by cases z <;> rfl
@[go_sem ↓] theorem Fv (d z : Bool) (o : Option Tmp) (t : TypeId) (m s x : Operand) (K : St -> Prop) (st : St) : du P d ⟨o,.entryStore t m s x,none,z⟩ K st = (o = none /\ jc st (st.get m) (st.get s) (st.get x) K):=by cases z <;> rfl
@[go_sem ↓] theorem Q1 (d z : Bool) (o : Option Tmp) (t : TypeId) (x : Operand) (K : St -> Prop) (st : St) : du P d ⟨o,.range t x,none,z⟩ K st = (d = false /\ pW P st t (st.get x) o K):=by cases z <;> rfl
@[go_sem ↓] theorem Td (d z : Bool) (o : Option Tmp) (x : Operand) (K : St -> Prop) (st : St) : du P d ⟨o,.next x false,none,z⟩ K st = (d = false /\ uP st (st.get x) o K):=by cases z <;> rfl
@[go_sem ↓] theorem Q2 (d z : Bool) (o : Option Tmp) (x : Operand) (K : St -> Prop) (st : St) : du P d ⟨o,.entry x,none,z⟩ K st = (d = false /\ pX st (st.get x) o K):=by cases z <;> rfl
def IF (P : Program) (r : V) (name : String) (args : List V) (o : Option Tmp) (K : St -> Prop) (st : St) : Prop :=
 match r with
 | .iface t v=>match pa P t name with
   | some g=>iV args /\ aJ st o /\ mq P false g (v :: fT args) o K st
   | none=>False
 | _=>False
theorem zc {r : V} {name : String} {st : St} {args : List Operand} {o : Option Tmp} {K : St -> Prop} : uj P st o r name (args.map st.get) K = IF P r name (n9 st args) o K st:=by
 unfold uj IF
 rw [dy]
 cases r with
 | iface t v =>
   dsimp only
   cases hm : pa P t name with
   | none=>rfl
   | some g =>
     dsimp only
     rw [ee]
     have : iV (args.map st.get) = ∀ x,x ∈ args.map st.get -> x.ax = true:=propext (eW _)
     rw [this]
     rfl
 | _=>rfl
@[go_sem ↓] theorem MN (z : Bool) (o : Option Tmp) (r : Operand) (name : String) (args : Array Operand) (ts : Array TypeId) (K : St -> Prop) (st : St) : du P false ⟨o,.call { callee:=.invoke r name,args:=args,argTypes:=ts },none,z⟩ K st = IF P (st.get r) name (n9 st args.toList) o K st:=by
 rw [<- zc]
 have : du P false ⟨o,.call { callee:=.invoke r name,args:=args,argTypes:=ts },none,z⟩ K st = (false = false /\ uj P st o (st.get r) name (args.toList.map st.get) K):=by cases z <;> rfl
 rw [this]
 simp
def Te (P : Program) (wb : Bool) (r : V) (name : String) (args : List V) (o : Option Tmp) (K : St -> Prop) (st : St) : Prop :=
 (wb = true -> IF P r name args o K st) /\ (wb = false -> aJ st o /\ K (st.put o (.dead .cX)))
def Tf (P : Program) (v : V) (w : Bool) (r : V) (name : String) (args : List V) (o : Option Tmp) (K : St -> Prop) (st : St) : Prop :=
 match v.strip with
 | .bool c=>Te P (v.ax && (c == w)) r name args o K st
 | _=>False
@[go_sem ↓] theorem MO (z : Bool) (o : Option Tmp) (r : Operand) (name : String) (args : Array Operand) (ts : Array TypeId) (s : Nat) (w : Bool) (K : St -> Prop) (st : St) : du P false ⟨o,.call { callee:=.invoke r name,args:=args,argTypes:=ts },some (s,w),z⟩ K st = Tf P (st.sl s) w (st.get r) name (n9 st args.toList) o K st:=by
 have e0 : du P false ⟨o,.call { callee:=.invoke r name,args:=args,argTypes:=ts },some (s,w),z⟩ K st = eZ P false ⟨o,.call { callee:=.invoke r name,args:=args,argTypes:=ts },some (s,w),false⟩ K st:=by cases z <;> rfl
 rw [e0]
 unfold eZ Tf
 simp only [yieldOf]
 cases hs : (st.sl s).strip with
 | bool c =>
   simp only [bU,Bool.false_eq_true,if_false]
   have e1 : ∀ wb,dX P false ⟨o,.call { callee:=.invoke r name,args:=args,argTypes:=ts },some (s,w),false⟩ wb K st = ((wb = true -> aH P false (bO.oper ⟨o,.call { callee:=.invoke r name,args:=args,argTypes:=ts },some (s,w),false⟩) K st) /\ (wb = false -> aJ st o /\ K (st.put o (.dead .cX)))):=fun wb=>rfl
   have e2 : aH P false (bO.oper ⟨o,.call { callee:=.invoke r name,args:=args,argTypes:=ts },some (s,w),false⟩) K st = (false = false /\ uj P st o (st.get r) name (args.toList.map st.get) K):=rfl
   rw [e1]
   unfold p3 Te
   rw [e2,zc]
   simp
 | _=>rfl
attribute [go_sem] kS q0 ir mR kA uK oa oZ sK vV vW pW uP pX pV jc kn
end
end Go.Pl
namespace Go.Pl
open Go
abbrev oq (d : Tmp) (o : Op) : bO:=⟨some d,o,none,false⟩
abbrev oe (o : Op) : bO:=⟨none,o,none,false⟩
abbrev og (d : Tmp) (o : Op) (s : Tmp) : bO:=⟨some d,o,some (s,true),false⟩
abbrev oh (d : Tmp) (o : Op) (s : Tmp) : bO:=⟨some d,o,some (s,false),false⟩
abbrev t0 : Operand:=.tmp 0
abbrev t1 : Operand:=.tmp 1
abbrev t2 : Operand:=.tmp 2
abbrev t3 : Operand:=.tmp 3
abbrev t4 : Operand:=.tmp 4
abbrev t5 : Operand:=.tmp 5
abbrev t6 : Operand:=.tmp 6
abbrev t7 : Operand:=.tmp 7
abbrev t8 : Operand:=.tmp 8
abbrev t9 : Operand:=.tmp 9
abbrev t10 : Operand:=.tmp 10
abbrev t11 : Operand:=.tmp 11
abbrev t12 : Operand:=.tmp 12
abbrev t13 : Operand:=.tmp 13
abbrev t14 : Operand:=.tmp 14
abbrev t15 : Operand:=.tmp 15
abbrev t16 : Operand:=.tmp 16
abbrev t17 : Operand:=.tmp 17
abbrev t18 : Operand:=.tmp 18
abbrev t19 : Operand:=.tmp 19
abbrev t20 : Operand:=.tmp 20
abbrev t21 : Operand:=.tmp 21
abbrev t22 : Operand:=.tmp 22
abbrev t23 : Operand:=.tmp 23
abbrev t24 : Operand:=.tmp 24
abbrev t25 : Operand:=.tmp 25
abbrev t26 : Operand:=.tmp 26
abbrev t27 : Operand:=.tmp 27
abbrev t28 : Operand:=.tmp 28
abbrev t29 : Operand:=.tmp 29
abbrev t30 : Operand:=.tmp 30
abbrev t31 : Operand:=.tmp 31
abbrev t32 : Operand:=.tmp 32
abbrev t33 : Operand:=.tmp 33
abbrev t34 : Operand:=.tmp 34
abbrev t35 : Operand:=.tmp 35
abbrev t36 : Operand:=.tmp 36
abbrev t37 : Operand:=.tmp 37
abbrev t38 : Operand:=.tmp 38
abbrev t39 : Operand:=.tmp 39
abbrev t40 : Operand:=.tmp 40
abbrev t41 : Operand:=.tmp 41
abbrev t42 : Operand:=.tmp 42
abbrev t43 : Operand:=.tmp 43
abbrev t44 : Operand:=.tmp 44
abbrev t45 : Operand:=.tmp 45
abbrev t46 : Operand:=.tmp 46
abbrev t47 : Operand:=.tmp 47
abbrev t48 : Operand:=.tmp 48
abbrev t49 : Operand:=.tmp 49
abbrev t50 : Operand:=.tmp 50
abbrev t51 : Operand:=.tmp 51
abbrev t52 : Operand:=.tmp 52
abbrev t53 : Operand:=.tmp 53
abbrev t54 : Operand:=.tmp 54
abbrev t55 : Operand:=.tmp 55
abbrev t56 : Operand:=.tmp 56
abbrev t57 : Operand:=.tmp 57
abbrev t58 : Operand:=.tmp 58
abbrev t59 : Operand:=.tmp 59
abbrev t60 : Operand:=.tmp 60
abbrev t61 : Operand:=.tmp 61
abbrev t62 : Operand:=.tmp 62
abbrev t63 : Operand:=.tmp 63
abbrev t64 : Operand:=.tmp 64
abbrev t65 : Operand:=.tmp 65
abbrev t66 : Operand:=.tmp 66
abbrev t67 : Operand:=.tmp 67
abbrev t68 : Operand:=.tmp 68
abbrev t69 : Operand:=.tmp 69
abbrev t70 : Operand:=.tmp 70
abbrev t71 : Operand:=.tmp 71
abbrev t72 : Operand:=.tmp 72
abbrev t73 : Operand:=.tmp 73
abbrev t74 : Operand:=.tmp 74
abbrev t75 : Operand:=.tmp 75
abbrev t76 : Operand:=.tmp 76
abbrev t77 : Operand:=.tmp 77
abbrev t78 : Operand:=.tmp 78
abbrev t79 : Operand:=.tmp 79
abbrev t80 : Operand:=.tmp 80
abbrev t81 : Operand:=.tmp 81
abbrev t82 : Operand:=.tmp 82
abbrev t83 : Operand:=.tmp 83
abbrev t84 : Operand:=.tmp 84
abbrev t85 : Operand:=.tmp 85
abbrev t86 : Operand:=.tmp 86
abbrev t87 : Operand:=.tmp 87
abbrev t88 : Operand:=.tmp 88
abbrev t89 : Operand:=.tmp 89
abbrev t90 : Operand:=.tmp 90
abbrev t91 : Operand:=.tmp 91
abbrev t92 : Operand:=.tmp 92
abbrev t93 : Operand:=.tmp 93
abbrev t94 : Operand:=.tmp 94
abbrev t95 : Operand:=.tmp 95
abbrev t96 : Operand:=.tmp 96
abbrev t97 : Operand:=.tmp 97
abbrev t98 : Operand:=.tmp 98
abbrev t99 : Operand:=.tmp 99
abbrev t100 : Operand:=.tmp 100
abbrev t101 : Operand:=.tmp 101
abbrev t102 : Operand:=.tmp 102
abbrev t103 : Operand:=.tmp 103
abbrev t104 : Operand:=.tmp 104
abbrev t105 : Operand:=.tmp 105
abbrev t106 : Operand:=.tmp 106
abbrev t107 : Operand:=.tmp 107
abbrev t108 : Operand:=.tmp 108
abbrev t109 : Operand:=.tmp 109
abbrev t110 : Operand:=.tmp 110
abbrev t111 : Operand:=.tmp 111
abbrev t112 : Operand:=.tmp 112
abbrev t113 : Operand:=.tmp 113
abbrev t114 : Operand:=.tmp 114
abbrev t115 : Operand:=.tmp 115
abbrev t116 : Operand:=.tmp 116
abbrev t117 : Operand:=.tmp 117
abbrev t118 : Operand:=.tmp 118
abbrev t119 : Operand:=.tmp 119
abbrev t120 : Operand:=.tmp 120
abbrev t121 : Operand:=.tmp 121
abbrev t122 : Operand:=.tmp 122
abbrev t123 : Operand:=.tmp 123
abbrev t124 : Operand:=.tmp 124
abbrev t125 : Operand:=.tmp 125
abbrev t126 : Operand:=.tmp 126
abbrev t127 : Operand:=.tmp 127
abbrev t128 : Operand:=.tmp 128
abbrev t129 : Operand:=.tmp 129
abbrev t130 : Operand:=.tmp 130
abbrev t131 : Operand:=.tmp 131
abbrev t132 : Operand:=.tmp 132
abbrev t133 : Operand:=.tmp 133
abbrev t134 : Operand:=.tmp 134
abbrev t135 : Operand:=.tmp 135
abbrev t136 : Operand:=.tmp 136
abbrev t137 : Operand:=.tmp 137
abbrev t138 : Operand:=.tmp 138
abbrev t139 : Operand:=.tmp 139
abbrev t140 : Operand:=.tmp 140
abbrev t141 : Operand:=.tmp 141
abbrev t142 : Operand:=.tmp 142
abbrev t143 : Operand:=.tmp 143
abbrev t144 : Operand:=.tmp 144
abbrev t145 : Operand:=.tmp 145
abbrev t146 : Operand:=.tmp 146
abbrev t147 : Operand:=.tmp 147
abbrev t148 : Operand:=.tmp 148
abbrev t152 : Operand:=.tmp 152
abbrev t154 : Operand:=.tmp 154
abbrev ci (n : Int) : Operand:=.const (.int .i64 n)
abbrev cT : Operand:=.const (.bool true)
abbrev cF : Operand:=.const (.bool false)
abbrev cf (k : FuncId) (a : Array Operand) (t : Array TypeId) : Op:=.call ⟨.value (.func k),a,t⟩
abbrev cl (a : Operand) (t : TypeId) : Op:=.call ⟨.builtin .len,#[a],#[t]⟩
abbrev fa (t : TypeId) (x : Operand) (k : Nat) : Op:=.fieldAddr t x k
abbrev mv (x : Operand) : Op:=.move x
abbrev sn (x : Operand) : Op:=.assign x
abbrev nk (x : Operand) : Op:=.nilCheck x
abbrev ld (t : TypeId) (x : Operand) : Op:=.load t x
abbrev sr (l : List bO) (k : List Nat) (p : PC) : PC:=.seq (.bn false l k) p
abbrev ob (d : Tmp) (t : TypeId) (x : Operand) : bO:=⟨some d,.box t x,none,true⟩
abbrev rt (d : Tmp) (x : Operand) : PC:=sr [oq d (sn x)] [d] (.ret)
def sq (n : Tmp) : List Op -> List bO -> List bO
 | [],r=>r
 | o :: l,r=>oq n o :: sq (n + 1) l r
@[go_sem] theorem sq_nil (n : Tmp) (r : List bO) : sq n [] r = r:=rfl
@[go_sem] theorem sq_cons (n : Tmp) (o : Op) (l : List Op) (r : List bO) : sq n (o :: l) r = oq n o :: sq (n + 1) l r:=rfl
def wS : Code -> Nat -> List Code
 | .region id ops d,n=>if id = n then [.region id ops d] else []
 | .seq a b,n=>wS a n ++ wS b n
 | .cond _ a b,n=>wS a n ++ wS b n
 | .block _ c,n=>wS c n
 | .loop c,n=>wS c n
 | .rangeFunc _ _ a b,n=>wS a n ++ wS b n
 | _,_=>[]
def dz (f : Func) (n : Nat) : Code :=
 match f.body with
 | some c=>match wS c n with
   | [r]=>r
   | _=>.skip
 | none=>.skip
inductive Fits : Code -> PC -> Prop
 | base {c : Code} {pc : PC} (h : compile c = erase pc) : Fits c pc
 | raw {c c' : Code} (h : c = c') : Fits c (.raw c')
 | seq {a b : Code} {x y : PC} (h1 : Fits a x) (h2 : Fits b y) : Fits (.seq a b) (.seq x y)
 | cond {o : Operand} {a b : Code} {x y : PC} (h1 : Fits a x) (h2 : Fits b y) : Fits (.cond o a b) (.cond o x y)
 | block {id : Nat} {c : Code} {x : PC} (h : Fits c x) : Fits (.block id c) (.block id x)
 | wk {c : Code} {x : PC} (h : Fits c x) : Fits c (.wk x)
 | fz {c : Code} {t : Nat} {x : PC} (h : Fits c x) : Fits c (.fz t x)
section
variable {P : Program}
theorem AM (hm : P.follows .mixedOrders = true) {c : Code} {pc : PC} (hf : Fits c pc) : ∀ (M : dP) (Q : Exit -> St -> Prop) (st : St),pw P pc Q st -> qb P M none c Q st:=by
 induction hf with
 | base h=>exact fun M Q st hp=>eC hm _ _ M Q st (.inl rfl) h hp
 | raw h =>
   subst h
   exact fun M Q st hp=>hp M none
 | @seq a b x y h1 h2 ih1 ih2 =>
   intro M Q st hp n β ac w hr
   refine wpIn_seq (wpIn_mono (ih1 M _ st hp n β ac w hr) ?_)
   rintro e a' w' ⟨M',st',β',hq,hx,cJ,ht⟩
   cases e with
   | normal =>
     refine wpIn_mono (ih2 M' Q st' hq n β' a' w' cJ) ?_
     rintro e2 a2 w2 ⟨M2,st2,β2,LH,di,rR,yR⟩
     exact ⟨M2,st2,β2,LH,hx.trans di ht.size,rR,ht.trans yR⟩
   | _=>exact ⟨M',st',β',hq,hx,cJ,ht⟩
 | @cond o a b x y h1 h2 ih1 ih2 =>
   intro M Q st h n β ac w hr
   unfold pw at h
   split at h
   ·rename_i t ht
    obtain ⟨hl,h3,h4⟩:=h
    have bN:=hr.get o
    rw [aF hl ht] at bN
    refine wpIn_cond_split (t:=t) bN.fy (fun ht=>?_) (fun ht=>?_)
    ·exact ih1 M Q st (h3 ht) n β ac w hr
    ·exact ih2 M Q st (h4 ht) n β ac w hr
   ·exact h.elim
 | block h ih =>
   intro M Q st hp n β a w hr
   refine wpIn_block (wpIn_mono (ih M _ st hp n β a w hr) ?_)
   rintro e a' w' ⟨M',st',β',hq,hx,cJ,ht⟩
   cases e with
   | exit id' =>
     simp only [oz] at hq
     simp only [Exit.inBlock]
     split at hq
     ·rename_i he; rw [if_pos he]; exact ⟨M',st',β',hq,hx,cJ,ht⟩
     ·rename_i he; rw [if_neg he]; exact ⟨M',st',β',hq,hx,cJ,ht⟩
   | _=>exact ⟨M',st',β',hq,hx,cJ,ht⟩
 | wk h ih =>
   rintro M Q st ⟨st',lI,hp⟩ n β a w hr
   refine wpIn_mono (ih M Q st' hp n β a w (lI.rs hr)) ?_
   rintro e a' w' ⟨M',st2,β',hq,hx,cJ,ht⟩
   exact ⟨M',st2,β',hq,hx,cJ,lI.bx.tr.trans ht⟩
 | @fz c t x hf ih =>
   intro M Q st h n β a w hr
   unfold pw at h
   split at h
   ·rename_i b sz i o hsl
    split at h
    ·rename_i ty eT es oP
     obtain ⟨rfl,hi,h⟩:=h
     have lI : je st ⟨st.n,aA st.sl t (.ep (es.getD i .cX) o),aA st.bx b none⟩:=by
      refine ⟨Nat.le_refl _,fun s=>?_,fun b'=>?_⟩
      ·by_cases e : s = t
       ·subst e
        refine .inr (.inr (.inl ⟨1,?_⟩))
        simp only [af,hsl,dA,oP]
        rw [if_pos ⟨trivial,hi⟩]
       ·exact .inr (.inl (ae _ _ e))
      ·by_cases e : b' = b
       ·subst e; exact .inl (af _ _ _)
       ·exact .inr (.inl (ae _ _ e))
     refine wpIn_mono (ih M Q _ h n β a w (lI.rs hr)) ?_
     rintro e a' w' ⟨M',st2,β',hq,hx,cJ,ht⟩
     exact ⟨M',st2,β',hq,hx,cJ,lI.bx.tr.trans ht⟩
    ·exact h.elim
   ·exact h.elim
theorem rV (hm : P.follows .mixedOrders = true) {f : FuncId} {fn : Func} {pc : PC} {n : Nat} {rs : List ResultVar} (hf : P.funcs[f]? = some fn) (hb : ∃ c,fn.body = some c /\ Fits c pc) (hent : ∀ vs w,(callFunc f vs).run P w = .ok (.enter f vs) w) (hn : fn.ntmps = n) (hrs : fn.results.toList = rs)
 {args : List V} {bx : aa} {Kc : V -> aa -> Prop} (h : bj bx -> pw P pc (fun e st=>(e = .normal \/ e = .ret) /\ zZ P rs Kc st) (bW n args bx)) : aw P f args bx Kc:=by
 obtain ⟨c,h1,h2⟩:=hb
 subst hn hrs
 exact lC hf h1 hent fun M n β a w hr=>AM hm h2 M _ _ (h hr.ok.RE) n β a w hr
def oA : Code -> Array Oper
 | .region _ ops _=>ops
 | _=>#[]
def qJ (c : Code) (l : List bO) : Prop :=
 match c with
 | .region _ ops true=>A6 ops = true /\ l.map bO.jD = ops.toList.map (aB ops) /\ ((yK ops).all fun p=>jh l p.1 || jh l p.2) = true /\ ((D6 ops).all fun p=>!(lj l p.1 || lj l p.2) || jh l p.1 || jh l p.2) = true
 | _=>False
theorem mZ (hm : P.follows .mixedOrders = true) {c : Code} {l : List bO} (ks : List Nat) (hc : qJ c l) {Q : Exit -> St -> Prop} {st : St} (h : lh P (fun s=>Q .normal (s.ch ks)) l st) : pw P (.raw c) Q st:=by
 unfold qJ at hc
 split at hc
 ·rename_i id ops
  obtain ⟨hD,iJ,h1,h2⟩:=hc
  intro M ro n β a w hr
  refine wpIn_mono (vc (M:=M) (ro:=ro) (Q:=fun e s=>e = .normal -> Q .normal (s.ch ks)) (id:=id) hm hD iJ h1 h2 (by
   have e : (fun s : St=>Q .normal (s.ch ks)) = (fun s : St=>Exit.normal = Exit.normal -> Q .normal (s.ch ks)):=by
    funext s; exact propext ⟨fun h _=>h,fun h=>h rfl⟩
   rw [e] at h
   exact h) n β a w hr) ?_
  rintro e a' w' ⟨M',st',β',⟨rfl,hq⟩,hx,cJ,ht⟩
  exact ⟨M',_,β',hq rfl,hx,(mo st' ks).rs cJ,ht⟩
 ·exact hc.elim
end
end Go.Pl
namespace Go.Pl
open Go
theorem IG {cs ds : List V} (hl : cs.length = ds.length) (h : ∀ (i : Nat) (c d : V),cs[i]? = some c -> ds[i]? = some d -> Wk c d) : Wk (.agg cs) (.agg ds):=by
 intro β w F u hr
 cases hr with
 | agg cs us hs h1 hr =>
   refine .agg ds us (hs.trans hl) (fun i hi=>h1 i (by omega)) fun i d hd=>?_
   have hi : i < cs.length:=by have:=(List.getElem?_eq_some_iff.1 hd).1; omega
   have hc:=List.getElem?_eq_getElem hi
   exact h i _ d hc hd _ _ _ _ (hr i _ hc)
end Go.Pl
