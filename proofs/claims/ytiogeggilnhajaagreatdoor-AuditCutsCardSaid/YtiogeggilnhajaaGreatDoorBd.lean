/- Texts of the proof, put together: PlU, PlV, PlW, PlAa, PlUn, PlUm, PlRw, PlIt. -/
import Derived.Test.YtiogeggilnhajaaGreatDoorBc
import Derived.Shelf.Abstract
import Derived.IntWalk
import Derived.Test.YtiogeggilnhajaaGreatDoorBb
set_option linter.unusedSimpArgs false
set_option linter.unusedVariables false
namespace Go.Pl
open Go
section
variable {P:Program}
def tK (Q:Exit -> St -> Prop) (ks:List Nat) (s:St):Prop:=Q .normal (s.cw ks)
def F6 (P:Program) (a b:PC) (Q:Exit -> St -> Prop) (g:V) (st:St):Prop :=
 match g.strip with
 | .bool x=>g.az = true /\ (x = true -> pw P a Q st) /\ (x = false -> pw P b Q st)
 | _=>False
def fV (P:Program) (rs:List ResultVar) (Kc:V -> aa -> Prop) (e:Exit) (st:St):Prop:=(e = .normal \/ e = .ret) /\ Aw P rs Kc st
def Sy (i j:Nat) (Q:Exit -> St -> Prop) (st:St):Prop:=if j = i then Q .normal st else Q (.exit j) st
@[go_sem ↓] theorem XR {Q:Exit -> St -> Prop} {st:St}:pw P .skip Q st = Q .normal st:=rfl
@[go_sem ↓] theorem aao {Q:Exit -> St -> Prop} {st:St}:pw P .ret Q st = Q .ret st:=rfl
@[go_sem ↓] theorem XS {i:Nat} {Q:Exit -> St -> Prop} {st:St}:pw P (.exit i) Q st = Q (.exit i) st:=rfl
@[go_sem ↓] theorem aap {a b:PC} {Q:Exit -> St -> Prop} {st:St}:pw P (.seq a b) Q st = pw P a (jy (pw P b Q) Q) st:=rfl
@[go_sem ↓] theorem Sz {i:Nat} {c:PC} {Q:Exit -> St -> Prop} {st:St}:pw P (.block i c) Q st = pw P c (oP i Q) st:=rfl
@[go_sem ↓] theorem aaq {d:Bool} {l:List bS} {ks:List Nat} {Q:Exit -> St -> Prop} {st:St}:pw P (.bq d l ks) Q st = xo P d (tK Q ks) l st:=rfl
@[go_sem ↓] theorem S0 {d:Bool} {K:St -> Prop} {st:St}:xo P d K [] st = K st:=rfl
@[go_sem ↓] theorem PZ {d:Bool} {K:St -> Prop} {o:bS} {l:List bS} {st:St}:xo P d K (o :: l) st = dB P d o (xo P d K l) st:=rfl
@[go_sem ↓] theorem XT {c:Operand} {a b:PC} {Q:Exit -> St -> Prop} {st:St}:pw P (.cond c a b) Q st = F6 P a b Q (st.get c) st:=rfl
def XU (P:Program) (t:Nat) (c:PC) (Q:Exit -> St -> Prop) (st:St) (b sz i o:Nat) (r:Option bF):Prop :=
 match r with
 | some (.row _ eU es)=>sz = eU /\ i < es.length /\ pw P c Q ⟨st.n,aB st.sl t (.ep (es.getD i .cU) o),aB st.bx b none⟩
 | _=>False
def fzV (P:Program) (t:Nat) (c:PC) (Q:Exit -> St -> Prop) (st:St) (v:V):Prop :=
 match v with
 | .ptr b sz i o=>XU P t c Q st b sz i o (st.bx b)
 | _=>False
@[go_sem ↓] theorem aer {t:Nat} {c:PC} {Q:Exit -> St -> Prop} {st:St}:pw P (.fz t c) Q st = fzV P t c Q st (st.sl t):=rfl
@[go_sem] theorem XV {t:Nat} {c:PC} {Q:Exit -> St -> Prop} {st:St} {b sz i o:Nat}:fzV P t c Q st (.ptr b sz i o) = XU P t c Q st b sz i o (st.bx b):=rfl
@[go_sem] theorem MC {a b:PC} {Q:Exit -> St -> Prop} {x:Bool} {st:St}:F6 P a b Q (.bool x) st = ((x = true -> pw P a Q st) /\ (x = false -> pw P b Q st)):=by simp [F6,V.strip,V.az]
@[go_sem ↓] theorem IY {n:St -> Prop} {Q:Exit -> St -> Prop} {st:St}:jy n Q .normal st = n st:=rfl
@[go_sem ↓] theorem Qa {n:St -> Prop} {Q:Exit -> St -> Prop} {st:St}:jy n Q .ret st = Q .ret st:=rfl
@[go_sem ↓] theorem MD {i:Nat} {n:St -> Prop} {Q:Exit -> St -> Prop} {st:St}:jy n Q (.exit i) st = Q (.exit i) st:=rfl
@[go_sem ↓] theorem Il {i:Nat} {Q:Exit -> St -> Prop} {st:St}:oP i Q .normal st = Q .normal st:=rfl
@[go_sem ↓] theorem ME {i:Nat} {Q:Exit -> St -> Prop} {st:St}:oP i Q .ret st = Q .ret st:=rfl
@[go_sem ↓] theorem Lf {i j:Nat} {Q:Exit -> St -> Prop} {st:St}:oP i Q (.exit j) st = Sy i j Q st:=rfl
@[go_sem ↓ high] theorem S1 {i:Nat} {Q:Exit -> St -> Prop} {st:St}:Sy i i Q st = Q .normal st:=if_pos rfl
@[go_sem] theorem Lg {rs:List ResultVar} {Kc:V -> aa -> Prop} {st:St}:fV P rs Kc .normal st = Aw P rs Kc st:=by simp [fV]
@[go_sem] theorem S2 {rs:List ResultVar} {Kc:V -> aa -> Prop} {st:St}:fV P rs Kc .ret st = Aw P rs Kc st:=by simp [fV]
def Bf (l:List (Nat × V)):List Nat -> List (Nat × V)
 | []=>[]
 | k :: ks=>(k,bR l k) :: Bf l ks
def kpK (Q:Exit -> St -> Prop) (n:Nat) (bx:aa) (l:List (Nat × V)):Prop:=Q .normal ⟨n,bR l,bx⟩
theorem zr (l:List (Nat × V)):∀ ks,Bf l ks = ks.map fun k=>(k,bR l k)
 | []=>rfl
 | k :: ks=>by simp [Bf,zr l ks]
@[go_sem] theorem S3 (l:List (Nat × V)):Bf l [] = []:=rfl
@[go_sem] theorem Qb (l:List (Nat × V)) (k:Nat) (ks:List Nat):Bf l (k :: ks) = (k,bR l k) :: Bf l ks:=rfl
@[go_sem] theorem XW {Q:Exit -> St -> Prop} {ks:List Nat} {n:Nat} {l:List (Nat × V)} {bx:aa}:tK Q ks ⟨n,bR l,bx⟩ = kpK Q n bx (Bf l ks):=by
 simp only [tK,kpK,St.cw,zr]
@[go_sem] theorem XX {Q:Exit -> St -> Prop} {n:Nat} {bx:aa} {l:List (Nat × V)}:kpK Q n bx l = Q .normal ⟨n,bR l,bx⟩:=rfl
@[go_sem] theorem Qc:V.cU.strip = .cU:=rfl
@[go_sem] theorem Qd (k:IntKind) (n:Int):(V.int k n).strip = .int k n:=rfl
@[go_sem] theorem tL (n:Bool):(V.bool n).strip = .bool n:=rfl
@[go_sem] theorem Qe (n:List UInt8):(V.str n).strip = .str n:=rfl
@[go_sem] theorem MF:V.aH.strip = .aH:=rfl
@[go_sem] theorem S4 (n:Nat) (es:List V):(V.sl n es).strip = .sl n es:=rfl
@[go_sem] theorem Qf (b n i o:Nat):(V.own b n i o).strip = .own b n i o:=rfl
@[go_sem] theorem Qg (b n i o:Nat):(V.ptr b n i o).strip = .ptr b n i o:=rfl
@[go_sem] theorem S5 (e:V) (o:Nat):(V.ep e o).strip = .ep e o:=rfl
@[go_sem] theorem MG:V.eD.strip = .eD:=rfl
@[go_sem] theorem zt (f:Fn) (l:List V):(V.fn f l).strip = .fn f l:=rfl
@[go_sem] theorem MH:V.gY.strip = .gY:=rfl
@[go_sem] theorem Lh (t:TypeId) (v:V):(V.iface t v).strip = .iface t v:=rfl
@[go_sem] theorem MI:V.ir.strip = .ir:=rfl
@[go_sem] theorem S6 (b:Nat):(V.mp b).strip = .mp b:=rfl
@[go_sem] theorem MJ:V.gE.strip = .gE:=rfl
@[go_sem] theorem Qh (l:List V):(V.agg l).strip = .agg l:=rfl
@[go_sem] theorem Qi (l:List V):(V.dc l).strip = .dc l:=rfl
@[go_sem] theorem Bg (v:V):(V.dead v).strip = v.strip:=rfl
@[go_sem] theorem S7:V.cU.az = true:=rfl
@[go_sem] theorem S8 (k:IntKind) (n:Int):(V.int k n).az = true:=rfl
@[go_sem] theorem vN (n:Bool):(V.bool n).az = true:=rfl
@[go_sem] theorem S9 (n:List UInt8):(V.str n).az = true:=rfl
@[go_sem] theorem Qj:V.aH.az = true:=rfl
@[go_sem] theorem XY (n:Nat) (es:List V):(V.sl n es).az = true:=rfl
@[go_sem] theorem SA (b n i o:Nat):(V.own b n i o).az = true:=rfl
@[go_sem] theorem SB (b n i o:Nat):(V.ptr b n i o).az = true:=rfl
@[go_sem] theorem XZ (e:V) (o:Nat):(V.ep e o).az = true:=rfl
@[go_sem] theorem Qk:V.eD.az = true:=rfl
@[go_sem] theorem IZ (f:Fn) (l:List V):(V.fn f l).az = true:=rfl
@[go_sem] theorem Ql:V.gY.az = true:=rfl
@[go_sem] theorem MK (t:TypeId) (v:V):(V.iface t v).az = true:=rfl
@[go_sem] theorem Qm:V.ir.az = true:=rfl
@[go_sem] theorem Ya (b:Nat):(V.mp b).az = true:=rfl
@[go_sem] theorem Qn:V.gE.az = true:=rfl
@[go_sem] theorem SC (l:List V):(V.agg l).az = true:=rfl
@[go_sem] theorem SD (l:List V):(V.dc l).az = true:=rfl
@[go_sem] theorem DS (v:V):(V.dead v).az = false:=rfl
@[go_sem] theorem Yb (v:V):eB true v = v:=rfl
@[go_sem] theorem Yc (v:V):eB false v = .dead v.strip:=rfl
@[go_sem high] theorem Yd (k:Nat) (v:V) (l:List (Nat × V)):bR ((k,v) :: l) k = v:=by simp [bR]
@[go_sem] theorem SE {k t:Nat} (v:V) (l:List (Nat × V)) (h:(t == k) = false):bR ((k,v) :: l) t = bR l t:=by
 have:t ≠ k:=by rintro rfl; simp at h
 simp [bR,this]
@[go_sem] theorem look_nil (t:Nat):bR [] t = .cU:=rfl
theorem je (l:List (Nat × V)) (t:Nat) (v:V):aB (bR l) t v = bR ((t,v) :: l):=by
 funext x; rfl
@[go_sem] theorem Ye {t:Nat} {c:PC} {Q:Exit -> St -> Prop} {n:Nat} {l:List (Nat × V)} {bx:aa} {b sz i o:Nat} {ty:TypeId} {eU:Nat} {es:List V} :
 XU P t c Q ⟨n,bR l,bx⟩ b sz i o (some (.row ty eU es)) = (sz = eU /\ i < es.length /\ pw P c Q ⟨n,bR ((t,.ep (es.getD i .cU) o) :: l),aB bx b none⟩):=by
 simp only [XU,je]
@[go_sem] theorem jU (n d:Nat) (l:List (Nat × V)) (bx:aa) (v:V):St.put ⟨n,bR l,bx⟩ (some d) v = ⟨n,bR ((d,v) :: l),bx⟩:=by
 simp only [St.put,je]
@[go_sem] theorem SF (st:St) (v:V):st.put none v = st:=rfl
@[go_sem] theorem Qo (n:Nat) (sl:Nat -> V) (bx:aa) (ks:List Nat):St.cw ⟨n,sl,bx⟩ ks = ⟨n,bR (ks.map fun k=>(k,sl k)),bx⟩:=rfl
@[go_sem] theorem Yf (n t:Nat) (sl:Nat -> V) (bx:aa):St.get ⟨n,sl,bx⟩ (.tmp t) = sl t:=rfl
@[go_sem] theorem aar (n t:Nat) (sl:Nat -> V) (bx:aa):gv P ⟨n,sl,bx⟩ (.tmp t) = sl t:=rfl
@[go_sem] theorem SG (v:Value) (st:St):gv P st (.const v) = ofValue v:=rfl
@[go_sem] theorem Qp (g:Nat) (st:St):gv P st (.global g) = Ma P g:=rfl
@[go_sem] theorem Yg (f:FuncId) (st:St):gv P st (.func f) = .fn (.func f) []:=rfl
@[go_sem] theorem Qq (v:Value) (st:St):st.get (.const v) = ofValue v:=rfl
@[go_sem] theorem SH (f:FuncId) (st:St):st.get (.func f) = .fn (.func f) []:=rfl
@[go_sem] theorem ML (g:Nat) (st:St):st.get (.global g) = .cU:=rfl
@[go_sem] theorem tM (n:Nat) (sl:Nat -> V) (bx:aa) (b:Nat) (x:Option bF):St.box ⟨n,sl,bx⟩ b x = ⟨n,sl,aB bx b x⟩:=rfl
theorem iK (k:Nat):jr k [] = bR []:=rfl
@[go_sem] theorem F7 (n:Nat) (bx:aa):bZ n [] bx = ⟨n,bR [],bx⟩:=rfl
@[go_sem] theorem F8 (n:Nat) (bx:aa) (a:V):bZ n [a] bx = ⟨n,bR [(0,a)],bx⟩:=by
 simp only [bZ,jr,iK]; rw [show (fun _:Nat=>V.cU) = bR [] from rfl]; simp only [je]
@[go_sem] theorem kX (n:Nat) (bx:aa) (a b:V):bZ n [a,b] bx = ⟨n,bR [(0,a),(1,b)],bx⟩:=by
 simp only [bZ,jr,iK]; rw [show (fun _:Nat=>V.cU) = bR [] from rfl]; simp only [je,Nat.zero_add]
@[go_sem] theorem zu (n:Nat) (bx:aa) (a b c:V):bZ n [a,b,c] bx = ⟨n,bR [(0,a),(1,b),(2,c)],bx⟩:=by
 simp only [bZ,jr,iK]; rw [show (fun _:Nat=>V.cU) = bR [] from rfl]; simp only [je,Nat.zero_add,Nat.reduceAdd]
@[go_sem] theorem F9 (n:Nat) (bx:aa) (a b c d:V):bZ n [a,b,c,d] bx = ⟨n,bR [(0,a),(1,b),(2,c),(3,d)],bx⟩:=by
 simp only [bZ,jr,iK]; rw [show (fun _:Nat=>V.cU) = bR [] from rfl]; simp only [je,Nat.zero_add,Nat.reduceAdd]
@[go_sem] theorem FA (n:Nat) (bx:aa) (a b c d e:V):bZ n [a,b,c,d,e] bx = ⟨n,bR [(0,a),(1,b),(2,c),(3,d),(4,e)],bx⟩:=by
 simp only [bZ,jr,iK]; rw [show (fun _:Nat=>V.cU) = bR [] from rfl]; simp only [je,Nat.zero_add,Nat.reduceAdd]
@[go_sem] theorem SI (n:Nat) (bx:aa) (a b c d e f:V):bZ n [a,b,c,d,e,f] bx = ⟨n,bR [(0,a),(1,b),(2,c),(3,d),(4,e),(5,f)],bx⟩:=by
 simp only [bZ,jr,iK]; rw [show (fun _:Nat=>V.cU) = bR [] from rfl]; simp only [je,Nat.zero_add,Nat.reduceAdd]
theorem ak {n:Nat} {sl:Nat -> V} {bx:aa} {l:List (Nat × V)} (h:∀ p,p ∈ l -> sl p.1 = p.2):jq ⟨n,sl,bx⟩ ⟨n,bR l,bx⟩:=by
 refine ⟨Nat.le_refl _,fun t=>?_,bX.refl _⟩
 induction l with
 | nil=>exact .inl rfl
 | cons p l ih =>
   obtain ⟨k,v⟩:=p
   simp only [bR]
   by_cases ht:t = k
   ·subst ht; rw [if_pos rfl]; exact .inr (.inl (h (t,v) (by simp)).symm)
   ·rw [if_neg ht]; exact ih (fun q hq=>h q (by simp [hq]))
def pS (e:Ev) (o:Option Tmp) (K:St -> Prop) (st:St):Prop:=e.1 /\ aL st o /\ K (st.put o e.2)
def Ja (wb:Bool) (e:Ev) (o:Option Tmp) (K:St -> Prop) (st:St):Prop:=(wb = true -> e.1) /\ aL st o /\ K (st.put o (eB wb e.2))
def dQ (g:V) (w:Bool) (e:Ev) (o:Option Tmp) (K:St -> Prop) (st:St):Prop :=
 match g.strip with
 | .bool c=>Ja (g.az && (c == w)) e o K st
 | _=>False
@[go_sem] theorem SJ (c:Prop) (v:V) (d:Nat) (K:St -> Prop) (n:Nat) (l:List (Nat × V)) (bx:aa):pS (c,v) (some d) K ⟨n,bR l,bx⟩ = (c /\ d < n /\ K ⟨n,bR ((d,v) :: l),bx⟩):=by
 simp only [pS,aL,jU]
@[go_sem] theorem SK (wb:Bool) (c:Prop) (v:V) (d:Nat) (K:St -> Prop) (n:Nat) (l:List (Nat × V)) (bx:aa):Ja wb (c,v) (some d) K ⟨n,bR l,bx⟩ = ((wb = true -> c) /\ d < n /\ K ⟨n,bR ((d,eB wb v) :: l),bx⟩):=by
 simp only [Ja,aL,jU]
@[go_sem] theorem SL (c:Bool) (e:Ev) (o:Option Tmp) (K:St -> Prop) (st:St):dQ (.bool c) true e o K st = Ja c e o K st:=by
 simp [dQ,V.strip,V.az]
@[go_sem] theorem Qr (c:Bool) (e:Ev) (o:Option Tmp) (K:St -> Prop) (st:St):dQ (.bool c) false e o K st = Ja (!c) e o K st:=by
 simp [dQ,V.strip,V.az]
@[go_sem] theorem Qs (b c w:Bool) (e:Ev) (o:Option Tmp) (K:St -> Prop) (st:St):dQ (eB b (.bool c)) w e o K st = Ja (b && (c == w)) e o K st:=by
 simp only [dQ,yU,yV,tL,vN,Bool.and_true]
@[go_sem ↓] theorem SM (d z:Bool) (o:Option Tmp) (x:Operand) (K:St -> Prop) (st:St):dB P d ⟨o,.move x,none,z⟩ K st = pS ((True,st.get x)) o K st:=by cases z <;> rfl
@[go_sem ↓] theorem SN (d z:Bool) (o:Option Tmp) (x:Operand) (s:Nat) (w:Bool) (K:St -> Prop) (st:St):dB P d ⟨o,.move x,some (s,w),z⟩ K st = dQ (st.sl s) w ((True,st.get x)) o K st:=by cases z <;> rfl
@[go_sem ↓] theorem MM (d z:Bool) (o:Option Tmp) (x:Operand) (K:St -> Prop) (st:St):dB P d ⟨o,.assign x,none,z⟩ K st = pS ((True,st.get x)) o K st:=by cases z <;> rfl
@[go_sem ↓] theorem MN (d z:Bool) (o:Option Tmp) (x:Operand) (s:Nat) (w:Bool) (K:St -> Prop) (st:St):dB P d ⟨o,.assign x,some (s,w),z⟩ K st = dQ (st.sl s) w ((True,st.get x)) o K st:=by cases z <;> rfl
@[go_sem ↓] theorem SO (d z:Bool) (o:Option Tmp) (c a b:Operand) (K:St -> Prop) (st:St):dB P d ⟨o,.pick c a b,none,z⟩ K st = pS (sX (st.get c) (st.get a) (st.get b)) o K st:=by cases z <;> rfl
@[go_sem ↓] theorem SP (d z:Bool) (o:Option Tmp) (c a b:Operand) (s:Nat) (w:Bool) (K:St -> Prop) (st:St):dB P d ⟨o,.pick c a b,some (s,w),z⟩ K st = dQ (st.sl s) w (sX (st.get c) (st.get a) (st.get b)) o K st:=by cases z <;> rfl
@[go_sem ↓] theorem SQ (d z:Bool) (o:Option Tmp) (t:TypeId) (a:Operand) (K:St -> Prop) (st:St):dB P d ⟨o,.load t a,none,z⟩ K st = pS (dM P st.bx t (gv P st a)) o K st:=by cases z <;> rfl
@[go_sem ↓] theorem SR (d z:Bool) (o:Option Tmp) (t:TypeId) (a:Operand) (s:Nat) (w:Bool) (K:St -> Prop) (st:St):dB P d ⟨o,.load t a,some (s,w),z⟩ K st = dQ (st.sl s) w (dM P st.bx t (gv P st a)) o K st:=by cases z <;> rfl
@[go_sem ↓] theorem Im (d z:Bool) (o:Option Tmp) (t:TypeId) (a:Operand) (f:Nat) (K:St -> Prop) (st:St):dB P d ⟨o,.fieldAddr t a f,none,z⟩ K st = pS (gF P t f (st.get a)) o K st:=by cases z <;> rfl
@[go_sem ↓] theorem Io (d z:Bool) (o:Option Tmp) (t:TypeId) (a:Operand) (f:Nat) (s:Nat) (w:Bool) (K:St -> Prop) (st:St):dB P d ⟨o,.fieldAddr t a f,some (s,w),z⟩ K st = dQ (st.sl s) w (gF P t f (st.get a)) o K st:=by cases z <;> rfl
@[go_sem ↓] theorem Ip (d z:Bool) (o:Option Tmp) (t:TypeId) (a i:Operand) (K:St -> Prop) (st:St):dB P d ⟨o,.indexAddr t a i,none,z⟩ K st = pS (gG P t (gv P st a) (st.get i)) o K st:=by cases z <;> rfl
@[go_sem ↓] theorem Iq (d z:Bool) (o:Option Tmp) (t:TypeId) (a i:Operand) (s:Nat) (w:Bool) (K:St -> Prop) (st:St):dB P d ⟨o,.indexAddr t a i,some (s,w),z⟩ K st = dQ (st.sl s) w (gG P t (gv P st a) (st.get i)) o K st:=by cases z <;> rfl
@[go_sem ↓] theorem Qt (d z:Bool) (o:Option Tmp) (t:TypeId) (a:Operand) (f:Nat) (K:St -> Prop) (st:St):dB P d ⟨o,.field t a f,none,z⟩ K st = pS (oG P t f (st.get a)) o K st:=by cases z <;> rfl
@[go_sem ↓] theorem Qu (d z:Bool) (o:Option Tmp) (t:TypeId) (a:Operand) (f:Nat) (s:Nat) (w:Bool) (K:St -> Prop) (st:St):dB P d ⟨o,.field t a f,some (s,w),z⟩ K st = dQ (st.sl s) w (oG P t f (st.get a)) o K st:=by cases z <;> rfl
@[go_sem ↓] theorem Qv (d z:Bool) (o:Option Tmp) (t:TypeId) (a i:Operand) (K:St -> Prop) (st:St):dB P d ⟨o,.index t a i,none,z⟩ K st = pS (oH P t (st.get a) (st.get i)) o K st:=by cases z <;> rfl
@[go_sem ↓] theorem Qw (d z:Bool) (o:Option Tmp) (t:TypeId) (a i:Operand) (s:Nat) (w:Bool) (K:St -> Prop) (st:St):dB P d ⟨o,.index t a i,some (s,w),z⟩ K st = dQ (st.sl s) w (oH P t (st.get a) (st.get i)) o K st:=by cases z <;> rfl
@[go_sem ↓] theorem Li (d z:Bool) (o:Option Tmp) (a:Operand) (i:Nat) (K:St -> Prop) (st:St):dB P d ⟨o,.extract a i,none,z⟩ K st = pS (jM i (st.get a)) o K st:=by cases z <;> rfl
@[go_sem ↓] theorem Lj (d z:Bool) (o:Option Tmp) (a:Operand) (i:Nat) (s:Nat) (w:Bool) (K:St -> Prop) (st:St):dB P d ⟨o,.extract a i,some (s,w),z⟩ K st = dQ (st.sl s) w (jM i (st.get a)) o K st:=by cases z <;> rfl
@[go_sem ↓] theorem Qx (d:Bool) (o:Option Tmp) (b:BinOp) (t:TypeId) (x y:Operand) (t':TypeId) (K:St -> Prop) (st:St):dB P d ⟨o,.binOp b t x y t',none,false⟩ K st = pS (A6 P b t (st.get x) (st.get y)) o K st:=rfl
@[go_sem ↓] theorem SU (o:Option Tmp) (b:BinOp) (t:TypeId) (x y:Operand) (t':TypeId) (K:St -> Prop) (st:St):dB P false ⟨o,.binOp b t x y t',none,true⟩ K st = tG (bC P t) b (st.get x) (st.get y) o K st:=by
 show (false = false /\ (none:Option (Tmp × Bool)) = none /\ _) = _
 simp only [true_and]
@[go_sem ↓] theorem Qy (d:Bool) (o:Option Tmp) (b:BinOp) (t:TypeId) (x y:Operand) (t':TypeId) (s:Nat) (w:Bool) (K:St -> Prop) (st:St):dB P d ⟨o,.binOp b t x y t',some (s,w),false⟩ K st = dQ (st.sl s) w (A6 P b t (st.get x) (st.get y)) o K st:=rfl
@[go_sem ↓] theorem SV (d z:Bool) (o:Option Tmp) (u:UnOp) (t:TypeId) (x:Operand) (K:St -> Prop) (st:St):dB P d ⟨o,.unOp u t x,none,z⟩ K st = pS (Mb u (st.get x)) o K st:=by cases z <;> rfl
@[go_sem ↓] theorem SW (d z:Bool) (o:Option Tmp) (u:UnOp) (t:TypeId) (x:Operand) (s:Nat) (w:Bool) (K:St -> Prop) (st:St):dB P d ⟨o,.unOp u t x,some (s,w),z⟩ K st = dQ (st.sl s) w (Mb u (st.get x)) o K st:=by cases z <;> rfl
def Jb (P:Program) (e:TypeId) (b sz n:Nat) (r:Option bF) (o:Option Tmp) (K:St -> Prop) (st:St):Prop :=
 match r with
 | some (.row _ eU es)=>bC P e = .int .u8 /\ sz = 1 /\ eU = 1 /\ n = es.length /\ 0 < n /\ es.all yK = true /\ aL st o /\ K ((st.box b none).put o (.sl 1 es))
 | _=>False
def DT (P:Program) (k:vt) (x:V) (o:Option Tmp) (K:St -> Prop) (st:St):Prop :=
 match k,x with
 | .slice e,.own b sz 0 n=>Jb P e b sz n (st.bx b) o K st
 | _,_=>False
def SY (P:Program) (g:V) (w:Bool) (k:vt) (x:V) (o:Option Tmp) (K:St -> Prop) (st:St):Prop :=
 match g.strip with
 | .bool c=>((g.az && (c == w)) = true -> DT P k x o K st) /\ ((g.az && (c == w)) = false -> aL st o /\ K (st.put o (.dead .cU)))
 | _=>False
theorem Cl (d:Bool) (o:Option Tmp) (s:TypeId) (x:Operand) (K:St -> Prop) (st:St):aK P d (bS.oper ⟨o,.convert s s x,none,false⟩) K st = DT P (bC P s) (st.get x) o K st:=by
 unfold aK
 have bB:¬ bV (bS.oper ⟨o,.convert s s x,none,false⟩).op = true:=by simp [bS.oper,bV]
 rw [if_neg bB]
 unfold DT Jb
 simp only [bS.oper]
 cases bC P s <;> cases st.get x <;> rfl
@[go_sem] theorem SZ (s t:TypeId) (x:V) (dst:Option Tmp) (K:St -> Prop) (st:St):IM P .str s t x dst K st = I1 P s t x dst K st:=rfl
@[go_sem ↓] theorem Lk (d:Bool) (o:Option Tmp) (s t:TypeId) (x:Operand) (K:St -> Prop) (st:St):dB P d ⟨o,.convert s t x,none,false⟩ K st = if s = t then DT P (bC P s) (st.get x) o K st else pS (km P s t (st.get x)) o K st:=by
 have e0:dB P d ⟨o,.convert s t x,none,false⟩ K st = aK P d (bS.oper ⟨o,.convert s t x,none,false⟩) K st:=rfl
 rw [e0]
 by_cases h:s = t
 ·subst h; rw [if_pos rfl,Cl]
 ·rw [if_neg h]
  unfold aK
  have bB:bV (bS.oper ⟨o,.convert s t x,none,false⟩).op = true:=by simp [bS.oper,bV,h]
  rw [if_pos bB]; rfl
@[go_sem ↓] theorem Ll (d:Bool) (o:Option Tmp) (s t:TypeId) (x:Operand) (g:Nat) (w:Bool) (K:St -> Prop) (st:St):dB P d ⟨o,.convert s t x,some (g,w),false⟩ K st = if s = t then SY P (st.sl g) w (bC P s) (st.get x) o K st else dQ (st.sl g) w (km P s t (st.get x)) o K st:=by
 have e0:dB P d ⟨o,.convert s t x,some (g,w),false⟩ K st = fm P d ⟨o,.convert s t x,some (g,w),false⟩ K st:=rfl
 rw [e0]
 by_cases h:s = t
 ·subst h
  rw [if_pos rfl]
  unfold fm SY
  simp only [yieldOf]
  generalize (st.sl g).strip = v
  cases v <;> try rfl
  rename_i c
  have bB:bV (Op.convert s s x) = false:=by simp [bV]
  simp only [bB,Bool.false_eq_true,if_false]
  unfold ek pP
  simp only [bB,Bool.false_eq_true,if_false]
  have e1:aK P d (bS.oper ⟨o,.convert s s x,some (g,w),false⟩) K st = DT P (bC P s) (st.get x) o K st:=Cl d o s x K st
  rw [e1]
  exact propext ⟨fun h=>h.elim id (fun h=>h.2),fun h=>.inl h⟩
 ·rw [if_neg h]
  unfold fm dQ
  simp only [yieldOf]
  have bB:bV (Op.convert s t x) = true:=by simp [bV,h]
  generalize (st.sl g).strip = v
  cases v <;> try rfl
  simp only [bB,if_true]
  unfold ek
  simp only [bB,if_true]
  rfl
@[go_sem] theorem Ta {e b sz n:Nat} {o:Option Tmp} {K:St -> Prop} {st:St}:DT P (.slice e) (.own b sz 0 n) o K st = Jb P e b sz n (st.bx b) o K st:=rfl
@[go_sem] theorem Tb {e b sz n eU:Nat} {ty:TypeId} {es:List V} {o:Option Tmp} {K:St -> Prop} {st:St}:Jb P e b sz n (some (.row ty eU es)) o K st = (bC P e = .int .u8 /\ sz = 1 /\ eU = 1 /\ n = es.length /\ 0 < n /\ es.all yK = true /\ aL st o /\ K ((st.box b none).put o (.sl 1 es))):=rfl
@[go_sem] theorem Td (n:Int):yK (.int .u8 n) = true:=rfl
@[go_sem ↓] theorem Qz (d:Bool) (o:Option Tmp) (t:TypeId) (x:Operand) (lo hi:Option Operand) (K:St -> Prop) (st:St):dB P d ⟨o,.slice t x lo hi none,none,false⟩ K st = pS (kB P t (st.get x) (lo.map st.get) (hi.map st.get)) o K st:=rfl
@[go_sem ↓] theorem Q0 (d:Bool) (o:Option Tmp) (t:TypeId) (x:Operand) (lo hi:Option Operand) (s:Nat) (w:Bool) (K:St -> Prop) (st:St):dB P d ⟨o,.slice t x lo hi none,some (s,w),false⟩ K st = dQ (st.sl s) w (kB P t (st.get x) (lo.map st.get) (hi.map st.get)) o K st:=rfl
@[go_sem ↓] theorem MO (d z:Bool) (o:Option Tmp) (t:TypeId) (x:Operand) (lo:Option Operand) (hi mx:Operand) (K:St -> Prop) (st:St):dB P d ⟨o,.slice t x lo (some hi) (some mx),none,z⟩ K st = pS (ln P t (st.get x) (lo.map st.get) (st.get hi) (st.get mx)) o K st:=by cases z <;> rfl
@[go_sem ↓] theorem MP (d z:Bool) (o:Option Tmp) (t:TypeId) (x:Operand) (lo:Option Operand) (hi mx:Operand) (s:Nat) (w:Bool) (K:St -> Prop) (st:St):dB P d ⟨o,.slice t x lo (some hi) (some mx),some (s,w),z⟩ K st = dQ (st.sl s) w (ln P t (st.get x) (lo.map st.get) (st.get hi) (st.get mx)) o K st:=by cases z <;> rfl
@[go_sem ↓] theorem Yh (d z:Bool) (o:Option Tmp) (x:Operand) (t:TypeId) (K:St -> Prop) (st:St):dB P d ⟨o,.call { callee:=.builtin .len,args:=#[x],argTypes:=#[t] },none,z⟩ K st = pS (nO P st.bx t (st.get x)) o K st:=by cases z <;> rfl
@[go_sem ↓] theorem Yi (d z:Bool) (o:Option Tmp) (x:Operand) (t:TypeId) (s:Nat) (w:Bool) (K:St -> Prop) (st:St):dB P d ⟨o,.call { callee:=.builtin .len,args:=#[x],argTypes:=#[t] },some (s,w),z⟩ K st = dQ (st.sl s) w (nO P st.bx t (st.get x)) o K st:=by cases z <;> rfl
@[go_sem ↓] theorem Yj (d z:Bool) (o:Option Tmp) (x y:Operand) (t t':TypeId) (K:St -> Prop) (st:St):dB P d ⟨o,.call { callee:=.builtin .min,args:=#[x,y],argTypes:=#[t,t'] },none,z⟩ K st = pS (A7 (st.get x) (st.get y)) o K st:=by cases z <;> rfl
@[go_sem ↓] theorem Yk (d z:Bool) (o:Option Tmp) (x y:Operand) (t t':TypeId) (s:Nat) (w:Bool) (K:St -> Prop) (st:St):dB P d ⟨o,.call { callee:=.builtin .min,args:=#[x,y],argTypes:=#[t,t'] },some (s,w),z⟩ K st = dQ (st.sl s) w (A7 (st.get x) (st.get y)) o K st:=by cases z <;> rfl
@[go_sem ↓] theorem Yl (d z:Bool) (o:Option Tmp) (x y:Operand) (t t':TypeId) (K:St -> Prop) (st:St):dB P d ⟨o,.call { callee:=.builtin .max,args:=#[x,y],argTypes:=#[t,t'] },none,z⟩ K st = pS (A8 (st.get x) (st.get y)) o K st:=by cases z <;> rfl
@[go_sem ↓] theorem Ym (d z:Bool) (o:Option Tmp) (x y:Operand) (t t':TypeId) (s:Nat) (w:Bool) (K:St -> Prop) (st:St):dB P d ⟨o,.call { callee:=.builtin .max,args:=#[x,y],argTypes:=#[t,t'] },some (s,w),z⟩ K st = dQ (st.sl s) w (A8 (st.get x) (st.get y)) o K st:=by cases z <;> rfl
@[go_sem ↓] theorem Jc (d z:Bool) (o:Option Tmp) (f:Fn) (caps:Array Operand) (K:St -> Prop) (st:St):dB P d ⟨o,.makeFunc f #[] caps,none,z⟩ K st = pS (BS f (caps.toList.map st.get)) o K st:=by cases z <;> rfl
@[go_sem ↓] theorem Ir (d z:Bool) (o:Option Tmp) (f:Fn) (x:Operand) (caps:Array Operand) (K:St -> Prop) (st:St):dB P d ⟨o,.makeFunc f #[x] caps,none,z⟩ K st = pS (wF f (st.get x) caps.size) o K st:=by cases z <;> rfl
@[go_sem ↓] theorem Jd (d z:Bool) (o:Option Tmp) (f:Fn) (caps:Array Operand) (s:Nat) (w:Bool) (K:St -> Prop) (st:St):dB P d ⟨o,.makeFunc f #[] caps,some (s,w),z⟩ K st = dQ (st.sl s) w (BS f (caps.toList.map st.get)) o K st:=by cases z <;> rfl
@[go_sem] theorem aes (n:Nat) (sl:Nat -> V) (bx:aa):(St.mk n sl bx).sl = sl:=rfl
@[go_sem] theorem aet (n:Nat) (sl:Nat -> V) (bx:aa):(St.mk n sl bx).bx = bx:=rfl
@[go_sem] theorem fst_mk (a:Prop) (b:V):(Prod.mk a b).1 = a:=rfl
@[go_sem] theorem snd_mk (a:Prop) (b:V):(Prod.mk a b).2 = b:=rfl
@[go_sem ↓] theorem Q1 (d z:Bool) (o:Option Tmp) (x:Operand) (t:TypeId) (K:St -> Prop) (st:St):dB P d ⟨o,.call { callee:=.builtin .clear,args:=#[x],argTypes:=#[t] },none,z⟩ K st = (d = false /\ o = none /\ tj P st t (st.get x) K):=by cases z <;> rfl
@[go_sem ↓] theorem MQ (d z:Bool) (o:Option Tmp) (s x:Operand) (t t':TypeId) (K:St -> Prop) (st:St):dB P d ⟨o,.call { callee:=.builtin .append,args:=#[s,x],argTypes:=#[t,t'] },none,z⟩ K st = ((t = t' \/ bC P t' = .str) /\ da P st o t (st.get s) (st.get x) K):=by cases z <;> rfl
def gb:List V -> List V
 | []=>[]
 | v :: vs=>v.strip :: gb vs
def jf:List V -> Prop
 | []=>True
 | v :: vs=>v.az = true /\ jf vs
theorem ew:∀ l,gb l = l.map V.strip
 | []=>rfl
 | v :: vs=>by simp [gb,ew vs]
theorem fh:∀ l,jf l ↔ ∀ v,v ∈ l -> v.az = true
 | []=>by simp [jf]
 | v :: vs=>by simp [jf,fh vs]
@[go_sem] theorem MR:gb [] = []:=rfl
@[go_sem] theorem Lm (v:V) (vs:List V):gb (v :: vs) = v.strip :: gb vs:=rfl
@[go_sem] theorem Q2:jf [] = True:=rfl
@[go_sem] theorem MS (v:V) (vs:List V):jf (v :: vs) = (v.az = true /\ jf vs):=rfl
def nV (st:St):List Operand -> List V
 | []=>[]
 | x :: xs=>st.get x :: nV st xs
theorem dD (st:St):∀ l,nV st l = l.map st.get
 | []=>rfl
 | v :: vs=>by simp [nV,dD st vs]
@[go_sem] theorem Te (st:St):nV st [] = []:=rfl
@[go_sem] theorem Q3 (st:St) (v:Operand) (vs:List Operand):nV st (v :: vs) = st.get v :: nV st vs:=rfl
def mO (P:Program) (d:Bool) (q:FuncId) (args:List V) (o:Option Tmp) (K:St -> Prop) (st:St):Prop :=
 if d = true then ∃ r,ay P q args st.bx r /\ K (st.put o r)
 else aw P q args st.bx fun r bx'=>K ({ st with bx:=bx' }.put o r)
def Tf (P:Program) (b:Nat) (args:List V) (o:Option Tmp) (K:St -> Prop) (st:St):Prop :=
 jc P b args st.bx fun r bx'=>K ({ st with bx:=bx' }.put o r)
def ow (P:Program) (d:Bool) (f:V) (args:List V) (o:Option Tmp) (K:St -> Prop) (st:St):Prop :=
 match f.strip with
 | .fn (.func g) caps=>f.az = true /\ jf args /\ aL st o /\ mO P d g (gb args ++ caps) o K st
 | .fn (.yield g) [r]=>f.az = true /\ jf args /\ aL st o /\ mO P d g (r :: gb args) o K st
 | .yl b=>d = false /\ f.az = true /\ jf args /\ aL st o /\ Tf P b (gb args) o K st
 | _=>False
theorem jC {d:Bool} {st:St} {f:Operand} {args:Array Operand} {o:Option Tmp} {K:St -> Prop} {tys:Array TypeId} (hy:∀ b,(st.get f).strip ≠ .yl b) :
 aK P d (bS.oper ⟨o,.call { callee:=.value f,args:=args,argTypes:=tys },none,false⟩) K st = ow P d (st.get f) (nV st args.toList) o K st:=by
 unfold aK ow mO
 simp only [bV,Bool.false_eq_true,if_false,bS.oper,callee,eV,dD,fh,ew]
 split
 ·rename_i q vs hq
  split at hq
  ·rename_i g caps hf
   simp only [Option.some.injEq,Prod.mk.injEq] at hq
   obtain ⟨rfl,rfl⟩:=hq
   simp only [hf,List.map_map,Function.comp_def]
   apply propext
   constructor
   ·rintro ⟨⟨h1,h2⟩,h3,h4⟩
    refine ⟨h1,fun v hv=>?_,h3,h4⟩
    obtain ⟨x,hx,rfl⟩:=List.mem_map.1 hv
    exact h2 x hx
   ·rintro ⟨h1,h2,h3,h4⟩
    exact ⟨⟨h1,fun x hx=>h2 _ (List.mem_map.2 ⟨x,hx,rfl⟩)⟩,h3,h4⟩
  ·rename_i g r hf
   simp only [Option.some.injEq,Prod.mk.injEq] at hq
   obtain ⟨rfl,rfl⟩:=hq
   simp only [hf,List.map_map,Function.comp_def]
   apply propext
   constructor
   ·rintro ⟨⟨h1,h2⟩,h3,h4⟩
    refine ⟨h1,fun v hv=>?_,h3,h4⟩
    obtain ⟨x,hx,rfl⟩:=List.mem_map.1 hv
    exact h2 x hx
   ·rintro ⟨h1,h2,h3,h4⟩
    exact ⟨⟨h1,fun x hx=>h2 _ (List.mem_map.2 ⟨x,hx,rfl⟩)⟩,h3,h4⟩
  ·cases hq
 ·rename_i hq
  split at hq
  ·cases hq
  ·cases hq
  ·rename_i bB Bh
   split
   ·rename_i g caps hf; exact absurd hf (bB _ _)
   ·rename_i g r hf; exact absurd hf (Bh _ _)
   ·rename_i b hf; exact absurd hf (hy b)
   ·rfl
def wkO (P:Program) (q:bS) (K:St -> Prop) (st:St):Prop:=∃ st',jq st st' /\ dB P false q K st'
@[go_sem ↓] theorem Q4 (o:Option Tmp) (f:Operand) (args:Array Operand) (tys:Array TypeId) (g:Option (Tmp × Bool)) (K:St -> Prop) (st:St):dB P false ⟨o,.call { callee:=.value f,args:=args,argTypes:=tys },g,true⟩ K st = wkO P ⟨o,.call { callee:=.value f,args:=args,argTypes:=tys },g,false⟩ K st:=rfl
@[go_sem ↓] theorem Tg (d:Bool) (o:Option Tmp) (f:Operand) (args:Array Operand) (tys:Array TypeId) (K:St -> Prop) (st:St):dB P d ⟨o,.call { callee:=.value f,args:=args,argTypes:=tys },none,false⟩ K st = ow P d (st.get f) (nV st args.toList) o K st:=by
 have ez:dB P d ⟨o,.call { callee:=.value f,args:=args,argTypes:=tys },none,false⟩ K st = fm P d ⟨o,.call { callee:=.value f,args:=args,argTypes:=tys },none,false⟩ K st:=rfl
 rw [ez]
 by_cases hy:∃ b,(st.get f).strip = .yl b
 ·obtain ⟨b,hb⟩:=hy
  unfold fm ow
  cases d with
  | true =>
    simp only [yieldOf,if_true,hb]
    simp [aK,bV,bS.oper,callee,hb]
  | false =>
    simp only [yieldOf,Bool.false_eq_true,if_false,hb,qI,Tf,vJ,eV,dD,fh,ew,List.map_map,Function.comp_def,true_and]
    apply propext
    constructor
    ·rintro ⟨⟨h1,h2⟩,h3,h4⟩
     refine ⟨h1,fun v hv=>?_,h3,h4⟩
     obtain ⟨x,hx,rfl⟩:=List.mem_map.1 hv
     exact h2 x hx
    ·rintro ⟨h1,h2,h3,h4⟩
     exact ⟨⟨h1,fun x hx=>h2 _ (List.mem_map.2 ⟨x,hx,rfl⟩)⟩,h3,h4⟩
 ·have Cb:∀ b,(st.get f).strip ≠ .yl b:=fun b hb=>hy ⟨b,hb⟩
  rw [<- jC (tys:=tys) Cb]
  unfold fm
  have:yieldOf st d (bS.mk o (.call { callee:=.value f,args:=args,argTypes:=tys }) none false).op = none:=by
   simp only [yieldOf]
   split <;> rfl
  simp only [this]
@[go_sem] theorem zv (d:Bool) (g:FuncId) (caps args:List V) (o:Option Tmp) (K:St -> Prop) (st:St):ow P d (.fn (.func g) caps) args o K st = (jf args /\ aL st o /\ mO P d g (gb args ++ caps) o K st):=by
 simp [ow,V.strip,V.az]
@[go_sem] theorem Th (b:Nat):(V.yl b).strip = .yl b:=rfl
@[go_sem] theorem Yn (b:Nat):(V.yl b).az = true:=rfl
def Cm (P:Program) (wb:Bool) (f:V) (args:List V) (o:Option Tmp) (K:St -> Prop) (st:St):Prop :=
 (wb = true -> ow P false f args o K st) /\ (wb = false -> aL st o /\ K (st.put o (.dead .cU)))
def tN (P:Program) (wb:Bool) (f:V) (args:List V) (o:Option Tmp) (K:St -> Prop) (st:St):Prop :=
 match f.strip with
 | .fn (.func g) caps=>aL st o /\ ∃ r,(wb = true -> f.az = true /\ jf args /\ ay P g (gb args ++ caps) st.bx r) /\ K (st.put o (eB wb r))
 | .fn (.yield g) [r0]=>aL st o /\ ∃ r,(wb = true -> f.az = true /\ jf args /\ ay P g (r0 :: gb args) st.bx r) /\ K (st.put o (eB wb r))
 | _=>False
def pT (P:Program) (d:Bool) (g:V) (w:Bool) (f:V) (args:List V) (o:Option Tmp) (K:St -> Prop) (st:St):Prop :=
 match g.strip with
 | .bool c=>tN P (g.az && (c == w)) f args o K st \/ (d = false /\ Cm P (g.az && (c == w)) f args o K st)
 | _=>False
theorem FB (d:Bool) (o:Option Tmp) (f:Operand) (args:Array Operand) (tys:Array TypeId) (s:Nat) (w:Bool) (K:St -> Prop) (st:St) (h:pT P d (st.sl s) w (st.get f) (nV st args.toList) o K st):dB P d ⟨o,.call { callee:=.value f,args:=args,argTypes:=tys },some (s,w),false⟩ K st:=by
 have ez:dB P d ⟨o,.call { callee:=.value f,args:=args,argTypes:=tys },some (s,w),false⟩ K st = fm P d ⟨o,.call { callee:=.value f,args:=args,argTypes:=tys },some (s,w),false⟩ K st:=rfl
 rw [ez]
 unfold pT at h
 split at h
 ·rename_i c hs
  by_cases hy:∃ b,(st.get f).strip = .yl b
  ·obtain ⟨b,hb⟩:=hy
   rcases h with h | ⟨rfl,h1,h2⟩
   ·simp [tN,hb] at h
   ·unfold fm
    simp only [yieldOf,Bool.false_eq_true,if_false,hb,hs]
    refine ⟨fun hw=>?_,h2⟩
    have h3:=h1 hw
    simp only [ow,hb,true_and] at h3
    obtain ⟨h4,h5,h6,h7⟩:=h3
    rw [dD,fh] at h5
    refine ⟨⟨h4,fun x hx=>h5 _ (List.mem_map.2 ⟨x,hx,rfl⟩)⟩,h6,?_⟩
    rw [dD,ew,List.map_map] at h7
    exact h7
  ·have Cb:∀ b,(st.get f).strip ≠ .yl b:=fun b hb=>hy ⟨b,hb⟩
   unfold fm
   have:yieldOf st d (bS.mk o (.call { callee:=.value f,args:=args,argTypes:=tys }) (some (s,w)) false).op = none:=by
    simp only [yieldOf]
    split <;> rfl
   simp only [this,hs,bV,Bool.false_eq_true,if_false]
   rcases h with h | ⟨rfl,h1,h2⟩
   ·refine .inl ?_
    unfold tN at h
    split at h
    ·rename_i g caps hf
     obtain ⟨h3,r,h4,h5⟩:=h
     unfold ek
     simp only [bV,Bool.false_eq_true,if_false,callee,hf]
     refine ⟨h3,r,fun hw=>?_,h5⟩
     obtain ⟨h6,h7,h8⟩:=h4 hw
     rw [dD,fh] at h7
     rw [dD,ew,List.map_map] at h8
     exact ⟨⟨h6,fun x hx=>h7 _ (List.mem_map.2 ⟨x,hx,rfl⟩)⟩,h8⟩
    ·rename_i g r0 hf
     obtain ⟨h3,r,h4,h5⟩:=h
     unfold ek
     simp only [bV,Bool.false_eq_true,if_false,callee,hf]
     refine ⟨h3,r,fun hw=>?_,h5⟩
     obtain ⟨h6,h7,h8⟩:=h4 hw
     rw [dD,fh] at h7
     rw [dD,ew,List.map_map] at h8
     exact ⟨⟨h6,fun x hx=>h7 _ (List.mem_map.2 ⟨x,hx,rfl⟩)⟩,h8⟩
    ·exact h.elim
   ·refine .inr ⟨rfl,fun hw=>?_,h2⟩
    have h3:=h1 hw
    rw [<- jC (tys:=tys) Cb] at h3
    exact h3
 ·exact h.elim
theorem ah {d:Bool} {q:FuncId} {args:List V} {o:Option Tmp} {K:St -> Prop} {st:St} {r:V} (h:ay P q args st.bx r) (hk:K (st.put o r)):mO P d q args o K st:=by
 unfold mO
 split
 ·exact ⟨r,h,hk⟩
 ·refine ⟨h.1,fun β M w vs c8 kN bW fK=>(h.2 β M w vs c8 kN bW fK).mono ?_⟩
  rintro e w' ⟨v,r',bx',β',h1,⟨rfl,rfl⟩,h3⟩
  exact ⟨v,_,_,β',h1,hk,h3⟩
theorem ar {q:FuncId} {args:List V} {o:Option Tmp} {K:St -> Prop} {st:St} {Kc:V -> aa -> Prop} (h:aw P q args st.bx Kc) (hk:∀ r bx',Kc r bx' -> K ({ st with bx:=bx' }.put o r)):mO P false q args o K st:=by
 unfold mO
 rw [if_neg (by simp)]
 refine ⟨h.1,fun β M w vs c8 kN bW fK=>(h.2 β M w vs c8 kN bW fK).mono ?_⟩
 rintro e w' ⟨v,r',bx',β',h1,h2,h3⟩
 exact ⟨v,_,_,β',h1,hk _ _ h2,h3⟩
theorem va (d:Bool) (o:Option Tmp) (f:Operand) (args:Array Operand) (tys:Array TypeId) (s:Nat) (w:Bool) (K:St -> Prop) (st:St) (h:dB P d ⟨o,.call { callee:=.value f,args:=args,argTypes:=tys },some (s,w),false⟩ K st):pT P d (st.sl s) w (st.get f) (nV st args.toList) o K st:=by
 have ez:dB P d ⟨o,.call { callee:=.value f,args:=args,argTypes:=tys },some (s,w),false⟩ K st = fm P d ⟨o,.call { callee:=.value f,args:=args,argTypes:=tys },some (s,w),false⟩ K st:=rfl
 rw [ez] at h
 unfold pT
 by_cases hy:∃ b,(st.get f).strip = .yl b
 ·obtain ⟨b,hb⟩:=hy
  unfold fm at h
  cases d with
  | true =>
    simp only [yieldOf,if_true] at h
    split at h
    ·rename_i c hs
     simp only [bV,Bool.false_eq_true,if_false] at h
     rcases h with h | h
     ·unfold ek at h
      simp [bV,callee,hb] at h
     ·exact absurd h.1 (by simp)
    ·exact h.elim
  | false =>
    simp only [yieldOf,Bool.false_eq_true,if_false,hb] at h
    split at h
    ·rename_i c hs
     simp only [hs]
     refine .inr ⟨trivial,fun hw=>?_,h.2⟩
     obtain ⟨⟨h4,h5⟩,h6,h7⟩:=h.1 hw
     simp only [ow,hb]
     refine ⟨trivial,h4,?_,h6,?_⟩
     ·rw [dD,fh]
      intro v hv
      obtain ⟨x,hx,rfl⟩:=List.mem_map.1 hv
      exact h5 x hx
     ·rw [dD,ew,List.map_map]
      exact h7
    ·exact h.elim
 ·have Cb:∀ b,(st.get f).strip ≠ .yl b:=fun b hb=>hy ⟨b,hb⟩
  unfold fm at h
  have:yieldOf st d (bS.mk o (.call { callee:=.value f,args:=args,argTypes:=tys }) (some (s,w)) false).op = none:=by
   simp only [yieldOf]
   split <;> rfl
  simp only [this] at h
  split at h
  ·rename_i c hs
   simp only [hs]
   simp only [bV,Bool.false_eq_true,if_false] at h
   rcases h with h | ⟨rfl,h1,h2⟩
   ·refine .inl ?_
    unfold ek at h
    simp only [bV,Bool.false_eq_true,if_false,callee] at h
    unfold tN
    cases hf:(st.get f).strip with
    | fn fk caps =>
      cases fk with
      | func g =>
        simp only [hf] at h
        obtain ⟨h3,r,h4,h5⟩:=h
        refine ⟨h3,r,fun hw=>?_,h5⟩
        obtain ⟨⟨h6,h7⟩,h8⟩:=h4 hw
        refine ⟨h6,?_,?_⟩
        ·rw [dD,fh]
         intro v hv
         obtain ⟨x,hx,rfl⟩:=List.mem_map.1 hv
         exact h7 x hx
        ·rw [dD,ew,List.map_map]
         exact h8
      | yield g =>
        rcases caps with _ | ⟨r0,_ | ⟨r1,cs⟩⟩
        ·simp [hf] at h
        ·simp only [hf] at h
         obtain ⟨h3,r,h4,h5⟩:=h
         refine ⟨h3,r,fun hw=>?_,h5⟩
         obtain ⟨⟨h6,h7⟩,h8⟩:=h4 hw
         refine ⟨h6,?_,?_⟩
         ·rw [dD,fh]
          intro v hv
          obtain ⟨x,hx,rfl⟩:=List.mem_map.1 hv
          exact h7 x hx
         ·rw [dD,ew,List.map_map]
          exact h8
        ·simp [hf] at h
      | _=>simp [hf] at h
    | _=>simp [hf] at h
   ·refine .inr ⟨rfl,fun hw=>?_,h2⟩
    rw [<- jC (tys:=tys) Cb]
    exact h1 hw
  ·exact h.elim
@[go_sem ↓] theorem Ln (d:Bool) (o:Option Tmp) (f:Operand) (args:Array Operand) (tys:Array TypeId) (s:Nat) (w:Bool) (K:St -> Prop) (st:St):dB P d ⟨o,.call { callee:=.value f,args:=args,argTypes:=tys },some (s,w),false⟩ K st = pT P d (st.sl s) w (st.get f) (nV st args.toList) o K st :=
 propext ⟨va d o f args tys s w K st,FB d o f args tys s w K st⟩
def mP (P:Program) (d wb:Bool) (f:V) (args:List V) (o:Option Tmp) (K:St -> Prop) (st:St):Prop :=
 tN P wb f args o K st \/ (d = false /\ Cm P wb f args o K st)
@[go_sem] theorem MT (d c:Bool) (f:V) (args:List V) (o:Option Tmp) (K:St -> Prop) (st:St):pT P d (.bool c) true f args o K st = mP P d c f args o K st:=by
 simp [pT,mP,V.strip,V.az]
@[go_sem] theorem Lo (d c:Bool) (f:V) (args:List V) (o:Option Tmp) (K:St -> Prop) (st:St):pT P d (.bool c) false f args o K st = mP P d (!c) f args o K st:=by
 simp [pT,mP,V.strip,V.az]
def gK (P:Program) (d wb:Bool) (q:FuncId) (vs:List V) (lv:Prop) (o:Option Tmp) (K:St -> Prop) (st:St):Prop :=
 (aL st o /\ ∃ r,(wb = true -> lv /\ ay P q vs st.bx r) /\ K (st.put o (eB wb r))) \/
 (d = false /\ (wb = true -> lv /\ aL st o /\ mO P false q vs o K st) /\ (wb = false -> aL st o /\ K (st.put o (.dead .cU))))
@[go_sem] theorem Q5 (d wb:Bool) (q:FuncId) (caps args:List V) (o:Option Tmp) (K:St -> Prop) (st:St):mP P d wb (.fn (.func q) caps) args o K st = gK P d wb q (gb args ++ caps) (jf args) o K st:=by
 simp only [mP,tN,Cm,zv,gK,zt,IZ,true_and]
theorem dI {d wb:Bool} {q:FuncId} {vs:List V} {lv:Prop} {o:Option Tmp} {K:St -> Prop} {st:St} {r:V} (hc:ay P q vs st.bx r) (hl:wb = true -> lv) (hd:aL st o) (hk:K (st.put o (eB wb r))):gK P d wb q vs lv o K st :=
 .inl ⟨hd,r,fun hw=>⟨hl hw,hc⟩,hk⟩
def Bi (P:Program) (c:Prop) (bo:bF) (v:Nat -> V) (o:Option Tmp) (K:St -> Prop) (st:St):Prop:=c /\ aL st o /\ ba st.bx /\ ∀ b,st.bx b = none -> K ((st.box b (some bo)).put o (v b))
@[go_sem] theorem Q6 (c:Prop) (bo:bF) (v:Nat -> V) (t:Nat) (K:St -> Prop) (n:Nat) (l:List (Nat × V)) (bx:aa):Bi P c bo v (some t) K ⟨n,bR l,bx⟩ = (c /\ t < n /\ ba bx /\ ∀ b,bx b = none -> K ⟨n,bR ((t,v b) :: l),aB bx b (some bo)⟩):=by
 simp only [Bi,aL,tM,jU]
def jV (st:St):List (Nat × Operand) -> List (Nat × V)
 | []=>[]
 | (i,x) :: ps=>(i,st.get x) :: jV st ps
@[go_sem] theorem Q7 (es:List V):jR es [] = es:=rfl
@[go_sem] theorem MU (es:List V) (i:Nat) (x:V) (ps:List (Nat × V)):jR es ((i,x) :: ps) = jR (es.set i x) ps:=rfl
@[go_sem] theorem Ti (st:St):jV st [] = []:=rfl
@[go_sem] theorem Q8 (st:St) (i:Nat) (x:Operand) (ps:List (Nat × Operand)):jV st ((i,x) :: ps) = (i,st.get x) :: jV st ps:=rfl
theorem mQ (st:St):∀ (ps:List (Nat × Operand)) (es:List V),dS st es ps = jR es (jV st ps)
 | [],es=>rfl
 | (i,x) :: ps,es=>by simp only [dS,jV,jR]; exact mQ st ps _
theorem pU (st:St):∀ l:List (Nat × Operand),jV st l = l.map fun p=>(p.1,st.get p.2)
 | []=>rfl
 | (i,x) :: l=>by simp only [jV,List.map_cons,pU st l]
@[go_sem ↓] theorem Yo (d z:Bool) (o:Option Tmp) (t:TypeId) (parts:Array (Nat × Operand)) (K:St -> Prop) (st:St):dB P d ⟨o,.build t parts,none,z⟩ K st = pS (kC P t (aV P t) (jV st parts.toList)) o K st:=by rw [pU]; cases z <;> rfl
@[go_sem ↓] theorem Yp (d z:Bool) (o:Option Tmp) (t:TypeId) (parts:Array (Nat × Operand)) (s:Nat) (w:Bool) (K:St -> Prop) (st:St):dB P d ⟨o,.build t parts,some (s,w),z⟩ K st = dQ (st.sl s) w (kC P t (aV P t) (jV st parts.toList)) o K st:=by rw [pU]; cases z <;> rfl
def Tj (P:Program) (t:TypeId) (cs:List V) (x:V) (ps:List (Nat × V)) (p:Option (Nat × Nat)):Prop × List V:=(A9 x cs.length (fG P t (sZ cs x p) ps).1 p,(fG P t (sZ cs x p) ps).2)
@[go_sem] theorem Lp (t:TypeId) (z:Value) (ps:List (Nat × V)):kC P t (some z) ps = (dG P t = true /\ okV (ofValue z) = true /\ (fG P t (ofValue z).cells ps).1,.agg (fG P t (ofValue z).cells ps).2):=rfl
@[go_sem] theorem MV (t:TypeId) (cs:List V):fG P t cs [] = (True,cs):=rfl
@[go_sem] theorem Lq (t:TypeId) (cs:List V) (i:Nat) (x:V) (ps:List (Nat × V)):fG P t cs ((i,x) :: ps) = Tj P t cs x ps (aT P t i):=rfl
@[go_sem] theorem Q9 (t:TypeId) (cs:List V) (x:V) (ps:List (Nat × V)) (off sz:Nat):Tj P t cs x ps (some (off,sz)) = (okV x = true /\ x.cells.length = sz /\ off + sz <= cs.length /\ (fG P t (ml cs off x.cells) ps).1,(fG P t (ml cs off x.cells) ps).2):=rfl
attribute [go_sem] ml
def nW (P:Program) (e:TypeId) (n:Nat):List (Nat × V) -> Prop
 | []=>True
 | (i,x) :: ps=>i < n /\ storable P e x /\ nW P e n ps
@[go_sem] theorem Tk (e:TypeId) (n:Nat):nW P e n [] = True:=rfl
@[go_sem] theorem QA (e:TypeId) (n i:Nat) (x:V) (ps:List (Nat × V)):nW P e n ((i,x) :: ps) = (i < n /\ storable P e x /\ nW P e n ps):=rfl
theorem tO (st:St) (e:TypeId) (n:Nat):∀ ps:List (Nat × Operand),nW P e n (jV st ps) ↔ ∀ p,p ∈ ps -> p.1 < n /\ storable P e (st.get p.2)
 | []=>by simp [jV,nW]
 | (i,x) :: ps=>by simp [jV,nW,tO st e n ps,and_assoc]
def Je (P:Program) (e:TypeId) (z:Option Value) (len:Nat) (ps:List (Nat × V)) (o:Option Tmp) (K:St -> Prop) (st:St):Prop :=
 match z with
 | some z=>Bi P (storable P e (ofValue z) /\ 0 < aF P e /\ len * aF P e <= 16777216 /\ nW P e len ps) (.row e (aF P e) (jR (List.replicate len (ofValue z)) ps)) (fun b=>.own b (aF P e) 0 len) o K st
 | none=>False
def Bj (P:Program) (k:vt) (len:Nat) (ps:List (Nat × V)) (o:Option Tmp) (K:St -> Prop) (st:St):Prop :=
 match k with
 | .slice e=>Je P e (aV P e) len ps o K st
 | _=>False
@[go_sem ↓] theorem QB (d:Bool) (o:Option Tmp) (t:TypeId) (len:Nat) (parts:Array (Nat × Operand)) (K:St -> Prop) (st:St):dB P d ⟨o,.buildSlice t len parts,none,false⟩ K st = Bj P (bC P t) len (jV st parts.toList) o K st:=by
 have ez:dB P d ⟨o,.buildSlice t len parts,none,false⟩ K st = aK P d (bS.oper ⟨o,.buildSlice t len parts,none,false⟩) K st:=rfl
 rw [ez]
 unfold aK Bj Je Bi
 simp only [bV,Bool.false_eq_true,if_false,bS.oper,tO,mQ]
 split
 ·rename_i e hk
  simp only [hk]
  split
  ·rename_i z hz
   simp only [hz,and_assoc]
  ·rename_i hz
   simp only [hz]
 ·rename_i bB
  split
  ·rename_i e hk; exact absurd hk (bB e)
  ·rfl
@[go_sem] theorem MW {e:TypeId} {len:Nat} {ps:List (Nat × V)} {o:Option Tmp} {K:St -> Prop} {st:St}:Bj P (.slice e) len ps o K st = Je P e (aV P e) len ps o K st:=rfl
@[go_sem] theorem QC {e:TypeId} {z:Value} {len:Nat} {ps:List (Nat × V)} {o:Option Tmp} {K:St -> Prop} {st:St}:Je P e (some z) len ps o K st = Bi P (storable P e (ofValue z) /\ 0 < aF P e /\ len * aF P e <= 16777216 /\ nW P e len ps) (.row e (aF P e) (jR (List.replicate len (ofValue z)) ps)) (fun b=>.own b (aF P e) 0 len) o K st:=rfl
def Cn (P:Program) (e:TypeId) (z:Option Value) (len:Nat) (ps:List (Nat × V)) (o:Option Tmp) (K:St -> Prop) (st:St):Prop :=
 match z with
 | some z=>(storable P e (ofValue z) /\ 0 < aF P e /\ len * aF P e <= 16777216 /\ nW P e len ps) /\ aL st o /\ ba st.bx /\ K (st.put o (.sl (aF P e) (jR (List.replicate len (ofValue z)) ps)))
 | none=>False
def zw (P:Program) (k:vt) (len:Nat) (ps:List (Nat × V)) (o:Option Tmp) (K:St -> Prop) (st:St):Prop :=
 match k with
 | .slice e=>Cn P e (aV P e) len ps o K st
 | _=>False
theorem zx {t:TypeId} {len:Nat} {parts:List (Nat × Operand)} {o:Option Tmp} {K:St -> Prop} {st:St}:mL P t len parts o K st = zw P (bC P t) len (jV st parts) o K st:=by
 unfold mL zw Cn
 simp only [tO,mQ]
 cases bC P t <;> rfl
def Lr (P:Program) (g:V) (w:Bool) (k:vt) (len:Nat) (ps:List (Nat × V)) (o:Option Tmp) (K:St -> Prop) (st:St):Prop :=
 match g.strip with
 | .bool c=>((g.az && (c == w)) = true -> zw P k len ps o K st) /\ ((g.az && (c == w)) = false -> aL st o /\ K (st.put o (.dead .cU)))
 | _=>False
@[go_sem ↓] theorem MX (o:Option Tmp) (t:TypeId) (len:Nat) (parts:Array (Nat × Operand)) (K:St -> Prop) (st:St):dB P false ⟨o,.buildSlice t len parts,none,true⟩ K st = zw P (bC P t) len (jV st parts.toList) o K st:=by
 rw [<- zx]
 show (false = false /\ _) = _
 simp only [true_and]; rfl
@[go_sem ↓] theorem MY (o:Option Tmp) (t:TypeId) (len:Nat) (parts:Array (Nat × Operand)) (s:Nat) (w:Bool) (K:St -> Prop) (st:St):dB P false ⟨o,.buildSlice t len parts,some (s,w),true⟩ K st = Lr P (st.sl s) w (bC P t) len (jV st parts.toList) o K st:=by
 unfold Lr
 simp only [<- zx]
 show (false = false /\ _) = _
 simp only [true_and]; rfl
@[go_sem] theorem Ls {e:TypeId} {len:Nat} {ps:List (Nat × V)} {o:Option Tmp} {K:St -> Prop} {st:St}:zw P (.slice e) len ps o K st = Cn P e (aV P e) len ps o K st:=rfl
@[go_sem] theorem MZ {e:TypeId} {z:Value} {len:Nat} {ps:List (Nat × V)} {o:Option Tmp} {K:St -> Prop} {st:St}:Cn P e (some z) len ps o K st = ((storable P e (ofValue z) /\ 0 < aF P e /\ len * aF P e <= 16777216 /\ nW P e len ps) /\ aL st o /\ ba st.bx /\ K (st.put o (.sl (aF P e) (jR (List.replicate len (ofValue z)) ps)))):=rfl
def Na (P:Program) (e:TypeId) (v:V) (o:Option Tmp) (K:St -> Prop) (st:St):Prop:=storable P e v /\ aL st o /\ ba st.bx /\ K (st.put o (.ep v 0))
def FC (P:Program) (e:TypeId) (v:V) (o:Option Tmp) (K:St -> Prop) (st:St):Prop:=Bi P (storable P e v) (.row e (aF P e) [v]) (fun b=>.ptr b (aF P e) 0 0) o K st
@[go_sem ↓] theorem Tl (o:Option Tmp) (e:TypeId) (x:Operand) (K:St -> Prop) (st:St):dB P false ⟨o,.box e x,none,true⟩ K st = Na P e (st.get x) o K st:=by
 show (false = false /\ (none:Option (Tmp × Bool)) = none /\ Sm P e x o K st) = _
 simp only [true_and]; rfl
@[go_sem ↓] theorem Tm (d:Bool) (o:Option Tmp) (e:TypeId) (x:Operand) (K:St -> Prop) (st:St):dB P d ⟨o,.box e x,none,false⟩ K st = FC P e (st.get x) o K st:=by
 have ez:dB P d ⟨o,.box e x,none,false⟩ K st = aK P d (bS.oper ⟨o,.box e x,none,false⟩) K st:=rfl
 rw [ez]
 rfl
@[go_sem] theorem QD (e:TypeId) (v:V) (t:Nat) (K:St -> Prop) (n:Nat) (l:List (Nat × V)) (bx:aa):Na P e v (some t) K ⟨n,bR l,bx⟩ = (storable P e v /\ t < n /\ ba bx /\ K ⟨n,bR ((t,.ep v 0) :: l),bx⟩):=by
 simp only [Na,aL,jU]
@[go_sem] theorem QE (e:TypeId) (v:V) (t:Nat) (K:St -> Prop) (n:Nat) (l:List (Nat × V)) (bx:aa):FC P e v (some t) K ⟨n,bR l,bx⟩ = (storable P e v /\ t < n /\ ba bx /\ ∀ b,bx b = none -> K ⟨n,bR ((t,.ptr b (aF P e) 0 0) :: l),aB bx b (some (.row e (aF P e) [v]))⟩):=by
 simp only [FC,Bi,aL,tM,jU]
def Tn (P:Program) (e:TypeId) (z:Option Value) (o:Option Tmp) (K:St -> Prop) (st:St):Prop :=
 match z with
 | some z=>FC P e (ofValue z) o K st
 | none=>False
@[go_sem ↓] theorem QF (d z:Bool) (o:Option Tmp) (e:TypeId) (K:St -> Prop) (st:St):dB P d ⟨o,.alloc e,none,z⟩ K st = Tn P e (aV P e) o K st:=by
 have ez:dB P d ⟨o,.alloc e,none,z⟩ K st = aK P d (bS.oper ⟨o,.alloc e,none,false⟩) K st:=by cases z <;> rfl
 rw [ez]
 rfl
@[go_sem] theorem QG (e:TypeId) (z:Value) (o:Option Tmp) (K:St -> Prop) (st:St):Tn P e (some z) o K st = FC P e (ofValue z) o K st:=rfl
def Nb (P:Program) (t:TypeId) (a x:V) (o:Option Tmp) (K:St -> Prop) (st:St):Prop :=
 match a with
 | .ptr b sz i o'=>match st.bx b with
   | some (.row ty eU es)=>sz = eU /\ i < es.length /\ storable P t x /\ 0 < x.cells.length /\ o' + x.cells.length <= (es.getD i .cU).cells.length /\ o = none /\
    K (st.box b (some (.row ty sz (es.set i (bh (es.getD i .cU) o' x.cells)))))
   | _=>False
 | _=>False
@[go_sem ↓] theorem QH (d z:Bool) (o:Option Tmp) (t:TypeId) (a x:Operand) (K:St -> Prop) (st:St):dB P d ⟨o,.store t a x,none,z⟩ K st = Nb P t (st.get a) (st.get x) o K st:=by
 have ez:dB P d ⟨o,.store t a x,none,z⟩ K st = aK P d (bS.oper ⟨o,.store t a x,none,false⟩) K st:=by cases z <;> rfl
 rw [ez]
 rfl
def Nc (P:Program) (t:TypeId) (b sz i o':Nat) (r:Option bF) (x:V) (K:St -> Prop) (st:St):Prop :=
 match r with
 | some (.row ty eU es)=>sz = eU /\ i < es.length /\ storable P t x /\ 0 < x.cells.length /\ o' + x.cells.length <= (es.getD i .cU).cells.length /\ K (st.box b (some (.row ty sz (es.set i (bh (es.getD i .cU) o' x.cells)))))
 | _=>False
@[go_sem] theorem To (t:TypeId) (b sz i o':Nat) (x:V) (K:St -> Prop) (st:St):Nb P t (.ptr b sz i o') x none K st = Nc P t b sz i o' (st.bx b) x K st:=by
 unfold Nb Nc
 simp only [true_and]
@[go_sem] theorem Tp (t:TypeId) (b sz i o':Nat) (ty:TypeId) (eU:Nat) (es:List V) (x:V) (K:St -> Prop) (n:Nat) (l:List (Nat × V)) (bx:aa):Nc P t b sz i o' (some (.row ty eU es)) x K ⟨n,bR l,bx⟩ = (sz = eU /\ i < es.length /\ storable P t x /\ 0 < x.cells.length /\ o' + x.cells.length <= (es.getD i .cU).cells.length /\ K ⟨n,bR l,aB bx b (some (.row ty sz (es.set i (bh (es.getD i .cU) o' x.cells))))⟩):=rfl
@[go_sem high] theorem Yq (bx:aa) (b:Nat) (x:Option bF):aB bx b x b = x:=af _ _ _
@[go_sem] theorem Yr (bx:aa) (b:Nat) (x y:Option bF):aB (aB bx b x) b y = aB bx b y:=wT _ _ _ _
theorem eN {bx:aa} {b c:Nat} {x:bF} (h:aB bx b (some x) c = none):c ≠ b /\ bx c = none:=by
 by_cases e:c = b
 ·subst e; rw [af] at h; cases h
 ·exact ⟨e,by rwa [ae _ _ e] at h⟩
def Nf (P:Program) (k:vt) (l c:V) (o:Option Tmp) (K:St -> Prop) (st:St):Prop :=
 match k,l.strip,c.strip with
 | .slice e,.int _ l',.int _ c'=>match aV P e with
   | some z=>l.az = true /\ c.az = true /\ storable P e (ofValue z) /\ 0 < aF P e /\ l' = c' /\ 0 <= l' /\ (oF P e:Int) * c' <= 281474976710656 /\ c' <= 9223372036854775807 /\ aL st o /\ ba st.bx /\
    ∀ b,st.bx b = none -> K ((st.box b (some (.row e (aF P e) (List.replicate l'.toNat (ofValue z))))).put o (.own b (aF P e) 0 l'.toNat))
   | none=>False
 | _,_,_=>False
@[go_sem ↓] theorem Tq (d z:Bool) (o:Option Tmp) (t:TypeId) (l c:Operand) (K:St -> Prop) (st:St):dB P d ⟨o,.makeSlice t l c,none,z⟩ K st = Nf P (bC P t) (st.get l) (st.get c) o K st:=by
 have ez:dB P d ⟨o,.makeSlice t l c,none,z⟩ K st = aK P d (bS.oper ⟨o,.makeSlice t l c,none,false⟩) K st:=by cases z <;> rfl
 rw [ez]
 rfl
@[go_sem] theorem QI:V.cU.cells = [.cU]:=rfl
@[go_sem] theorem QJ (k:IntKind) (n:Int):(V.int k n).cells = [.int k n]:=rfl
@[go_sem] theorem Lt (n:Bool):(V.bool n).cells = [.bool n]:=rfl
@[go_sem] theorem QK (n:List UInt8):(V.str n).cells = [.str n]:=rfl
@[go_sem] theorem Ng:V.aH.cells = [.aH]:=rfl
@[go_sem] theorem Ts (n:Nat) (es:List V):(V.sl n es).cells = [.sl n es]:=rfl
@[go_sem] theorem QL (b n i o:Nat):(V.own b n i o).cells = [.own b n i o]:=rfl
@[go_sem] theorem QM (b n i o:Nat):(V.ptr b n i o).cells = [.ptr b n i o]:=rfl
@[go_sem] theorem Tt (e:V) (o:Nat):(V.ep e o).cells = [.ep e o]:=rfl
@[go_sem] theorem Nh:V.eD.cells = [.eD]:=rfl
@[go_sem] theorem Tu (f:Fn) (l:List V):(V.fn f l).cells = [.fn f l]:=rfl
@[go_sem] theorem Ni:V.gY.cells = [.gY]:=rfl
@[go_sem] theorem Lu (t:TypeId) (v:V):(V.iface t v).cells = [.iface t v]:=rfl
@[go_sem] theorem Nj:V.ir.cells = [.ir]:=rfl
@[go_sem] theorem Tv (b:Nat):(V.mp b).cells = [.mp b]:=rfl
@[go_sem] theorem Nk:V.gE.cells = [.gE]:=rfl
@[go_sem] theorem QN (l:List V):(V.agg l).cells = l:=rfl
@[go_sem] theorem Tw (b:Nat):(V.yl b).cells = [.yl b]:=rfl
@[go_sem] theorem Ys (k:IntKind) (n:Int):okV (.int k n) = true:=rfl
@[go_sem] theorem QO (n:Bool):okV (.bool n) = true:=rfl
@[go_sem] theorem Yt (n:List UInt8):okV (.str n) = true:=rfl
@[go_sem] theorem Tx:okV .aH = true:=rfl
@[go_sem] theorem aas (n:Nat) (es:List V):okV (.sl n es) = true:=rfl
@[go_sem] theorem Yu (b n i o:Nat):okV (.own b n i o) = true:=rfl
@[go_sem] theorem Yv (b n i o:Nat):okV (.ptr b n i o) = true:=rfl
@[go_sem] theorem aat (e:V) (o:Nat):okV (.ep e o) = true:=rfl
@[go_sem] theorem Ty:okV .eD = true:=rfl
@[go_sem] theorem aau (f:Fn) (l:List V):okV (.fn f l) = true:=rfl
@[go_sem] theorem Tz:okV .gY = true:=rfl
@[go_sem] theorem QP (t:TypeId) (v:V):okV (.iface t v) = true:=rfl
@[go_sem] theorem T0:okV .ir = true:=rfl
@[go_sem] theorem aav (b:Nat):okV (.mp b) = true:=rfl
@[go_sem] theorem T1:okV .gE = true:=rfl
@[go_sem] theorem Yw (l:List V):okV (.agg l) = true:=rfl
@[go_sem] theorem aaw (b:Nat):okV (.yl b) = true:=rfl
@[go_sem] theorem QQ (cs:List V) (o:Nat) (v:V):bh (.agg cs) o [v] = .agg (cs.set o v):=rfl
@[go_sem] theorem QR (cs:List V) (o:Nat) (v w:V) (vs:List V):bh (.agg cs) o (v :: w :: vs) = .agg (cs.take o ++ (v :: w :: vs) ++ cs.drop (o + (vs.length + 2))):=rfl
@[go_sem] theorem T2 (k:IntKind) (n:Int) (o:Nat) (v:V):bh (.int k n) o [v] = v:=rfl
@[go_sem] theorem Nl (n:Bool) (o:Nat) (v:V):bh (.bool n) o [v] = v:=rfl
@[go_sem] theorem T3 (n:List UInt8) (o:Nat) (v:V):bh (.str n) o [v] = v:=rfl
@[go_sem] theorem QS (o:Nat) (v:V):bh .aH o [v] = v:=rfl
@[go_sem] theorem Yx (n:Nat) (es:List V) (o:Nat) (v:V):bh (.sl n es) o [v] = v:=rfl
@[go_sem] theorem T4 (b n i o' o:Nat) (v:V):bh (.own b n i o') o [v] = v:=rfl
@[go_sem] theorem T5 (b n i o' o:Nat) (v:V):bh (.ptr b n i o') o [v] = v:=rfl
@[go_sem] theorem Yy (e:V) (o' o:Nat) (v:V):bh (.ep e o') o [v] = v:=rfl
@[go_sem] theorem QT (o:Nat) (v:V):bh .eD o [v] = v:=rfl
@[go_sem] theorem Yz (f:Fn) (l:List V) (o:Nat) (v:V):bh (.fn f l) o [v] = v:=rfl
@[go_sem] theorem QU (o:Nat) (v:V):bh .gY o [v] = v:=rfl
@[go_sem] theorem Nn (t:TypeId) (w:V) (o:Nat) (v:V):bh (.iface t w) o [v] = v:=rfl
@[go_sem] theorem QV (o:Nat) (v:V):bh .ir o [v] = v:=rfl
@[go_sem] theorem Y1 (b:Nat) (o:Nat) (v:V):bh (.mp b) o [v] = v:=rfl
@[go_sem] theorem QW (o:Nat) (v:V):bh .gE o [v] = v:=rfl
attribute [go_sem] storable an Value.oneCell'
@[go_sem] theorem QX (x y z:Bool):(bif x then V.bool y else V.bool z) = V.bool (bif x then y else z):=by cases x <;> rfl
@[go_sem] theorem Y2 (e:TypeId) (op:BinOp) (sz:Nat) (es:List V) (d:Option Tmp) (K:St -> Prop) (st:St):tG (.slice e) op (.sl sz es) .aH d K st = ((op = .eql \/ op = .neq) /\ aL st d /\ ∀ c:Bool,(es ≠ [] -> c = false) -> K (st.put d (xn op c))):=rfl
@[go_sem] theorem T6 (e:TypeId) (op:BinOp) (b sz o n:Nat) (d:Option Tmp) (K:St -> Prop) (st:St):tG (.slice e) op (.own b sz o n) .aH d K st = ((op = .eql \/ op = .neq) /\ aL st d /\ ∀ c:Bool,(0 < n -> c = false) -> K (st.put d (xn op c))):=rfl
@[go_sem] theorem T7 (e:TypeId) (op:BinOp) (d:Option Tmp) (K:St -> Prop) (st:St):tG (.slice e) op .aH .aH d K st = ((op = .eql \/ op = .neq) /\ aL st d /\ K (st.put d (xn op true))):=rfl
@[go_sem] theorem T8 (c:Bool):xn .eql c = .bool c:=rfl
@[go_sem] theorem T9 (c:Bool):xn .neq c = .bool (!c):=rfl
attribute [go_sem] gy qy sY
attribute [go_sem] dt sX dM iz nO gF gG jM oH oG A6 Mb km kB ln Rz fF A7 A8 BS wF R0 Dn Dp ofValue sV aL
attribute [go_sem] Bool.true_and Bool.and_true Bool.false_and Bool.and_false cond_true cond_false Bool.not_true Bool.not_false true_and and_true
@[go_sem ↓] theorem Y3 {so:List Bool} {l:List bS} {ks:List Nat} {Q:Exit -> St -> Prop} {st:St}:pw P (.ke so l ks) Q st = l9 P (tK Q ks) so l st:=rfl
@[go_sem ↓] theorem TA {K:St -> Prop} {so:List Bool} {st:St}:l9 P K so [] st = K st:=by cases so <;> rfl
@[go_sem ↓] theorem QY {K:St -> Prop} {so:List Bool} {o:bS} {l:List bS} {st:St}:l9 P K (true :: so) (o :: l) st = dB P false o (l9 P K so l) st:=rfl
@[go_sem ↓] theorem No {K:St -> Prop} {so:List Bool} {o:bS} {l:List bS} {st:St}:l9 P K (false :: so) (o :: l) st = dB P true o (l9 P K so l) st:=rfl
@[go_sem ↓] theorem Y4 {un uv:List (Nat × Nat)} {l:List bS} {ks:List Nat} {Q:Exit -> St -> Prop} {st:St}:pw P (.gL un uv l ks) Q st = (((un.all fun p=>jd l p.1 || jd l p.2) = true /\ (uv.all fun p=>!(lB l p.1 || lB l p.2) || jd l p.1 || jd l p.2) = true) /\ lA P (tK Q ks) l st):=rfl
attribute [go_sem] lB jT
def Bk (P:Program) (q:FuncId) (args:List V) (o:Option Tmp) (K:St -> Prop) (st:St):Prop :=
 (∃ bx v,K (st.at bx o v)) /\ mO P false q args o K st
@[go_sem ↓] theorem TB (o:Option Tmp) (f:FuncId) (args:Array Operand) (tys:Array TypeId) (K:St -> Prop) (st:St):Cf P ⟨o,.call { callee:=.value (.func f),args:=args,argTypes:=tys },none,true⟩ K st = (jf (nV st args.toList) /\ aL st o /\ Bk P f (gb (nV st args.toList)) o K st):=by
 unfold Cf
 rw [if_neg (by simp [mh,lenOf]),if_pos (by simp [jT])]
 have:=jC (P:=P) (d:=false) (st:=st) (f:=.func f) (args:=args) (o:=o) (K:=K) (tys:=tys) (fun b=>by simp [St.get,V.strip])
 show (_ /\ aK P false (bS.oper ⟨o,.call { callee:=.value (.func f),args:=args,argTypes:=tys },none,false⟩) K st) = _
 rw [this]
 have h2:st.get (.func f) = .fn (.func f) []:=rfl
 rw [h2,zv,List.append_nil]
 unfold Bk
 exact propext ⟨fun h=>⟨h.2.1,h.2.2.1,h.1,h.2.2.2⟩,fun h=>⟨h.2.2.1,h.1,h.2.1,h.2.2.2⟩⟩
theorem iL {q:FuncId} {args:List V} {o:Option Tmp} {K:St -> Prop} {st:St} {Kc:V -> aa -> Prop} (h:aw P q args st.bx Kc) (hx:∃ r bx',Kc r bx') (hk:∀ r bx',Kc r bx' -> K ({ st with bx:=bx' }.put o r)):Bk P q args o K st:=by
 obtain ⟨r,bx',h1⟩:=hx
 exact ⟨⟨bx',r,hk r bx' h1⟩,ar h hk⟩
@[go_sem ↓] theorem TC {K:St -> Prop} {st:St}:lA P K [] st = K st:=rfl
@[go_sem ↓] theorem QZ {K:St -> Prop} {o:bS} {l:List bS} {st:St}:lA P K (o :: l) st = Cf P o (lA P K l) st:=rfl
@[go_sem ↓] theorem opF_plain (o:Option Tmp) (op:Op) (g:Option (Tmp × Bool)) (K:St -> Prop) (st:St):Cf P ⟨o,op,g,false⟩ K st = dB P true ⟨o,op,g,false⟩ K st:=rfl
@[go_sem ↓] theorem TD (o:Option Tmp) (t:TypeId) (a:Operand) (K:St -> Prop) (st:St):Cf P ⟨o,.load t a,none,true⟩ K st = pS (dM P (fun _=>none) t (gv P st a)) o K st:=rfl
@[go_sem ↓] theorem Ra (o:Option Tmp) (t:TypeId) (a:Operand) (s:Nat) (w:Bool) (K:St -> Prop) (st:St):Cf P ⟨o,.load t a,some (s,w),true⟩ K st = dQ (st.sl s) w (dM P (fun _=>none) t (gv P st a)) o K st:=rfl
def Co (P:Program) (e:TypeId) (z:Option Value) (len:Nat) (ps:List (Nat × V)):Ev :=
 match z with
 | some z=>(storable P e (ofValue z) /\ 0 < aF P e /\ len * aF P e <= 16777216 /\ nW P e len ps,.sl (aF P e) (jR (List.replicate len (ofValue z)) ps))
 | none=>dt
def zy (P:Program) (k:vt) (len:Nat) (ps:List (Nat × V)):Ev :=
 match k with
 | .slice e=>Co P e (aV P e) len ps
 | _=>dt
@[go_sem] theorem Lv {e:TypeId} {len:Nat} {ps:List (Nat × V)}:zy P (.slice e) len ps = Co P e (aV P e) len ps:=rfl
@[go_sem] theorem Np {e:TypeId} {z:Value} {len:Nat} {ps:List (Nat × V)}:Co P e (some z) len ps = (storable P e (ofValue z) /\ 0 < aF P e /\ len * aF P e <= 16777216 /\ nW P e len ps,.sl (aF P e) (jR (List.replicate len (ofValue z)) ps)):=rfl
theorem zz (e:TypeId) (n:Nat):∀ ps:List (Nat × V),nW P e n ps ↔ ∀ p,p ∈ ps -> p.1 < n /\ storable P e p.2
 | []=>by simp [nW]
 | (i,x) :: ps=>by simp [nW,zz e n ps,and_assoc]
theorem Cp (st:St) (t:TypeId) (len:Nat) (parts:List (Nat × Operand)):DL P t len (parts.map fun p=>(p.1,st.get p.2)) = zy P (bC P t) len (jV st parts):=by
 rw [pU]
 unfold DL zy
 cases bC P t with
 | slice e=>simp only [Co]; cases aV P e <;> simp only [zz]
 | _=>rfl
@[go_sem ↓] theorem Y5 (o:Option Tmp) (x:Operand) (t:TypeId) (K:St -> Prop) (st:St):Cf P ⟨o,.call { callee:=.builtin .len,args:=#[x],argTypes:=#[t] },none,true⟩ K st = pS (nO P (fun _=>none) t (st.get x)) o K st:=rfl
@[go_sem ↓] theorem Rb (o:Option Tmp) (t:TypeId) (len:Nat) (parts:Array (Nat × Operand)) (K:St -> Prop) (st:St):Cf P ⟨o,.buildSlice t len parts,none,true⟩ K st = pS (zy P (bC P t) len (jV st parts.toList)) o K st:=by
 rw [<- Cp]; rfl
@[go_sem ↓] theorem Nq (o:Option Tmp) (t:TypeId) (len:Nat) (parts:Array (Nat × Operand)) (s:Nat) (w:Bool) (K:St -> Prop) (st:St):Cf P ⟨o,.buildSlice t len parts,some (s,w),true⟩ K st = dQ (st.sl s) w (zy P (bC P t) len (jV st parts.toList)) o K st:=by
 rw [<- Cp]; rfl
theorem aA {rs:List ResultVar} {Kc:V -> aa -> Prop} {st:St} (h:∀ r,r ∈ rs -> (jb P st r).1) (hk:Kc (kG P st rs) st.bx):Aw P rs Kc st :=
 ⟨h,st.bx,_,bX.refl _,.inl rfl,hk⟩
attribute [go_sem] jb kG
end
end Go.Pl
namespace Go.Pl
open Go
section
variable {P:Program}
def FD {ι:Type} (I:ι -> Prop) (C:ι -> St) (μ:ι -> Nat) (m:Nat) (s:St):Prop:=∃ i',I i' /\ jq s (C i') /\ μ i' < m
theorem pV {ι:Type} (I:ι -> Prop) (C:ι -> St) (μ:ι -> Nat) (i:ι) {c:PC} {Q:Exit -> St -> Prop} {st:St} (hi:I i) (hc:jq st (C i))
 (round:∀ i,I i -> pw P c (jy (FD I C μ (μ i)) Q) (C i)):pw P (.loop c) Q st:=by
 refine ⟨{i:ι // I i},fun i=>C i.1,fun i=>μ i.1,⟨i,hi⟩,hc,fun i=>?_⟩
 have h:=round i.1 i.2
 have e:(jy (FD I C μ (μ i.1)) Q) = (jy (fun s=>∃ i':{i:ι // I i},jq s (C i'.1) /\ μ i'.1 < μ i.1) Q):=by
  funext ex s
  cases ex with
  | normal =>
    simp only [jy,FD]
    apply propext
    constructor
    ·rintro ⟨i',h1,h2,h3⟩; exact ⟨⟨i',h1⟩,h2,h3⟩
    ·rintro ⟨i',h2,h3⟩; exact ⟨i'.1,i'.2,h2,h3⟩
  | _=>rfl
 exact e ▸ h
def Ext (bx bx':aa):Prop:=∀ b,bx b ≠ none -> bx' b = bx b
theorem Ext.refl (bx:aa):Ext bx bx:=fun _ _=>rfl
theorem Ext.trans {a b c:aa} (h:Ext a b) (h':Ext b c):Ext a c:=fun x hx=>by rw [h' x (by rw [h x hx]; exact hx),h x hx]
theorem Ext.new {a b:aa} {x:Nat} (h:Ext a b) (hx:b x = none) (v:Option bF):Ext a (aB b x v):=by
 intro y hy
 by_cases e:y = x
 ·subst e; exact absurd (h y hy ▸ hx) hy
 ·rw [ae _ _ e]; exact h y hy
theorem Ext.sub {a b:aa} (h:Ext a b):bX b a:=by
 intro x
 by_cases hx:a x = none
 ·exact .inl hx
 ·exact .inr (.inl (h x hx).symm)
theorem Ext.none {a b:aa} (h:Ext a b) {x:Nat} (hx:b x = none):a x = none:=by
 by_cases e:a x = Option.none
 ·exact e
 ·rw [h x e] at hx; exact hx
structure Acc (bx:aa) (e sz:Nat) (es:List V) (v:V) (bx':aa):Prop where
 ext:Ext bx bx'
 fin:ba bx'
 is:(es = [] /\ v = .aH) \/ ∃ b,bx b = none /\ v = .own b sz 0 es.length /\ bx' b = some (.row e sz es)
theorem Acc.cells {bx bx':aa} {e sz:Nat} {es:List V} {v:V} (h:Acc bx e sz es v bx'):v.cells = [v]:=by
 rcases h.is with ⟨_,rfl⟩ | ⟨b,_,rfl,_⟩ <;> rfl
theorem Acc.okV {bx bx':aa} {e sz:Nat} {es:List V} {v:V} (h:Acc bx e sz es v bx'):okV v = true:=by
 rcases h.is with ⟨_,rfl⟩ | ⟨b,_,rfl,_⟩ <;> rfl
theorem Acc.strip {bx bx':aa} {e sz:Nat} {es:List V} {v:V} (h:Acc bx e sz es v bx'):v.strip = v:=by
 rcases h.is with ⟨_,rfl⟩ | ⟨b,_,rfl,_⟩ <;> rfl
theorem Acc.live {bx bx':aa} {e sz:Nat} {es:List V} {v:V} (h:Acc bx e sz es v bx'):v.az = true:=by
 rcases h.is with ⟨_,rfl⟩ | ⟨b,_,rfl,_⟩ <;> rfl
theorem Acc.bh {bx bx':aa} {e sz:Nat} {es:List V} {v:V} (h:Acc bx e sz es v bx') (o:Nat) (w:V):bh v o [w] = w:=by
 rcases h.is with ⟨_,rfl⟩ | ⟨b,_,rfl,_⟩ <;> rfl
theorem xw {bx:aa} (hf:ba bx) (e sz:Nat):Acc bx e sz [] .aH bx:=⟨Ext.refl _,hf,.inl ⟨rfl,rfl⟩⟩
theorem Acc.ext' {bx bx' bx'':aa} {e sz:Nat} {es:List V} {v:V} (h:Acc bx e sz es v bx') (he:Ext bx' bx'') (hf:ba bx''):Acc bx e sz es v bx'':=by
 refine ⟨h.ext.trans he,hf,?_⟩
 rcases h.is with h1 | ⟨b,h1,h2,h3⟩
 ·exact .inl h1
 ·exact .inr ⟨b,h1,h2,by rw [he b (by rw [h3]; simp),h3]⟩
theorem jW {bx bP:aa} {e sz:Nat} {es news:List V} {v x:V} {t:TypeId} {dst:Option Tmp} {n:Nat} {sl:Nat -> V} {bx2:aa} {K:St -> Prop} (z:Value)
 (ha:Acc bx e sz es v bP) (h2:Ext bP bx2) (hf:ba bx2) (hk:bC P t = .slice e) (bW:aF P e = sz) (src:bM ⟨n,sl,bx2⟩ sz x = some news) (hz:aV P e = some z) (iB:storable P e (ofValue z)) (eJ:0 < sz)
 (sa:(es.length + news.length) * oF P e <= 140737488355328) (hlen:es.length + news.length <= 9223372036854775807) (hd:aL ⟨n,sl,bx2⟩ dst)
 (hK:∀ v' bx3,Acc bx e sz (es ++ news) v' bx3 -> K (St.put ⟨n,sl,bx3⟩ dst v')):da P ⟨n,sl,bx2⟩ dst t v x K:=by
 subst bW
 have FE:=ha.ext' h2 hf
 unfold da
 simp only [hk,src,hz]
 refine ⟨iB,eJ,hd,hf,?_⟩
 rcases FE.is with ⟨rfl,rfl⟩ | ⟨b,hb,rfl,cz⟩
 ·simp only [List.length_nil,Nat.zero_add] at sa hlen
  refine ⟨sa,hlen,fun b hb=>?_⟩
  refine hK _ _ ⟨FE.ext.new hb _,(an _ _ _).2 hf,.inr ⟨b,FE.ext.none hb,by simp,af _ _ _⟩⟩
 ·simp only [cz]
  refine ⟨trivial,trivial,trivial,Nat.le_refl _,sa,hlen,fun b' aR=>?_⟩
  have e1:Ext bx (aB bx2 b none):=by
   intro y hy
   by_cases e:y = b
   ·subst e; exact absurd hb hy
   ·rw [ae _ _ e]; exact FE.ext y hy
  refine hK _ _ ⟨e1.new aR _,(an _ _ _).2 ((an _ _ _).2 hf),.inr ⟨b',e1.none aR,?_,?_⟩⟩
  ·simp
  ·rw [List.take_length]; exact af _ _ _
def Wk (v v':V):Prop:=∀ β w F u,aP β w F v u -> aP β w F v' u
theorem Wk.refl (v:V):Wk v v:=fun _ _ _ _ h=>h
theorem pW (sz:Nat):Wk .aH (.sl sz []):=by
 intro β w F u h
 cases h
 exact aP.sl (β:=β) (w:=w) (F:=F) sz [] none 0 (fun _=>undef) (Nat.le_refl _) (by simp) (fun h=>absurd rfl h) (fun e he=>by cases he) (fun i e j c he=>by simp at he) (fun i e j c he=>by simp at he)
theorem aw.DO {f:FuncId} {args:List V} {bx:aa} {Kc Kc':V -> aa -> Prop} (h:aw P f args bx Kc) (hk:∀ r bx',Kc r bx' -> ∃ r',Wk r r' /\ Kc' r' bx'):aw P f args bx Kc':=by
 refine ⟨h.1,fun β M w vs c8 kN bW fK=>(h.2 β M w vs c8 kN bW fK).mono ?_⟩
 rintro e w' ⟨v,r,bx',β',h1,h2,h3,h4,h5⟩
 obtain ⟨r',hw,jZ⟩:=hk r bx' h2
 exact ⟨v,r',bx',β',h1,jZ,h3,h4,hw _ _ _ _ h5⟩
theorem aw.args {f:FuncId} {args args':List V} {bx:aa} {Kc:V -> aa -> Prop} (h:aw P f args' bx Kc) (hl:args'.length = args.length) (hw:∀ (i:Nat) (c c':V),args[i]? = some c -> args'[i]? = some c' -> Wk c c'):aw P f args bx Kc:=by
 refine ⟨h.1,fun β M w vs c8 kN bW fK=>h.2 β M w vs c8 kN (bW.trans hl.symm) fun i c' ec=>?_⟩
 have hi:i < args'.length:=(List.getElem?_eq_some_iff.1 ec).1
 have hc:=List.getElem?_eq_getElem (l:=args) (i:=i) (by omega)
 exact hw i _ c' hc ec _ _ _ _ (fK i _ hc)
theorem Jf {rs:List ResultVar} {Kc:V -> aa -> Prop} {st:St} {bx:aa} {e sz:Nat} {es:List V} (h:∀ r,r ∈ rs -> (jb P st r).1) (ha:Acc bx e sz es (kG P st rs) st.bx) (eJ:0 < sz)
 (hk:∀ r,(r = .aH /\ es = []) \/ r = .sl sz es -> Kc r bx):Aw P rs Kc st:=by
 rcases ha.is with ⟨h1,h2⟩ | ⟨b,h1,h2,h3⟩
 ·exact ⟨h,bx,_,ha.ext.sub,.inl rfl,hk _ (.inl ⟨h2,h1⟩)⟩
 ·refine ⟨h,bx,_,ha.ext.sub,.inr ⟨1,rfl⟩,hk _ (.inr ?_)⟩
  rw [h2]
  have e0:∀ v,cK st.bx bx 0 v = v:=fun v=>by cases v <;> rfl
  have:List.map (cK st.bx bx 0) es = es:=by rw [List.map_congr_left (g:=id) (fun a _=>e0 a)]; simp
  simp [cK,h3,h1,eJ,this]
def z1:V -> Bool
 | .int .. | .bool _ | .str _ | .aH | .eD | .gY | .ir | .gE | .cU=>true
 | .agg cs | .dc cs=>cs.all fun c=>match c with
   | .int .. | .bool _ | .str _ | .aH | .eD | .gY | .ir | .gE | .cU=>true
   | _=>false
 | _=>false
theorem FF {β β':Beta} {w w':World} {F F':Nat -> Prop}:∀ {v:V} {u:Value},z1 v = true -> aP β w F v u -> aP β' w' F' v u:=by
 have one:∀ {v:V} {u:Value},(match v with
  | .int .. | .bool _ | .str _ | .aH | .eD | .gY | .ir | .gE | .cU=>true
  | _=>false) = true -> aP β w F v u -> aP β' w' F' v u:=by
  intro v u h1 h
  cases h with
  | cU u=>exact .cU u
  | int k n=>exact .int k n
  | bool b=>exact .bool b
  | str s=>exact .str s
  | aH=>exact .aH
  | eD=>exact .eD
  | gY=>exact .gY
  | ir=>exact .ir
  | gE=>exact .gE
  | _=>simp at h1
 intro v u hf h
 cases h with
 | agg cs us hl h1 hr =>
   refine .agg cs us hl h1 fun i c hc=>one ?_ (hr i c hc)
   simp only [z1,List.all_eq_true] at hf
   exact hf c (List.mem_of_getElem? hc)
 | dc cs us hl hr =>
   refine .dc cs us hl fun i c hc=>one ?_ (hr i c hc)
   simp only [z1,List.all_eq_true] at hf
   exact hf c (List.mem_of_getElem? hc)
 | cU u=>exact .cU u
 | int k n=>exact .int k n
 | bool b=>exact .bool b
 | str s=>exact .str s
 | aH=>exact .aH
 | eD=>exact .eD
 | gY=>exact .gY
 | ir=>exact .ir
 | gE=>exact .gE
 | _=>simp [z1] at hf
theorem ay.frame {f:FuncId} {args args':List V} {bx:aa} {r:V} (d:Nat) (h:ay P f args' (fun _=>none) r) (ha:args' = args.map (cK bx (fun _=>none) d)) (hr:z1 r = true):ay P f args bx r:=by
 subst ha
 refine ⟨h.1,fun β M w vs c8 kN bW fK=>?_⟩
 have hs:=bX.none_ bx
 refine (h.2 β M w vs (c8.sub hs) (kN.imp fun _ _ hh=>hs.rep hh) (by simpa using bW) fun i c hc=>?_).mono ?_
 ·rw [List.getElem?_map,Option.map_eq_some_iff] at hc
  obtain ⟨c0,Bl,rfl⟩:=hc
  exact l4 c8 hs d _ _ (fK i c0 Bl)
 ·rintro e w' ⟨v,r',bx',β',h1,⟨rfl,rfl⟩,tp,jk,bO⟩
  have hb:∀ b k,bx b ≠ none -> β' b = some (some k) -> β b = some (some k):=by
   intro b k hb hk
   obtain ⟨box,dP⟩:=Option.ne_none_iff_exists'.1 hb
   rcases c8.live b box dP with ⟨h2,_⟩ | ⟨k',h2,_⟩
   ·rw [jk.ext b _ h2] at hk; cases hk
   ·rw [jk.ext b _ h2] at hk; rw [h2,hk]
  have TE:Tr β bx w β' bx w':=⟨jk.os,jk.tape,jk.output,fun _=>jk.drawn (fun ⟨b,ty,h⟩=>by cases h),fun h=>h,jk.size,fun k hk _=>jk.cw k hk (fun b hb=>absurd rfl hb),jk.shape,jk.ext,fun b k h1 h2=>.inl ⟨b,h1,hb b k h1 h2⟩⟩
  refine ⟨v,r',bx,β',h1,⟨rfl,rfl⟩,?_,TE,FF hr bO⟩
  refine ⟨tp.fin,tp.mlt,fun b box dP=>?_,fun b b' k h1 h2 h3 h4=>c8.inj b b' k h1 h2 (hb b k h1 h3) (hb b' k h2 h4)⟩
  rcases c8.live b box dP with ⟨h2,h3⟩ | ⟨k,h2,h3,h4,h5⟩
  ·exact .inl ⟨jk.ext b _ h2,h3⟩
  ·refine .inr ⟨k,jk.ext b _ h2,Nat.lt_of_lt_of_le h3 jk.size,h4,?_⟩
   exact bn h5 (jk.cw k h3 (fun b hb=>absurd rfl hb)) jk.ext (fun k' jZ=>TE.fz jZ) jk.shape
theorem gN {n:Int} (h:-9223372036854775808 <= n /\ n <= 9223372036854775807):IntKind.i64.wrap n = n:=by
 unfold IntKind.wrap; simp [IntKind.bits,IntKind.signed]; omega
theorem FG {n:Int} (h:0 <= n /\ n <= 18446744073709551615):IntKind.u64.wrap n = n:=by
 unfold IntKind.wrap; simp [IntKind.bits,IntKind.signed]; omega
end
end Go.Pl
namespace Go.Pl
open Go Classical
section
variable {P:Program} {β:Beta} {M:dR} {bxc bxi:aa} {w:World}
theorem jc.frame {b:Nat} {args:List V} {Kc:V -> aa -> Prop} (h:jc P b args bxc Kc) (hd:Dj bxc bxi):jc P b args (ov bxc bxi) fun r bx'=>∃ bxc',Kc r bxc' /\ Dj bxc' bxi /\ bx' = ov bxc' bxi:=by
 intro n β M w vs k bQ c8 kN jz mH
 obtain ⟨hw,hF⟩:=qE c8 hd
 obtain ⟨fn,tmps,assign,body,h1,h2⟩:=h n β _ w vs k bQ hw (kN.imp fun _ _ hh=>hh.mono (fun _ _ h=>h) (fun k hk=>⟨(hF k).1 hk,rfl⟩) (fun _ _ h=>h)) jz (fun i c hc=>(mH i c hc).mono (fun _ _ h=>h) (fun k hk=>⟨(hF k).1 hk,rfl⟩) (fun _ _ h=>h))
 refine ⟨fn,tmps,assign,body,h1,h2.mono ?_⟩
 rintro e w' ⟨v,r,bx',β',rfl,hk,tp,jk,bO⟩
 obtain ⟨a1,a2,a3,a4⟩:=tA c8 hd tp jk
 exact ⟨v,r,_,β',rfl,⟨bx',hk,a1,rfl⟩,a2,a3,bO.mono (fun _ _ h=>h) (fun k hk=>⟨a4 k hk,rfl⟩) (fun _ _ h=>h)⟩
end
end Go.Pl
namespace Go.Pl
open Go
section
variable {P:Program}
theorem jc.mono {b:Nat} {args:List V} {bx:aa} {Kc Kc':V -> aa -> Prop} (h:jc P b args bx Kc) (hk:∀ r bx',Kc r bx' -> Kc' r bx'):jc P b args bx Kc':=by
 intro n β M w vs k bQ c8 kN jz mH
 obtain ⟨fn,tmps,assign,body,h1,h2⟩:=h n β M w vs k bQ c8 kN jz mH
 refine ⟨fn,tmps,assign,body,h1,h2.mono ?_⟩
 rintro e w' ⟨v,r,bx',β',rfl,jZ,h3⟩
 exact ⟨v,r,bx',β',rfl,hk _ _ jZ,h3⟩
theorem aw.mono {f:FuncId} {args:List V} {bx:aa} {Kc Kc':V -> aa -> Prop} (h:aw P f args bx Kc) (hk:∀ r bx',Kc r bx' -> Kc' r bx'):aw P f args bx Kc' :=
 h.DO fun r bx' h'=>⟨r,Wk.refl _,hk r bx' h'⟩
@[go_sem] theorem Lw (a b:Bool) (v:V):eB a (eB b v) = eB (a && b) v:=by cases a <;> cases b <;> simp [eB,V.strip,oD]
@[go_sem] theorem Rc (e:Ev) (d:Nat) (K:St -> Prop) (n:Nat) (l:List (Nat × V)) (bx:aa):Ja false e (some d) K ⟨n,bR l,bx⟩ = (d < n /\ K ⟨n,bR ((d,.dead e.2.strip) :: l),bx⟩):=by
 simp only [Ja,aL,jU,Bool.false_eq_true,false_implies,true_and,eB,cond_false]
theorem js (r:V) {d:Bool} {q:FuncId} {vs:List V} {lv:Prop} {o:Option Tmp} {K:St -> Prop} {st:St} (hd:aL st o) (hk:K (st.put o (.dead r.strip))):gK P d false q vs lv o K st :=
 .inl ⟨hd,r,fun h=>(by cases h),hk⟩
@[go_sem] theorem TF (c w:Bool) (e:Ev) (o:Option Tmp) (K:St -> Prop) (st:St):dQ (.dead (.bool c)) w e o K st = Ja false e o K st:=by
 simp [dQ,V.strip,V.az]
@[go_sem] theorem Nr (d wb:Bool) (q:FuncId) (caps args:List V) (o:Option Tmp) (K:St -> Prop) (st:St):mP P d wb (.dead (.fn (.func q) caps)) args o K st = gK P d wb q (gb args ++ caps) False o K st:=by
 simp only [mP,tN,Cm,ow,gK,Bg,zt,DS,Bool.false_eq_true,false_and]
theorem tP {bx:aa} {b:Nat} (h:bx b = none):aB bx b none = bx:=by
 funext x
 by_cases e:x = b
 ·subst e; rw [af,h]
 ·rw [ae _ _ e]
theorem bp {rs:List ResultVar} {Kc:V -> aa -> Prop} {st:St} {bx:aa} (h:∀ r,r ∈ rs -> (jb P st r).1) (he:Ext bx st.bx) (hk:Kc (kG P st rs) bx):Aw P rs Kc st :=
 ⟨h,bx,_,he.sub,.inl rfl,hk⟩
theorem fw {rs:List ResultVar} {Kc:V -> aa -> Prop} {st:St} {bx:aa} (d:Nat) (h:∀ r,r ∈ rs -> (jb P st r).1) (he:Ext bx st.bx) (hk:Kc (cK st.bx bx d (kG P st rs)) bx):Aw P rs Kc st :=
 ⟨h,bx,_,he.sub,.inr ⟨d,rfl⟩,hk⟩
theorem Ext.aJ {bx bx':aa} {b:Nat} (h:Ext bx bx') (hb:bx b = Option.none) (x:Option bF):Ext bx (aB bx' b x):=by
 intro y hy
 by_cases e:y = b
 ·subst e; exact absurd hb hy
 ·rw [ae _ _ e]; exact h y hy
end
end Go.Pl
namespace Go.Pl
open Go
end Go.Pl
namespace Go.Pl
open Go
end Go.Pl
namespace Go.Pl
open Go
theorem ay.wk {P:Program} {f:FuncId} {args:List V} {bx:aa} {r:V} (h:aw P f args bx fun r' bx'=>Wk r' r /\ bx' = bx):ay P f args bx r :=
 h.DO fun r' bx' h'=>⟨r,h'.1,rfl,h'.2⟩
theorem Jg {cs ds:List V} (hl:cs.length = ds.length) (h:∀ (i:Nat) (c d:V),cs[i]? = some c -> ds[i]? = some d -> Wk c d):Wk (.dc cs) (.dc ds):=by
 intro β w F u hr
 cases hr with
 | dc cs us hs hr =>
   refine .dc ds us (hs.trans hl) fun i d hd=>?_
   have hi:i < cs.length:=by rw [hl]; exact (List.getElem?_eq_some_iff.1 hd).1
   exact h i cs[i] d (List.getElem?_eq_getElem hi) hd _ _ _ _ (hr i _ (List.getElem?_eq_getElem hi))
theorem pX {a b c d:V} (h1:Wk a c) (h2:Wk b d):Wk (.dc [a,b]) (.dc [c,d]):=by
 refine Jg rfl fun i x y hx hy=>?_
 match i with
 | 0=>simp at hx hy; subst hx hy; exact h1
 | 1=>simp at hx hy; subst hx hy; exact h2
 | i + 2=>simp at hx
theorem sA {sz:Nat} {es:List V} (h:es = []):Wk .aH (.sl sz es):=by subst h; exact pW sz
theorem Cq {P:Program} {rs:List ResultVar} {r:V} {st:St} (h:∀ r,r ∈ rs -> (jb P st r).1) (hk:Wk (kG P st rs) r):Aw P rs (fun r' bx'=>Wk r' r /\ bx' = st.bx) st :=
 bp h (Ext.refl _) ⟨hk,rfl⟩
end Go.Pl
namespace Go.Pl
open Go
theorem Acc.base {aD bx bx':aa} {e sz:Nat} {es:List V} {v:V} (h:Acc bx e sz es v bx') (he:Ext aD bx):Acc aD e sz es v bx':=by
 refine ⟨he.trans h.ext,h.fin,?_⟩
 rcases h.is with h1 | ⟨b,h1,h2,h3⟩
 ·exact .inl h1
 ·exact .inr ⟨b,he.none h1,h2,h3⟩
theorem Acc.at {bx bx':aa} {e sz:Nat} {es:List V} {v:V} {b:Nat} {x:bF} (h:Acc (aB bx b (some x)) e sz es v bx'):bx' b = some x:=by
 rw [h.ext b (by simp [af]),af]
theorem Acc.put {bx bx':aa} {e sz:Nat} {es:List V} {v:V} {b:Nat} {x:bF} (h:Acc (aB bx b (some x)) e sz es v bx') (y:bF):Acc (aB bx b (some y)) e sz es v (aB bx' b (some y)):=by
 refine ⟨fun c hc=>?_,(an _ _ _).2 h.fin,?_⟩
 ·by_cases e:c = b
  ·subst e; rw [af,af]
  ·rw [ae _ _ e,ae _ _ e]
   have:=h.ext c (by rw [ae _ _ e] at hc ⊢; exact hc)
   rwa [ae _ _ e] at this
 ·rcases h.is with h1 | ⟨b',h1,h2,h3⟩
  ·exact .inl h1
  ·have hn:=eN h1
   exact .inr ⟨b',by rw [ae _ _ hn.1]; exact hn.2,h2,by rw [ae _ _ hn.1]; exact h3⟩
theorem z6 {P:Program} {rs:List ResultVar} {st:St} {bx:aa} {e sz:Nat} {es:List V} (h:∀ r,r ∈ rs -> (jb P st r).1) (ha:Acc bx e sz es (kG P st rs) st.bx) (eJ:0 < sz):Aw P rs (fun r bx'=>Wk r (.sl sz es) /\ bx' = bx) st :=
 Jf h ha eJ fun r hr=>by
  rcases hr with ⟨rfl,h1⟩ | rfl
  ·exact ⟨sA h1,rfl⟩
  ·exact ⟨Wk.refl _,rfl⟩
end Go.Pl
namespace Go.Pl
open Go
theorem iM {P:Program} {ι:Type} (n:Nat) (J:Nat -> ι -> Prop) (C:Nat -> ι -> St) (i:ι) {c:PC} {Q:Exit -> St -> Prop} {st:St} (hi:J 0 i) (hc:jq st (C 0 i))
 (round:∀ k i,k < n -> J k i -> ∀ N:St -> Prop,(∀ s i',J (k + 1) i' -> jq s (C (k + 1) i') -> N s) -> pw P c (jy N Q) (C k i)) (fin:∀ i,J n i -> ∀ N:St -> Prop,pw P c (jy N Q) (C n i)):pw P (.loop c) Q st:=by
 refine pV (ι:=Nat × ι) (fun p=>p.1 <= n /\ J p.1 p.2) (fun p=>C p.1 p.2) (fun p=>n - p.1) (0,i) ⟨Nat.zero_le _,hi⟩ hc ?_
 rintro ⟨k,i⟩ ⟨hk,hj⟩
 dsimp only at hk hj ⊢
 by_cases h:k < n
 ·exact round k i h hj _ fun s i' h1 h2=>⟨(k + 1,i'),⟨h,h1⟩,h2,by dsimp only; omega⟩
 ·obtain rfl:k = n:=by omega
  exact fin i hj _
theorem eG {P:Program} (n:Nat) (hit:Nat -> Bool) (C:Nat -> St) {c:PC} {Q:Exit -> St -> Prop} {st:St} (hc:jq st (C 0))
 (round:∀ k,k < n -> (∀ j,j < k -> hit j = false) -> ∀ N:St -> Prop,(∀ s,hit k = false -> jq s (C (k + 1)) -> N s) -> pw P c (jy N Q) (C k)) (fin:(∀ j,j < n -> hit j = false) -> ∀ N:St -> Prop,pw P c (jy N Q) (C n)):pw P (.loop c) Q st:=by
 refine iM (ι:=Unit) n (fun k _=>∀ j,j < k -> hit j = false) (fun k _=>C k) () (fun j hj=>by omega) hc (fun k _ hk hJ N hN=>round k hk hJ N fun s h1 h2=>hN s () (fun j hj=>?_) h2) (fun _ hJ N=>fin hJ N)
 by_cases e:j = k
 ·rw [e]; exact h1
 ·exact hJ j (by omega)
theorem ch {P:Program} (n:Nat) (C:Nat -> St) {c:PC} {Q:Exit -> St -> Prop} {st:St} (hc:jq st (C 0))
 (round:∀ k,k < n -> ∀ N:St -> Prop,(∀ s,jq s (C (k + 1)) -> N s) -> pw P c (jy N Q) (C k)) (fin:∀ N:St -> Prop,pw P c (jy N Q) (C n)):pw P (.loop c) Q st :=
 iM (ι:=Unit) n (fun _ _=>True) (fun k _=>C k) () trivial hc (fun k _ hk _ N hN=>round k hk N fun s h=>hN s () trivial h) (fun _ _ N=>fin N)
theorem bj {k:Nat} (h:k < 1000000000):IntKind.i64.wrap ((k:Int) + 1) = ((k + 1:Nat):Int):=by rw [gN (by omega)]; omega
theorem Jh {bx bx':aa} {d b sz n:Nat} {ty:TypeId} {es:List V} (h:bx b = some (.row ty sz es)) (h':bx' b = none) (hs:0 < sz) (hn:n = es.length):cK bx bx' (d + 1) (.own b sz 0 n) = .sl sz (es.map (cK bx bx' d)):=by
 subst hn
 simp [cK,h,h',hs]
theorem TH (bx bx':aa) (v:V):cK bx bx' 0 v = v:=by cases v <;> rfl
theorem Ns (bx bx':aa) (l:List V):l.map (cK bx bx' 0) = l:=by
 rw [List.map_congr_left (g:=id) (fun a _=>TH _ _ a)]; simp
theorem Acc.row {bx bx':aa} {e sz:Nat} {es:List V} {v:V} (h:Acc bx e sz es v bx') (bB:es ≠ []):∃ b,bx b = none /\ v = .own b sz 0 es.length /\ bx' b = some (.row e sz es):=by
 rcases h.is with ⟨h1,_⟩ | h1
 ·exact absurd h1 bB
 ·exact h1
theorem sB {bx:aa} {b:Nat} (hb:bx b = none) (hf:ba bx) (e sz:Nat) (es:List V) (n:Nat) (hn:n = es.length):Acc bx e sz es (.own b sz 0 n) (aB bx b (some (.row e sz es))) :=
 ⟨(Ext.refl _).new hb _,(an _ _ _).2 hf,.inr ⟨b,hb,by rw [hn],af _ _ _⟩⟩
theorem al {P:Program} {rs:List ResultVar} {Kc:V -> aa -> Prop} {st:St} (h:∀ r,r ∈ rs -> (jb P st r).1) (hk:Kc (kG P st rs) st.bx):Aw P rs Kc st:=aA h hk
end Go.Pl
namespace Go.Pl
open Go
end Go.Pl
namespace Go.Pl
open Go
@[go_sem] theorem Y6 (bx bx':aa) (d:Nat) (cs:List V):cK bx bx' (d + 1) (.dc cs) = .dc (cs.map (cK bx bx' d)):=rfl
@[go_sem] theorem Y7 (bx bx':aa) (d:Nat) (cs:List V):cK bx bx' (d + 1) (.agg cs) = .agg (cs.map (cK bx bx' d)):=rfl
@[go_sem] theorem Y8 (bx bx':aa) (d:Nat) (k:IntKind) (n:Int):cK bx bx' d (.int k n) = .int k n:=by cases d <;> rfl
@[go_sem] theorem Rd (bx bx':aa) (d:Nat) (n:Bool):cK bx bx' d (.bool n) = .bool n:=by cases d <;> rfl
@[go_sem] theorem Y9 (bx bx':aa) (d:Nat) (n:List UInt8):cK bx bx' d (.str n) = .str n:=by cases d <;> rfl
@[go_sem] theorem TI (bx bx':aa) (d:Nat):cK bx bx' d .aH = .aH:=by cases d <;> rfl
@[go_sem] theorem aax (bx bx':aa) (d sz:Nat) (es:List V):cK bx bx' d (.sl sz es) = .sl sz es:=by cases d <;> rfl
theorem fe {bx bx':aa} {b sz n:Nat} {ty:TypeId} {es:List V} (h:bx b = some (.row ty sz es)) (h':bx' b = none) (hs:0 < sz) (hn:n = es.length):cK bx bx' 1 (.own b sz 0 n) = .sl sz es:=by
 rw [Jh h h' hs hn,Ns]
end Go.Pl
namespace Go.Pl
open Go
theorem j0 {P:Program} {c:PC} {Q:Exit -> St -> Prop} {st st':St} (h:jq st st') (h2:pw P c Q st'):pw P (.wk c) Q st:=⟨st',h,h2⟩
end Go.Pl
namespace Go.Pl
open Go
section
variable {P:Program}
@[go_sem ↓] theorem Nt (d z:Bool) (o:Option Tmp) (t:TypeId) (x ix:Operand) (ok:Bool) (K:St -> Prop) (st:St):dB P d ⟨o,.lookup t x ix ok,none,z⟩ K st = pS (lp P st.bx t (st.get x) (st.get ix) ok) o K st:=by cases z <;> rfl
@[go_sem ↓] theorem Nu (d z:Bool) (o:Option Tmp) (t:TypeId) (x ix:Operand) (ok:Bool) (s:Nat) (w:Bool) (K:St -> Prop) (st:St):dB P d ⟨o,.lookup t x ix ok,some (s,w),z⟩ K st = dQ (st.sl s) w (lp P st.bx t (st.get x) (st.get ix) ok) o K st:=by cases z <;> rfl
@[go_sem ↓] theorem Lx (d z:Bool) (o:Option Tmp) (t:TypeId) (x:Operand) (K:St -> Prop) (st:St):dB P d ⟨o,.makeInterface t x,none,z⟩ K st = pS (iC P t (st.get x)) o K st:=by cases z <;> rfl
@[go_sem ↓] theorem Nv (d z:Bool) (o:Option Tmp) (t a:TypeId) (x:Operand) (ok:Bool) (K:St -> Prop) (st:St):dB P d ⟨o,.typeAssert x t a ok,none,z⟩ K st = pS (ns P (st.get x) a ok) o K st:=by cases z <;> rfl
@[go_sem ↓] theorem Ji (d z:Bool) (o:Option Tmp) (x:Operand) (K:St -> Prop) (st:St):dB P d ⟨o,.nilCheck x,none,z⟩ K st = pS (kQ (st.get x)) o K st:=by cases z <;> rfl
@[go_sem ↓] theorem Jj (d z:Bool) (o:Option Tmp) (x:Operand) (s:Nat) (w:Bool) (K:St -> Prop) (st:St):dB P d ⟨o,.nilCheck x,some (s,w),z⟩ K st = dQ (st.sl s) w (kQ (st.get x)) o K st:=by cases z <;> rfl
def FH (o:Option Tmp) (K:St -> Prop) (st:St):Prop:=aL st o /\ ba st.bx /\ ∀ b,st.bx b = none -> K ((st.box b (some (.map []))).put o (.mp b))
@[go_sem ↓] theorem Ly (d z:Bool) (o:Option Tmp) (t:TypeId) (K:St -> Prop) (st:St):dB P d ⟨o,.makeMap t none,none,z⟩ K st = FH o K st:=by cases z <;> rfl
@[go_sem] theorem Nw (t:Nat) (K:St -> Prop) (n:Nat) (l:List (Nat × V)) (bx:aa):FH (some t) K ⟨n,bR l,bx⟩ = (t < n /\ ba bx /\ ∀ b,bx b = none -> K ⟨n,bR ((t,.mp b) :: l),aB bx b (some (.map []))⟩):=by
 simp only [FH,aL,tM,jU]
@[go_sem ↓] theorem Is (d z:Bool) (o:Option Tmp) (t:TypeId) (m k x:Operand) (K:St -> Prop) (st:St):dB P d ⟨o,.mapUpdate t m k x,none,z⟩ K st = (o = none /\ p8 P st t (st.get m) (st.get k) (st.get x) K):=by cases z <;> rfl
@[go_sem ↓] theorem Nx (d z:Bool) (o:Option Tmp) (t:TypeId) (m k x:Operand) (K:St -> Prop) (st:St):dB P d ⟨o,.insert t m k x,none,z⟩ K st = (o = none /\ p8 P st t (st.get m) (st.get k) (st.get x) K):=by cases z <;> rfl
@[go_sem ↓] theorem Ny (d z:Bool) (o:Option Tmp) (t t2:TypeId) (m k:Operand) (K:St -> Prop) (st:St):dB P d ⟨o,.call { callee:=.builtin .delete,args:=#[m,k],argTypes:=#[t,t2] },none,z⟩ K st = (o = none /\ tk P st t (st.get m) (st.get k) K):=by cases z <;> rfl
@[go_sem ↓] theorem Jk (d z:Bool) (o:Option Tmp) (t:TypeId) (m k:Operand) (K:St -> Prop) (st:St):dB P d ⟨o,.mapEntry t m k,none,z⟩ K st = q0 P st t (st.get m) (st.get k) o K:=by cases z <;> rfl
@[go_sem ↓] theorem FI (d z:Bool) (o:Option Tmp) (t:TypeId) (m s x:Operand) (K:St -> Prop) (st:St):dB P d ⟨o,.entryStore t m s x,none,z⟩ K st = (o = none /\ jn st (st.get m) (st.get s) (st.get x) K):=by cases z <;> rfl
@[go_sem ↓] theorem Re (d z:Bool) (o:Option Tmp) (t:TypeId) (x:Operand) (K:St -> Prop) (st:St):dB P d ⟨o,.range t x,none,z⟩ K st = (d = false /\ q8 P st t (st.get x) o K):=by cases z <;> rfl
@[go_sem ↓] theorem TJ (d z:Bool) (o:Option Tmp) (x:Operand) (K:St -> Prop) (st:St):dB P d ⟨o,.next x false,none,z⟩ K st = (d = false /\ v8 st (st.get x) o K):=by cases z <;> rfl
@[go_sem ↓] theorem Rf (d z:Bool) (o:Option Tmp) (x:Operand) (K:St -> Prop) (st:St):dB P d ⟨o,.entry x,none,z⟩ K st = (d = false /\ q9 st (st.get x) o K):=by cases z <;> rfl
def Jl (P:Program) (r:V) (name:String) (args:List V) (o:Option Tmp) (K:St -> Prop) (st:St):Prop :=
 match r with
 | .iface t v=>match p9 P t name with
   | some g=>jf args /\ aL st o /\ mO P false g (v :: gb args) o K st
   | none=>False
 | _=>False
theorem z7 {r:V} {name:String} {st:St} {args:List Operand} {o:Option Tmp} {K:St -> Prop}:uQ P st o r name (args.map st.get) K = Jl P r name (nV st args) o K st:=by
 unfold uQ Jl
 rw [dD]
 cases r with
 | iface t v =>
   dsimp only
   cases hm:p9 P t name with
   | none=>rfl
   | some g =>
     dsimp only
     rw [ew]
     have:jf (args.map st.get) = ∀ x,x ∈ args.map st.get -> x.az = true:=propext (fh _)
     rw [this]
     rfl
 | _=>rfl
@[go_sem ↓] theorem Nz (z:Bool) (o:Option Tmp) (r:Operand) (name:String) (args:Array Operand) (ts:Array TypeId) (K:St -> Prop) (st:St):dB P false ⟨o,.call { callee:=.invoke r name,args:=args,argTypes:=ts },none,z⟩ K st = Jl P (st.get r) name (nV st args.toList) o K st:=by
 rw [<- z7]
 have:dB P false ⟨o,.call { callee:=.invoke r name,args:=args,argTypes:=ts },none,z⟩ K st = (false = false /\ uQ P st o (st.get r) name (args.toList.map st.get) K):=by cases z <;> rfl
 rw [this]
 simp
def TK (P:Program) (wb:Bool) (r:V) (name:String) (args:List V) (o:Option Tmp) (K:St -> Prop) (st:St):Prop :=
 (wb = true -> Jl P r name args o K st) /\ (wb = false -> aL st o /\ K (st.put o (.dead .cU)))
def TL (P:Program) (v:V) (w:Bool) (r:V) (name:String) (args:List V) (o:Option Tmp) (K:St -> Prop) (st:St):Prop :=
 match v.strip with
 | .bool c=>TK P (v.az && (c == w)) r name args o K st
 | _=>False
@[go_sem ↓] theorem N1 (z:Bool) (o:Option Tmp) (r:Operand) (name:String) (args:Array Operand) (ts:Array TypeId) (s:Nat) (w:Bool) (K:St -> Prop) (st:St):dB P false ⟨o,.call { callee:=.invoke r name,args:=args,argTypes:=ts },some (s,w),z⟩ K st = TL P (st.sl s) w (st.get r) name (nV st args.toList) o K st:=by
 have e0:dB P false ⟨o,.call { callee:=.invoke r name,args:=args,argTypes:=ts },some (s,w),z⟩ K st = fm P false ⟨o,.call { callee:=.invoke r name,args:=args,argTypes:=ts },some (s,w),false⟩ K st:=by cases z <;> rfl
 rw [e0]
 unfold fm TL
 simp only [yieldOf]
 cases hs:(st.sl s).strip with
 | bool c =>
   simp only [bV,Bool.false_eq_true,if_false]
   have e1:∀ wb,ek P false ⟨o,.call { callee:=.invoke r name,args:=args,argTypes:=ts },some (s,w),false⟩ wb K st = ((wb = true -> aK P false (bS.oper ⟨o,.call { callee:=.invoke r name,args:=args,argTypes:=ts },some (s,w),false⟩) K st) /\ (wb = false -> aL st o /\ K (st.put o (.dead .cU)))):=fun wb=>rfl
   have e2:aK P false (bS.oper ⟨o,.call { callee:=.invoke r name,args:=args,argTypes:=ts },some (s,w),false⟩) K st = (false = false /\ uQ P st o (st.get r) name (args.toList.map st.get) K):=rfl
   rw [e1]
   unfold pP TK
   rw [e2,z7]
   simp
 | _=>rfl
attribute [go_sem] lp kM iC ns kQ vu oI p8 tk wG wH q8 v8 q9 q0 jn kD
end
end Go.Pl
namespace Go.Pl
open Go
abbrev oq (d:Tmp) (o:Op):bS:=⟨some d,o,none,false⟩
abbrev oe (o:Op):bS:=⟨none,o,none,false⟩
abbrev og (d:Tmp) (o:Op) (s:Tmp):bS:=⟨some d,o,some (s,true),false⟩
abbrev oh (d:Tmp) (o:Op) (s:Tmp):bS:=⟨some d,o,some (s,false),false⟩
abbrev t0:Operand:=.tmp 0
abbrev t1:Operand:=.tmp 1
abbrev t2:Operand:=.tmp 2
abbrev t3:Operand:=.tmp 3
abbrev t4:Operand:=.tmp 4
abbrev t5:Operand:=.tmp 5
abbrev t6:Operand:=.tmp 6
abbrev t7:Operand:=.tmp 7
abbrev t8:Operand:=.tmp 8
abbrev t9:Operand:=.tmp 9
abbrev t10:Operand:=.tmp 10
abbrev t11:Operand:=.tmp 11
abbrev t12:Operand:=.tmp 12
abbrev t13:Operand:=.tmp 13
abbrev t14:Operand:=.tmp 14
abbrev t15:Operand:=.tmp 15
abbrev t16:Operand:=.tmp 16
abbrev t17:Operand:=.tmp 17
abbrev t18:Operand:=.tmp 18
abbrev t19:Operand:=.tmp 19
abbrev t20:Operand:=.tmp 20
abbrev t21:Operand:=.tmp 21
abbrev t22:Operand:=.tmp 22
abbrev t23:Operand:=.tmp 23
abbrev t24:Operand:=.tmp 24
abbrev t25:Operand:=.tmp 25
abbrev t26:Operand:=.tmp 26
abbrev t27:Operand:=.tmp 27
abbrev t28:Operand:=.tmp 28
abbrev t29:Operand:=.tmp 29
abbrev t30:Operand:=.tmp 30
abbrev t31:Operand:=.tmp 31
abbrev t32:Operand:=.tmp 32
abbrev t33:Operand:=.tmp 33
abbrev t34:Operand:=.tmp 34
abbrev t35:Operand:=.tmp 35
abbrev t36:Operand:=.tmp 36
abbrev t37:Operand:=.tmp 37
abbrev t38:Operand:=.tmp 38
abbrev t39:Operand:=.tmp 39
abbrev t40:Operand:=.tmp 40
abbrev t41:Operand:=.tmp 41
abbrev t42:Operand:=.tmp 42
abbrev t43:Operand:=.tmp 43
abbrev t44:Operand:=.tmp 44
abbrev t45:Operand:=.tmp 45
abbrev t46:Operand:=.tmp 46
abbrev t47:Operand:=.tmp 47
abbrev t48:Operand:=.tmp 48
abbrev t49:Operand:=.tmp 49
abbrev t50:Operand:=.tmp 50
abbrev t51:Operand:=.tmp 51
abbrev t52:Operand:=.tmp 52
abbrev t53:Operand:=.tmp 53
abbrev t54:Operand:=.tmp 54
abbrev t55:Operand:=.tmp 55
abbrev t56:Operand:=.tmp 56
abbrev t57:Operand:=.tmp 57
abbrev t58:Operand:=.tmp 58
abbrev t59:Operand:=.tmp 59
abbrev t60:Operand:=.tmp 60
abbrev t61:Operand:=.tmp 61
abbrev t62:Operand:=.tmp 62
abbrev t63:Operand:=.tmp 63
abbrev t64:Operand:=.tmp 64
abbrev t65:Operand:=.tmp 65
abbrev t66:Operand:=.tmp 66
abbrev t67:Operand:=.tmp 67
abbrev t68:Operand:=.tmp 68
abbrev t69:Operand:=.tmp 69
abbrev t70:Operand:=.tmp 70
abbrev t71:Operand:=.tmp 71
abbrev t72:Operand:=.tmp 72
abbrev t73:Operand:=.tmp 73
abbrev t74:Operand:=.tmp 74
abbrev t75:Operand:=.tmp 75
abbrev t76:Operand:=.tmp 76
abbrev t77:Operand:=.tmp 77
abbrev t78:Operand:=.tmp 78
abbrev t79:Operand:=.tmp 79
abbrev t80:Operand:=.tmp 80
abbrev t81:Operand:=.tmp 81
abbrev t82:Operand:=.tmp 82
abbrev t83:Operand:=.tmp 83
abbrev t84:Operand:=.tmp 84
abbrev t85:Operand:=.tmp 85
abbrev t86:Operand:=.tmp 86
abbrev t87:Operand:=.tmp 87
abbrev t88:Operand:=.tmp 88
abbrev t89:Operand:=.tmp 89
abbrev t90:Operand:=.tmp 90
abbrev t91:Operand:=.tmp 91
abbrev t92:Operand:=.tmp 92
abbrev t93:Operand:=.tmp 93
abbrev t94:Operand:=.tmp 94
abbrev t95:Operand:=.tmp 95
abbrev t96:Operand:=.tmp 96
abbrev t97:Operand:=.tmp 97
abbrev t98:Operand:=.tmp 98
abbrev t99:Operand:=.tmp 99
abbrev t100:Operand:=.tmp 100
abbrev t101:Operand:=.tmp 101
abbrev t102:Operand:=.tmp 102
abbrev t103:Operand:=.tmp 103
abbrev t104:Operand:=.tmp 104
abbrev t105:Operand:=.tmp 105
abbrev t106:Operand:=.tmp 106
abbrev t107:Operand:=.tmp 107
abbrev t108:Operand:=.tmp 108
abbrev t109:Operand:=.tmp 109
abbrev t110:Operand:=.tmp 110
abbrev t111:Operand:=.tmp 111
abbrev t112:Operand:=.tmp 112
abbrev t113:Operand:=.tmp 113
abbrev t114:Operand:=.tmp 114
abbrev t115:Operand:=.tmp 115
abbrev t116:Operand:=.tmp 116
abbrev t117:Operand:=.tmp 117
abbrev t118:Operand:=.tmp 118
abbrev t119:Operand:=.tmp 119
abbrev t120:Operand:=.tmp 120
abbrev t121:Operand:=.tmp 121
abbrev t122:Operand:=.tmp 122
abbrev t123:Operand:=.tmp 123
abbrev t124:Operand:=.tmp 124
abbrev t125:Operand:=.tmp 125
abbrev t126:Operand:=.tmp 126
abbrev t127:Operand:=.tmp 127
abbrev t128:Operand:=.tmp 128
abbrev t129:Operand:=.tmp 129
abbrev t130:Operand:=.tmp 130
abbrev t131:Operand:=.tmp 131
abbrev t132:Operand:=.tmp 132
abbrev t133:Operand:=.tmp 133
abbrev t134:Operand:=.tmp 134
abbrev t135:Operand:=.tmp 135
abbrev t136:Operand:=.tmp 136
abbrev t137:Operand:=.tmp 137
abbrev t138:Operand:=.tmp 138
abbrev t139:Operand:=.tmp 139
abbrev t140:Operand:=.tmp 140
abbrev t141:Operand:=.tmp 141
abbrev t142:Operand:=.tmp 142
abbrev t143:Operand:=.tmp 143
abbrev t144:Operand:=.tmp 144
abbrev t145:Operand:=.tmp 145
abbrev t146:Operand:=.tmp 146
abbrev t147:Operand:=.tmp 147
abbrev t148:Operand:=.tmp 148
abbrev t152:Operand:=.tmp 152
abbrev t154:Operand:=.tmp 154
abbrev ci (n:Int):Operand:=.const (.int .i64 n)
abbrev cT:Operand:=.const (.bool true)
abbrev cF:Operand:=.const (.bool false)
abbrev cf (k:FuncId) (a:Array Operand) (t:Array TypeId):Op:=.call ⟨.value (.func k),a,t⟩
abbrev cl (a:Operand) (t:TypeId):Op:=.call ⟨.builtin .len,#[a],#[t]⟩
abbrev fa (t:TypeId) (x:Operand) (k:Nat):Op:=.fieldAddr t x k
abbrev mv (x:Operand):Op:=.move x
abbrev sn (x:Operand):Op:=.assign x
abbrev nk (x:Operand):Op:=.nilCheck x
abbrev ld (t:TypeId) (x:Operand):Op:=.load t x
abbrev sr (l:List bS) (k:List Nat) (p:PC):PC:=.seq (.bq false l k) p
abbrev ob (d:Tmp) (t:TypeId) (x:Operand):bS:=⟨some d,.box t x,none,true⟩
abbrev rt (d:Tmp) (x:Operand):PC:=sr [oq d (sn x)] [d] (.ret)
def sq (n:Tmp):List Op -> List bS -> List bS
 | [],r=>r
 | o :: l,r=>oq n o :: sq (n + 1) l r
@[go_sem] theorem sq_nil (n:Tmp) (r:List bS):sq n [] r = r:=rfl
@[go_sem] theorem sq_cons (n:Tmp) (o:Op) (l:List Op) (r:List bS):sq n (o :: l) r = oq n o :: sq (n + 1) l r:=rfl
def xx:Code -> Nat -> List Code
 | .region id ops d,n=>if id = n then [.region id ops d] else []
 | .seq a b,n=>xx a n ++ xx b n
 | .cond _ a b,n=>xx a n ++ xx b n
 | .block _ c,n=>xx c n
 | .loop c,n=>xx c n
 | .rangeFunc _ _ a b,n=>xx a n ++ xx b n
 | _,_=>[]
def dE (f:Func) (n:Nat):Code :=
 match f.body with
 | some c=>match xx c n with
   | [r]=>r
   | _=>.skip
 | none=>.skip
inductive Fits:Code -> PC -> Prop
 | base {c:Code} {pc:PC} (h:compile c = erase pc):Fits c pc
 | raw {c c':Code} (h:c = c'):Fits c (.raw c')
 | seq {a b:Code} {x y:PC} (h1:Fits a x) (h2:Fits b y):Fits (.seq a b) (.seq x y)
 | cond {o:Operand} {a b:Code} {x y:PC} (h1:Fits a x) (h2:Fits b y):Fits (.cond o a b) (.cond o x y)
 | block {id:Nat} {c:Code} {x:PC} (h:Fits c x):Fits (.block id c) (.block id x)
 | wk {c:Code} {x:PC} (h:Fits c x):Fits c (.wk x)
 | fz {c:Code} {t:Nat} {x:PC} (h:Fits c x):Fits c (.fz t x)
section
variable {P:Program}
theorem Bm (hm:P.follows .mixedOrders = true) {c:Code} {pc:PC} (hf:Fits c pc):∀ (M:dR) (Q:Exit -> St -> Prop) (st:St),pw P pc Q st -> qD P M none c Q st:=by
 induction hf with
 | base h=>exact fun M Q st hp=>eM hm _ _ M Q st (.inl rfl) h hp
 | raw h =>
   subst h
   exact fun M Q st hp=>hp M none
 | @seq a b x y h1 h2 ih1 ih2 =>
   intro M Q st hp n β ac w hr
   refine wpIn_seq (wpIn_mono (ih1 M _ st hp n β ac w hr) ?_)
   rintro e a' w' ⟨M',st',β',hq,hx,de,ht⟩
   cases e with
   | normal =>
     refine wpIn_mono (ih2 M' Q st' hq n β' a' w' de) ?_
     rintro e2 a2 w2 ⟨M2,st2,β2,Mr,cQ,sy,zq⟩
     exact ⟨M2,st2,β2,Mr,hx.trans cQ ht.size,sy,ht.trans zq⟩
   | _=>exact ⟨M',st',β',hq,hx,de,ht⟩
 | @cond o a b x y h1 h2 ih1 ih2 =>
   intro M Q st h n β ac w hr
   unfold pw at h
   split at h
   ·rename_i t ht
    obtain ⟨hl,h3,h4⟩:=h
    have bO:=hr.get o
    rw [aG hl ht] at bO
    refine wpIn_cond_split (t:=t) bO.fH (fun ht=>?_) (fun ht=>?_)
    ·exact ih1 M Q st (h3 ht) n β ac w hr
    ·exact ih2 M Q st (h4 ht) n β ac w hr
   ·exact h.elim
 | block h ih =>
   intro M Q st hp n β a w hr
   refine wpIn_block (wpIn_mono (ih M _ st hp n β a w hr) ?_)
   rintro e a' w' ⟨M',st',β',hq,hx,de,ht⟩
   cases e with
   | exit id' =>
     simp only [oP] at hq
     simp only [Exit.inBlock]
     split at hq
     ·rename_i he; rw [if_pos he]; exact ⟨M',st',β',hq,hx,de,ht⟩
     ·rename_i he; rw [if_neg he]; exact ⟨M',st',β',hq,hx,de,ht⟩
   | _=>exact ⟨M',st',β',hq,hx,de,ht⟩
 | wk h ih =>
   rintro M Q st ⟨st',lZ,hp⟩ n β a w hr
   refine wpIn_mono (ih M Q st' hp n β a w (lZ.rs hr)) ?_
   rintro e a' w' ⟨M',st2,β',hq,hx,de,ht⟩
   exact ⟨M',st2,β',hq,hx,de,lZ.bx.tr.trans ht⟩
 | @fz c t x hf ih =>
   intro M Q st h n β a w hr
   unfold pw at h
   split at h
   ·rename_i b sz i o hsl
    split at h
    ·rename_i ty eU es pt
     obtain ⟨rfl,hi,h⟩:=h
     have lZ:jq st ⟨st.n,aB st.sl t (.ep (es.getD i .cU) o),aB st.bx b none⟩:=by
      refine ⟨Nat.le_refl _,fun s=>?_,fun b'=>?_⟩
      ·by_cases e:s = t
       ·subst e
        refine .inr (.inr (.inl ⟨1,?_⟩))
        simp only [af,hsl,cK,pt]
        rw [if_pos ⟨trivial,hi⟩]
       ·exact .inr (.inl (ae _ _ e))
      ·by_cases e:b' = b
       ·subst e; exact .inl (af _ _ _)
       ·exact .inr (.inl (ae _ _ e))
     refine wpIn_mono (ih M Q _ h n β a w (lZ.rs hr)) ?_
     rintro e a' w' ⟨M',st2,β',hq,hx,de,ht⟩
     exact ⟨M',st2,β',hq,hx,de,lZ.bx.tr.trans ht⟩
    ·exact h.elim
   ·exact h.elim
theorem sC (hm:P.follows .mixedOrders = true) {f:FuncId} {fn:Func} {pc:PC} {n:Nat} {rs:List ResultVar} (hf:P.funcs[f]? = some fn) (hb:∃ c,fn.body = some c /\ Fits c pc) (hent:∀ vs w,(callFunc f vs).run P w = .ok (.enter f vs) w) (hn:fn.ntmps = n) (hrs:fn.results.toList = rs)
 {args:List V} {bx:aa} {Kc:V -> aa -> Prop} (h:ba bx -> pw P pc (fun e st=>(e = .normal \/ e = .ret) /\ Aw P rs Kc st) (bZ n args bx)):aw P f args bx Kc:=by
 obtain ⟨c,h1,h2⟩:=hb
 subst hn hrs
 exact lS hf h1 hent fun M n β a w hr=>Bm hm h2 M _ _ (h hr.ok.Sx) n β a w hr
def oT:Code -> Array Oper
 | .region _ ops _=>ops
 | _=>#[]
def r8 (c:Code) (l:List bS):Prop :=
 match c with
 | .region _ ops true=>AX ops = true /\ l.map bS.jS = ops.toList.map (aC ops) /\ ((zj ops).all fun p=>jd l p.1 || jd l p.2) = true /\ ((DN ops).all fun p=>!(lB l p.1 || lB l p.2) || jd l p.1 || jd l p.2) = true
 | _=>False
theorem n9 (hm:P.follows .mixedOrders = true) {c:Code} {l:List bS} (ks:List Nat) (hc:r8 c l) {Q:Exit -> St -> Prop} {st:St} (h:lA P (fun s=>Q .normal (s.cw ks)) l st):pw P (.raw c) Q st:=by
 unfold r8 at hc
 split at hc
 ·rename_i id ops
  obtain ⟨hD,iS,h1,h2⟩:=hc
  intro M ro n β a w hr
  refine wpIn_mono (vM (M:=M) (ro:=ro) (Q:=fun e s=>e = .normal -> Q .normal (s.cw ks)) (id:=id) hm hD iS h1 h2 (by
   have e:(fun s:St=>Q .normal (s.cw ks)) = (fun s:St=>Exit.normal = Exit.normal -> Q .normal (s.cw ks)):=by
    funext s; exact propext ⟨fun h _=>h,fun h=>h rfl⟩
   rw [e] at h
   exact h) n β a w hr) ?_
  rintro e a' w' ⟨M',st',β',⟨rfl,hq⟩,hx,de,ht⟩
  exact ⟨M',_,β',hq rfl,hx,(mN st' ks).rs de,ht⟩
 ·exact hc.elim
end
end Go.Pl
namespace Go.Pl
open Go
theorem Cr {cs ds:List V} (hl:cs.length = ds.length) (h:∀ (i:Nat) (c d:V),cs[i]? = some c -> ds[i]? = some d -> Wk c d):Wk (.agg cs) (.agg ds):=by
 intro β w F u hr
 cases hr with
 | agg cs us hs h1 hr =>
   refine .agg ds us (hs.trans hl) (fun i hi=>h1 i (by omega)) fun i d hd=>?_
   have hi:i < cs.length:=by have:=(List.getElem?_eq_some_iff.1 hd).1; omega
   have hc:=List.getElem?_eq_getElem hi
   exact h i _ d hc hd _ _ _ _ (hr i _ hc)
end Go.Pl
