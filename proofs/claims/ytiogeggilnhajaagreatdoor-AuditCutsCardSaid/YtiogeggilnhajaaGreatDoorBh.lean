/- Texts of the proof, put together: UA, UB, UC, VA, VB, VC, VD, VE, VF, VG, VH, VI, VJ, VK, VL. -/
import Derived.Test.YtiogeggilnhajaaGreatDoorBg
import Derived.Test.YtiogeggilnhajaaGreatDoorBd
import Derived.Test.YtiogeggilnhajaaGreatDoorBe
set_option maxHeartbeats 8000000
set_option linter.unusedSimpArgs false
set_option linter.unusedVariables false
set_option maxRecDepth 100000
namespace Go.Proofs
open Go Go.Pl Tryz
def iI (n:Int):V:=.int .i64 n
def cH (n:Int):Int:=IntKind.i64.wrap n
structure Ev where
 kind:Int
 bk:Nat
 t:Int
 call:Int
 conn:Int
 kf:Int
 n:Int
 yes:Bool
deriving DecidableEq
structure Ex where
 ev:Ev
 b:Int
deriving DecidableEq
structure eR where
 max:Int
 queue:Int
 idle:Int
 xU:Int
deriving DecidableEq
structure RB where
 down:Bool
 gV:Int
 aM:Int
 ax:List Int
 waits:List Int
structure RC where
 num:Int
 bk:Int
 st:Int
 call:Int
 born:Int
 since:Int
 fin:Int
 bt:Int
 cj:Int
 read:Int
structure RR where
 call:Int
 idem:Bool
 aO:Int
 at_:Int
 cj:Int
 ended:Bool
structure RW where
 aN:List eR
 most:Int
 kO:List Ex
 now:Int
 ai:List RB
 aq:List RC
 aE:List RR
 stop:Bool
 ev:Int
 aI:List (Int × Int)
def aX (x:Ev):V:=.agg [iI x.kind,iI x.bk,iI x.t,iI x.call,iI x.conn,iI x.kf,iI x.n,.bool x.yes]
def dQ (x:Ev) (b:Int):V:=.agg [iI x.kind,iI b,iI x.t,iI x.call,iI x.conn,iI x.kf,iI x.n,.bool x.yes]
def ey (x:Ex):V:=dQ x.ev x.b
def bG (x:eR):V:=.agg [iI x.max,iI x.queue,iI x.idle,iI x.xU]
def jl (c:RC):V:=.agg [iI c.num,iI c.bk,iI c.st,iI c.call,iI c.born,iI c.since,iI c.fin,iI c.bt,iI c.cj,iI c.read]
def mT (r:RR):V:=.agg [iI r.call,.bool r.idem,iI r.aO,iI r.at_,iI r.cj,.bool r.ended]
def bH (f:Int × Int):V:=.agg [iI f.1,iI f.2]
def sG (l:List Int) (n:Int):Int:=match l.findIdx? (· == n) with | some i=>i | none=>-1
theorem oU (l:List Int) (n:Int):0 <= sG l n ↔ n ∈ l:=by
 unfold sG
 cases h:l.findIdx? (· == n) with
 | none =>
   rw [List.findIdx?_eq_none_iff] at h
   simp
   exact fun hm=>by have:=h n hm; simp at this
 | some i =>
   rw [List.findIdx?_eq_some_iff_getElem] at h
   obtain ⟨hi,h1,_⟩:=h
   simp at h1
   simp
   rw [<- h1]
   exact List.getElem_mem hi
def aY (bx:aa) (ty:TypeId) (sz:Nat) (es:List V) (v:V):Prop:=(es = [] /\ v = .aH) \/ ∃ b,v = .own b sz 0 es.length /\ bx b = some (.row ty sz es)
theorem aY.of {aD bx:aa} {e sz:Nat} {es:List V} {v:V} (h:Acc aD e sz es v bx):aY bx e sz es v:=by
 rcases h.is with h | ⟨b,_,h1,h2⟩
 ·exact .inl h
 ·exact .inr ⟨b,h1,h2⟩
theorem aY.strip {bx:aa} {e sz:Nat} {es:List V} {v:V} (h:aY bx e sz es v):v.strip = v:=by
 rcases h with ⟨_,rfl⟩ | ⟨b,rfl,_⟩ <;> rfl
theorem aY.live {bx:aa} {e sz:Nat} {es:List V} {v:V} (h:aY bx e sz es v):v.az = true:=by
 rcases h with ⟨_,rfl⟩ | ⟨b,rfl,_⟩ <;> rfl
theorem aY.cells {bx:aa} {e sz:Nat} {es:List V} {v:V} (h:aY bx e sz es v):v.cells = [v]:=by
 rcases h with ⟨_,rfl⟩ | ⟨b,rfl,_⟩ <;> rfl
theorem aY.okV {bx:aa} {e sz:Nat} {es:List V} {v:V} (h:aY bx e sz es v):okV v = true:=by
 rcases h with ⟨_,rfl⟩ | ⟨b,rfl,_⟩ <;> rfl
theorem xV {bx:aa} {l:List Int} {v:V} (h:aY bx 2 1 (l.map iI) v) (hl:l.length <= 100000) (n:Int):ay prog 157 [v,.int .i64 n] bx (.int .i64 (sG l n)):=by
 refine Ou fun hf=>?_
 have zc (j:Nat) (hj:j < l.length) (h1:l[j] = n) (h2:∀ i,i < j -> l.getD i 0 ≠ n):sG l n = j:=by
  have:l.findIdx? (· == n) = some j:=by
   rw [List.findIdx?_eq_some_iff_getElem]
   refine ⟨hj,by simpa using h1,fun i hi=>?_⟩
   have:=h2 i hi
   rw [List.getD_eq_getElem?_getD,List.getElem?_eq_getElem (by omega)] at this
   simpa using this
  unfold sG
  rw [this]
 have jN (h2:∀ i,i < l.length -> l.getD i 0 ≠ n):sG l n = -1:=by
  have:l.findIdx? (· == n) = none:=by
   rw [List.findIdx?_eq_none_iff]
   intro x hx
   obtain ⟨i,hi,rfl⟩:=List.getElem_of_mem hx
   have:=h2 i hi
   rw [List.getD_eq_getElem?_getD,List.getElem?_eq_getElem hi] at this
   simpa using this
  unfold sG
  rw [this]
 rcases h with ⟨hl,rfl⟩ | ⟨b,rfl,hb⟩
 ·have:l = []:=by simpa using hl
  subst this
  simp [go_sem,Ot,hf]
  refine ch 0 (fun k=>⟨19,bR [(0,.aH),(1,.int .i64 n),(5,.int .i64 0)],bx⟩) (ak (by simp [go_sem])) (fun k hk N hN=>by omega) (fun N=>?_)
  simp [go_sem,xN,hf]
  exact aA (by simp [go_sem]) ⟨by simp [go_sem,sG],rfl⟩
 ·simp [go_sem,Ot,hf]
  refine eG l.length (fun j=>l.getD j 0 == n) (fun j=>⟨19,bR [(0,.own b 1 0 l.length),(1,.int .i64 n),(5,.int .i64 j)],bx⟩) (ak (by simp [go_sem])) (fun j hj hJ N hN=>?_) (fun hJ N=>?_)
  ·have hw:=bj (k:=j) (by omega)
   have hg:l.getD j 0 = l[j]:=by simp [hj]
   rw [hg] at hN
   simp [go_sem,xN,hj,hf,hw,hb,iI]
   refine ⟨fun h=>aA (by simp [go_sem]) ⟨by simp [go_sem,zc j hj h fun i hi=>by simpa using hJ i hi],rfl⟩,fun h=>hN _ (by simpa using h) (ak (by simp [go_sem]))⟩
  ·simp [go_sem,xN,hf]
   exact aA (by simp [go_sem]) ⟨by simp [go_sem,jN fun i hi=>by simpa using hJ i hi],rfl⟩
def vc {α:Type} (l:List α) (p:α -> Bool) (j:Nat):Bool:=match l[j]? with | some x=>p x | none=>false
theorem kx {α:Type} {l:List α} {p:α -> Bool} {j:Nat} (hj:j < l.length):vc l p j = p l[j]:=by unfold vc; rw [List.getElem?_eq_getElem hj]
theorem CE {α:Type} {l:List α} {p:α -> Bool} {j:Nat} (hj:j < l.length) (h1:p l[j] = true) (h2:∀ i,i < j -> vc l p i = false):l.findIdx? p = some j:=by
 rw [List.findIdx?_eq_some_iff_getElem]
 refine ⟨hj,h1,fun i hi=>?_⟩
 have:=h2 i hi
 rw [kx (by omega)] at this
 simpa using this
theorem CF {α:Type} {l:List α} {p:α -> Bool} (h2:∀ i,i < l.length -> vc l p i = false):l.findIdx? p = none:=by
 rw [List.findIdx?_eq_none_iff]
 intro x hx
 obtain ⟨i,hi,rfl⟩:=List.getElem_of_mem hx
 have:=h2 i hi
 rwa [kx hi] at this
theorem any_some {α:Type} {l:List α} {p:α -> Bool} {j:Nat} (hj:j < l.length) (h1:p l[j] = true):l.any p = true:=List.any_eq_true.2 ⟨_,List.getElem_mem hj,h1⟩
theorem any_none {α:Type} {l:List α} {p:α -> Bool} (h2:∀ i,i < l.length -> vc l p i = false):l.any p = false:=by
 rw [Bool.eq_false_iff]
 intro h
 obtain ⟨x,hx,h1⟩:=List.any_eq_true.1 h
 obtain ⟨i,hi,rfl⟩:=List.getElem_of_mem hx
 have:=h2 i hi
 rw [kx hi,h1] at this
 cases this
def jS (v:V) (bx:aa):aa:=match v with | .own b _ _ _=>aB bx b none | _=>bx
theorem aY.acc {bx:aa} {e sz:Nat} {es:List V} {v:V} (h:aY bx e sz es v) (hf:ba bx):Acc (jS v bx) e sz es v bx:=by
 rcases h with ⟨h1,rfl⟩ | ⟨b,rfl,hb⟩
 ·exact ⟨Ext.refl _,hf,.inl ⟨h1,rfl⟩⟩
 ·refine ⟨fun c hc=>?_,hf,.inr ⟨b,af _ _ _,rfl,hb⟩⟩
  by_cases e1:c = b
  ·subst e1; exact absurd (af _ _ _) hc
  ·exact (ae _ _ e1).symm
def kg (aD:aa) (v:V):Prop:=∀ b sz o m,v = .own b sz o m -> aD b = none
structure eP (v v':V) (bx bx':aa):Prop where
 fin:ba bx'
 ext:Ext (jS v bx) bx'
 new:kg (jS v bx) v'
theorem eP.other {v v':V} {bx bx':aa} (h:eP v v' bx bx') {b:Nat} (hb:bx b ≠ none) (bB:∀ sz o m,v ≠ .own b sz o m):bx' b = bx b:=by
 have:jS v bx b = bx b:=by
  unfold jS
  split
  ·rename_i c _ _ _
   exact ae _ _ (by rintro rfl; exact bB _ _ _ rfl)
  ·rfl
 rw [h.ext b (by rw [this]; exact hb),this]
theorem eP.base {aD:aa} {v v':V} {bx bx':aa} (h:eP v v' bx bx') (he:Ext aD bx) (hn:kg aD v):Ext aD bx' /\ kg aD v':=by
 have hc:∀ b,aD b ≠ none -> jS v bx b = bx b:=by
  intro b hb
  unfold jS
  split
  ·rename_i c _ _ _
   exact ae _ _ (by rintro rfl; exact hb (hn _ _ _ _ rfl))
  ·rfl
 refine ⟨fun b hb=>?_,fun b sz o m e=>?_⟩
 ·rw [h.ext b (by rw [hc b hb,he b hb]; exact hb),hc b hb,he b hb]
 ·have h1:=h.new b sz o m e
  cases h2:aD b with
  | none=>rfl
  | some x =>
    rw [hc b (by rw [h2]; simp),he b (by rw [h2]; simp),h2] at h1
    cases h1
theorem aY.cw {v v':V} {bx bx':aa} {e sz:Nat} {es:List V} {u:V} (h:aY bx e sz es u) (hm:eP v v' bx bx') (bB:∀ b sz o m eU o' m',v = .own b sz o m -> u ≠ .own b eU o' m'):aY bx' e sz es u:=by
 rcases h with h | ⟨b,rfl,hb⟩
 ·exact .inl h
 ·exact .inr ⟨b,rfl,by rw [hm.other (by rw [hb]; simp) fun eU o m e1=>bB _ _ _ _ _ _ _ e1 rfl,hb]⟩
theorem lE {bx:aa} {e e' sz eU:Nat} {es j7:List V} {v u:V} (h:aY bx e sz es v) (h':aY bx e' eU j7 u) (bB:e ≠ e'):∀ b sz o m eU o' m',v = .own b sz o m -> u ≠ .own b eU o' m':=by
 rintro b _ _ _ _ _ _ rfl rfl
 rcases h with ⟨_,h⟩ | ⟨c,h,hc⟩
 ·cases h
 rcases h' with ⟨_,h'⟩ | ⟨d,h',hd⟩
 ·cases h'
 injection h with h; injection h' with h'
 subst h h'
 rw [hc] at hd
 injection hd with hd
 injection hd with hd
 exact bB hd
theorem dx {bx:aa} {e sz:Nat} {es news:List V} {v x:V} {t:TypeId} {dst:Option Tmp} {n:Nat} {sl:Nat -> V} {K:St -> Prop} (z:Value)
 (ha:aY bx e sz es v) (hf:ba bx) (hk:bC prog t = .slice e) (bW:aF prog e = sz) (src:bM ⟨n,sl,bx⟩ sz x = some news) (hz:aV prog e = some z) (iB:storable prog e (ofValue z)) (eJ:0 < sz)
 (sa:(es.length + news.length) * oF prog e <= 140737488355328) (hlen:es.length + news.length <= 9223372036854775807) (hd:aL ⟨n,sl,bx⟩ dst)
 (hK:∀ v' bx',aY bx' e sz (es ++ news) v' -> eP v v' bx bx' -> v' ≠ .aH \/ es ++ news = [] -> K (St.put ⟨n,sl,bx'⟩ dst v')):da prog ⟨n,sl,bx⟩ dst t v x K :=
 jW z (ha.acc hf) (Ext.refl _) hf hk bW src hz iB eJ sa hlen hd fun v' bx' h=>hK v' bx' (.of h) ⟨h.fin,h.ext,fun b sz o m e1=>by
  rcases h.is with ⟨_,h1⟩ | ⟨b',h1,h2,_⟩
  ·rw [h1] at e1; cases e1
  ·rw [h2] at e1; injection e1 with e1; subst e1; exact h1⟩ (by
  rcases h.is with ⟨h1,_⟩ | ⟨b',h1,h2,_⟩
  ·exact .inr h1
  ·rw [h2]; exact .inl (by simp))
theorem mU {bx:aa} (hf:ba bx) (e sz:Nat) (es:List V):∃ r bx',Acc bx e sz es r bx':=by
 obtain ⟨b,hb⟩:=kU hf
 exact ⟨_,_,sB hb hf e sz es es.length rfl⟩
theorem kY {bx:aa} {l:List Int} {v:V} (h:aY bx 2 1 (l.map iI) v) (hl:l.length <= 100000) (n:Int):aw prog 159 [v,.int .i64 n] bx fun r bx'=>Acc bx 2 1 ((l.filter (· != n)).map iI) r bx':=by
 refine Ox fun hf=>?_
 rcases h with ⟨hl,rfl⟩ | ⟨b,rfl,hb⟩
 ·have:l = []:=by simpa using hl
  subst this
  simp [go_sem,Ow,hf]
  refine ch 0 (fun k=>⟨27,bR [(0,.aH),(1,.int .i64 n),(5,.aH),(6,.int .i64 0)],bx⟩) (ak (by simp [go_sem])) (fun k hk N hN=>by omega) (fun N=>?_)
  simp [go_sem,xO,hf]
  exact al (by simp [go_sem]) (by simpa [go_sem] using xw hf _ _)
 ·simp [go_sem,Ow,hf]
  refine iM (ι:=V × aa) l.length (fun k p=>Acc bx 2 1 (((l.take k).filter (· != n)).map iI) p.1 p.2) (fun k p=>⟨27,bR [(0,.own b 1 0 l.length),(1,.int .i64 n),(5,p.1),(6,.int .i64 k)],p.2⟩) (.aH,bx) (by simpa using xw hf _ _) (ak (by simp [go_sem])) (fun k p hk hJ N hN=>?_) (fun p hJ N=>?_)
  ·obtain ⟨v,bP⟩:=p
   dsimp only at hJ ⊢
   have hw:=bj (k:=k) (by omega)
   have eK:bP b = some (.row 2 1 (l.map iI)):=by rw [hJ.ext b (by rw [hb]; simp),hb]
   have bg:=hJ.fin
   have L7:l.take (k + 1) = l.take k ++ [l[k]]:=by rw [List.take_succ_eq_append_getElem hk]
   simp [go_sem,xO,hk,bg,hw,eK,iI,hJ.strip,hJ.live]
   refine ⟨fun h=>?_,fun h=>?_⟩
   ·intro b2 cz
    refine jW (.int .i64 0) hJ ((Ext.refl _).new cz _) ((an _ _ _).2 bg) (news:=[iI l[k]]) mS Bq (by simp [go_sem,bM,af,iI]) tR (by simp [go_sem]) (by decide) ?_ ?_ (by simp [go_sem]) fun v' bx3 ha=>?_
    ·have:=List.length_filter_le (· != n) (l.take k)
     simp [FP] at this ⊢; omega
    ·have:=List.length_filter_le (· != n) (l.take k)
     simp at this ⊢; omega
    have e1:(((l.take k).filter (· != n)).map iI) ++ [iI l[k]] = ((l.take (k + 1)).filter (· != n)).map iI:=by
     rw [L7,List.filter_append]
     simp [h]
    rw [e1] at ha
    simp [go_sem,ha.strip,ha.live,ha.fin,hw]
    exact hN _ (v',bx3) ha (ak (by simp [go_sem]))
   ·refine hN _ (v,bP) ?_ (ak (by simp [go_sem]))
    rw [L7,List.filter_append]
    simpa [h] using hJ
  ·obtain ⟨v,bP⟩:=p
   dsimp only at hJ ⊢
   rw [List.take_length] at hJ
   have bg:=hJ.fin
   simp [go_sem,xO,bg,hJ.strip,hJ.live]
   exact al (by simp [go_sem]) (by simpa [go_sem,hJ.strip] using hJ)
theorem fW {bx bx2:aa} {e t:TypeId} {sz:Nat} {es:List V} {v:V} {P:Program} (ha:aY bx e sz es v) {e':TypeId} (ht:bC P t = .slice e'):nO P bx2 t v = (True,.int .i64 es.length):=by
 unfold nO
 rw [ht]
 rcases ha with ⟨rfl,rfl⟩ | ⟨b,rfl,g2⟩ <;> simp [V.strip,V.az]
structure RN where
 p:Nat
 bb:Nat
 cv:V
 rv:V
 fv:V
 dv:Nat -> V
 wv:Nat -> V
def eQ (dv wv:Nat -> V) (i:Nat) (b:RB):V:=.agg [.bool b.down,iI b.gV,iI b.aM,dv i,wv i]
def gP (n:RN) (w:RW):V:=.agg [.sl 4 (w.aN.map bG),iI w.most,.sl 8 (w.kO.map ey),iI w.now,.own n.bb 5 0 w.ai.length,n.cv,n.rv,.bool w.stop,iI w.ev,n.fv]
structure WR (aD:aa) (n:RN) (w:RW) (bx:aa):Prop where
 fin:ba bx
 ext:Ext aD bx
 np:aD n.p = none
 nb:aD n.bb = none
 nc:kg aD n.cv
 nr:kg aD n.rv
 nf:kg aD n.fv
 nd:∀ i,i < w.ai.length -> kg aD (n.dv i)
 nw:∀ i,i < w.ai.length -> kg aD (n.wv i)
 row:bx n.p = some (.row 103 10 [gP n w])
 ai:bx n.bb = some (.row 209 5 (w.ai.mapIdx (eQ n.dv n.wv)))
 aq:aY bx 108 10 (w.aq.map jl) n.cv
 aE:aY bx 205 6 (w.aE.map mT) n.rv
 aI:aY bx 66 2 (w.aI.map bH) n.fv
 nC:∀ i b,w.ai[i]? = some b -> aY bx 2 1 (b.ax.map iI) (n.dv i)
 iu:∀ i b,w.ai[i]? = some b -> aY bx 2 1 (b.waits.map iI) (n.wv i)
 dd:∀ i j b s o m s' o' m',i < w.ai.length -> j < w.ai.length -> n.dv i = .own b s o m -> n.dv j = .own b s' o' m' -> i = j
 ww:∀ i j b s o m s' o' m',i < w.ai.length -> j < w.ai.length -> n.wv i = .own b s o m -> n.wv j = .own b s' o' m' -> i = j
 dw:∀ i j b s o m s' o' m',i < w.ai.length -> j < w.ai.length -> n.dv i = .own b s o m -> n.wv j ≠ .own b s' o' m'
 sm:w.ai.length <= 1000 /\ w.aq.length <= 100000 /\ w.aE.length <= 100000 /\ w.aI.length <= 100000 /\ ∀ b,b ∈ w.ai -> b.ax.length <= 100000 /\ b.waits.length <= 100000
def Az (v:V) (i:Nat):V:=match v with | .own b sz o _=>.ptr b sz (o + i) 0 | _=>.eD
def gu (v:V) (o:Option Nat):V:=match o with | some i=>Az v i | none=>.eD
def dy (w:RW) (call:Int):Option Nat:=w.aE.findIdx? (fun r=>r.call == call)
def eX (w:RW) (num:Int) (b:Int):Option Nat:=w.aq.findIdx? (fun c=>c.num == num && c.bk == b && c.st != 5)
def mV (w:RW) (call:Int):Bool:=w.ai.any (fun b=>decide (call ∈ b.ax) || decide (call ∈ b.waits)) || w.aq.any (fun c=>c.st == 1 && c.call == call)
theorem oV {aD bx:aa} {n:RN} {w:RW} (h:WR aD n w bx) (call:Int):ay prog 125 [.ptr n.p 10 0 0,.int .i64 call] bx (gu n.rv (dy w call)):=by
 refine Oa fun hf=>?_
 have au:=h.row
 unfold gP at au
 have GH:=h.sm
 unfold dy
 rcases h.aE with ⟨hl,hv⟩ | ⟨b,hv,hb⟩
 ·have:w.aE = []:=by simpa using hl
  rw [this]
  rw [hv] at au ⊢
  simp [go_sem,NZ,hf]
  refine ch 0 (fun k=>⟨31,bR [(0,.ptr n.p 10 0 0),(1,.int .i64 call),(5,.int .i64 0)],bx⟩) (ak (by simp [go_sem])) (fun k hk N hN=>by omega) (fun N=>?_)
  simp [go_sem,xE,hf,au]
  exact aA (by simp [go_sem]) ⟨by simp [go_sem,gu],rfl⟩
 ·rw [hv] at au ⊢
  simp at au
  simp [go_sem,NZ,hf]
  refine eG w.aE.length (vc w.aE (fun r=>r.call == call)) (fun j=>⟨31,bR [(0,.ptr n.p 10 0 0),(1,.int .i64 call),(5,.int .i64 j)],bx⟩) (ak (by simp [go_sem])) (fun j hj hJ N hN=>?_) (fun hJ N=>?_)
  ·have hw:=bj (k:=j) (by omega)
   rw [kx hj] at hN
   simp [go_sem,xE,hj,hf,hw,au,hb,mT,iI]
   refine ⟨fun h=>aA (by simp [go_sem]) ⟨by simp [go_sem,CE (p:=fun r:RR=>r.call == call) hj (by simpa using h) hJ,gu,Az],rfl⟩,fun h=>hN _ (by simpa using h) (ak (by simp [go_sem]))⟩
  ·simp [go_sem,xE,hf,au]
   exact aA (by simp [go_sem]) ⟨by simp [go_sem,CF hJ,gu],rfl⟩
theorem xW {aD bx:aa} {n:RN} {w:RW} (h:WR aD n w bx) (num:Int) (bk:Int):ay prog 162 [.ptr n.p 10 0 0,.int .i64 num,.int .i64 bk] bx (gu n.cv (eX w num bk)):=by
 refine O1 fun hf=>?_
 have au:=h.row
 unfold gP at au
 have GH:=h.sm
 unfold eX
 rcases h.aq with ⟨hl,hv⟩ | ⟨b,hv,hb⟩
 ·have:w.aq = []:=by simpa using hl
  rw [this]
  rw [hv] at au ⊢
  simp [go_sem,O0,hf]
  refine ch 0 (fun k=>⟨56,bR [(0,.ptr n.p 10 0 0),(1,.int .i64 num),(2,.int .i64 bk),(7,.int .i64 0)],bx⟩) (ak (by simp [go_sem])) (fun k hk N hN=>by omega) (fun N=>?_)
  simp [go_sem,xQ,hf,au]
  exact aA (by simp [go_sem]) ⟨by simp [go_sem,gu],rfl⟩
 ·rw [hv] at au ⊢
  simp at au
  simp [go_sem,O0,hf]
  refine eG w.aq.length (vc w.aq (fun c=>c.num == num && c.bk == bk && c.st != 5)) (fun j=>⟨56,bR [(0,.ptr n.p 10 0 0),(1,.int .i64 num),(2,.int .i64 bk),(7,.int .i64 j)],bx⟩) (ak (by simp [go_sem])) (fun j hj hJ N hN=>?_) (fun hJ N=>?_)
  ·have hw:=bj (k:=j) (by omega)
   rw [kx hj] at hN
   have hs:=fun hh=>CE (p:=fun c:RC=>c.num == num && c.bk == bk && c.st != 5) hj hh hJ
   by_cases c1:w.aq[j].num = num <;> by_cases c2:w.aq[j].bk = bk <;> by_cases c3:w.aq[j].st = 5 <;> simp [go_sem,xQ,hj,hf,hw,au,hb,jl,iI,c1,c2,c3]
   all_goals first
    | exact hN _ (by simp [c1,c2,c3]) (ak (by simp [go_sem]))
    | exact aA (by simp [go_sem]) ⟨by simp [go_sem,hs (by simp [c1,c2,c3]),gu,Az],rfl⟩
  ·simp [go_sem,xQ,hf,au]
   exact aA (by simp [go_sem]) ⟨by simp [go_sem,CF hJ,gu],rfl⟩
theorem O5 {aD bx:aa} {n:RN} {w:RW} (h:WR aD n w bx) (call:Int):ay prog 181 [.ptr n.p 10 0 0,.int .i64 call] bx (.bool (mV w call)):=by
 refine O4 fun hf=>?_
 have au:=h.row
 unfold gP at au
 have GH:=h.sm
 have dm:=h.ai
 simp [go_sem,WQ,hf]
 refine eG w.ai.length (vc w.ai (fun b=>decide (call ∈ b.ax) || decide (call ∈ b.waits))) (fun j=>⟨70,bR [(0,.ptr n.p 10 0 0),(1,.int .i64 call),(5,.int .i64 j)],bx⟩) (ak (by simp [go_sem])) (fun j hj hJ N hN=>?_) (fun hJ N=>?_)
 ·have hw:=bj (k:=j) (by omega)
  rw [kx hj] at hN
  have hd:=h.nC j _ (List.getElem?_eq_getElem hj)
  have hq:=h.iu j _ (List.getElem?_eq_getElem hj)
  have KY:=GH.2.2.2.2 _ (List.getElem_mem hj)
  have cd:=xV hd KY.1 call
  have cq:=xV hq KY.2 call
  have gd:=oU w.ai[j].ax call
  have gq:=oU w.ai[j].waits call
  simp [go_sem,Bx,hj,hf,hw,au,dm,eQ,iI,hd.strip,hd.live,hq.strip,hq.live]
  refine ah cd ?_
  by_cases c1:call ∈ w.ai[j].ax
  ·have k1:=gd.2 c1
   simp [go_sem,hf,k1]
   refine js (.int .i64 0) (by simp [go_sem]) ?_
   simp [go_sem,hf,k1]
   refine aA (by simp [go_sem]) ⟨?_,rfl⟩
   have:=any_some (p:=fun b:RB=>decide (call ∈ b.ax) || decide (call ∈ b.waits)) hj (by simp [c1])
   simp [go_sem,mV,this]
  ·have k1:¬ 0 <= sG w.ai[j].ax call:=fun h=>c1 (gd.1 h)
   simp [go_sem,hf,k1,au,dm,eQ,iI,hj,hq.strip,hq.live]
   refine dI cq (by simp) (by simp [go_sem]) ?_
   by_cases c2:call ∈ w.ai[j].waits
   ·have k2:=gq.2 c2
    simp [go_sem,hf,k2]
    refine aA (by simp [go_sem]) ⟨?_,rfl⟩
    have:=any_some (p:=fun b:RB=>decide (call ∈ b.ax) || decide (call ∈ b.waits)) hj (by simp [c2])
    simp [go_sem,mV,this]
   ·have k2:¬ 0 <= sG w.ai[j].waits call:=fun h=>c2 (gq.1 h)
    simp [go_sem,hf,k2,hw]
    exact hN _ (by simp [c1,c2]) (ak (by simp [go_sem]))
 ·have dH:=any_none hJ
  simp [go_sem,Bx,hf,au]
  rcases h.aq with ⟨hl,hv⟩ | ⟨b,hv,hb⟩
  ·have Bl:w.aq = []:=by simpa using hl
   rw [hv] at au
   refine ch 0 (fun k=>⟨70,bR [(0,.ptr n.p 10 0 0),(1,.int .i64 call),(6,.int .i64 0)],bx⟩) (ak (by simp [go_sem])) (fun k hk N hN=>by omega) (fun N=>?_)
   simp [go_sem,xS,hf,au]
   exact aA (by simp [go_sem]) ⟨by simp [go_sem,mV,dH,Bl],rfl⟩
  ·rw [hv] at au
   simp at au
   refine eG w.aq.length (vc w.aq (fun c=>c.st == 1 && c.call == call)) (fun j=>⟨70,bR [(0,.ptr n.p 10 0 0),(1,.int .i64 call),(6,.int .i64 j)],bx⟩) (ak (by simp [go_sem])) (fun j hj hJ N hN=>?_) (fun hJ N=>?_)
   ·have hw:=bj (k:=j) (by omega)
    rw [kx hj] at hN
    by_cases c1:w.aq[j].st = 1 <;> by_cases c2:w.aq[j].call = call <;> simp [go_sem,xS,hj,hf,hw,au,hb,jl,iI,c1,c2]
    all_goals first
     | exact hN _ (by simp [c1,c2]) (ak (by simp [go_sem]))
     | (refine aA (by simp [go_sem]) ⟨?_,rfl⟩
        have:=any_some (p:=fun c:RC=>c.st == 1 && c.call == call) hj (by simp [c1,c2])
        simp [go_sem,mV,this])
   ·have Bl:=any_none hJ
    simp [go_sem,xS,hf,au]
    exact aA (by simp [go_sem]) ⟨by simp [go_sem,mV,dH,Bl],rfl⟩
def dA (w:RW) (call:Int):Bool:=match dy w call with
 | some i=>(match w.aE[i]? with | some r=>!r.ended | none=>false) && !mV w call
 | none=>false
def ju (w:RW) (call:Int) (b:Int):Bool:=dA w call && (match (dy w call).bind (w.aE[·]?) with | some r=>decide (0 < r.aO) && decide (r.at_ = b) | none=>false)
theorem nD {w:RW} {call:Int} {i:Nat} (h:dy w call = some i):i < w.aE.length:=by
 unfold dy at h
 rw [List.findIdx?_eq_some_iff_getElem] at h
 exact h.1
theorem qb {w:RW} {num b:Int} {i:Nat} (h:eX w num b = some i):i < w.aq.length:=by
 unfold eX at h
 rw [List.findIdx?_eq_some_iff_getElem] at h
 exact h.1
theorem aY.at {bx:aa} {e sz:Nat} {es:List V} {v:V} (h:aY bx e sz es v) (hl:0 < es.length):∃ b,v = .own b sz 0 es.length /\ bx b = some (.row e sz es):=by
 rcases h with ⟨h1,_⟩ | h
 ·rw [h1] at hl; cases hl
 ·exact h
theorem xX {aD bx:aa} {n:RN} {w:RW} (h:WR aD n w bx) (call:Int):ay prog 156 [.ptr n.p 10 0 0,.int .i64 call] bx (.bool (dA w call)):=by
 refine Oq fun hf=>?_
 have cF:=oV h call
 have cB:=O5 h call
 simp [go_sem,WL,hf]
 unfold dA
 cases iR:dy w call with
 | none =>
   rw [iR] at cF
   unfold gu at cF
   refine ah cF ?_
   simp [go_sem,hf]
   refine js (.bool false) (by simp [go_sem]) ?_
   simp [go_sem,hf]
   exact aA (by simp [go_sem]) ⟨by simp [go_sem],rfl⟩
 | some i =>
   have hi:=nD iR
   rw [iR] at cF
   obtain ⟨b,hv,hb⟩:=h.aE.at (by simpa using by omega)
   unfold gu Az at cF
   rw [hv] at cF
   simp at cF
   refine ah cF ?_
   cases he:w.aE[i].ended
   ·simp [go_sem,hf,hb,mT,iI,he,hi]
    refine dI cB (by simp) (by simp [go_sem]) ?_
    simp [go_sem,hf]
    exact aA (by simp [go_sem]) ⟨by simp [go_sem],rfl⟩
   ·simp [go_sem,hf,hb,mT,iI,he,hi]
    refine js (.bool false) (by simp [go_sem]) ?_
    simp [go_sem,hf]
    exact aA (by simp [go_sem]) ⟨by simp [go_sem],rfl⟩
theorem GJ {aD bx:aa} {n:RN} {w:RW} (h:WR aD n w bx) (call:Int) (bk:Int):ay prog 158 [.ptr n.p 10 0 0,.int .i64 call,.int .i64 bk] bx (.bool (ju w call bk)):=by
 refine Ov fun hf=>?_
 have cF:=oV h call
 have cR:=xX h call
 simp [go_sem,WM,hf]
 unfold ju
 cases iR:dy w call with
 | none =>
   have h0:dA w call = false:=by unfold dA; rw [iR]
   rw [iR] at cF
   rw [h0] at cR ⊢
   unfold gu at cF
   refine ah cF ?_
   simp [go_sem,hf]
   refine ah cR ?_
   simp [go_sem,hf]
   exact aA (by simp [go_sem]) ⟨by simp [go_sem],rfl⟩
 | some i =>
   have hi:=nD iR
   rw [iR] at cF
   obtain ⟨b,hv,hb⟩:=h.aE.at (by simpa using by omega)
   unfold gu Az at cF
   rw [hv] at cF
   simp at cF
   refine ah cF ?_
   simp [go_sem,hf]
   refine ah cR ?_
   cases dA w call
   ·simp [go_sem,hf]
    exact aA (by simp [go_sem]) ⟨by simp [go_sem],rfl⟩
   ·by_cases c1:0 < w.aE[i].aO <;> by_cases c2:w.aE[i].at_ = bk <;> simp [go_sem,hf,hb,mT,iI,c1,c2,hi]
    all_goals exact aA (by simp [go_sem]) ⟨by simp [go_sem],rfl⟩
def kI (w:RW) (x:Ev):Option Nat:=match eX w x.conn x.bk with
 | some i=>match w.aq[i]? with
   | some c=>if c.st = 1 /\ c.call = x.call then some i else none
   | none=>none
 | none=>none
theorem L8 {aD bx:aa} {n:RN} {w:RW} (h:WR aD n w bx) (x:Ev):ay prog 131 [.ptr n.p 10 0 0,aX x] bx (gu n.cv (kI w x)):=by
 refine Oi fun hf=>?_
 have cT:=xW h x.conn x.bk
 simp [go_sem,WE,hf,aX,iI]
 unfold kI
 cases iR:eX w x.conn x.bk with
 | none =>
   rw [iR] at cT
   unfold gu at cT
   refine ah cT ?_
   simp [go_sem,hf]
   exact aA (by simp [go_sem]) ⟨by simp [go_sem,gu],rfl⟩
 | some i =>
   have hi:=qb iR
   rw [iR] at cT
   obtain ⟨b,hv,hb⟩:=h.aq.at (by simpa using by omega)
   unfold gu Az at cT
   rw [hv] at cT ⊢
   simp at cT
   refine ah cT ?_
   by_cases c1:w.aq[i].st = 1 <;> by_cases c2:w.aq[i].call = x.call <;> simp [go_sem,hf,hb,jl,iI,c1,c2,hi]
   all_goals exact aA (by simp [go_sem]) ⟨by simp [go_sem,gu,Az],rfl⟩
def fx (w:RW) (x:Ev):Bool:=match w.ai[x.bk]? with
 | some b=>(match b.waits.head? with | some c=>c != x.call | none=>false)
 | none=>false
theorem rB {aD bx:aa} {n:RN} {w:RW} (h:WR aD n w bx) (x:Ev) (hx:x.bk < w.ai.length):ay prog 160 [.ptr n.p 10 0 0,aX x] bx (.bool (fx w x)):=by
 refine Oy fun hf=>?_
 have au:=h.row
 unfold gP at au
 have dm:=h.ai
 have hq:=h.iu _ _ (List.getElem?_eq_getElem hx)
 unfold fx
 rw [List.getElem?_eq_getElem hx]
 dsimp only
 rcases hq with ⟨hl,hv⟩ | ⟨b,hv,hb⟩
 ·have h0:w.ai[x.bk].waits = []:=by simpa using hl
  rw [h0]
  simp [go_sem,JG,hf,aX,iI,au,dm,eQ,hx,hv]
  exact aA (by simp [go_sem]) ⟨by simp [go_sem],rfl⟩
 ·cases h0:w.ai[x.bk].waits with
  | nil =>
    rw [h0] at hv hb
    simp at hv hb
    simp [go_sem,JG,hf,aX,iI,au,dm,eQ,hx,hv,hb]
    exact aA (by simp [go_sem]) ⟨by simp [go_sem],rfl⟩
  | cons y ys =>
    rw [h0] at hv hb
    simp [iI] at hv hb
    by_cases c1:y = x.call <;> simp [go_sem,JG,hf,aX,iI,au,dm,eQ,hx,hv,hb,c1]
    all_goals exact aA (by simp [go_sem]) ⟨by simp [go_sem,c1],rfl⟩
def rC (w:RW) (b:Nat):Int:=((match w.ai[b]? with | some k=>k.ax.length | none=>0) + (w.aq.filter fun c=>c.bk == (b:Int) && c.st != 5).length:Nat)
theorem O6 {aD bx:aa} {n:RN} {w:RW} (h:WR aD n w bx) (k:Nat) (hx:k < w.ai.length):ay prog 161 [.ptr n.p 10 0 0,.int .i64 k] bx (.int .i64 (rC w k)):=by
 refine Oz fun hf=>?_
 have au:=h.row
 unfold gP at au
 have dm:=h.ai
 have GH:=h.sm
 have hd:=h.nC _ _ (List.getElem?_eq_getElem hx)
 have hlen:=fun bx'=>fW (bx2:=bx') (t:=60) hd mS
 simp [go_sem,hd.strip,hd.live] at hlen
 have hdl:=(GH.2.2.2.2 _ (List.getElem_mem hx)).1
 simp [go_sem,WN,hf,au,dm,eQ,hx,iI,hd.strip,hd.live,hlen]
 unfold rC
 rw [List.getElem?_eq_getElem hx]
 dsimp only
 rcases h.aq with ⟨hl,hv⟩ | ⟨b,hv,hb⟩
 ·have Bl:w.aq = []:=by simpa using hl
  rw [hv] at au
  refine ch 0 (fun j=>⟨49,bR [(0,.ptr n.p 10 0 0),(1,.int .i64 k),(5,.int .i64 w.ai[k].ax.length),(6,.int .i64 0)],bx⟩) (ak (by simp [go_sem])) (fun k hk N hN=>by omega) (fun N=>?_)
  simp [go_sem,xP,hf,au]
  exact aA (by simp [go_sem]) ⟨by simp [go_sem,Bl],rfl⟩
 ·rw [hv] at au
  simp at au
  refine ch w.aq.length (fun j=>⟨49,bR [(0,.ptr n.p 10 0 0),(1,.int .i64 k),(5,.int .i64 ((w.ai[k].ax.length + ((w.aq.take j).filter fun c=>c.bk == (k:Int) && c.st != 5).length:Nat):Int)),(6,.int .i64 j)],bx⟩) (ak (by simp [go_sem])) (fun j hj N hN=>?_) (fun N=>?_)
  ·have hw:=bj (k:=j) (by omega)
   have pY:=List.length_filter_le (fun c:RC=>c.bk == (k:Int) && c.st != 5) (w.aq.take j)
   rw [List.length_take] at pY
   have jI:=bj (k:=w.ai[k].ax.length + ((w.aq.take j).filter fun c=>c.bk == (k:Int) && c.st != 5).length) (by omega)
   rw [List.take_succ_eq_append_getElem hj,List.filter_append] at hN
   push_cast at jI
   by_cases c1:w.aq[j].bk = k <;> by_cases c2:w.aq[j].st = 5 <;> simp [go_sem,xP,hj,hf,hw,au,hb,jl,iI,c1,c2,jI]
   all_goals exact hN _ (ak (by simp [go_sem,c1,c2,Int.add_assoc]))
  ·simp [go_sem,xP,hf,au]
   exact aA (by simp [go_sem]) ⟨by simp [go_sem],rfl⟩
theorem aY.put {bx:aa} {e sz:Nat} {es:List V} {u:V} (h:aY bx e sz es u) {p:Nat} {ty0 sz0:Nat} {es0:List V} (hp:bx p = some (.row ty0 sz0 es0)) (bB:e ≠ ty0) (x:Option bF):aY (aB bx p x) e sz es u:=by
 rcases h with h | ⟨b,rfl,hb⟩
 ·exact .inl h
 ·refine .inr ⟨b,rfl,?_⟩
  rw [ae _ _ (by rintro rfl; rw [hp] at hb; injection hb with hb; injection hb with hb; exact bB hb.symm),hb]
theorem aY.ne {bx:aa} {e sz:Nat} {es:List V} {u:V} (h:aY bx e sz es u) {p:Nat} {ty0 sz0:Nat} {es0:List V} (hp:bx p = some (.row ty0 sz0 es0)) (bB:e ≠ ty0):∀ sz o m,u ≠ .own p sz o m:=by
 rintro _ _ _ rfl
 rcases h with ⟨_,h⟩ | ⟨b,h,hb⟩
 ·cases h
 ·injection h with h
  subst h
  rw [hp] at hb
  injection hb with hb
  injection hb with hb
  exact bB hb.symm
theorem fy {aD bx:aa} (h:Ext aD bx) {p:Nat} (hp:aD p = none) (x:Option bF):Ext aD (aB bx p x):=fun b hb=>by
 rw [ae _ _ (by rintro rfl; exact hb hp),h b hb]
theorem eP.ne {v v':V} {bx bx':aa} (h:eP v v' bx bx') {p:Nat} (hp:bx p ≠ none) (bB:∀ sz o m,v ≠ .own p sz o m):∀ sz o m,v' ≠ .own p sz o m:=fun sz o m e=>by
 have h1:=h.new p sz o m e
 have:jS v bx p = bx p:=by
  unfold jS
  split
  ·rename_i c _ _ _
   exact ae _ _ (by rintro rfl; exact bB _ _ _ rfl)
  ·rfl
 rw [this] at h1
 exact hp h1
abbrev sH:TypeId:=103
abbrev xY:TypeId:=209
abbrev CG:TypeId:=108
abbrev L9:TypeId:=205
abbrev nE:TypeId:=66
theorem WR.world {aD bx:aa} {n:RN} {w:RW} (h:WR aD n w bx) (w':RW) (hb:w'.ai = w.ai) (hc:w'.aq = w.aq) (hr:w'.aE = w.aE) (hf:w'.aI = w.aI):WR aD n w' (aB bx n.p (some (.row sH 10 [gP n w']))):=by
 have bB:n.bb ≠ n.p:=fun e=>by have h1:=h.ai; rw [e,h.row] at h1; injection h1 with h1; injection h1 with h1; revert h1; decide
 exact ⟨(an _ _ _).2 h.fin,fy h.ext h.np _,h.np,h.nb,h.nc,h.nr,h.nf,by rw [hb]; exact h.nd,by rw [hb]; exact h.nw,af _ _ _,by rw [ae _ _ bB,hb]; exact h.ai,
  by rw [hc]; exact h.aq.put h.row (by decide) _,by rw [hr]; exact h.aE.put h.row (by decide) _,by rw [hf]; exact h.aI.put h.row (by decide) _,
  fun i b hi=>(h.nC i b (by rw [<- hb]; exact hi)).put h.row (by decide) _,fun i b hi=>(h.iu i b (by rw [<- hb]; exact hi)).put h.row (by decide) _,by rw [hb]; exact h.dd,by rw [hb]; exact h.ww,by rw [hb]; exact h.dw,by rw [hb,hc,hr,hf]; exact h.sm⟩
theorem WR.fault {aD bx bx':aa} {n:RN} {w:RW} (h:WR aD n w bx) {f:Int × Int} {v':V} (hl:w.aI.length < 100000) (ha:aY bx' nE 2 (w.aI.map bH ++ [bH f]) v') (hm:eP n.fv v' bx bx') :
 WR aD { n with fv:=v' } { w with aI:=w.aI ++ [f] } (aB bx' n.p (some (.row sH 10 [gP { n with fv:=v' } { w with aI:=w.aI ++ [f] }]))):=by
 have hp:bx' n.p = some (.row sH 10 [gP n w]):=by rw [hm.other (by rw [h.row]; simp) (h.aI.ne h.row (by decide)),h.row]
 have ff:bx' n.bb = some (.row xY 5 (w.ai.mapIdx (eQ n.dv n.wv))):=by rw [hm.other (by rw [h.ai]; simp) (h.aI.ne h.ai (by decide)),h.ai]
 have bB:n.bb ≠ n.p:=fun e=>by rw [e,hp] at ff; injection ff with h1; injection h1 with h1; revert h1; decide
 obtain ⟨e1,e2⟩:=hm.base h.ext h.nf
 have k {e sz:Nat} {es:List V} {u:V} (hu:aY bx e sz es u) (h1:e ≠ nE) (h2:e ≠ sH):aY (aB bx' n.p (some (.row sH 10 [gP { n with fv:=v' } { w with aI:=w.aI ++ [f] }]))) e sz es u :=
  (hu.cw hm (lE h.aI hu (Ne.symm h1))).put hp h2 _
 exact ⟨(an _ _ _).2 hm.fin,fy e1 h.np _,h.np,h.nb,h.nc,h.nr,e2,h.nd,h.nw,af _ _ _,by rw [ae _ _ bB]; exact ff,k h.aq (by decide) (by decide),k h.aE (by decide) (by decide),by simpa using ha.put hp (by decide) _,
  fun i b hi=>k (h.nC i b hi) (by decide) (by decide),fun i b hi=>k (h.iu i b hi) (by decide) (by decide),h.dd,h.ww,h.dw,by
   have:=h.sm
   simp only [List.length_append,List.length_singleton]
   exact ⟨this.1,this.2.1,this.2.2.1,by omega,this.2.2.2.2⟩⟩
theorem db {aD bx:aa} {n:RN} {w:RW} (h:WR aD n w bx) (kind:Int) (hl:w.aI.length < 100000):aw prog 90 [.ptr n.p 10 0 0,.int .i64 kind] bx fun r bx'=>r = .dc [] /\ ∃ v',WR aD { n with fv:=v' } { w with aI:=w.aI ++ [(kind,w.ev)] } bx':=by
 refine Wq fun hf=>?_
 have au:=h.row
 unfold gP at au
 have pY:=h.aI
 simp [go_sem,C90,hf,au,iI]
 refine dx (.agg #[.int .i64 0,.int .i64 0]) pY hf (news:=[bH (kind,w.ev)]) vR L2 (by simp [go_sem,bM,bH,iI]) Cw (by simp [go_sem]) (by decide) (by simp [L3]; omega) (by simp; omega) (by simp [go_sem]) fun v' bx' ha hm _=>?_
 have hn:=h.fault (f:=(kind,w.ev)) hl ha hm
 have hp:bx' n.p = some (.row sH 10 [gP n w]):=by rw [hm.other (by rw [h.row]; simp) (pY.ne h.row (by decide)),h.row]
 unfold gP at hp
 simp [go_sem,hp,ha.strip,ha.live,ha.cells,ha.okV,hm.fin,iI]
 exact al (by simp [go_sem]) ⟨by simp [go_sem],v',hn⟩
theorem aY.set {bx:aa} {e sz:Nat} {es j7:List V} {u:V} {b:Nat} (hu:u = .own b sz 0 es.length) (hl:j7.length = es.length):aY (aB bx b (some (.row e sz j7))) e sz j7 u :=
 .inr ⟨b,by rw [hu,hl],af _ _ _⟩
theorem WR.By {aD bx:aa} {n:RN} {w:RW} (h:WR aD n w bx) {b:Nat} (hv:n.rv = .own b 6 0 w.aE.length) (hb:bx b = some (.row L9 6 (w.aE.map mT))) (i:Nat) (r:RR) :
 WR aD n { w with aE:=w.aE.set i r } (aB bx b (some (.row L9 6 ((w.aE.map mT).set i (mT r))))):=by
 have vd:n.p ≠ b:=fun e=>by rw [<- e,h.row] at hb; injection hb with h1; injection h1 with h1; revert h1; decide
 have bB:n.bb ≠ b:=fun e=>by rw [<- e,h.ai] at hb; injection hb with h1; injection h1 with h1; revert h1; decide
 have k {e sz:Nat} {es:List V} {u:V} (hu:aY bx e sz es u) (h1:e ≠ L9):=hu.put hb h1 (some (.row L9 6 ((w.aE.map mT).set i (mT r))))
 have e1:(w.aE.map mT).set i (mT r) = (w.aE.set i r).map mT:=by rw [List.map_set]
 rw [e1] at k ⊢
 exact ⟨(an _ _ _).2 h.fin,fy h.ext (h.nr _ _ _ _ hv) _,h.np,h.nb,h.nc,h.nr,h.nf,h.nd,h.nw,by rw [ae _ _ vd]; exact h.row,by rw [ae _ _ bB]; exact h.ai,
  k h.aq (by decide),aY.set (es:=w.aE.map mT) (by simpa using hv) (by simp),k h.aI (by decide),fun i b hi=>k (h.nC i b hi) (by decide),fun i b hi=>k (h.iu i b hi) (by decide),h.dd,h.ww,h.dw,by
   have:=h.sm
   simpa using this⟩
theorem WR.lF {aD bx:aa} {n:RN} {w:RW} (h:WR aD n w bx) {b:Nat} (hv:n.cv = .own b 10 0 w.aq.length) (hb:bx b = some (.row CG 10 (w.aq.map jl))) (i:Nat) (r:RC) :
 WR aD n { w with aq:=w.aq.set i r } (aB bx b (some (.row CG 10 ((w.aq.map jl).set i (jl r))))):=by
 have vd:n.p ≠ b:=fun e=>by rw [<- e,h.row] at hb; injection hb with h1; injection h1 with h1; revert h1; decide
 have bB:n.bb ≠ b:=fun e=>by rw [<- e,h.ai] at hb; injection hb with h1; injection h1 with h1; revert h1; decide
 have k {e sz:Nat} {es:List V} {u:V} (hu:aY bx e sz es u) (h1:e ≠ CG):=hu.put hb h1 (some (.row CG 10 ((w.aq.map jl).set i (jl r))))
 have e1:(w.aq.map jl).set i (jl r) = (w.aq.set i r).map jl:=by rw [List.map_set]
 rw [e1] at k ⊢
 exact ⟨(an _ _ _).2 h.fin,fy h.ext (h.nc _ _ _ _ hv) _,h.np,h.nb,h.nc,h.nr,h.nf,h.nd,h.nw,by rw [ae _ _ vd]; exact h.row,by rw [ae _ _ bB]; exact h.ai,
  aY.set (es:=w.aq.map jl) (by simpa using hv) (by simp),k h.aE (by decide),k h.aI (by decide),fun i b hi=>k (h.nC i b hi) (by decide),fun i b hi=>k (h.iu i b hi) (by decide),h.dd,h.ww,h.dw,by
   have:=h.sm
   simpa using this⟩
theorem mapIdx_set {l:List RB} {i:Nat} {dv wv:Nat -> V} (x:RB):(l.mapIdx (eQ dv wv)).set i (eQ dv wv i x) = (l.set i x).mapIdx (eQ dv wv):=by
 apply List.ext_getElem?
 intro j
 rw [List.getElem?_set,List.getElem?_mapIdx,List.getElem?_mapIdx,List.getElem?_set]
 by_cases e:i = j
 ·subst e
  simp
 ·simp [e]
theorem WR.oW {aD bx:aa} {n:RN} {w:RW} (h:WR aD n w bx) (i:Nat) (x:RB) (hx:∀ b,w.ai[i]? = some b -> x.ax = b.ax /\ x.waits = b.waits) :
 WR aD n { w with ai:=w.ai.set i x } (aB bx n.bb (some (.row xY 5 ((w.ai.mapIdx (eQ n.dv n.wv)).set i (eQ n.dv n.wv i x))))):=by
 have vd:n.p ≠ n.bb:=fun e=>by have hb:=h.ai; rw [<- e,h.row] at hb; injection hb with h1; injection h1 with h1; revert h1; decide
 have k {e sz:Nat} {es:List V} {u:V} (hu:aY bx e sz es u) (h1:e ≠ xY):=hu.put h.ai h1 (some (.row xY 5 ((w.ai.mapIdx (eQ n.dv n.wv)).set i (eQ n.dv n.wv i x))))
 have hs (j:Nat) (b:RB) (hj:(w.ai.set i x)[j]? = some b):∃ b',w.ai[j]? = some b' /\ b.ax = b'.ax /\ b.waits = b'.waits:=by
  rw [List.getElem?_set] at hj
  split at hj
  ·rename_i e
   subst e
   split at hj
   ·rename_i hi
    injection hj with hj
    subst hj
    exact ⟨_,List.getElem?_eq_getElem hi,hx _ (List.getElem?_eq_getElem hi)⟩
   ·cases hj
  ·exact ⟨b,hj,rfl,rfl⟩
 refine ⟨(an _ _ _).2 h.fin,fy h.ext h.nb _,h.np,h.nb,h.nc,h.nr,h.nf,by simpa using h.nd,by simpa using h.nw,by rw [ae _ _ vd,h.row]; simp [gP],by rw [af,mapIdx_set],
  k h.aq (by decide),k h.aE (by decide),k h.aI (by decide),fun j b hi=>?_,fun j b hi=>?_,by simpa using h.dd,by simpa using h.ww,by simpa using h.dw,?_⟩
 ·obtain ⟨b',h1,h2,_⟩:=hs j b hi
  rw [h2]
  exact k (h.nC j b' h1) (by decide)
 ·obtain ⟨b',h1,_,h2⟩:=hs j b hi
  rw [h2]
  exact k (h.iu j b' h1) (by decide)
 ·have:=h.sm
  refine ⟨by simpa using this.1,this.2.1,this.2.2.1,this.2.2.2.1,fun b hb=>?_⟩
  obtain ⟨j,hj,rfl⟩:=List.getElem_of_mem hb
  obtain ⟨b',h1,h2,h3⟩:=hs j _ (List.getElem?_eq_getElem hj)
  rw [h2,h3]
  exact this.2.2.2.2 _ (List.mem_of_getElem? h1)
theorem WR.O7 {aD bx bx':aa} {n:RN} {w:RW} (h:WR aD n w bx) {f:RR} {v':V} (hl:w.aE.length < 100000) (ha:aY bx' L9 6 (w.aE.map mT ++ [mT f]) v') (hm:eP n.rv v' bx bx') :
 WR aD { n with rv:=v' } { w with aE:=w.aE ++ [f] } (aB bx' n.p (some (.row sH 10 [gP { n with rv:=v' } { w with aE:=w.aE ++ [f] }]))):=by
 have hp:bx' n.p = some (.row sH 10 [gP n w]):=by rw [hm.other (by rw [h.row]; simp) (h.aE.ne h.row (by decide)),h.row]
 have ff:bx' n.bb = some (.row xY 5 (w.ai.mapIdx (eQ n.dv n.wv))):=by rw [hm.other (by rw [h.ai]; simp) (h.aE.ne h.ai (by decide)),h.ai]
 have bB:n.bb ≠ n.p:=fun e=>by rw [e,hp] at ff; injection ff with h1; injection h1 with h1; revert h1; decide
 obtain ⟨e1,e2⟩:=hm.base h.ext h.nr
 have k {e sz:Nat} {es:List V} {u:V} (hu:aY bx e sz es u) (h1:e ≠ L9) (h2:e ≠ sH):aY (aB bx' n.p (some (.row sH 10 [gP { n with rv:=v' } { w with aE:=w.aE ++ [f] }]))) e sz es u :=
  (hu.cw hm (lE h.aE hu (Ne.symm h1))).put hp h2 _
 exact ⟨(an _ _ _).2 hm.fin,fy e1 h.np _,h.np,h.nb,h.nc,e2,h.nf,h.nd,h.nw,af _ _ _,by rw [ae _ _ bB]; exact ff,k h.aq (by decide) (by decide),by simpa using ha.put hp (by decide) _,k h.aI (by decide) (by decide),
  fun i b hi=>k (h.nC i b hi) (by decide) (by decide),fun i b hi=>k (h.iu i b hi) (by decide) (by decide),h.dd,h.ww,h.dw,by
   have:=h.sm
   simp only [List.length_append,List.length_singleton]
   exact ⟨this.1,this.2.1,by omega,this.2.2.2.1,this.2.2.2.2⟩⟩
theorem WR.GK {aD bx bx':aa} {n:RN} {w:RW} (h:WR aD n w bx) {f:RC} {v':V} (hl:w.aq.length < 100000) (ha:aY bx' CG 10 (w.aq.map jl ++ [jl f]) v') (hm:eP n.cv v' bx bx') :
 WR aD { n with cv:=v' } { w with aq:=w.aq ++ [f] } (aB bx' n.p (some (.row sH 10 [gP { n with cv:=v' } { w with aq:=w.aq ++ [f] }]))):=by
 have hp:bx' n.p = some (.row sH 10 [gP n w]):=by rw [hm.other (by rw [h.row]; simp) (h.aq.ne h.row (by decide)),h.row]
 have ff:bx' n.bb = some (.row xY 5 (w.ai.mapIdx (eQ n.dv n.wv))):=by rw [hm.other (by rw [h.ai]; simp) (h.aq.ne h.ai (by decide)),h.ai]
 have bB:n.bb ≠ n.p:=fun e=>by rw [e,hp] at ff; injection ff with h1; injection h1 with h1; revert h1; decide
 obtain ⟨e1,e2⟩:=hm.base h.ext h.nc
 have k {e sz:Nat} {es:List V} {u:V} (hu:aY bx e sz es u) (h1:e ≠ CG) (h2:e ≠ sH):aY (aB bx' n.p (some (.row sH 10 [gP { n with cv:=v' } { w with aq:=w.aq ++ [f] }]))) e sz es u :=
  (hu.cw hm (lE h.aq hu (Ne.symm h1))).put hp h2 _
 exact ⟨(an _ _ _).2 hm.fin,fy e1 h.np _,h.np,h.nb,e2,h.nr,h.nf,h.nd,h.nw,af _ _ _,by rw [ae _ _ bB]; exact ff,by simpa using ha.put hp (by decide) _,k h.aE (by decide) (by decide),k h.aI (by decide) (by decide),
  fun i b hi=>k (h.nC i b hi) (by decide) (by decide),fun i b hi=>k (h.iu i b hi) (by decide) (by decide),h.dd,h.ww,h.dw,by
   have:=h.sm
   simp only [List.length_append,List.length_singleton]
   exact ⟨this.1,by omega,this.2.2.1,this.2.2.2.1,this.2.2.2.2⟩⟩
theorem zF {l:List RB} {i:Nat} {dv wv:Nat -> V} (x:RB) (v:V):(l.mapIdx (eQ dv wv)).set i (eQ dv (aB wv i v) i x) = (l.set i x).mapIdx (eQ dv (aB wv i v)):=by
 apply List.ext_getElem?
 intro j
 rw [List.getElem?_set,List.getElem?_mapIdx,List.getElem?_mapIdx,List.getElem?_set]
 by_cases e:i = j
 ·subst e
  simp
 ·simp only [e,if_false]
  cases l[j]? with
  | none=>rfl
  | some y=>simp [eQ,ae _ _ (Ne.symm e)]
theorem zG {l:List RB} {i:Nat} {dv wv:Nat -> V} (x:RB) (v:V):(l.mapIdx (eQ dv wv)).set i (eQ (aB dv i v) wv i x) = (l.set i x).mapIdx (eQ (aB dv i v) wv):=by
 apply List.ext_getElem?
 intro j
 rw [List.getElem?_set,List.getElem?_mapIdx,List.getElem?_mapIdx,List.getElem?_set]
 by_cases e:i = j
 ·subst e
  simp
 ·simp only [e,if_false]
  cases l[j]? with
  | none=>rfl
  | some y=>simp [eQ,ae _ _ (Ne.symm e)]
theorem WR.waits {aD bx bx':aa} {n:RN} {w:RW} (h:WR aD n w bx) {i:Nat} (hi:i < w.ai.length) {l:List Int} {v':V} (hl:l.length <= 100000) (ha:aY bx' 2 1 (l.map iI) v') (hm:eP (n.wv i) v' bx bx') :
 WR aD { n with wv:=aB n.wv i v' } { w with ai:=w.ai.set i { w.ai[i] with waits:=l } } (aB bx' n.bb (some (.row xY 5 ((w.ai.mapIdx (eQ n.dv n.wv)).set i (eQ n.dv (aB n.wv i v') i { w.ai[i] with waits:=l }))))):=by
 have Ed:=h.iu i _ (List.getElem?_eq_getElem hi)
 have hp:bx' n.p = some (.row sH 10 [gP n w]):=by rw [hm.other (by rw [h.row]; simp) (Ed.ne h.row (by decide)),h.row]
 have ff:bx' n.bb = some (.row xY 5 (w.ai.mapIdx (eQ n.dv n.wv))):=by rw [hm.other (by rw [h.ai]; simp) (Ed.ne h.ai (by decide)),h.ai]
 have bB:n.p ≠ n.bb:=fun e=>by rw [<- e,hp] at ff; injection ff with h1; injection h1 with h1; revert h1; decide
 obtain ⟨e1,e2⟩:=hm.base h.ext (h.nw i hi)
 have k {e sz:Nat} {es:List V} {u:V} (hu:aY bx e sz es u) (h1:∀ b sz o m eU o' m',n.wv i = .own b sz o m -> u ≠ .own b eU o' m') (h2:e ≠ xY) (x:Option bF):aY (aB bx' n.bb x) e sz es u :=
  (hu.cw hm h1).put ff h2 _
 have wY (u:V) (es:List V) (hu:aY bx 2 1 es u) (bB:∀ b s o m s' o' m',n.wv i = .own b s o m -> u ≠ .own b s' o' m'):∀ b s o m s' o' m',v' = .own b s o m -> u ≠ .own b s' o' m':=by
  rintro b s o m s' o' m' e1 rfl
  rcases hu with ⟨_,h1⟩ | ⟨b',h1,h2⟩
  ·cases h1
  ·injection h1 with h1
   subst h1
   have h3:∀ sz o m,n.wv i ≠ .own b sz o m:=fun sz o m e=>bB _ _ _ _ _ _ _ e rfl
   exact hm.ne (p:=b) (by rw [h2]; simp) h3 s o m e1
 refine ⟨(an _ _ _).2 hm.fin,fy e1 h.nb _,h.np,h.nb,h.nc,h.nr,h.nf,by simpa using h.nd,fun j hj=>?_,by rw [ae _ _ bB,hp]; simp [gP],by rw [af,zF],
  k h.aq (lE Ed h.aq (by decide)) (by decide) _,k h.aE (lE Ed h.aE (by decide)) (by decide) _,k h.aI (lE Ed h.aI (by decide)) (by decide) _,fun j b hj=>?_,fun j b hj=>?_,by simpa using h.dd,?_,?_,?_⟩
 ·by_cases e:j = i
  ·subst e; simp only [af]; exact e2
  ·simp only [ae _ _ e]; exact h.nw j (by simpa using hj)
 ·have BT:∃ b',w.ai[j]? = some b' /\ b.ax = b'.ax:=by
   by_cases e:i = j
   ·subst e
    rw [List.getElem?_set_self hi] at hj
    injection hj with hj
    subst hj
    exact ⟨_,List.getElem?_eq_getElem hi,rfl⟩
   ·rw [List.getElem?_set_ne e] at hj
    exact ⟨b,hj,rfl⟩
  obtain ⟨b',h1,h2⟩:=BT
  have lR:j < w.ai.length:=(List.getElem?_eq_some_iff.1 h1).1
  rw [h2]
  exact k (h.nC j b' h1) (fun b sz o m eU o' m' e1 e2=>h.dw j i _ _ _ _ _ _ _ lR hi e2 e1) (by decide) _
 ·by_cases e:j = i
  ·subst e
   rw [List.getElem?_set_self hi] at hj
   injection hj with hj
   subst hj
   simp only [af]
   exact ha.put ff (by decide) _
  ·rw [List.getElem?_set_ne (Ne.symm e)] at hj
   have lR:j < w.ai.length:=(List.getElem?_eq_some_iff.1 hj).1
   simp only [ae _ _ e]
   exact k (h.iu j b hj) (fun b sz o m eU o' m' e1 e2=>e (h.ww i j _ _ _ _ _ _ _ hi lR e1 e2).symm) (by decide) _
 ·intro a b c s o m s' o' m' fI aR h1 h2
  simp only [List.length_set] at fI aR
  by_cases ea:a = i <;> by_cases eb:b = i
  ·rw [ea,eb]
  ·subst ea
   simp only [af,ae _ _ eb] at h1 h2
   exact absurd h2 (wY _ _ (h.iu b _ (List.getElem?_eq_getElem aR)) (fun b2 s o m s' o' m' e1 e2=>eb (h.ww a b _ _ _ _ _ _ _ fI aR e1 e2).symm) _ _ _ _ _ _ _ h1)
  ·subst eb
   simp only [af,ae _ _ ea] at h1 h2
   exact absurd h1 (wY _ _ (h.iu a _ (List.getElem?_eq_getElem fI)) (fun b2 s o m s' o' m' e1 e2=>ea (h.ww b a _ _ _ _ _ _ _ aR fI e1 e2).symm) _ _ _ _ _ _ _ h2)
  ·simp only [ae _ _ ea,ae _ _ eb] at h1 h2
   exact h.ww a b _ _ _ _ _ _ _ fI aR h1 h2
 ·intro a b c s o m s' o' m' fI aR h1 h2
  simp only [List.length_set] at fI aR
  by_cases eb:b = i
  ·subst eb
   simp only [af] at h2
   exact absurd h1 (wY _ _ (h.nC a _ (List.getElem?_eq_getElem fI)) (fun b2 s o m s' o' m' e1 e2=>h.dw a b _ _ _ _ _ _ _ fI aR e2 e1) _ _ _ _ _ _ _ h2)
  ·simp only [ae _ _ eb] at h2
   exact h.dw a b _ _ _ _ _ _ _ fI aR h1 h2
 ·have:=h.sm
  refine ⟨by simpa using this.1,this.2.1,this.2.2.1,this.2.2.2.1,fun b hb=>?_⟩
  rcases List.mem_or_eq_of_mem_set hb with hb | rfl
  ·exact this.2.2.2.2 b hb
  ·exact ⟨(this.2.2.2.2 _ (List.getElem_mem hi)).1,hl⟩
theorem WR.ax {aD bx bx':aa} {n:RN} {w:RW} (h:WR aD n w bx) {i:Nat} (hi:i < w.ai.length) {l:List Int} {v':V} (hl:l.length <= 100000) (ha:aY bx' 2 1 (l.map iI) v') (hm:eP (n.dv i) v' bx bx') :
 WR aD { n with dv:=aB n.dv i v' } { w with ai:=w.ai.set i { w.ai[i] with ax:=l } } (aB bx' n.bb (some (.row xY 5 ((w.ai.mapIdx (eQ n.dv n.wv)).set i (eQ (aB n.dv i v') n.wv i { w.ai[i] with ax:=l }))))):=by
 have Ed:=h.nC i _ (List.getElem?_eq_getElem hi)
 have hp:bx' n.p = some (.row sH 10 [gP n w]):=by rw [hm.other (by rw [h.row]; simp) (Ed.ne h.row (by decide)),h.row]
 have ff:bx' n.bb = some (.row xY 5 (w.ai.mapIdx (eQ n.dv n.wv))):=by rw [hm.other (by rw [h.ai]; simp) (Ed.ne h.ai (by decide)),h.ai]
 have bB:n.p ≠ n.bb:=fun e=>by rw [<- e,hp] at ff; injection ff with h1; injection h1 with h1; revert h1; decide
 obtain ⟨e1,e2⟩:=hm.base h.ext (h.nd i hi)
 have k {e sz:Nat} {es:List V} {u:V} (hu:aY bx e sz es u) (h1:∀ b sz o m eU o' m',n.dv i = .own b sz o m -> u ≠ .own b eU o' m') (h2:e ≠ xY) (x:Option bF):aY (aB bx' n.bb x) e sz es u :=
  (hu.cw hm h1).put ff h2 _
 have wY (u:V) (es:List V) (hu:aY bx 2 1 es u) (bB:∀ b s o m s' o' m',n.dv i = .own b s o m -> u ≠ .own b s' o' m'):∀ b s o m s' o' m',v' = .own b s o m -> u ≠ .own b s' o' m':=by
  rintro b s o m s' o' m' e1 rfl
  rcases hu with ⟨_,h1⟩ | ⟨b',h1,h2⟩
  ·cases h1
  ·injection h1 with h1
   subst h1
   have h3:∀ sz o m,n.dv i ≠ .own b sz o m:=fun sz o m e=>bB _ _ _ _ _ _ _ e rfl
   exact hm.ne (p:=b) (by rw [h2]; simp) h3 s o m e1
 refine ⟨(an _ _ _).2 hm.fin,fy e1 h.nb _,h.np,h.nb,h.nc,h.nr,h.nf,fun j hj=>?_,by simpa using h.nw,by rw [ae _ _ bB,hp]; simp [gP],by rw [af,zG],
  k h.aq (lE Ed h.aq (by decide)) (by decide) _,k h.aE (lE Ed h.aE (by decide)) (by decide) _,k h.aI (lE Ed h.aI (by decide)) (by decide) _,fun j b hj=>?_,fun j b hj=>?_,?_,by simpa using h.ww,?_,?_⟩
 ·by_cases e:j = i
  ·subst e; simp only [af]; exact e2
  ·simp only [ae _ _ e]; exact h.nd j (by simpa using hj)
 ·by_cases e:j = i
  ·subst e
   rw [List.getElem?_set_self hi] at hj
   injection hj with hj
   subst hj
   simp only [af]
   exact ha.put ff (by decide) _
  ·rw [List.getElem?_set_ne (Ne.symm e)] at hj
   have lR:j < w.ai.length:=(List.getElem?_eq_some_iff.1 hj).1
   simp only [ae _ _ e]
   exact k (h.nC j b hj) (fun b sz o m eU o' m' e1 e2=>e (h.dd i j _ _ _ _ _ _ _ hi lR e1 e2).symm) (by decide) _
 ·have BT:∃ b',w.ai[j]? = some b' /\ b.waits = b'.waits:=by
   by_cases e:i = j
   ·subst e
    rw [List.getElem?_set_self hi] at hj
    injection hj with hj
    subst hj
    exact ⟨_,List.getElem?_eq_getElem hi,rfl⟩
   ·rw [List.getElem?_set_ne e] at hj
    exact ⟨b,hj,rfl⟩
  obtain ⟨b',h1,h2⟩:=BT
  have lR:j < w.ai.length:=(List.getElem?_eq_some_iff.1 h1).1
  rw [h2]
  exact k (h.iu j b' h1) (fun b sz o m eU o' m' e1 e2=>h.dw i j _ _ _ _ _ _ _ hi lR e1 e2) (by decide) _
 ·intro a b c s o m s' o' m' fI aR h1 h2
  simp only [List.length_set] at fI aR
  by_cases ea:a = i <;> by_cases eb:b = i
  ·rw [ea,eb]
  ·subst ea
   simp only [af,ae _ _ eb] at h1 h2
   exact absurd h2 (wY _ _ (h.nC b _ (List.getElem?_eq_getElem aR)) (fun b2 s o m s' o' m' e1 e2=>eb (h.dd a b _ _ _ _ _ _ _ fI aR e1 e2).symm) _ _ _ _ _ _ _ h1)
  ·subst eb
   simp only [af,ae _ _ ea] at h1 h2
   exact absurd h1 (wY _ _ (h.nC a _ (List.getElem?_eq_getElem fI)) (fun b2 s o m s' o' m' e1 e2=>ea (h.dd b a _ _ _ _ _ _ _ aR fI e1 e2).symm) _ _ _ _ _ _ _ h2)
  ·simp only [ae _ _ ea,ae _ _ eb] at h1 h2
   exact h.dd a b _ _ _ _ _ _ _ fI aR h1 h2
 ·intro a b c s o m s' o' m' fI aR h1 h2
  simp only [List.length_set] at fI aR
  by_cases ea:a = i
  ·subst ea
   simp only [af] at h1
   exact absurd h2 (wY _ _ (h.iu b _ (List.getElem?_eq_getElem aR)) (fun b2 s o m s' o' m' e1 e2=>h.dw a b _ _ _ _ _ _ _ fI aR e1 e2) _ _ _ _ _ _ _ h1)
  ·simp only [ae _ _ ea] at h1
   exact h.dw a b _ _ _ _ _ _ _ fI aR h1 h2
 ·have:=h.sm
  refine ⟨by simpa using this.1,this.2.1,this.2.2.1,this.2.2.2.1,fun b hb=>?_⟩
  rcases List.mem_or_eq_of_mem_set hb with hb | rfl
  ·exact this.2.2.2.2 b hb
  ·exact ⟨hl,(this.2.2.2.2 _ (List.getElem_mem hi)).2⟩
theorem qc {bx:aa} {b:Nat} (hb:bx b = none) (x:Option bF):Ext bx (aB bx b x):=fun c hc=>ae _ _ (by rintro rfl; exact hc hb)
structure IC where
 num:Int
 bk:Int
 bt:Int
 born:Int
 gone:Int
 cj:Int
 read:Int
 st:Int
 call:Int
 since:Int
structure IR where
 idem:Bool
 ended:Bool
 aO:Int
 at_:Int
 cj:Int
structure IP where
 ax:Bool
 waits:Bool
 bt:Bool
deriving DecidableEq
structure IB where
 down:Bool
 gV:Int
 aM:Int
 ax:Int
 cJ:Int
 waits:List Int
structure IW where
 aN:List eR
 most:Int
 kO:List Ex
 now:Int
 at_:Int
 ai:List IB
 aq:List IC
 ord:List Int
 aE:List (Int × IR)
 busy:List (Int × IP)
 nF:List (Int × Int)
 stop:Bool
 aI:List (Int × Int)
def qx (c:IC):V:=.agg [iI c.num,iI c.bk,iI c.bt,iI c.born,iI c.gone,iI c.cj,iI c.read,iI c.st,iI c.call,iI c.since]
def sI (r:IR):V:=.agg [.bool r.idem,.bool r.ended,iI r.aO,iI r.at_,iI r.cj]
def oz (p:IP):V:=.agg [.bool p.ax,.bool p.waits,.bool p.bt]
def kZ (v:V) (b:IB):V:=.agg [.bool b.down,iI b.gV,iI b.aM,iI b.ax,iI b.cJ,v]
def kJ:IC:=⟨0,0,0,0,0,0,0,0,0,0⟩
def o7:IR:=⟨false,false,0,0,0⟩
def dF:IP:=⟨false,false,false⟩
def gp:IB:=⟨false,0,0,0,0,[]⟩
def kh (ks:List Int) (v:Nat -> V):List (V × V):=ks.mapIdx fun i k=>(iI k,v i)
theorem Ee (k:Int) (ks:List Int) (v:Nat -> V):kh (k :: ks) v = (iI k,v 0) :: kh ks (fun i=>v (i + 1)):=by
 unfold kh
 rw [List.mapIdx_cons]
theorem qM (k:Int):∀ (ks:List Int) (v:Nat -> V) (n:Nat),fq (.int .i64 k) (kh ks v) n = some ((ks.findIdx? (· == k)).map fun j=>(n + j,v j))
 | [],v,n=>rfl
 | y :: ks,v,n=>by
   rw [Ee]
   unfold fq
   have hs:lO (.int .i64 k) (iI y) = some (k == y):=by simp [lO,iI]
   rw [hs,List.findIdx?_cons]
   by_cases e:y = k
   ·subst e
    simp
   ·have e1:(k == y) = false:=by simpa using fun h=>e h.symm
    have e2:(y == k) = false:=by simpa using e
    rw [e1,e2]
    dsimp only
    rw [qM k ks _ (n + 1)]
    simp only [Bool.false_eq_true,if_false,Option.map_map]
    congr 2
    funext j
    simp only [Function.comp]
    congr 1
    omega
theorem GL (ks:List Int) (v:Nat -> V):(kh ks v).length = ks.length:=by simp [kh]
theorem zH (ks:List Int) (v:Nat -> V) (k:Int) (x:V):kh ks v ++ [(iI k,x)] = kh (ks ++ [k]) (aB v ks.length x):=by
 unfold kh
 rw [List.mapIdx_append]
 congr 1
 ·apply List.ext_getElem?
  intro i
  rw [List.getElem?_mapIdx,List.getElem?_mapIdx]
  cases hk:ks[i]? with
  | none=>rfl
  | some y =>
    have:=(List.getElem?_eq_some_iff.1 hk).1
    simp [ae _ _ (show i ≠ ks.length by omega)]
 ·simp [af]
def gh {α:Type} (l:List (Int × α)) (f:α -> V):List (V × V):=l.map fun p=>(iI p.1,f p.2)
def ki {α:Type} (l:List (Int × α)) (k:Int):Option Nat:=l.findIdx? (fun p=>p.1 == k)
theorem iN {α:Type} (k:Int) (f:α -> V) (d:Int × α):∀ (l:List (Int × α)) (n:Nat),fq (.int .i64 k) (gh l f) n = some ((ki l k).map fun j=>(n + j,f (l.getD j d).2))
 | [],n=>rfl
 | y :: l,n=>by
   show fq _ ((iI y.1,f y.2) :: gh l f) n = _
   unfold fq ki
   have hs:lO (.int .i64 k) (iI y.1) = some (k == y.1):=by simp [lO,iI]
   rw [hs,List.findIdx?_cons]
   by_cases e:y.1 = k
   ·subst e
    simp
   ·have e1:(k == y.1) = false:=by simpa using fun h=>e h.symm
    have e2:(y.1 == k) = false:=by simpa using e
    rw [e1,e2]
    dsimp only
    rw [iN k f d l (n + 1)]
    unfold ki
    simp only [Bool.false_eq_true,if_false,Option.map_map]
    congr 2
    funext j
    simp only [Function.comp]
    congr 1
    omega
theorem oX {α:Type} {l:List (Int × α)} {k:Int} {j:Nat} (h:ki l k = some j):∃ hj:j < l.length,l[j].1 = k:=by
 unfold ki at h
 rw [List.findIdx?_eq_some_iff_getElem] at h
 obtain ⟨hj,h1,_⟩:=h
 exact ⟨hj,by simpa using h1⟩
def jv {α:Type} (l:List (Int × α)) (k:Int) (x:α):List (Int × α):=match ki l k with
 | some j=>l.set j (k,x)
 | none=>l ++ [(k,x)]
def nX {α:Type} (l:List (Int × α)) (k:Int):List (Int × α):=match ki l k with
 | some j=>l.eraseIdx j
 | none=>l
inductive o8 where
 | w | ai | mc | mr | mb | mw | ord | aI
 | iu (i:Nat) | cn (i:Nat) | rq (i:Nat)
deriving DecidableEq
abbrev di:=o8 -> Option Nat
def eS (ad:di) (c:o8) (o:Option Nat):di:=fun x=>if x = c then o else ad x
theorem ij (ad:di) (c:o8) (o:Option Nat):eS ad c o c = o:=by simp [eS]
theorem eH (ad:di) {c c':o8} (o:Option Nat) (h:c' ≠ c):eS ad c o c' = ad c':=by simp [eS,h]
def jJ (o:Option Nat) (sz n:Nat):V:=match o with | some b=>.own b sz 0 n | none=>.aH
def iq (ad:di) (i:Nat) (b:IB):V:=kZ (jJ (ad (.iu i)) 1 b.waits.length) b
def nY (ad:di) (c:o8):Nat:=(ad c).getD 0
def iv (pb pc pr pm pw:Nat) (vo vf:V) (s:IW):V:=.agg [.sl 4 (s.aN.map bG),iI s.most,.sl 8 (s.kO.map ey),iI s.now,iI s.at_,.own pb 6 0 s.ai.length,.mp pc,vo,.mp pr,.mp pm,.mp pw,.bool s.stop,vf]
def It (ad:di) (s:IW):V:=iv (nY ad .ai) (nY ad .mc) (nY ad .mr) (nY ad .mb) (nY ad .mw) (jJ (ad .ord) 1 s.ord.length) (jJ (ad .aI) 2 s.aI.length) s
def cont (ad:di) (s:IW):o8 -> bF
 | .w=>.row 94 13 [It ad s]
 | .ai=>.row 194 6 (s.ai.mapIdx (iq ad))
 | .mc=>.map (kh (s.aq.map (·.num)) fun i=>.ptr (nY ad (.cn i)) 10 0 0)
 | .mr=>.map (kh (s.aE.map (·.1)) fun i=>.ptr (nY ad (.rq i)) 5 0 0)
 | .mb=>.map (gh s.busy oz)
 | .mw=>.map (gh s.nF iI)
 | .ord=>.row 2 1 (s.ord.map iI)
 | .aI=>.row 66 2 (s.aI.map bH)
 | .iu i=>.row 2 1 ((s.ai.getD i gp).waits.map iI)
 | .cn i=>.row 105 10 [qx (s.aq.getD i kJ)]
 | .rq i=>.row 190 5 [sI (s.aE.getD i (0,o7)).2]
def rD (s:IW):o8 -> Prop
 | .iu i=>i < s.ai.length
 | .cn i=>i < s.aq.length
 | .rq i=>i < s.aE.length
 | _=>True
def nZ (s:IW):o8 -> Prop
 | .ord=>s.ord = []
 | .aI=>s.aI = []
 | .iu i=>(s.ai.getD i gp).waits = []
 | _=>False
def O8:o8 -> Bool
 | .ord | .aI | .iu _=>true
 | _=>false
structure WI (aD:aa) (ad:di) (s:IW) (bx:aa):Prop where
 fin:ba bx
 ext:Ext aD bx
 at_:∀ c b,ad c = some b -> aD b = none /\ bx b = some (cont ad s c) /\ rD s c
 none_:∀ c,ad c = none -> rD s c -> nZ s c
 inj:∀ c c' b,ad c = some b -> ad c' = some b -> c = c'
def bT (ad ad':di):Prop:=∀ c b,ad c = some b -> O8 c = false -> ad' c = some b
theorem bT.refl (ad:di):bT ad ad:=fun _ _ h _=>h
theorem bT.trans {a b c:di} (h:bT a b) (h':bT b c):bT a c:=fun x y e hs=>h' x y (h x y e hs) hs
theorem WI.put {aD bx:aa} {ad:di} {s:IW} (h:WI aD ad s bx) {c:o8} {b:Nat} (hc:ad c = some b) (s':IW) (h1:∀ c' b',c' ≠ c -> ad c' = some b' -> cont ad s' c' = cont ad s c') (h2:∀ c',rD s' c' ↔ rD s c') (h3:∀ c',nZ s c' -> ad c' = none -> nZ s' c') :
 WI aD ad s' (aB bx b (some (cont ad s' c))):=by
 obtain ⟨g1,g2,g3⟩:=h.at_ c b hc
 refine ⟨(an _ _ _).2 h.fin,fy h.ext g1 _,fun c' b' e=>?_,fun c' e o=>h3 c' (h.none_ c' e ((h2 c').1 o)) e,h.inj⟩
 obtain ⟨k1,k2,k3⟩:=h.at_ c' b' e
 by_cases uZ:c' = c
 ·subst uZ
  rw [hc] at e
  injection e with e
  subst e
  exact ⟨g1,af _ _ _,(h2 _).2 g3⟩
 ·have ff:b' ≠ b:=fun e2=>uZ (h.inj c' c b (by rw [e,e2]) hc)
  exact ⟨k1,by rw [ae _ _ ff,k2,h1 c' b' uZ e],(h2 _).2 k3⟩
def qN (v:V):Option Nat:=match v with | .own b _ _ _=>some b | _=>none
theorem aY.jJ {bx:aa} {e sz:Nat} {es:List V} {v:V} (h:aY bx e sz es v):v = Go.Proofs.jJ (qN v) sz es.length:=by
 rcases h with ⟨_,rfl⟩ | ⟨b,rfl,_⟩ <;> rfl
theorem WI.sl {aD bx:aa} {ad:di} {s:IW} (h:WI aD ad s bx) {c:o8} (hs:O8 c = true) (ho:rD s c) {ty sz:Nat} {es:List V} (hc:cont ad s c = .row ty sz es) (h0:nZ s c -> es = []):aY bx ty sz es (Go.Proofs.jJ (ad c) sz es.length):=by
 cases qv:ad c with
 | none=>exact .inl ⟨h0 (h.none_ c qv ho),rfl⟩
 | some b=>exact .inr ⟨b,rfl,by rw [<- hc]; exact (h.at_ c b qv).2.1⟩
theorem WI.slice {aD bx bx':aa} {ad:di} {s:IW} (h:WI aD ad s bx) {c hd:o8} {hb:Nat} (hh:ad hd = some hb) (bB:hd ≠ c) (s':IW) {v':V} {ty sz:Nat} {es:List V} {n:Nat} (hm:eP (Go.Proofs.jJ (ad c) sz n) v' bx bx') (hv:aY bx' ty sz es v')
 (uZ:cont (eS ad c (qN v')) s' c = .row ty sz es) (c8:rD s' c) (hopt:es = [] -> nZ s' c)
 (h1:∀ c' b',c' ≠ c -> c' ≠ hd -> ad c' = some b' -> cont (eS ad c (qN v')) s' c' = cont ad s c') (h2:∀ c',rD s' c' ↔ rD s c') (h3:∀ c',c' ≠ c -> nZ s c' -> ad c' = none -> nZ s' c') :
 WI aD (eS ad c (qN v')) s' (aB bx' hb (some (cont (eS ad c (qN v')) s' hd))):=by
 obtain ⟨g1,g2,g3⟩:=h.at_ hd hb hh
 have pK:∀ c' b',c' ≠ c -> ad c' = some b' -> ∀ eU o m,Go.Proofs.jJ (ad c) sz n ≠ .own b' eU o m:=by
  intro c' b' GM e eU o m e2
  cases qv:ad c with
  | none=>rw [qv] at e2; cases e2
  | some b =>
    rw [qv] at e2
    injection e2 with e2
    subst e2
    exact GM (h.inj c' c b e qv)
 have pA:∀ c' b',c' ≠ c -> ad c' = some b' -> bx' b' = bx b':=fun c' b' GM e=>hm.other (by rw [(h.at_ c' b' e).2.1]; simp) (pK c' b' GM e)
 have xZ:kg aD (Go.Proofs.jJ (ad c) sz n):=by
  intro b eU o m e
  cases qv:ad c with
  | none=>rw [qv] at e; cases e
  | some b2 =>
    rw [qv] at e
    injection e with e
    subst e
    exact (h.at_ c b2 qv).1
 obtain ⟨e1,e2⟩:=hm.base h.ext xZ
 have tn:∀ b',qN v' = some b' -> aD b' = none /\ bx' b' = some (.row ty sz es) /\ ∀ c',c' ≠ c -> ad c' ≠ some b':=by
  intro b' e
  rcases hv with ⟨_,rfl⟩ | ⟨b2,rfl,cz⟩
  ·cases e
  ·injection e with e
   subst e
   refine ⟨e2 _ _ _ _ rfl,cz,fun c' GM e3=>?_⟩
   exact hm.ne (p:=b2) (by rw [(h.at_ c' b2 e3).2.1]; simp) (pK c' b2 GM e3) _ _ _ rfl
 refine ⟨(an _ _ _).2 hm.fin,fy e1 g1 _,fun c' b' e=>?_,fun c' e o=>?_,fun c1 c2 b' q1 q2=>?_⟩
 ·by_cases k1:c' = c
  ·subst k1
   rw [ij] at e
   obtain ⟨n1,n2,n3⟩:=tn b' e
   have:b' ≠ hb:=fun e4=>n3 hd bB (by rw [hh,e4])
   exact ⟨n1,by rw [ae _ _ this,n2,uZ],c8⟩
  ·rw [eH _ _ k1] at e
   obtain ⟨m1,m2,m3⟩:=h.at_ c' b' e
   refine ⟨m1,?_,(h2 c').2 m3⟩
   by_cases k2:c' = hd
   ·subst k2
    rw [hh] at e
    injection e with e
    subst e
    exact af _ _ _
   ·have:b' ≠ hb:=fun e4=>k2 (h.inj c' hd hb (by rw [e,e4]) hh)
    rw [ae _ _ this,pA c' b' k1 e,m2,h1 c' b' k1 k2 e]
 ·by_cases k1:c' = c
  ·subst k1
   rw [ij] at e
   rcases hv with ⟨h0,_⟩ | ⟨b2,rfl,_⟩
   ·exact hopt h0
   ·cases e
  ·rw [eH _ _ k1] at e
   exact h3 c' k1 (h.none_ c' e ((h2 c').1 o)) e
 ·by_cases k1:c1 = c <;> by_cases k2:c2 = c
  ·rw [k1,k2]
  ·subst k1
   rw [ij] at q1
   rw [eH _ _ k2] at q2
   exact absurd q2 ((tn b' q1).2.2 c2 k2)
  ·subst k2
   rw [ij] at q2
   rw [eH _ _ k1] at q1
   exact absurd q1 ((tn b' q2).2.2 c1 k1)
  ·rw [eH _ _ k1] at q1
   rw [eH _ _ k2] at q2
   exact h.inj c1 c2 b' q1 q2
theorem WI.cw {ad:di} {c:o8} (hs:O8 c = true) (o:Option Nat):bT ad (eS ad c o):=fun c' b e h=>by
 rw [eH _ _ (by rintro rfl; rw [hs] at h; cases h)]
 exact e
theorem WI.grow {aD bx:aa} {ad:di} {s:IW} (h:WI aD ad s bx) {c hd:o8} {hb b:Nat} (hh:ad hd = some hb) (bB:hd ≠ c) (hn:ad c = none) (dH:bx b = none) (s':IW) (c8:rD s' c)
 (h1:∀ c' b',c' ≠ c -> c' ≠ hd -> ad c' = some b' -> cont (eS ad c (some b)) s' c' = cont ad s c') (h2:∀ c',c' ≠ c -> (rD s' c' ↔ rD s c')) (h3:∀ c',c' ≠ c -> nZ s c' -> ad c' = none -> nZ s' c') :
 WI aD (eS ad c (some b)) s' (aB (aB bx b (some (cont (eS ad c (some b)) s' c))) hb (some (cont (eS ad c (some b)) s' hd))):=by
 obtain ⟨g1,g2,g3⟩:=h.at_ hd hb hh
 have ff:b ≠ hb:=fun e=>by rw [e,g2] at dH; cases dH
 have WS:aD b = none:=by
  cases e:aD b with
  | none=>rfl
  | some x=>have:=h.ext b (by rw [e]; simp); rw [dH,e] at this; cases this
 have pK:∀ c' b',ad c' = some b' -> b' ≠ b:=fun c' b' e e2=>by rw [e2] at e; rw [(h.at_ c' b e).2.1] at dH; cases dH
 refine ⟨(an _ _ _).2 ((an _ _ _).2 h.fin),fy (fy h.ext WS _) g1 _,fun c' b' e=>?_,fun c' e o=>?_,fun c1 c2 b' q1 q2=>?_⟩
 ·by_cases k1:c' = c
  ·subst k1
   rw [ij] at e
   injection e with e
   subst e
   exact ⟨WS,by rw [ae _ _ ff,af],c8⟩
  ·rw [eH _ _ k1] at e
   obtain ⟨m1,m2,m3⟩:=h.at_ c' b' e
   refine ⟨m1,?_,(h2 c' k1).2 m3⟩
   by_cases k2:c' = hd
   ·subst k2
    rw [hh] at e
    injection e with e
    subst e
    exact af _ _ _
   ·have:b' ≠ hb:=fun e4=>k2 (h.inj c' hd hb (by rw [e,e4]) hh)
    rw [ae _ _ this,ae _ _ (pK c' b' e),m2,h1 c' b' k1 k2 e]
 ·have k1:c' ≠ c:=fun k1=>by subst k1; rw [ij] at e; cases e
  rw [eH _ _ k1] at e
  exact h3 c' k1 (h.none_ c' e ((h2 c' k1).1 o)) e
 ·by_cases k1:c1 = c <;> by_cases k2:c2 = c
  ·rw [k1,k2]
  ·subst k1
   rw [ij] at q1
   injection q1 with q1
   rw [eH _ _ k2] at q2
   exact absurd q1.symm (pK c2 b' q2)
  ·subst k2
   rw [ij] at q2
   injection q2 with q2
   rw [eH _ _ k1] at q1
   exact absurd q2.symm (pK c1 b' q1)
  ·rw [eH _ _ k1] at q1
   rw [eH _ _ k2] at q2
   exact h.inj c1 c2 b' q1 q2
theorem bT.grow {ad:di} {c:o8} (hn:ad c = none) (o:Option Nat):bT ad (eS ad c o):=fun c' b e _=>by
 rw [eH _ _ (by rintro rfl; rw [hn] at e; cases e)]
 exact e
abbrev LA:TypeId:=94
abbrev zI:TypeId:=194
abbrev ve:TypeId:=105
abbrev vg:TypeId:=190
structure Nm (ad:di) (p pb pc pr pm pw:Nat):Prop where
 w:ad .w = some p
 b:ad .ai = some pb
 c:ad .mc = some pc
 r:ad .mr = some pr
 m:ad .mb = some pm
 h:ad .mw = some pw
theorem WI.has {aD bx:aa} {ad:di} {s:IW} (h:WI aD ad s bx) (c:o8) (h1:rD s c) (h2:¬ nZ s c):∃ b,ad c = some b:=by
 cases hc:ad c with
 | some b=>exact ⟨b,rfl⟩
 | none=>exact absurd (h.none_ c hc h1) h2
theorem WI.names {aD bx:aa} {ad:di} {s:IW} (h:WI aD ad s bx) {p:Nat} (hp:ad .w = some p):∃ pb pc pr pm pw,Nm ad p pb pc pr pm pw:=by
 obtain ⟨pb,h1⟩:=h.has .ai trivial id
 obtain ⟨pc,h2⟩:=h.has .mc trivial id
 obtain ⟨pr,h3⟩:=h.has .mr trivial id
 obtain ⟨pm,h4⟩:=h.has .mb trivial id
 obtain ⟨pw,h5⟩:=h.has .mw trivial id
 exact ⟨pb,pc,pr,pm,pw,hp,h1,h2,h3,h4,h5⟩
theorem Nm.cw {ad ad':di} {p pb pc pr pm pw:Nat} (h:Nm ad p pb pc pr pm pw) (hk:bT ad ad'):Nm ad' p pb pc pr pm pw :=
 ⟨hk _ _ h.w rfl,hk _ _ h.b rfl,hk _ _ h.c rfl,hk _ _ h.r rfl,hk _ _ h.m rfl,hk _ _ h.h rfl⟩
theorem dJ {ad:di} {c:o8} {b:Nat} (h:ad c = some b):nY ad c = b:=by unfold nY; rw [h]; rfl
theorem Nm.iw {ad:di} {p pb pc pr pm pw:Nat} (h:Nm ad p pb pc pr pm pw) (s:IW):cont ad s .w = .row LA 13 [iv pb pc pr pm pw (jJ (ad .ord) 1 s.ord.length) (jJ (ad .aI) 2 s.aI.length) s]:=by
 unfold cont It
 rw [dJ h.b,dJ h.c,dJ h.r,dJ h.m,dJ h.h]
theorem WI.row {aD bx:aa} {ad:di} {s:IW} (h:WI aD ad s bx) {p pb pc pr pm pw:Nat} (hn:Nm ad p pb pc pr pm pw):bx p = some (.row LA 13 [iv pb pc pr pm pw (jJ (ad .ord) 1 s.ord.length) (jJ (ad .aI) 2 s.aI.length) s]):=by
 rw [(h.at_ .w p hn.w).2.1,hn.iw]
theorem WI.mW {aD bx:aa} {ad:di} {s:IW} (h:WI aD ad s bx) {p pb pc pr pm pw:Nat} (hn:Nm ad p pb pc pr pm pw):bx pb = some (.row zI 6 (s.ai.mapIdx (iq ad))):=(h.at_ .ai pb hn.b).2.1
theorem WI.mcR {aD bx:aa} {ad:di} {s:IW} (h:WI aD ad s bx) {p pb pc pr pm pw:Nat} (hn:Nm ad p pb pc pr pm pw):bx pc = some (.map (kh (s.aq.map (·.num)) fun i=>.ptr (nY ad (.cn i)) 10 0 0)):=(h.at_ .mc pc hn.c).2.1
theorem WI.WT {aD bx:aa} {ad:di} {s:IW} (h:WI aD ad s bx) {p pb pc pr pm pw:Nat} (hn:Nm ad p pb pc pr pm pw):bx pr = some (.map (kh (s.aE.map (·.1)) fun i=>.ptr (nY ad (.rq i)) 5 0 0)):=(h.at_ .mr pr hn.r).2.1
theorem WI.Rm {aD bx:aa} {ad:di} {s:IW} (h:WI aD ad s bx) {p pb pc pr pm pw:Nat} (hn:Nm ad p pb pc pr pm pw):bx pm = some (.map (gh s.busy oz)):=(h.at_ .mb pm hn.m).2.1
theorem WI.mwR {aD bx:aa} {ad:di} {s:IW} (h:WI aD ad s bx) {p pb pc pr pm pw:Nat} (hn:Nm ad p pb pc pr pm pw):bx pw = some (.map (gh s.nF iI)):=(h.at_ .mw pw hn.h).2.1
theorem WI.EN {aD bx:aa} {ad:di} {s:IW} (h:WI aD ad s bx) {i:Nat} (hi:i < s.aq.length):∃ b,ad (.cn i) = some b /\ bx b = some (.row ve 10 [qx s.aq[i]]):=by
 obtain ⟨b,hb⟩:=h.has (.cn i) hi id
 refine ⟨b,hb,?_⟩
 rw [(h.at_ _ b hb).2.1]
 simp [cont,hi]
theorem WI.LB {aD bx:aa} {ad:di} {s:IW} (h:WI aD ad s bx) {i:Nat} (hi:i < s.aE.length):∃ b,ad (.rq i) = some b /\ bx b = some (.row vg 5 [sI s.aE[i].2]):=by
 obtain ⟨b,hb⟩:=h.has (.rq i) hi id
 refine ⟨b,hb,?_⟩
 rw [(h.at_ _ b hb).2.1]
 simp [cont,hi]
theorem WI.GN {aD bx:aa} {ad:di} {s:IW} (h:WI aD ad s bx):aY bx nE 2 (s.aI.map bH) (jJ (ad .aI) 2 s.aI.length):=by
 simpa using h.sl (c:=.aI) rfl trivial rfl (fun h=>by simpa [nZ] using h)
theorem WI.WU {aD bx:aa} {ad:di} {s:IW} (h:WI aD ad s bx):aY bx 2 1 (s.ord.map iI) (jJ (ad .ord) 1 s.ord.length):=by
 simpa using h.sl (c:=.ord) rfl trivial rfl (fun h=>by simpa [nZ] using h)
theorem WI.JI {aD bx:aa} {ad:di} {s:IW} (h:WI aD ad s bx) {i:Nat} (hi:i < s.ai.length):aY bx 2 1 (s.ai[i].waits.map iI) (jJ (ad (.iu i)) 1 s.ai[i].waits.length):=by
 have:=h.sl (c:=.iu i) rfl hi rfl (fun h=>by simpa [nZ] using h)
 simpa [hi] using this
theorem WI.world {aD bx:aa} {ad:di} {s:IW} (h:WI aD ad s bx) {p pb pc pr pm pw:Nat} (hn:Nm ad p pb pc pr pm pw) (now at_:Int) (stop:Bool) :
 WI aD ad { s with now:=now,at_:=at_,stop:=stop } (aB bx p (some (.row LA 13 [iv pb pc pr pm pw (jJ (ad .ord) 1 s.ord.length) (jJ (ad .aI) 2 s.aI.length) { s with now:=now,at_:=at_,stop:=stop }]))):=by
 have:=h.put hn.w { s with now:=now,at_:=at_,stop:=stop } (fun c' b' hc _=>by cases c' <;> first | rfl | exact absurd rfl hc) (fun c'=>by cases c' <;> exact Iff.rfl) (fun c' o _=>by cases c' <;> exact o)
 rwa [hn.iw] at this
theorem WI.fault {aD bx bx':aa} {ad:di} {s:IW} (h:WI aD ad s bx) {p pb pc pr pm pw:Nat} (hn:Nm ad p pb pc pr pm pw) (f:Int × Int) {v':V} (hm:eP (jJ (ad .aI) 2 s.aI.length) v' bx bx') (hv:aY bx' nE 2 ((s.aI ++ [f]).map bH) v') :
 WI aD (eS ad .aI (qN v')) { s with aI:=s.aI ++ [f] } (aB bx' p (some (.row LA 13 [iv pb pc pr pm pw (jJ (ad .ord) 1 s.ord.length) v' { s with aI:=s.aI ++ [f] }]))):=by
 have:=h.slice (c:=.aI) (hd:=.w) hn.w (by decide) { s with aI:=s.aI ++ [f] } hm hv rfl trivial (fun e=>by simp at e) (fun c' b' h1 h2 _=>by cases c' <;> first | rfl | exact absurd rfl h1 | exact absurd rfl h2 | (simp [cont,nY,eS,iq])) (fun c'=>by cases c' <;> exact Iff.rfl) (fun c' hc o _=>by cases c' <;> first | exact o | exact absurd rfl hc)
 rw [(hn.cw (WI.cw rfl _)).iw] at this
 have e:=hv.jJ
 rw [List.length_map] at e
 rw [eH _ _ (show o8.ord ≠ o8.aI by decide),ij,<- e] at this
 exact this
theorem WI.O9 {aD bx bx':aa} {ad:di} {s:IW} (h:WI aD ad s bx) {p pb pc pr pm pw:Nat} (hn:Nm ad p pb pc pr pm pw) (k:Int) {v':V} (hm:eP (jJ (ad .ord) 1 s.ord.length) v' bx bx') (hv:aY bx' 2 1 ((s.ord ++ [k]).map iI) v') :
 WI aD (eS ad .ord (qN v')) { s with ord:=s.ord ++ [k] } (aB bx' p (some (.row LA 13 [iv pb pc pr pm pw v' (jJ (ad .aI) 2 s.aI.length) { s with ord:=s.ord ++ [k] }]))):=by
 have:=h.slice (c:=.ord) (hd:=.w) hn.w (by decide) { s with ord:=s.ord ++ [k] } hm hv rfl trivial (fun e=>by simp at e) (fun c' b' h1 h2 _=>by cases c' <;> first | rfl | exact absurd rfl h1 | exact absurd rfl h2 | (simp [cont,nY,eS,iq])) (fun c'=>by cases c' <;> exact Iff.rfl) (fun c' hc o _=>by cases c' <;> first | exact o | exact absurd rfl hc)
 rw [(hn.cw (WI.cw rfl _)).iw] at this
 have e:=hv.jJ
 rw [List.length_map] at e
 rw [eH _ _ (show o8.aI ≠ o8.ord by decide),ij,<- e] at this
 exact this
theorem JJ {l:List IB} {ad:di} {i:Nat} (x:IB):(l.mapIdx (iq ad)).set i (iq ad i x) = (l.set i x).mapIdx (iq ad):=by
 apply List.ext_getElem?
 intro j
 rw [List.getElem?_set,List.getElem?_mapIdx,List.getElem?_mapIdx,List.getElem?_set]
 by_cases e:i = j
 ·subst e; simp
 ·simp [e]
theorem GO {l:List IB} {ad:di} {i:Nat} (x:IB) {v:V} (hv:v = jJ (qN v) 1 x.waits.length):(l.mapIdx (iq ad)).set i (kZ v x) = (l.set i x).mapIdx (iq (eS ad (.iu i) (qN v))):=by
 apply List.ext_getElem?
 intro j
 rw [List.getElem?_set,List.getElem?_mapIdx,List.getElem?_mapIdx,List.getElem?_set]
 by_cases e:i = j
 ·subst e
  simp [iq,eS,<- hv]
 ·simp only [e,if_false]
  cases l[j]? with
  | none=>rfl
  | some y =>
    have:o8.iu j ≠ o8.iu i:=fun h=>e (by injection h with h; exact h.symm)
    simp [iq,eS,this]
theorem WI.aQ {aD bx:aa} {ad:di} {s:IW} (h:WI aD ad s bx) {p pb pc pr pm pw:Nat} (hn:Nm ad p pb pc pr pm pw) (i:Nat) (x:IB) (hx:∀ b,s.ai[i]? = some b -> x.waits = b.waits) :
 WI aD ad { s with ai:=s.ai.set i x } (aB bx pb (some (.row zI 6 ((s.ai.mapIdx (iq ad)).set i (iq ad i x))))):=by
 have hw:∀ j,((s.ai.set i x).getD j gp).waits = (s.ai.getD j gp).waits:=by
  intro j
  rw [List.getD_eq_getElem?_getD,List.getD_eq_getElem?_getD,List.getElem?_set]
  by_cases e:i = j
  ·subst e
   cases hb:s.ai[i]? with
   | none =>
     have:¬ i < s.ai.length:=fun hi=>by rw [List.getElem?_eq_getElem hi] at hb; cases hb
     simp [this]
   | some b =>
     have:=(List.getElem?_eq_some_iff.1 hb).1
     simp [this,hx b hb]
  ·simp [e]
 have:=h.put hn.b { s with ai:=s.ai.set i x } (fun c' b' hc _=>by
  cases c' <;> first | rfl | exact absurd rfl hc | (simp [cont,It,iv]; done) | (simp only [cont,hw])) (fun c'=>by cases c' <;> simp [rD]) (fun c' o _=>by
  cases c' <;> first | exact o | (simp only [nZ,hw] at o ⊢; exact o))
 rw [JJ]
 exact this
theorem WI.setW {aD bx bx':aa} {ad:di} {s:IW} (h:WI aD ad s bx) {p pb pc pr pm pw:Nat} (hn:Nm ad p pb pc pr pm pw) {i:Nat} (hi:i < s.ai.length) (l:List Int) {v':V} (hm:eP (jJ (ad (.iu i)) 1 s.ai[i].waits.length) v' bx bx') (hv:aY bx' 2 1 (l.map iI) v') :
 WI aD (eS ad (.iu i) (qN v')) { s with ai:=s.ai.set i { s.ai[i] with waits:=l } } (aB bx' pb (some (.row zI 6 ((s.ai.mapIdx (iq ad)).set i (kZ v' { s.ai[i] with waits:=l }))))):=by
 have hw:∀ j,j ≠ i -> (s.ai.set i { s.ai[i] with waits:=l }).getD j gp = s.ai.getD j gp:=by
  intro j hj
  rw [List.getD_eq_getElem?_getD,List.getD_eq_getElem?_getD,List.getElem?_set,if_neg (Ne.symm hj)]
 have e:=hv.jJ
 simp only [List.length_map] at e
 have:=h.slice (c:=.iu i) (hd:=.ai) hn.b (by simp) { s with ai:=s.ai.set i { s.ai[i] with waits:=l } } hm hv (by simp [cont,hi]) (by simpa [rD] using hi) (fun e=>by simpa [nZ,hi] using e) (fun c' b' h1 h2 _=>by
  cases c' with
  | iu j=>have hj:j ≠ i:=fun e=>h1 (by rw [e]); simp only [cont,hw j hj]
  | ai=>exact absurd rfl h2
  | _=>first | rfl | (simp [cont,It,iv,nY,eS])) (fun c'=>by cases c' <;> simp [rD]) (fun c' hc o _=>by
  cases c' with
  | iu j=>have hj:j ≠ i:=fun e=>hc (by rw [e]); simp only [nZ,hw j hj] at o ⊢; exact o
  | _=>exact o)
 rw [GO _ (by exact e)]
 exact this
theorem WI.bh {aD bx:aa} {ad:di} {s:IW} (h:WI aD ad s bx) {i b:Nat} (hi:i < s.aq.length) (hb:ad (.cn i) = some b) (c:IC) (hc:c.num = s.aq[i].num) :
 WI aD ad { s with aq:=s.aq.set i c } (aB bx b (some (.row ve 10 [qx c]))):=by
 have hm:(s.aq.set i c).map (·.num) = s.aq.map (·.num):=by
  apply List.ext_getElem?
  intro j
  rw [List.getElem?_map,List.getElem?_map,List.getElem?_set]
  by_cases e:i = j
  ·subst e; simp [hi,hc]
  ·simp [e]
 have hw:∀ j,j ≠ i -> (s.aq.set i c).getD j kJ = s.aq.getD j kJ:=by
  intro j hj
  rw [List.getD_eq_getElem?_getD,List.getD_eq_getElem?_getD,List.getElem?_set,if_neg (Ne.symm hj)]
 have:=h.put hb { s with aq:=s.aq.set i c } (fun c' b' ec _=>by
  cases c' with
  | cn j=>have hj:j ≠ i:=fun e=>ec (by rw [e]); simp only [cont,hw j hj]
  | mc=>simp only [cont,hm]
  | _=>first | rfl | (simp [cont,It,iv])) (fun c'=>by cases c' <;> simp [rD]) (fun c' o _=>by cases c' <;> exact o)
 have e:cont ad { s with aq:=s.aq.set i c } (.cn i) = .row ve 10 [qx c]:=by simp [cont,hi]
 rwa [e] at this
theorem WI.dU {aD bx:aa} {ad:di} {s:IW} (h:WI aD ad s bx) {i b:Nat} (hi:i < s.aE.length) (hb:ad (.rq i) = some b) (r:IR) :
 WI aD ad { s with aE:=s.aE.set i (s.aE[i].1,r) } (aB bx b (some (.row vg 5 [sI r]))):=by
 have hm:(s.aE.set i (s.aE[i].1,r)).map (·.1) = s.aE.map (·.1):=by
  apply List.ext_getElem?
  intro j
  rw [List.getElem?_map,List.getElem?_map,List.getElem?_set]
  by_cases e:i = j
  ·subst e; simp [hi]
  ·simp [e]
 have hw:∀ j,j ≠ i -> (s.aE.set i (s.aE[i].1,r)).getD j (0,o7) = s.aE.getD j (0,o7):=by
  intro j hj
  rw [List.getD_eq_getElem?_getD,List.getD_eq_getElem?_getD,List.getElem?_set,if_neg (Ne.symm hj)]
 have:=h.put hb { s with aE:=s.aE.set i (s.aE[i].1,r) } (fun c' b' ec _=>by
  cases c' with
  | rq j=>have hj:j ≠ i:=fun e=>ec (by rw [e]); simp only [cont,hw j hj]
  | mr=>simp only [cont,hm]
  | _=>first | rfl | (simp [cont,It,iv])) (fun c'=>by cases c' <;> simp [rD]) (fun c' o _=>by cases c' <;> exact o)
 have e:cont ad { s with aE:=s.aE.set i (s.aE[i].1,r) } (.rq i) = .row vg 5 [sI r]:=by simp [cont,hi]
 rwa [e] at this
theorem WI.ya {aD bx:aa} {ad:di} {s:IW} (h:WI aD ad s bx) {p pb pc pr pm pw:Nat} (hn:Nm ad p pb pc pr pm pw) (l:List (Int × IP)) :
 WI aD ad { s with busy:=l } (aB bx pm (some (.map (gh l oz)))) :=
 h.put hn.m { s with busy:=l } (fun c' b' ec _=>by cases c' <;> first | rfl | exact absurd rfl ec) (fun c'=>by cases c' <;> exact Iff.rfl) (fun c' o _=>by cases c' <;> exact o)
theorem WI.OA {aD bx:aa} {ad:di} {s:IW} (h:WI aD ad s bx) {p pb pc pr pm pw:Nat} (hn:Nm ad p pb pc pr pm pw) (l:List (Int × Int)) :
 WI aD ad { s with nF:=l } (aB bx pw (some (.map (gh l iI)))) :=
 h.put hn.h { s with nF:=l } (fun c' b' ec _=>by cases c' <;> first | rfl | exact absurd rfl ec) (fun c'=>by cases c' <;> exact Iff.rfl) (fun c' o _=>by cases c' <;> exact o)
theorem WI.beyond {aD bx:aa} {ad:di} {s:IW} (h:WI aD ad s bx) (c:o8) (hc:¬ rD s c):ad c = none:=by
 cases e:ad c with
 | none=>rfl
 | some b=>exact absurd (h.at_ c b e).2.2 hc
theorem WI.OB {aD bx:aa} {ad:di} {s:IW} (h:WI aD ad s bx) {p pb pc pr pm pw:Nat} (hn:Nm ad p pb pc pr pm pw) (c:IC) {b:Nat} (hb:bx b = none) :
 WI aD (eS ad (.cn s.aq.length) (some b)) { s with aq:=s.aq ++ [c] } (aB (aB bx b (some (.row ve 10 [qx c]))) pc (some (.map (kh (s.aq.map (·.num)) (fun i=>.ptr (nY ad (.cn i)) 10 0 0) ++ [(iI c.num,.ptr b 10 0 0)])))) /\ bT ad (eS ad (.cn s.aq.length) (some b)):=by
 have jN:ad (.cn s.aq.length) = none:=h.beyond _ (by simp [rD])
 have hw:∀ j,j < s.aq.length -> (s.aq ++ [c]).getD j kJ = s.aq.getD j kJ:=by
  intro j hj
  rw [List.getD_eq_getElem?_getD,List.getD_eq_getElem?_getD,List.getElem?_append_left hj]
 have:=h.grow (c:=.cn s.aq.length) (hd:=.mc) (hb:=pc) (b:=b) hn.c (by simp) jN hb { s with aq:=s.aq ++ [c] } (by simp [rD]) (fun c' b' h1 h2 e=>by
  cases c' with
  | cn j=>have hj:=(h.at_ _ _ e).2.2; simp only [cont,hw j hj]
  | mc=>exact absurd rfl h2
  | _=>first | rfl | (simp [cont,It,iv,nY,eS,iq])) (fun c' h1=>by
  cases c' with
  | cn j=>have hj:j ≠ s.aq.length:=fun e=>h1 (by rw [e]); simp [rD]; omega
  | _=>simp [rD]) (fun c' _ o _=>by cases c' <;> exact o)
 refine ⟨?_,bT.grow jN _⟩
 have e1:cont (eS ad (.cn s.aq.length) (some b)) { s with aq:=s.aq ++ [c] } (.cn s.aq.length) = .row ve 10 [qx c]:=by simp [cont]
 have e2:cont (eS ad (.cn s.aq.length) (some b)) { s with aq:=s.aq ++ [c] } .mc = .map (kh (s.aq.map (·.num)) (fun i=>.ptr (nY ad (.cn i)) 10 0 0) ++ [(iI c.num,.ptr b 10 0 0)]):=by
  rw [zH]
  simp only [cont,List.map_append,List.map_cons,List.map_nil,List.length_map]
  congr 2
  funext i
  by_cases e:i = s.aq.length
  ·subst e; simp [af,nY,eS]
  ·have:o8.cn i ≠ o8.cn s.aq.length:=fun h=>e (by injection h)
   simp [ae _ _ e,nY,eS,e]
 rwa [e1,e2] at this
theorem WI.adq {aD bx:aa} {ad:di} {s:IW} (h:WI aD ad s bx) {p pb pc pr pm pw:Nat} (hn:Nm ad p pb pc pr pm pw) (k:Int) (r:IR) {b:Nat} (hb:bx b = none) :
 WI aD (eS ad (.rq s.aE.length) (some b)) { s with aE:=s.aE ++ [(k,r)] } (aB (aB bx b (some (.row vg 5 [sI r]))) pr (some (.map (kh (s.aE.map (·.1)) (fun i=>.ptr (nY ad (.rq i)) 5 0 0) ++ [(iI k,.ptr b 5 0 0)])))) /\ bT ad (eS ad (.rq s.aE.length) (some b)):=by
 have jN:ad (.rq s.aE.length) = none:=h.beyond _ (by simp [rD])
 have hw:∀ j,j < s.aE.length -> (s.aE ++ [(k,r)]).getD j (0,o7) = s.aE.getD j (0,o7):=by
  intro j hj
  rw [List.getD_eq_getElem?_getD,List.getD_eq_getElem?_getD,List.getElem?_append_left hj]
 have:=h.grow (c:=.rq s.aE.length) (hd:=.mr) (hb:=pr) (b:=b) hn.r (by simp) jN hb { s with aE:=s.aE ++ [(k,r)] } (by simp [rD]) (fun c' b' h1 h2 e=>by
  cases c' with
  | rq j=>have hj:=(h.at_ _ _ e).2.2; simp only [cont,hw j hj]
  | mr=>exact absurd rfl h2
  | _=>first | rfl | (simp [cont,It,iv,nY,eS,iq])) (fun c' h1=>by
  cases c' with
  | rq j=>have hj:j ≠ s.aE.length:=fun e=>h1 (by rw [e]); simp [rD]; omega
  | _=>simp [rD]) (fun c' _ o _=>by cases c' <;> exact o)
 refine ⟨?_,bT.grow jN _⟩
 have e1:cont (eS ad (.rq s.aE.length) (some b)) { s with aE:=s.aE ++ [(k,r)] } (.rq s.aE.length) = .row vg 5 [sI r]:=by simp [cont]
 have e2:cont (eS ad (.rq s.aE.length) (some b)) { s with aE:=s.aE ++ [(k,r)] } .mr = .map (kh (s.aE.map (·.1)) (fun i=>.ptr (nY ad (.rq i)) 5 0 0) ++ [(iI k,.ptr b 5 0 0)]):=by
  rw [zH]
  simp only [cont,List.map_append,List.map_cons,List.map_nil,List.length_map]
  congr 2
  funext i
  by_cases e:i = s.aE.length
  ·subst e; simp [af,nY,eS]
  ·have:o8.rq i ≠ o8.rq s.aE.length:=fun h=>e (by injection h)
   simp [ae _ _ e,nY,eS,e]
 rwa [e1,e2] at this
def dq (aD:aa) (ad:di) (z:IW × Bool) (r:V) (bx':aa):Prop:=r = .bool z.2 /\ ∃ ad',bT ad ad' /\ WI aD ad' z.1 bx'
def o9 (aD:aa) (ad:di) (z:IW) (r:V) (bx':aa):Prop:=r = .dc [] /\ ∃ ad',bT ad ad' /\ WI aD ad' z bx'
theorem dq.of {aD bx':aa} {ad:di} {z z':IW × Bool} {r:V} (hz:z = z') (h:dq aD ad z' r bx'):dq aD ad z r bx':=hz ▸ h
theorem o9.of {aD bx':aa} {ad:di} {z z':IW} {r:V} (hz:z = z') (h:o9 aD ad z' r bx'):o9 aD ad z r bx':=hz ▸ h
def IW.fault (s:IW) (k:Int):IW:={ s with aI:=s.aI ++ [(k,s.at_)] }
def IW.aj (s:IW) (c:Bool) (k:Int):IW:=if c then s.fault k else s
def iO (s:IW) (call:Int):IP:=match ki s.busy call with | some j=>(s.busy.getD j (0,dF)).2 | none=>dF
def jD (s:IW) (call:Int):Int:=match ki s.nF call with | some j=>(s.nF.getD j (0,0)).2 | none=>0
def gQ (s:IW) (x:Ev):Bool:=(iO s x.call).waits && decide (jD s x.call = x.bk)
def fM (s:IW) (call:Int):Option Nat:=match ki s.aE call with
 | some i=>if (s.aE.getD i (0,o7)).2.ended || (ki s.busy call).isSome then none else some i
 | none=>none
def vh (ad:di) (o:Option Nat):V:=match o with | some i=>.ptr (nY ad (.rq i)) 5 0 0 | none=>.eD
def la (ad:di) (o:Option Nat):V:=match o with | some i=>.ptr (nY ad (.cn i)) 10 0 0 | none=>.eD
def oY (s:IW) (x:Ev):Bool:=gQ s x || (match fM s x.call with | some i=>decide ((s.aE.getD i (0,o7)).2.at_ = x.bk) | none=>false)
def gi (s:IW) (x:Ev):Option Nat:=match (s.aq.map (·.num)).findIdx? (· == x.conn) with
 | some i=>if (s.aq.getD i kJ).st = 5 \/ (s.aq.getD i kJ).bk ≠ x.bk then none else some i
 | none=>none
def lG (s:IW) (x:Ev):Option Nat:=match gi s x with
 | some i=>if (s.aq.getD i kJ).st = 1 /\ (s.aq.getD i kJ).call = x.call then some i else none
 | none=>none
theorem vT (s:IW) (call:Int):(fq (.int .i64 call) (gh s.busy oz) 0 = some none /\ iO s call = dF) \/ ∃ j,fq (.int .i64 call) (gh s.busy oz) 0 = some (some (j,oz (iO s call))):=by
 rw [iN call oz (0,dF)]
 unfold iO
 cases ki s.busy call with
 | none=>exact .inl ⟨rfl,rfl⟩
 | some j=>exact .inr ⟨0 + j,rfl⟩
theorem zJ (s:IW) (call:Int):(fq (.int .i64 call) (gh s.nF iI) 0 = some none /\ jD s call = 0) \/ ∃ j,fq (.int .i64 call) (gh s.nF iI) 0 = some (some (j,iI (jD s call))):=by
 rw [iN call iI (0,0)]
 unfold jD
 cases ki s.nF call with
 | none=>exact .inl ⟨rfl,rfl⟩
 | some j=>exact .inr ⟨0 + j,rfl⟩
theorem sJ (s:IW) (call:Int) (ad:di):fq (.int .i64 call) (kh (s.aE.map (·.1)) fun i=>.ptr (nY ad (.rq i)) 5 0 0) 0 = some ((ki s.aE call).map fun j=>(j,.ptr (nY ad (.rq j)) 5 0 0)):=by
 rw [qM]
 unfold ki
 rw [List.findIdx?_map]
 simp only [Nat.zero_add]
 rfl
theorem sK (s:IW) (n:Int) (ad:di):fq (.int .i64 n) (kh (s.aq.map (·.num)) fun i=>.ptr (nY ad (.cn i)) 10 0 0) 0 = some (((s.aq.map (·.num)).findIdx? (· == n)).map fun j=>(j,.ptr (nY ad (.cn j)) 10 0 0)):=by
 rw [qM]
 simp only [Nat.zero_add]
theorem LC {s:IW} {n:Int} {i:Nat} (h:(s.aq.map (·.num)).findIdx? (· == n) = some i):∃ hi:i < s.aq.length,s.aq[i].num = n:=by
 rw [List.findIdx?_eq_some_iff_getElem] at h
 obtain ⟨hi,h1,_⟩:=h
 have y9:i < s.aq.length:=by simpa using hi
 exact ⟨y9,by simpa using h1⟩
theorem mX {s:IW} {x:Ev} {i:Nat} (h:gi s x = some i):∃ hi:i < s.aq.length,s.aq[i].num = x.conn /\ s.aq[i].st ≠ 5 /\ s.aq[i].bk = x.bk:=by
 unfold gi at h
 split at h
 ·rename_i j hj
  obtain ⟨hi,h1⟩:=LC hj
  split at h
  ·cases h
  ·rename_i hc
   injection h with h
   subst h
   obtain ⟨c1,c2⟩:=not_or.1 hc
   simp only [List.getD_eq_getElem?_getD,List.getElem?_eq_getElem hi,Option.getD_some] at c1 c2
   exact ⟨hi,h1,c1,Decidable.byContradiction c2⟩
 ·cases h
theorem dz {aD bx:aa} {ad:di} {s:IW} (h:WI aD ad s bx) {p:Nat} (hp:ad .w = some p) (kind:Int) (hl:s.aI.length <= 100000) :
 aw prog 112 [.ptr p 13 0 0,.int .i64 kind] bx (o9 aD ad (s.fault kind)):=by
 refine NM fun hf=>?_
 obtain ⟨pb,pc,pr,pm,pw,hn⟩:=h.names hp
 have au:=h.row hn
 unfold iv at au
 have pY:=h.GN
 simp [go_sem,Wv,hf,au,iI]
 refine dx (.agg #[.int .i64 0,.int .i64 0]) pY hf (news:=[bH (kind,s.at_)]) vR L2 (by simp [go_sem,bM,bH,iI]) Cw (by simp [go_sem]) (by decide) (by simp [L3]; omega) (by simp; omega) (by simp [go_sem]) fun v' bx' ha hm _=>?_
 have fI:aY bx' nE 2 ((s.aI ++ [(kind,s.at_)]).map bH) v':=by simpa using ha
 have hw:=h.fault hn (kind,s.at_) hm fI
 have qZ:bx' p = _:=(hm.other (by rw [au]; simp) (pY.ne au (by decide))).trans au
 simp [go_sem,qZ,ha.strip,ha.live,ha.cells,ha.okV,hm.fin,iI]
 exact al (by simp [go_sem]) ⟨by simp [go_sem],_,WI.cw rfl _,hw⟩
theorem yc {aD bx:aa} {ad:di} {s:IW} (h:WI aD ad s bx) {p:Nat} (hp:ad .w = some p) (x:Ev) :
 ay prog 113 [.ptr p 13 0 0,aX x] bx (.bool (gQ s x)):=by
 refine NN fun hf=>?_
 obtain ⟨pb,pc,pr,pm,pw,hn⟩:=h.names hp
 have au:=h.row hn
 unfold iv at au
 have uM:=h.Rm hn
 have JK:=h.mwR hn
 unfold gQ
 rcases vT s x.call with ⟨f1,e1⟩ | ⟨j1,f1⟩
 ·rw [e1]
  simp [go_sem,G3,hf,au,aX,iI,uM,f1]
  exact aA (by simp [go_sem]) ⟨by simp [go_sem,dF],rfl⟩
 ·cases Ef:(iO s x.call).waits
  ·simp [go_sem,G3,hf,au,aX,iI,uM,f1,oz,Ef]
   exact aA (by simp [go_sem]) ⟨by simp [go_sem],rfl⟩
  ·rcases zJ s x.call with ⟨f2,e2⟩ | ⟨j2,f2⟩
   ·rw [e2]
    simp [go_sem,G3,hf,au,aX,iI,uM,f1,oz,Ef,JK,f2]
    exact aA (by simp [go_sem]) ⟨by simp [go_sem],rfl⟩
   ·simp [go_sem,G3,hf,au,aX,iI,uM,f1,oz,Ef,JK,f2]
    exact aA (by simp [go_sem]) ⟨by simp [go_sem],rfl⟩
theorem yd {aD bx:aa} {ad:di} {s:IW} (h:WI aD ad s bx) {p:Nat} (hp:ad .w = some p) (call:Int) :
 ay prog 111 [.ptr p 13 0 0,.int .i64 call] bx (vh ad (fM s call)):=by
 refine NK fun hf=>?_
 obtain ⟨pb,pc,pr,pm,pw,hn⟩:=h.names hp
 have au:=h.row hn
 unfold iv at au
 have vk:=h.WT hn
 have uM:=h.Rm hn
 have f1:=sJ s call ad
 have f2:=iN call oz (0,dF) s.busy 0
 unfold fM
 cases h1:ki s.aE call with
 | none =>
   rw [h1] at f1
   simp only [Option.map_none] at f1
   cases h2:ki s.busy call <;> rw [h2] at f2 <;> simp only [Option.map_none,Option.map_some] at f2
   ·simp [go_sem,J6,hf,au,vk,uM,f1,f2]
    intro b hb
    exact bp (bx:=bx) (by simp [go_sem]) (qc hb _) ⟨by simp [go_sem,vh],rfl⟩
   ·simp [go_sem,J6,hf,au,vk,uM,f1,f2,oz]
    intro b hb
    exact bp (bx:=bx) (by simp [go_sem]) (qc hb _) ⟨by simp [go_sem,vh],rfl⟩
 | some i =>
   rw [h1] at f1
   simp only [Option.map_some] at f1
   obtain ⟨hi,_⟩:=oX h1
   obtain ⟨b0,dH,me⟩:=h.LB hi
   rw [dJ dH] at f1
   have e1:s.aE.getD i (0,o7) = s.aE[i]:=by simp [hi]
   simp only [e1]
   cases h2:ki s.busy call <;> rw [h2] at f2 <;> simp only [Option.map_none,Option.map_some] at f2
   all_goals (
    simp [go_sem,J6,hf,au,vk,uM,f1,f2,oz]
    intro b hb
    have bB:b0 ≠ b:=by rintro rfl; rw [me] at hb; cases hb
    have ma:∀ z,aB bx b z b0 = some (.row vg 5 [sI s.aE[i].2]):=fun z=>by rw [ae _ _ bB,me]
    cases he:s.aE[i].2.ended
    all_goals (
     simp [go_sem,ma,sI,iI,he]
     exact bp (bx:=bx) (by simp [go_sem]) (qc hb _) ⟨by simp [go_sem,vh,dJ dH],rfl⟩))
theorem GP {aD bx:aa} {ad:di} {s:IW} (h:WI aD ad s bx) {p:Nat} (hp:ad .w = some p) (x:Ev) :
 ay prog 114 [.ptr p 13 0 0,aX x] bx (.bool (oY s x)):=by
 refine NO fun hf=>?_
 have cR:=yd h hp x.call
 have cW:=yc h hp x
 have evg:V.agg [V.int .i64 x.kind,V.int .i64 x.bk,V.int .i64 x.t,V.int .i64 x.call,V.int .i64 x.conn,V.int .i64 x.kf,V.int .i64 x.n,V.bool x.yes] = aX x:=by simp [aX,iI]
 simp [go_sem,Ww,hf,aX,iI]
 unfold oY
 cases hr:fM s x.call with
 | none =>
   rw [hr] at cR
   unfold vh at cR
   refine ah cR ?_
   simp [go_sem,hf]
   rw [evg]
   refine ah cW ?_
   cases gQ s x
   all_goals (
    simp [go_sem,hf]
    exact aA (by simp [go_sem]) ⟨by simp [go_sem],rfl⟩)
 | some i =>
   rw [hr] at cR
   unfold vh at cR
   have hi:i < s.aE.length:=by
    unfold fM at hr
    split at hr
    ·rename_i j hj
     split at hr
     ·cases hr
     ·injection hr with hr
      subst hr
      exact (oX hj).1
    ·cases hr
   obtain ⟨b0,dH,me⟩:=h.LB hi
   have e1:s.aE.getD i (0,o7) = s.aE[i]:=by simp [hi]
   simp only [dJ dH] at cR
   refine ah cR ?_
   simp [go_sem,hf]
   rw [evg]
   refine ah cW ?_
   cases gQ s x
   ·by_cases c1:s.aE[i].2.at_ = x.bk
    all_goals (
     simp [go_sem,hf,me,sI,iI,c1,hi,aX]
     exact aA (by simp [go_sem]) ⟨by simp [go_sem],rfl⟩)
   ·simp [go_sem,hf]
    exact aA (by simp [go_sem]) ⟨by simp [go_sem],rfl⟩
theorem sL {aD bx:aa} {ad:di} {s:IW} (h:WI aD ad s bx) {p:Nat} (hp:ad .w = some p) (x:Ev) :
 ay prog 120 [.ptr p 13 0 0,aX x] bx (la ad (gi s x)):=by
 refine NV fun hf=>?_
 obtain ⟨pb,pc,pr,pm,pw,hn⟩:=h.names hp
 have au:=h.row hn
 unfold iv at au
 have LD:=h.mcR hn
 have f1:=sK s x.conn ad
 unfold gi
 cases h1:(s.aq.map (·.num)).findIdx? (· == x.conn) with
 | none =>
   rw [h1] at f1
   simp only [Option.map_none] at f1
   simp [go_sem,NU,hf,au,LD,f1,aX,iI]
   exact aA (by simp [go_sem]) ⟨by simp [go_sem,la],rfl⟩
 | some i =>
   rw [h1] at f1
   simp only [Option.map_some] at f1
   obtain ⟨hi,_⟩:=LC h1
   obtain ⟨b0,dH,me⟩:=h.EN hi
   rw [dJ dH] at f1
   have e1:s.aq.getD i kJ = s.aq[i]:=by simp [hi]
   simp only [e1]
   by_cases c1:s.aq[i].st = 5 <;> by_cases c2:s.aq[i].bk = x.bk <;> simp [go_sem,NU,hf,au,LD,f1,aX,iI,me,qx,c1,c2]
   all_goals exact aA (by simp [go_sem]) ⟨by simp [go_sem,la,dJ dH,c1,c2],rfl⟩
theorem GQ {aD bx:aa} {ad:di} {s:IW} (h:WI aD ad s bx) {p:Nat} (hp:ad .w = some p) (x:Ev) :
 ay prog 121 [.ptr p 13 0 0,aX x] bx (la ad (lG s x)):=by
 refine NW fun hf=>?_
 have cT:=sL h hp x
 have evg:V.agg [V.int .i64 x.kind,V.int .i64 x.bk,V.int .i64 x.t,V.int .i64 x.call,V.int .i64 x.conn,V.int .i64 x.kf,V.int .i64 x.n,V.bool x.yes] = aX x:=by simp [aX,iI]
 simp [go_sem,Wz,hf,aX,iI]
 rw [evg]
 unfold lG
 cases hr:gi s x with
 | none =>
   rw [hr] at cT
   unfold la at cT
   refine ah cT ?_
   simp [go_sem,hf]
   exact aA (by simp [go_sem]) ⟨by simp [go_sem,la],rfl⟩
 | some i =>
   rw [hr] at cT
   unfold la at cT
   obtain ⟨hi,_⟩:=mX hr
   obtain ⟨b0,dH,me⟩:=h.EN hi
   have e1:s.aq.getD i kJ = s.aq[i]:=by simp [hi]
   simp only [dJ dH] at cT
   simp only [e1]
   refine ah cT ?_
   by_cases c1:s.aq[i].st = 1 <;> by_cases c2:s.aq[i].call = x.call <;> simp [go_sem,hf,me,qx,iI,c1,c2,aX]
   all_goals exact aA (by simp [go_sem]) ⟨by simp [go_sem,la,dJ dH,c1,c2],rfl⟩
theorem tV {α:Type} (f:α -> V):∀ (l:List (Int × α)) (j:Nat),(gh l f).eraseIdx j = gh (l.eraseIdx j) f
 | [],j=>by simp [gh]
 | y :: l,0=>by simp [gh]
 | y :: l,j + 1=>by
   have:=tV f l j
   unfold gh at this ⊢
   simpa using this
theorem GR {α:Type} (f:α -> V) (l:List (Int × α)) (j:Nat) (k:Int) (x:α):(gh l f).set j (iI k,f x) = gh (l.set j (k,x)) f:=by
 unfold gh
 rw [List.map_set]
theorem GS {α:Type} (f:α -> V) (l:List (Int × α)) (k:Int) (x:α):gh l f ++ [(iI k,f x)] = gh (l ++ [(k,x)]) f:=by
 unfold gh
 rw [List.map_append]
 rfl
theorem CH {α:Type} (l:List (Int × α)) (k:Int) (f:α -> V) (z:V) (x:α):∃ wS j v a c,kD (.int .i64 k) z (gh l f) = some (wS,j,v) /\ wS[j]? = some (a,c) /\ wS.set j (a,f x) = gh (jv l k x) f:=by
 cases hl:ki l k with
 | none =>
   refine ⟨gh l f ++ [(.int .i64 k,z)],(gh l f).length,z,.int .i64 k,z,?_,by simp,?_⟩
   ·unfold kD
    have:fq (.int .i64 k) (gh l f) 0 = some none:=by
     cases l with
     | nil=>rfl
     | cons y l'=>rw [iN k f y (y :: l') 0,hl]; rfl
    rw [this]
   ·unfold jv
    rw [hl]
    dsimp only
    rw [<- GS]
    rw [List.set_append_right _ _ (Nat.le_refl _)]
    simp [iI]
 | some j =>
   obtain ⟨hj,hk⟩:=oX hl
   refine ⟨gh l f,j,f l[j].2,.int .i64 k,f l[j].2,?_,?_,?_⟩
   ·unfold kD
    have:fq (.int .i64 k) (gh l f) 0 = some (some (j,f l[j].2)):=by
     rw [iN k f l[j] l 0,hl]
     simp [hj]
    rw [this]
   ·unfold gh
    rw [List.getElem?_map,List.getElem?_eq_getElem hj,Option.map_some,hk]
    rfl
   ·unfold jv
    rw [hl]
    exact GR f l j k x
def aW (s:IW) (x:Ev) (q:IP):IW:=if q = dF then { s with busy:=nX s.busy x.call } else { s with busy:=jv s.busy x.call q,nF:=jv s.nF x.call x.bk }
theorem lH {aD bx:aa} {ad:di} {s:IW} (h:WI aD ad s bx) {p:Nat} (hp:ad .w = some p) (x:Ev) :
 aw prog 115 [.ptr p 13 0 0,aX x,oz dF] bx (o9 aD ad (aW s x dF)):=by
 refine G4 fun hf=>?_
 obtain ⟨pb,pc,pr,pm,pw,hn⟩:=h.names hp
 have au:=h.row hn
 unfold iv at au
 have uM:=h.Rm hn
 have f2:=iN x.call oz (0,dF) s.busy 0
 have hw:=h.ya hn (nX s.busy x.call)
 unfold aW
 rw [if_pos rfl]
 unfold nX at hw ⊢
 cases h2:ki s.busy x.call <;> rw [h2] at f2 hw <;> simp only [Option.map_none,Option.map_some] at f2 hw
 ·simp [go_sem,J7,hf,au,uM,f2,aX,iI,oz,dF]
  exact al (by simp [go_sem]) ⟨by simp [go_sem],ad,bT.refl _,hw⟩
 ·simp [go_sem,J7,hf,au,uM,f2,aX,iI,oz,dF]
  rw [tV]
  exact al (by simp [go_sem]) ⟨by simp [go_sem],ad,bT.refl _,hw⟩
theorem oZ {aD bx:aa} {ad:di} {s:IW} (h:WI aD ad s bx) {p:Nat} (hp:ad .w = some p) (x:Ev) (q:IP) (hq:q = ⟨true,false,false⟩ \/ q = ⟨false,true,false⟩ \/ q = ⟨false,false,true⟩) :
 aw prog 115 [.ptr p 13 0 0,aX x,oz q] bx (o9 aD ad (aW s x q)):=by
 refine G4 fun hf=>?_
 obtain ⟨pb,pc,pr,pm,pw,hn⟩:=h.names hp
 have au:=h.row hn
 unfold iv at au
 have uM:=h.Rm hn
 have JK:=h.mwR hn
 have bB:pw ≠ pm:=fun e=>by have:=h.inj .mw .mb pw hn.h (by rw [e]; exact hn.m); cases this
 obtain ⟨wS,j1,v1,a1,c1,WV,hA1,hS1⟩:=CH s.busy x.call oz (.agg [.bool false,.bool false,.bool false]) q
 obtain ⟨es2,j2,v2,a2,c2,LG,hA2,hS2⟩:=CH s.nF x.call iI (.int .i64 0) (x.bk:Int)
 have ja:=h.ya hn (jv s.busy x.call q)
 have jI:=ja.OA hn (jv s.nF x.call x.bk)
 have hz:aW s x q = { s with busy:=jv s.busy x.call q,nF:=jv s.nF x.call x.bk }:=by
  unfold aW
  rw [if_neg (by rcases hq with rfl | rfl | rfl <;> decide)]
 rw [hz]
 rcases hq with rfl | rfl | rfl
 all_goals (
  simp only [oz,iI] at hS1 hS2
  simp [go_sem,J7,hf,au,uM,JK,bB,ae,WV,LG,aX,iI,oz]
  refine ⟨by simp [jd,lB,mh,jT],?_⟩
  unfold kD at WV LG
  rw [WV]
  dsimp only
  intro bs q1 g1 g2 g3
  refine ⟨j1,q1,rfl,g3,a1,⟨c1,hA1⟩,?_⟩
  rw [LG]
  dsimp only
  intro bs2 q2 k1 k2 k3
  refine ⟨j2,q2,rfl,k3,a2,⟨c2,hA2⟩,?_⟩
  rw [hS1,hS2]
  exact al (by simp [go_sem]) ⟨by simp [go_sem],ad,bT.refl _,jI⟩)
def vl {α:Type} (p:α -> Bool) (l:List α):Int:=match l.findIdx? p with
 | some i=>i
 | none=>-1
theorem zK {α:Type} {p:α -> Bool} {l:List α} {d:α} {i:Nat} (hi:i < l.length) (hJ:∀ j,j < i -> p (l.getD j d) = false) (h:p l[i] = true):vl p l = i:=by
 unfold vl
 have:l.findIdx? p = some i:=by
  rw [List.findIdx?_eq_some_iff_getElem]
  refine ⟨hi,h,fun j hj=>?_⟩
  have h1:=hJ j hj
  have h2:j < l.length:=by omega
  simp [h2] at h1
  simp [h1]
 rw [this]
theorem vU {α:Type} {p:α -> Bool} {l:List α} {d:α} (hJ:∀ j,j < l.length -> p (l.getD j d) = false):vl p l = -1:=by
 unfold vl
 have:l.findIdx? p = none:=by
  rw [List.findIdx?_eq_none_iff]
  intro x hx
  obtain ⟨j,hj,rfl⟩:=List.getElem_of_mem hx
  have:=hJ j hj
  simpa [hj] using this
 rw [this]
theorem CJ {α:Type} (p:α -> Bool) (l:List α):(vl p l = -1 /\ ∀ x,x ∈ l -> p x = false) \/ ∃ (i:Nat) (hi:i < l.length),vl p l = i /\ p l[i] = true /\ ∀ x,x ∈ l.take i -> p x = false:=by
 unfold vl
 cases h:l.findIdx? p with
 | none =>
   left
   rw [List.findIdx?_eq_none_iff] at h
   exact ⟨rfl,fun x hx=>by simpa using h x hx⟩
 | some i =>
   right
   rw [List.findIdx?_eq_some_iff_getElem] at h
   obtain ⟨hi,h1,h2⟩:=h
   refine ⟨i,hi,rfl,h1,fun x hx=>?_⟩
   obtain ⟨j,hj,rfl⟩:=List.getElem_of_mem hx
   rw [List.length_take] at hj
   rw [List.getElem_take]
   simpa using h2 j (by omega)
theorem filter_all {α:Type} {p:α -> Bool} {l:List α} (h:∀ x,x ∈ l -> p x = false):(l.filter fun x=>!p x) = l:=by
 rw [List.filter_eq_self]
 intro x hx
 simp [h x hx]
theorem zL (p:Int -> Bool) (g:FuncId) (caps:List V) (L:List Int) (hl:L.length <= 1000000) {b:Nat} {bx:aa} (hb:bx b = some (.row 2 1 (L.map (V.int .i64)))) (hp:∀ x,x ∈ L -> ay prog g ((V.int .i64) x :: caps) bx (.bool (p x))) :
 ay prog 170 [.own b 1 0 L.length,.fn (.func g) caps] bx (.int .i64 (vl p L)):=by
 refine GF fun hf=>?_
 simp [go_sem,O2,hf]
 refine eG L.length (fun i=>p (L.getD i 0)) (fun i=>⟨19,bR [(0,.own b 1 0 L.length),(1,.fn (.func g) caps),(7,.int .i64 L.length),(8,.int .i64 i)],bx⟩) (ak (by simp [go_sem])) (fun i hi hJ N hN=>?_) (fun hJ N=>?_)
 ·have hw:=bj (k:=i) (by omega)
  have hg:L.getD i 0 = L[i]:=by simp [hi]
  have hR:(L.map (V.int .i64))[i]? = some ((V.int .i64) L[i]):=by rw [List.getElem?_map,List.getElem?_eq_getElem hi]; rfl
  have hp1:=hp L[i] (List.getElem_mem hi)
  rw [hg] at hN
  simp [go_sem,xR,hi,hf,hw,hb,hR,List.length_map]
  refine ah hp1 ?_
  cases hpi:p L[i]
  ·simp [go_sem,hf,hw]
   exact hN _ hpi (ak (by simp [go_sem]))
  ·simp [go_sem,hf,hw]
   refine aA (by simp [go_sem]) ⟨?_,rfl⟩
   simp [go_sem,zK hi hJ hpi]
 ·simp [go_sem,xR,hf]
  refine aA (by simp [go_sem]) ⟨?_,rfl⟩
  simp [go_sem,vU hJ]
theorem ye (p:Int -> Bool) (g:FuncId) (caps:List V) (L:List Int) (hl:L.length <= 1000000) {b:Nat} {bx:aa} (hb:bx b = some (.row 2 1 (L.map (V.int .i64)))) (hp:∀ x,x ∈ L -> ∀ row,ay prog g ((V.int .i64) x :: caps) (aB bx b (some (.row 2 1 row))) (.bool (p x))) :
 aw prog 152 [.own b 1 0 L.length,.fn (.func g) caps] bx fun r bx'=>r = .own b 1 0 (L.filter fun x=>!p x).length /\ ∃ row,bx' = aB bx b (some (.row 2 1 row)) /\ row.length = L.length /\ row.take (L.filter fun x=>!p x).length = (L.filter fun x=>!p x).map (V.int .i64):=by
 have ff:aB bx b (some (.row 2 1 (L.map (V.int .i64)))) = bx:=by
  funext c
  by_cases e:c = b
  ·subst e; rw [af,hb]
  ·rw [ae _ _ e]
 refine GC fun hf=>?_
 simp [go_sem,Om,hf]
 refine ah (zL p g caps L hl hb (fun x hx=>by have:=hp x hx (L.map (V.int .i64)); rwa [ff] at this)) ?_
 rcases CJ p L with ⟨h1,h2⟩ | ⟨i,hi,h1,h2,h3⟩
 ·simp [go_sem,h1,hf]
  refine aA (by simp [go_sem]) ⟨?_,L.map (V.int .i64),ff.symm,by simp,?_⟩
  ·simp [go_sem,filter_all h2]
  ·rw [filter_all h2,List.take_of_length_le (by simp)]
 ·have Ed:=bj (k:=i) (by omega)
  have af0:IntKind.i64.wrap (i:Int) = (i:Int):=gN (by omega)
  have bB:¬ (i:Int) = -1:=by omega
  simp [go_sem,h1,hf,bB,Ed]
  have Mq:(L.take i).filter (fun x=>!p x) = L.take i:=filter_all h3
  have hKs:∀ j (hj:j < L.length),(L.take (j + 1)).filter (fun x=>!p x) = if p L[j] = true then (L.take j).filter (fun x=>!p x) else (L.take j).filter (fun x=>!p x) ++ [L[j]]:=by
   intro j hj
   rw [List.take_succ_eq_append_getElem hj,List.filter_append]
   cases h:p L[j] <;> simp [h]
  have hKl:∀ j,((L.take j).filter (fun x=>!p x)).length <= L.length:=fun j=>Nat.le_trans (List.length_filter_le _ _) (by simp; omega)
  refine pV (ι:=Nat × List Int × aa) (fun q=>q.1 <= L.length /\ q.2.1 ≠ [] /\ q.2.1.length + ((L.take q.1).filter fun x=>!p x).length = q.1 /\ q.2.2 = aB bx b (some (.row 2 1 (((L.take q.1).filter fun x=>!p x).map (V.int .i64) ++ q.2.1.map (V.int .i64) ++ (L.drop q.1).map (V.int .i64))))) (fun q=>⟨42,bR [(0,.own b 1 0 L.length),(1,.fn (.func g) caps),(5,.int .i64 ((L.take q.1).filter fun x=>!p x).length),(6,.int .i64 q.1)],q.2.2⟩) (fun q=>L.length - q.1) (i + 1,[L[i]],bx) ⟨hi,by simp,?_,?_⟩ (ak ?_) ?_
  ·dsimp only
   rw [hKs i hi,if_pos h2,Mq]; simp; omega
  ·dsimp only
   rw [hKs i hi,if_pos h2,Mq]
   have KZ:L = L.take i ++ [L[i]] ++ L.drop (i + 1):=by rw [<- List.take_succ_eq_append_getElem hi,List.take_append_drop]
   have WW:=congrArg (List.map (V.int .i64)) KZ
   rw [List.map_append,List.map_append,List.map_cons,List.map_nil] at WW
   rw [List.map_cons,List.map_nil,<- WW,ff]
  ·dsimp only
   rw [hKs i hi,if_pos h2,Mq]
   simp [go_sem]; omega
  ·rintro ⟨j,junk,bP⟩ ⟨g1,g2,g3,g4⟩
   dsimp only at g1 g2 g3 g4 ⊢
   have hKj:=hKl j
   by_cases hj:j < L.length
   ·have zM:=hKs j hj
    generalize (L.take j).filter (fun x=>!p x) = K at *
    have hwj:=bj (k:=j) (by omega)
    obtain ⟨y0,junk2,rfl⟩:∃ y0 junk2,junk = y0 :: junk2:=by
     cases junk with
     | nil=>exact absurd rfl g2
     | cons y0 j2=>exact ⟨y0,j2,rfl⟩
    simp at g3
    rw [List.map_cons] at g4
    have Iu:(K.map (V.int .i64) ++ ((V.int .i64) y0 :: junk2.map (V.int .i64)) ++ (L.drop j).map (V.int .i64)).length = L.length:=by simp; omega
    have hRj:(K.map (V.int .i64) ++ ((V.int .i64) y0 :: junk2.map (V.int .i64)) ++ (L.drop j).map (V.int .i64))[j]? = some ((V.int .i64) L[j]):=by
     rw [List.getElem?_append_right (by simp; omega),List.getElem?_map,show j - (K.map (V.int .i64) ++ ((V.int .i64) y0 :: junk2.map (V.int .i64))).length = 0 by simp; omega,List.drop_eq_getElem_cons hj]
     rfl
    have hY:∀ y,(K.map (V.int .i64) ++ ((V.int .i64) y0 :: junk2.map (V.int .i64)) ++ (L.drop j).map (V.int .i64)).set K.length y = K.map (V.int .i64) ++ (y :: junk2.map (V.int .i64)) ++ (L.drop j).map (V.int .i64):=by
     intro y
     rw [List.append_assoc,List.set_append_right _ _ (by simp),List.length_map,Nat.sub_self,List.append_assoc]
     rfl
    have wR:(L.drop j).map (V.int .i64) = (V.int .i64) L[j] :: (L.drop (j + 1)).map (V.int .i64):=by rw [List.drop_eq_getElem_cons hj]; rfl
    have hRK:(K.map (V.int .i64) ++ ((V.int .i64) y0 :: junk2.map (V.int .i64)) ++ (L.drop j).map (V.int .i64))[K.length]? = some ((V.int .i64) y0):=by
     rw [List.append_assoc,List.getElem?_append_right (by simp),List.length_map,Nat.sub_self]
     rfl
    have hpj:=hp L[j] (List.getElem_mem hj)
    have hwK:=bj (k:=K.length) (by omega)
    have WX:ba bP:=by rw [g4]; exact (an _ _ _).2 hf
    have Bz:bP b = some (.row 2 1 (K.map (V.int .i64) ++ ((V.int .i64) y0 :: junk2.map (V.int .i64)) ++ (L.drop j).map (V.int .i64))):=by rw [g4,af]
    have WY:=hpj (K.map (V.int .i64) ++ ((V.int .i64) y0 :: junk2.map (V.int .i64)) ++ (L.drop j).map (V.int .i64))
    rw [<- g4] at WY
    generalize hR:K.map (V.int .i64) ++ ((V.int .i64) y0 :: junk2.map (V.int .i64)) ++ (L.drop j).map (V.int .i64) = R at *
    have hRe:=(List.getElem?_eq_some_iff.1 hRj).2
    have ads:=(List.getElem?_eq_some_iff.1 hRK).2
    have adt:K.length < L.length:=by omega
    simp [go_sem,Bv,hj,WX,Bz,hRj,Iu,hRe,List.length_map]
    refine ah WY ?_
    cases Lc:p L[j]
    ·rw [Lc,if_neg (by simp)] at zM
     simp [go_sem,WX,Bz,Iu,hwK,hwj,adt,-List.map_set,hY,ads,hRe]
     refine ⟨(j + 1,junk2 ++ [L[j]],aB bP b _),⟨hj,by simp,by dsimp only; rw [zM]; simp; omega,?_⟩,ak (by simp [go_sem,zM]),by dsimp only; omega⟩
     dsimp only
     rw [zM,g4,wT]
     congr 3
     rw [<- List.map_drop,wR]
     simp
    ·rw [Lc,if_pos rfl] at zM
     simp [go_sem,WX,hwj]
     refine ⟨(j + 1,y0 :: (junk2 ++ [L[j]]),bP),⟨hj,by simp,by dsimp only; rw [zM]; simp; omega,?_⟩,ak (by simp [go_sem,zM]),by dsimp only; omega⟩
     dsimp only
     rw [zM,g4,<- hR,wR]
     simp
   ·have:j = L.length:=by omega
    subst this
    rw [List.take_length] at g3 g4 ⊢
    rw [List.drop_length,List.map_nil,List.append_nil] at g4
    have WX:ba bP:=by rw [g4]; exact (an _ _ _).2 hf
    generalize (L.filter fun x=>!p x) = K at *
    have Bz:bP b = some (.row 2 1 (K.map (V.int .i64) ++ junk.map (V.int .i64))):=by rw [g4,af]
    have lR:junk.length ≠ 0:=fun e=>g2 (List.length_eq_zero_iff.1 e)
    have hKL:K.length < L.length:=by omega
    simp [go_sem,Bv,WX,Bz,List.length_map,tj,hKL]
    refine ⟨by omega,by omega,by omega,aA (by simp [go_sem]) ⟨by simp [go_sem],_,by rw [g4,wT],?_,?_⟩⟩
    ·simp; omega
    ·simp
end Go.Proofs
namespace Go.Pl
open Go
theorem aw.sub {P:Program} {f:FuncId} {args:List V} {bx:aa} {Kc K2:V -> aa -> Prop} (h:aw P f args bx Kc) (hs:∀ r bx',Kc r bx' -> ∃ bx2,bX bx' bx2 /\ K2 r bx2):aw P f args bx K2:=by
 refine ⟨h.1,fun β M w vs h1 h2 h3 h4=>(h.2 β M w vs h1 h2 h3 h4).mono ?_⟩
 rintro e w' ⟨v,r,bx',β',rfl,hk,c8,ht,bO⟩
 obtain ⟨bx2,nA,fJ⟩:=hs r bx' hk
 exact ⟨v,r,bx2,β',rfl,fJ,c8.sub nA,ht.trans nA.tr,nA.rep bO⟩
end Go.Pl
namespace Go.Proofs
open Go Go.Pl Tryz
theorem zN (g:FuncId) (caps:List V) (bx:aa):ay prog 170 [.aH,.fn (.func g) caps] bx (.int .i64 (-1)):=by
 refine GF fun hf=>?_
 simp [go_sem,O2,hf]
 refine ch 0 (fun j=>⟨19,bR [(0,.aH),(1,.fn (.func g) caps),(7,.int .i64 0),(8,.int .i64 j)],bx⟩) (ak (by simp [go_sem])) (fun j hj N hN=>by omega) (fun N=>?_)
 simp [go_sem,xR,hf]
 exact aA (by simp [go_sem]) ⟨by simp [go_sem],rfl⟩
theorem yf (g:FuncId) (caps:List V) (bx:aa):ay prog 152 [.aH,.fn (.func g) caps] bx .aH:=by
 refine GC fun hf=>?_
 simp [go_sem,Om,hf]
 refine ah (zN g caps bx) ?_
 simp [go_sem]
 exact aA (by simp [go_sem]) ⟨by simp [go_sem],rfl⟩
theorem yg (p:Int -> Bool) (g:FuncId) (caps:List V) (L:List Int) (hl:L.length <= 1000000) {bx:aa} {v:V} (hf:ba bx) (ha:aY bx 2 1 (L.map iI) v) (hp:∀ x,x ∈ L -> ∀ bx',ay prog g (.int .i64 x :: caps) bx' (.bool (p x))) :
 aw prog 152 [v,.fn (.func g) caps] bx fun r bx'=>aY bx' 2 1 ((L.filter fun x=>!p x).map iI) r /\ eP v r bx bx':=by
 rcases ha with ⟨h1,rfl⟩ | ⟨b,rfl,hb⟩
 ·have h3:L = []:=by simpa using h1
  subst h3
  refine (yf g caps bx).mono ?_
  rintro r bx' ⟨rfl,rfl⟩
  exact ⟨.inl ⟨rfl,rfl⟩,hf,Ext.refl _,fun b sz o m e=>by cases e⟩
 ·rw [List.length_map]
  refine (ye p g caps L hl hb (fun x hx row=>hp x hx _)).sub ?_
  rintro r bx' ⟨rfl,row,rfl,h5,h6⟩
  refine ⟨aB bx b (some (.row 2 1 (row.take (L.filter fun x=>!p x).length))),fun c=>?_,.inr ⟨b,by simp,?_⟩,(an _ _ _).2 hf,fun c hc=>?_,fun c sz o m e=>?_⟩
  ·by_cases e:c = b
   ·subst e
    exact .inr (.inr (.inr (.inl ⟨_,1,row,_,by decide,af _ _ _,af _ _ _⟩)))
   ·exact .inr (.inl (by rw [ae _ _ e,ae _ _ e]))
  ·rw [af,h6]; rfl
  ·show aB bx b _ c = aB bx b none c
   have hc:aB bx b none c ≠ none:=hc
   by_cases e:c = b
   ·subst e; exact absurd (af _ _ _) hc
   ·rw [ae _ _ e,ae _ _ e]
  ·injection e with e
   subst e
   exact af _ _ _
theorem Eg (x:Ev) (n:Int) (bx:aa):ay prog 153 [.int .i64 n,.ep (aX x) 0] bx (.bool (n == x.call)):=by
 refine On fun hf=>?_
 by_cases e:n = x.call
 all_goals (
  simp [go_sem,WJ,hf,aX,iI,e]
  exact aA (by simp [go_sem]) ⟨by simp [go_sem,e],rfl⟩)
def vV (l:List Int) (n:Int):List Int:=l.filter (· != n)
def bL (s:IW) (x:Ev):IW:={ s with ai:=s.ai.set x.bk { s.ai.getD x.bk gp with waits:=vV (s.ai.getD x.bk gp).waits x.call } }
theorem tW {aD bx:aa} {ad:di} {s:IW} (h:WI aD ad s bx) {p:Nat} (hp:ad .w = some p) (x:Ev) (hx:x.bk < s.ai.length) (hl:s.ai[x.bk].waits.length <= 100000) :
 aw prog 116 [.ptr p 13 0 0,aX x] bx (o9 aD ad (bL s x)):=by
 refine NP fun hf=>?_
 obtain ⟨pb,pc,pr,pm,pw,hn⟩:=h.names hp
 have au:=h.row hn
 unfold iv at au
 have dm:=h.mW hn
 have hw:=h.JI hx
 have e2:s.ai.getD x.bk gp = s.ai[x.bk]:=by simp [hx]
 unfold bL
 rw [e2]
 simp [go_sem,Wx,hf,au,dm,hx,aX,iI,iq,kZ,hw.strip,hw.live]
 refine ar (yg (fun n=>n == x.call) _ _ s.ai[x.bk].waits (by omega) hf hw (fun n _ bx'=>Eg x n bx')) ?_
 rintro r bx' ⟨ha,hm⟩
 have hm:eP (jJ (ad (.iu x.bk)) 1 s.ai[x.bk].waits.length) r bx bx':=hm
 have fI:aY bx' 2 1 ((vV s.ai[x.bk].waits x.call).map iI) r:=ha
 have jI:=h.setW hn hx (vV s.ai[x.bk].waits x.call) hm fI
 have eK:bx' pb = some (.row zI 6 (s.ai.mapIdx (iq ad))):=by rw [hm.other (by rw [dm]; simp) (hw.ne dm (by decide)),dm]
 have bg:=hm.fin
 simp [go_sem,eK,hx,iq,kZ,iI,ha.strip,ha.live,ha.cells,ha.okV,bg]
 exact al (by simp [go_sem]) ⟨by simp [go_sem],_,WI.cw rfl _,jI⟩
def gj (s:IW) (x:Ev):Bool:=match s.ai[x.bk]? with
 | some b=>(match b.waits.head? with | some c=>c != x.call | none=>false)
 | none=>false
theorem CK {aD bx:aa} {ad:di} {s:IW} (h:WI aD ad s bx) {p:Nat} (hp:ad .w = some p) (x:Ev) (hx:x.bk < s.ai.length) (hl:s.aI.length <= 90000) :
 aw prog 117 [.ptr p 13 0 0,aX x] bx (o9 aD ad (s.aj (gj s x) 9)):=by
 refine NQ fun hf=>?_
 obtain ⟨pb,pc,pr,pm,pw,hn⟩:=h.names hp
 have au:=h.row hn
 unfold iv at au
 have dm:=h.mW hn
 have hq:=h.JI hx
 unfold gj
 rw [List.getElem?_eq_getElem hx]
 dsimp only
 have cF:=dz h hp 9 (by omega)
 obtain ⟨vq,WZ⟩:∃ v,jJ (ad (.iu x.bk)) 1 s.ai[x.bk].waits.length = v:=⟨_,rfl⟩
 rw [WZ] at hq
 rcases hq with ⟨hl,hv⟩ | ⟨b,hv,hb⟩
 ·have h0:s.ai[x.bk].waits = []:=by simpa using hl
  rw [h0]
  simp [go_sem,G5,hf,aX,iI,au,dm,iq,kZ,hx,WZ,hv]
  exact al (by simp [go_sem]) ⟨by simp [go_sem],ad,bT.refl _,by simpa [IW.aj] using h⟩
 ·cases h0:s.ai[x.bk].waits with
  | nil =>
    rw [h0] at hv hb
    simp at hv hb
    simp [go_sem,G5,hf,aX,iI,au,dm,iq,kZ,hx,WZ,hv,hb]
    exact al (by simp [go_sem]) ⟨by simp [go_sem],ad,bT.refl _,by simpa [IW.aj] using h⟩
  | cons y ys =>
    rw [h0] at hv hb
    simp [iI] at hv hb
    by_cases c1:y = x.call
    ·simp [go_sem,G5,hf,aX,iI,au,dm,iq,kZ,hx,WZ,hv,hb,c1]
     exact al (by simp [go_sem]) ⟨by simp [go_sem],ad,bT.refl _,by simpa [IW.aj,c1] using h⟩
    ·simp [go_sem,G5,hf,aX,iI,au,dm,iq,kZ,hx,WZ,hv,hb,c1]
     refine ar cF ?_
     rintro r bP ⟨rfl,ad1,ee,h1⟩
     have bg:=h1.fin
     simp [go_sem,bg]
     exact al (by simp [go_sem]) ⟨by simp [go_sem],ad1,ee,by simpa [IW.aj,c1] using h1⟩
def bd (s:IW) (x:Ev):IW × Bool :=
 if (iO s x.call).ax = true /\ jD s x.call = x.bk then
  let b:=s.ai.getD x.bk gp
  (aW { s with ai:=s.ai.set x.bk { b with ax:=cH (b.ax - 1) } } x dF,true)
 else (s,false)
theorem vW {aD bx:aa} {ad:di} {s:IW} (h:WI aD ad s bx) {p:Nat} (hp:ad .w = some p) (x:Ev) (hx:x.bk < s.ai.length) :
 aw prog 118 [.ptr p 13 0 0,aX x] bx (dq aD ad (bd s x)):=by
 refine NS fun hf=>?_
 obtain ⟨pb,pc,pr,pm,pw,hn⟩:=h.names hp
 have au:=h.row hn
 unfold iv at au
 have dm:=h.mW hn
 have uM:=h.Rm hn
 have JK:=h.mwR hn
 have e2:s.ai.getD x.bk gp = s.ai[x.bk]:=by simp [hx]
 obtain ⟨z,hz⟩:∃ z,bd s x = z:=⟨_,rfl⟩
 rw [hz]
 unfold bd at hz
 rw [e2] at hz
 dsimp only at hz
 have h2:=h.aQ hn x.bk { s.ai[x.bk] with ax:=cH (s.ai[x.bk].ax - 1) } (fun b hb=>by rw [List.getElem?_eq_getElem hx] at hb; injection hb with hb; rw [<- hb])
 have evg:V.agg [V.int .i64 x.kind,V.int .i64 x.bk,V.int .i64 x.t,V.int .i64 x.call,V.int .i64 x.conn,V.int .i64 x.kf,V.int .i64 x.n,V.bool x.yes] = aX x:=by simp [aX,iI]
 have ipg:V.agg [V.bool false,V.bool false,V.bool false] = oz dF:=rfl
 rcases vT s x.call with ⟨f1,e1⟩ | ⟨j1,f1⟩
 ·rw [if_neg (by rw [e1]; simp [dF])] at hz
  simp [go_sem,Bs,hf,au,aX,iI,uM,f1]
  exact al (by simp [go_sem]) (.of hz.symm ⟨by simp [go_sem],ad,bT.refl _,h⟩)
 ·cases A0:(iO s x.call).ax
  ·rw [if_neg (by rw [A0]; simp)] at hz
   simp [go_sem,Bs,hf,au,aX,iI,uM,f1,oz,A0]
   exact al (by simp [go_sem]) (.of hz.symm ⟨by simp [go_sem],ad,bT.refl _,h⟩)
  ·rcases zJ s x.call with ⟨f2,e2⟩ | ⟨j2,f2⟩
   ·by_cases c1:(0:Int) = x.bk
    ·rw [if_pos ⟨A0,by rw [e2,c1]⟩] at hz
     obtain ⟨kind,bk,t,call,conn,kf,n,yes⟩:=x
     have dH:bk = 0:=by simpa using c1.symm
     subst dH
     dsimp only at *
     simp [go_sem,Bs,hf,au,aX,iI,uM,f1,oz,A0,JK,f2,dm,hx,iq,kZ]
     have evh:V.agg [V.int .i64 kind,V.int .i64 0,V.int .i64 t,V.int .i64 call,V.int .i64 conn,V.int .i64 kf,V.int .i64 n,V.bool yes] = aX ⟨kind,0,t,call,conn,kf,n,yes⟩:=by simp [aX,iI]
     rw [evh,ipg]
     refine ar (lH h2 hp ⟨kind,0,t,call,conn,kf,n,yes⟩) ?_
     rintro r bP ⟨rfl,ad1,ee,h3⟩
     have bg:=h3.fin
     simp [go_sem,bg]
     exact al (by simp [go_sem]) (.of hz.symm ⟨by simp [go_sem],ad1,ee,h3⟩)
    ·rw [if_neg (by rw [e2]; simpa using fun _=>c1)] at hz
     simp [go_sem,Bs,hf,au,aX,iI,uM,f1,oz,A0,JK,f2,c1]
     exact al (by simp [go_sem]) (.of hz.symm ⟨by simp [go_sem],ad,bT.refl _,h⟩)
   ·by_cases c1:jD s x.call = x.bk
    ·rw [if_pos ⟨A0,c1⟩] at hz
     simp [go_sem,Bs,hf,au,aX,iI,uM,f1,oz,A0,JK,f2,c1,dm,hx,iq,kZ]
     rw [evg,ipg]
     refine ar (lH h2 hp x) ?_
     rintro r bP ⟨rfl,ad1,ee,h3⟩
     have bg:=h3.fin
     simp [go_sem,bg]
     exact al (by simp [go_sem]) (.of hz.symm ⟨by simp [go_sem],ad1,ee,h3⟩)
    ·rw [if_neg (by simpa using fun _=>c1)] at hz
     simp [go_sem,Bs,hf,au,aX,iI,uM,f1,oz,A0,JK,f2,c1]
     exact al (by simp [go_sem]) (.of hz.symm ⟨by simp [go_sem],ad,bT.refl _,h⟩)
def j3 (s:IW) (i:Nat) (x:Ev):IW :=
 let c:=s.aq.getD i kJ
 aW { s with aq:=s.aq.set i { c with st:=1,call:=x.call,bt:=cH (c.bt + 1) } } x ⟨false,false,true⟩
theorem GU {aD bx:aa} {ad:di} {s:IW} (h:WI aD ad s bx) {p:Nat} (hp:ad .w = some p) (x:Ev) {i b:Nat} (hi:i < s.aq.length) (hb:ad (.cn i) = some b) :
 aw prog 119 [.ptr p 13 0 0,.ptr b 10 0 0,aX x] bx (o9 aD ad (j3 s i x)):=by
 refine NT fun hf=>?_
 have hr:bx b = some (.row ve 10 [qx s.aq[i]]):=by
  obtain ⟨b',h1,h2⟩:=h.EN hi
  rw [hb] at h1
  injection h1 with h1
  rw [h1]; exact h2
 have e1:s.aq.getD i kJ = s.aq[i]:=by simp [hi]
 unfold j3
 rw [e1]
 dsimp only
 have h2:=h.bh hi hb { s.aq[i] with st:=1,call:=x.call,bt:=cH (s.aq[i].bt + 1) } rfl
 have evg:V.agg [V.int .i64 x.kind,V.int .i64 x.bk,V.int .i64 x.t,V.int .i64 x.call,V.int .i64 x.conn,V.int .i64 x.kf,V.int .i64 x.n,V.bool x.yes] = aX x:=by simp [aX,iI]
 have ipg:V.agg [V.bool false,V.bool false,V.bool true] = oz ⟨false,false,true⟩:=rfl
 simp [go_sem,Wy,hf,hr,aX,iI,qx]
 refine ⟨by simp [jd,lB,mh,jT],?_⟩
 rw [evg,ipg]
 refine ar (oZ h2 hp x _ (by simp)) ?_
 rintro r bP ⟨rfl,ad1,ee,h3⟩
 have bg:=h3.fin
 simp [go_sem,bg]
 exact al (by simp [go_sem]) ⟨by simp [go_sem],ad1,ee,h3⟩
end Go.Proofs
namespace Go.Proofs
open Go Go.Pl Tryz
def IW.aQ (s:IW) (i:Nat) (b:IB):IW:={ s with ai:=s.ai.set i b }
def IW.dU (s:IW) (i:Nat) (r:IR):IW:={ s with aE:=s.aE.set i ((s.aE.getD i (0,o7)).1,r) }
def IW.bh (s:IW) (i:Nat) (c:IC):IW:={ s with aq:=s.aq.set i c }
theorem WI.lb {aD bx:aa} {ad:di} {s:IW} (h:WI aD ad s bx) {p pb pc pr pm pw:Nat} (hn:Nm ad p pb pc pr pm pw) {i:Nat} (hi:i < s.ai.length) (x:IB) (hx:x.waits = s.ai[i].waits) :
 WI aD ad (s.aQ i x) (aB bx pb (some (.row zI 6 ((s.ai.mapIdx (iq ad)).set i (iq ad i x))))) :=
 h.aQ hn i x fun b hb=>by rw [List.getElem?_eq_getElem hi] at hb; injection hb with hb; rw [<- hb]; exact hx
theorem WI.vX {aD bx:aa} {ad:di} {s:IW} (h:WI aD ad s bx) {i b:Nat} (hi:i < s.aE.length) (hb:ad (.rq i) = some b) (r:IR):WI aD ad (s.dU i r) (aB bx b (some (.row vg 5 [sI r]))):=by
 have:=h.dU hi hb r
 have e:s.aE.getD i (0,o7) = s.aE[i]:=by simp [hi]
 unfold IW.dU
 rw [e]
 exact this
def zO (s:IW) (x:Ev):IW × Bool:=(s.aQ x.bk { s.ai.getD x.bk gp with down:=!x.yes },true)
theorem OC {aD bx:aa} {ad:di} {s:IW} (h:WI aD ad s bx) {p:Nat} (hp:ad .w = some p) (x:Ev) (hx:x.bk < s.ai.length) :
 aw prog 82 [.ptr p 13 0 0,aX x] bx (dq aD ad (zO s x)):=by
 refine Wi fun hf=>?_
 obtain ⟨pb,pc,pr,pm,pw,hn⟩:=h.names hp
 have au:=h.row hn
 unfold iv at au
 have dm:=h.mW hn
 have e2:s.ai.getD x.bk gp = s.ai[x.bk]:=by simp [hx]
 unfold zO
 rw [e2]
 simp [go_sem,C82,hf,au,aX,iI,dm,hx,iq,kZ]
 exact al (by simp [go_sem]) ⟨by simp [go_sem],ad,bT.refl _,h.lb hn hx { s.ai[x.bk] with down:=!x.yes } rfl⟩
def zP (s:IW) (x:Ev):IW × Bool:=(s.aQ x.bk { s.ai.getD x.bk gp with gV:=x.n,aM:=0 },true)
theorem OD {aD bx:aa} {ad:di} {s:IW} (h:WI aD ad s bx) {p:Nat} (hp:ad .w = some p) (x:Ev) (hx:x.bk < s.ai.length) :
 aw prog 83 [.ptr p 13 0 0,aX x] bx (dq aD ad (zP s x)):=by
 refine Wj fun hf=>?_
 obtain ⟨pb,pc,pr,pm,pw,hn⟩:=h.names hp
 have au:=h.row hn
 unfold iv at au
 have dm:=h.mW hn
 have e2:s.ai.getD x.bk gp = s.ai[x.bk]:=by simp [hx]
 unfold zP
 rw [e2]
 simp [go_sem,C83,hf,au,aX,iI,dm,hx,iq,kZ]
 exact al (by simp [go_sem]) ⟨by simp [go_sem],ad,bT.refl _,h.lb hn hx { s.ai[x.bk] with gV:=x.n,aM:=0 } rfl⟩
def tX (s:IW):IW × Bool:=({ s with stop:=true },!s.stop)
theorem OE {aD bx:aa} {ad:di} {s:IW} (h:WI aD ad s bx) {p:Nat} (hp:ad .w = some p) (x:Ev) (bi:Int) :
 aw prog 86 [.ptr p 13 0 0,dQ x bi] bx (dq aD ad (tX s)):=by
 refine Wn fun hf=>?_
 obtain ⟨pb,pc,pr,pm,pw,hn⟩:=h.names hp
 have au:=h.row hn
 unfold iv at au
 have h2:=h.world hn s.now s.at_ true
 unfold tX
 simp [go_sem,C86,hf,au,dQ,iI]
 exact al (by simp [go_sem]) ⟨by simp [go_sem],ad,bT.refl _,h2⟩
theorem zQ {s:IW} {call:Int} {i:Nat} (h:fM s call = some i):i < s.aE.length /\ ki s.aE call = some i:=by
 unfold fM at h
 split at h
 ·rename_i j hj
  split at h
  ·cases h
  ·injection h with h
   subst h
   exact ⟨(oX hj).1,hj⟩
 ·cases h
def yh (s:IW) (x:Ev):IW × Bool:=match fM s x.call with
 | some i=>(s.dU i { (s.aE.getD i (0,o7)).2 with ended:=true },true)
 | none=>(s,false)
theorem Xa {aD bx:aa} {ad:di} {s:IW} (h:WI aD ad s bx) {p:Nat} (hp:ad .w = some p) (x:Ev) (bi:Int) :
 aw prog 85 [.ptr p 13 0 0,dQ x bi] bx (dq aD ad (yh s x)):=by
 refine Wm fun hf=>?_
 have cR:=yd h hp x.call
 obtain ⟨z,hz⟩:∃ z,yh s x = z:=⟨_,rfl⟩
 rw [hz]
 unfold yh at hz
 simp [go_sem,C85,hf,dQ,iI]
 cases hr:fM s x.call with
 | none =>
   rw [hr] at cR hz
   unfold vh at cR
   refine ah cR ?_
   simp [go_sem,hf]
   exact al (by simp [go_sem]) (.of hz.symm ⟨by simp [go_sem],ad,bT.refl _,h⟩)
 | some i =>
   rw [hr] at cR hz
   unfold vh at cR
   obtain ⟨hi,_⟩:=zQ hr
   obtain ⟨b0,dH,me⟩:=h.LB hi
   have e1:s.aE.getD i (0,o7) = s.aE[i]:=by simp [hi]
   simp only [dJ dH] at cR
   refine ah cR ?_
   simp only [e1] at hz
   simp [go_sem,hf,me,sI,iI]
   exact al (by simp [go_sem]) (.of hz.symm ⟨by simp [go_sem],ad,bT.refl _,h.vX hi dH { s.aE[i].2 with ended:=true }⟩)
def pa (s:IW) (x:Ev):IW × Bool:=if (ki s.aE x.call).isSome || s.stop then (s,false) else ({ s with aE:=s.aE ++ [(x.call,⟨x.yes,false,0,-1,0⟩)] },true)
theorem JL {aD bx:aa} {ad:di} {s:IW} (h:WI aD ad s bx) {p:Nat} (hp:ad .w = some p) (x:Ev) (bi:Int) :
 aw prog 69 [.ptr p 13 0 0,dQ x bi] bx (dq aD ad (pa s x)):=by
 refine VV fun hf=>?_
 obtain ⟨pb,pc,pr,pm,pw,hn⟩:=h.names hp
 have au:=h.row hn
 unfold iv at au
 have vk:=h.WT hn
 have f1:=sJ s x.call ad
 unfold pa
 cases h1:ki s.aE x.call with
 | some i =>
   rw [h1] at f1
   simp only [Option.map_some] at f1
   simp [go_sem,C69,hf,au,dQ,iI,vk,f1]
   exact al (by simp [go_sem]) ⟨by simp [go_sem],ad,bT.refl _,h⟩
 | none =>
   rw [h1] at f1
   simp only [Option.map_none] at f1
   cases iB:s.stop
   ·rw [iB] at au
    simp [go_sem,C69,hf,au,dQ,iI,vk,f1]
    intro b hb
    have bB:pr ≠ b:=by rintro rfl; rw [vk] at hb; cases hb
    obtain ⟨h2,fJ⟩:=h.adq hn x.call ⟨x.yes,false,0,-1,0⟩ hb
    have adu:({ s with aE:=s.aE ++ [(x.call,⟨x.yes,false,0,-1,0⟩)] }:IW) = { s with aE:=s.aE ++ [(x.call,⟨x.yes,false,0,-1,0⟩)],stop:=false }:=by rw [<- iB]
    rw [adu] at h2
    simp [go_sem,ae,bB,vk,f1]
    exact al (by simp [go_sem]) ⟨by simp [go_sem],_,fJ,h2⟩
   ·rw [iB] at au
    simp [go_sem,C69,hf,au,dQ,iI,vk,f1]
    exact al (by simp [go_sem]) ⟨by simp [go_sem],ad,bT.refl _,h⟩
def ky (s:IW) (x:Ev):IW × Bool:=match ki s.aE x.call with
 | none=>(s,false)
 | some i =>
   let r:=(s.aE.getD i (0,o7)).2
   let b:=s.ai.getD x.bk gp
   if r.at_ ≠ x.bk then (s,false)
   else if b.aM = x.call then (s.aQ x.bk { b with aM:=0,gV:=if x.yes then 0 else 1 },true)
   else (s,true)
theorem GV {aD bx:aa} {ad:di} {s:IW} (h:WI aD ad s bx) {p:Nat} (hp:ad .w = some p) (x:Ev) (hx:x.bk < s.ai.length) :
 aw prog 84 [.ptr p 13 0 0,aX x] bx (dq aD ad (ky s x)):=by
 refine Wl fun hf=>?_
 obtain ⟨pb,pc,pr,pm,pw,hn⟩:=h.names hp
 have au:=h.row hn
 unfold iv at au
 have vk:=h.WT hn
 have dm:=h.mW hn
 have f1:=sJ s x.call ad
 have e2:s.ai.getD x.bk gp = s.ai[x.bk]:=by simp [hx]
 obtain ⟨z,hz⟩:∃ z,ky s x = z:=⟨_,rfl⟩
 rw [hz]
 unfold ky at hz
 rw [e2] at hz
 cases h1:ki s.aE x.call with
 | none =>
   rw [h1] at f1 hz
   simp only [Option.map_none] at f1
   simp [go_sem,Rl,hf,au,aX,iI,vk,f1,dm,hx]
   exact al (by simp [go_sem]) (.of hz.symm ⟨by simp [go_sem],ad,bT.refl _,h⟩)
 | some i =>
   rw [h1] at f1 hz
   simp only [Option.map_some] at f1
   obtain ⟨hi,_⟩:=oX h1
   obtain ⟨b0,dH,me⟩:=h.LB hi
   rw [dJ dH] at f1
   have e1:s.aE.getD i (0,o7) = s.aE[i]:=by simp [hi]
   simp only [e1] at hz
   by_cases c2:s.aE[i].2.at_ = x.bk
   ·rw [if_neg (by simpa using c2)] at hz
    by_cases c3:s.ai[x.bk].aM = x.call
    ·rw [if_pos c3] at hz
     cases c4:x.yes <;> rw [c4] at hz
     ·simp [go_sem,Rl,hf,au,aX,iI,vk,f1,dm,hx,me,sI,c2,iq,kZ,c3,c4]
      exact al (by simp [go_sem]) (.of hz.symm ⟨by simp [go_sem],ad,bT.refl _,h.lb hn hx { s.ai[x.bk] with aM:=0,gV:=1 } rfl⟩)
     ·simp [go_sem,Rl,hf,au,aX,iI,vk,f1,dm,hx,me,sI,c2,iq,kZ,c3,c4]
      exact al (by simp [go_sem]) (.of hz.symm ⟨by simp [go_sem],ad,bT.refl _,h.lb hn hx { s.ai[x.bk] with aM:=0,gV:=0 } rfl⟩)
    ·rw [if_neg c3] at hz
     simp [go_sem,Rl,hf,au,aX,iI,vk,f1,dm,hx,me,sI,c2,iq,kZ,c3]
     exact al (by simp [go_sem]) (.of hz.symm ⟨by simp [go_sem],ad,bT.refl _,h⟩)
   ·rw [if_pos c2] at hz
    simp [go_sem,Rl,hf,au,aX,iI,vk,f1,dm,hx,me,sI,c2]
    exact al (by simp [go_sem]) (.of hz.symm ⟨by simp [go_sem],ad,bT.refl _,h⟩)
theorem jE (x:Ev):V.agg [V.int .i64 x.kind,V.int .i64 x.bk,V.int .i64 x.t,V.int .i64 x.call,V.int .i64 x.conn,V.int .i64 x.kf,V.int .i64 x.n,V.bool x.yes] = aX x:=by simp [aX,iI]
theorem Xb:V.agg [V.bool false,V.bool false,V.bool false] = oz dF:=rfl
theorem adv:V.agg [V.bool true,V.bool false,V.bool false] = oz ⟨true,false,false⟩:=rfl
theorem adw:V.agg [V.bool false,V.bool true,V.bool false] = oz ⟨false,true,false⟩:=rfl
def mY (s:IW) (x:Ev):IW × Bool:=if gQ s x then (aW (bL s x) x dF,true) else (s,false)
theorem JM {aD bx:aa} {ad:di} {s:IW} (h:WI aD ad s bx) {p:Nat} (hp:ad .w = some p) (x:Ev) (hx:x.bk < s.ai.length) (hl:s.ai[x.bk].waits.length <= 100000) :
 aw prog 72 [.ptr p 13 0 0,aX x] bx (dq aD ad (mY s x)):=by
 refine VY fun hf=>?_
 have cW:=yc h hp x
 have cS:=tW h hp x hx hl
 simp [go_sem,C72,hf,aX,iI]
 rw [jE]
 unfold mY
 cases hw:gQ s x
 ·rw [hw] at cW
  refine ah cW ?_
  simp [go_sem,hf]
  exact al (by simp [go_sem]) ⟨by simp [go_sem],ad,bT.refl _,h⟩
 ·rw [hw] at cW
  refine ah cW ?_
  simp [go_sem,hf,aX,iI]
  rw [jE]
  refine ar cS ?_
  rintro r bP ⟨rfl,ad1,ee,h1⟩
  have bg:=h1.fin
  simp [go_sem,bg,aX,iI]
  rw [jE,Xb]
  refine ar (lH h1 (ee _ _ hp rfl) x) ?_
  rintro r bx2 ⟨rfl,ad2,fJ,h2⟩
  have cm:=h2.fin
  simp [go_sem,cm]
  exact al (by simp [go_sem]) ⟨by simp [go_sem],ad2,ee.trans fJ,h2⟩
theorem Eh {aD bx:aa} {ad:di} {s:IW} (h:WI aD ad s bx) {p:Nat} (hp:ad .w = some p) (x:Ev) (hx:x.bk < s.ai.length) :
 aw prog 74 [.ptr p 13 0 0,aX x] bx (dq aD ad (bd s x)):=by
 refine Wa fun hf=>?_
 simp [go_sem,C74,hf,aX,iI]
 rw [jE]
 refine ar (vW h hp x hx) ?_
 rintro r bP ⟨rfl,ad1,ee,h1⟩
 have bg:=h1.fin
 simp [go_sem,bg]
 exact al (by simp [go_sem]) ⟨by simp [go_sem],ad1,ee,h1⟩
theorem sM {s:IW} {x:Ev} {i:Nat} (h:lG s x = some i):i < s.aq.length:=by
 unfold lG at h
 split at h
 ·rename_i j hj
  split at h
  ·injection h with h; subst h; exact (mX hj).1
  ·cases h
 ·cases h
def rE (s:IW) (x:Ev):IW × Bool:=match lG s x with
 | none=>(s,false)
 | some i=>(aW (s.bh i { s.aq.getD i kJ with st:=if x.yes then 3 else 4,call:=0 }) x dF,true)
theorem OF {aD bx:aa} {ad:di} {s:IW} (h:WI aD ad s bx) {p:Nat} (hp:ad .w = some p) (x:Ev) :
 aw prog 79 [.ptr p 13 0 0,aX x] bx (dq aD ad (rE s x)):=by
 refine Wf fun hf=>?_
 have cO:=GQ h hp x
 obtain ⟨z,hz⟩:∃ z,rE s x = z:=⟨_,rfl⟩
 rw [hz]
 unfold rE at hz
 simp [go_sem,C79,hf,aX,iI]
 rw [jE]
 cases ho:lG s x with
 | none =>
   rw [ho] at cO hz
   unfold la at cO
   refine ah cO ?_
   simp [go_sem,hf]
   exact al (by simp [go_sem]) (.of hz.symm ⟨by simp [go_sem],ad,bT.refl _,h⟩)
 | some i =>
   rw [ho] at cO hz
   unfold la at cO
   have hi:=sM ho
   obtain ⟨b0,dH,me⟩:=h.EN hi
   have e1:s.aq.getD i kJ = s.aq[i]:=by simp [hi]
   simp only [dJ dH] at cO
   simp only [e1] at hz
   refine ah cO ?_
   cases hy:x.yes
   all_goals (
    rw [hy] at hz
    simp [go_sem,hf,me,qx,iI,aX,hy]
    have h1:=h.bh hi dH { s.aq[i] with st:=if x.yes then 3 else 4,call:=0 } rfl
    rw [hy] at h1
    have evh:V.agg [V.int .i64 x.kind,V.int .i64 x.bk,V.int .i64 x.t,V.int .i64 x.call,V.int .i64 x.conn,V.int .i64 x.kf,V.int .i64 x.n,V.bool _] = aX x:=(by rw [<- jE x,hy])
    rw [evh,Xb]
    refine ar (lH h1 hp x) ?_
    rintro r bx2 ⟨rfl,ad2,fJ,h2⟩
    have cm:=h2.fin
    simp [go_sem,cm]
    exact al (by simp [go_sem]) (.of hz.symm ⟨by simp [go_sem],ad2,fJ,h2⟩))
def rF (s:IW) (x:Ev):IW × Bool:=match gi s x with
 | none=>(s.fault 4,true)
 | some i =>
   let c:=s.aq.getD i kJ
   if c.st = 4 then (s.fault 4,true) else if c.st = 1 then (s.fault 1,true) else if c.st = 2 then (s,false)
   else (s.bh i { c with st:=2,since:=s.now },true)
theorem OG {aD bx:aa} {ad:di} {s:IW} (h:WI aD ad s bx) {p:Nat} (hp:ad .w = some p) (x:Ev) (hl:s.aI.length <= 90000) :
 aw prog 80 [.ptr p 13 0 0,aX x] bx (dq aD ad (rF s x)):=by
 refine Wg fun hf=>?_
 obtain ⟨pb,pc,pr,pm,pw,hn⟩:=h.names hp
 have au:=h.row hn
 unfold iv at au
 have cT:=sL h hp x
 have c4:=dz h hp 4 (by omega)
 have c1:=dz h hp 1 (by omega)
 obtain ⟨z,hz⟩:∃ z,rF s x = z:=⟨_,rfl⟩
 rw [hz]
 unfold rF at hz
 simp [go_sem,C80,hf,aX,iI]
 rw [jE]
 cases ho:gi s x with
 | none =>
   rw [ho] at cT hz
   unfold la at cT
   refine ah cT ?_
   simp [go_sem,hf]
   refine ar c4 ?_
   rintro r bP ⟨rfl,ad1,ee,h1⟩
   have bg:=h1.fin
   simp [go_sem,bg]
   exact al (by simp [go_sem]) (.of hz.symm ⟨by simp [go_sem],ad1,ee,h1⟩)
 | some i =>
   rw [ho] at cT hz
   unfold la at cT
   have hi:=(mX ho).1
   obtain ⟨b0,dH,me⟩:=h.EN hi
   have e1:s.aq.getD i kJ = s.aq[i]:=by simp [hi]
   simp only [dJ dH] at cT
   simp only [e1] at hz
   refine ah cT ?_
   by_cases s4:s.aq[i].st = 4
   ·rw [if_pos s4] at hz
    simp [go_sem,hf,me,qx,iI,s4]
    refine ar c4 ?_
    rintro r bP ⟨rfl,ad1,ee,h1⟩
    have bg:=h1.fin
    simp [go_sem,bg]
    exact al (by simp [go_sem]) (.of hz.symm ⟨by simp [go_sem],ad1,ee,h1⟩)
   rw [if_neg s4] at hz
   by_cases s1:s.aq[i].st = 1
   ·rw [if_pos s1] at hz
    simp [go_sem,hf,me,qx,iI,s1]
    refine ar c1 ?_
    rintro r bP ⟨rfl,ad1,ee,h1⟩
    have bg:=h1.fin
    simp [go_sem,bg]
    exact al (by simp [go_sem]) (.of hz.symm ⟨by simp [go_sem],ad1,ee,h1⟩)
   rw [if_neg s1] at hz
   by_cases s2:s.aq[i].st = 2
   ·rw [if_pos s2] at hz
    simp [go_sem,hf,me,qx,iI,s2]
    exact al (by simp [go_sem]) (.of hz.symm ⟨by simp [go_sem],ad,bT.refl _,h⟩)
   ·rw [if_neg s2] at hz
    simp [go_sem,hf,me,qx,iI,s4,s1,s2,au]
    exact al (by simp [go_sem]) (.of hz.symm ⟨by simp [go_sem],ad,bT.refl _,h.bh hi dH { s.aq[i] with st:=2,since:=s.now } rfl⟩)
def mZ (s:IW) (x:Ev):IW × Bool:=match gi s x with
 | none=>(s.fault 4,true)
 | some i =>
   let c:=s.aq.getD i kJ
   let b:=s.ai.getD x.bk gp
   if c.st = 1 then (s,false) else ((s.bh i { c with st:=5,gone:=s.now }).aQ x.bk { b with cJ:=cH (b.cJ - 1) },true)
theorem JN {aD bx:aa} {ad:di} {s:IW} (h:WI aD ad s bx) {p:Nat} (hp:ad .w = some p) (x:Ev) (hx:x.bk < s.ai.length) (hl:s.aI.length <= 90000) :
 aw prog 81 [.ptr p 13 0 0,aX x] bx (dq aD ad (mZ s x)):=by
 refine Wh fun hf=>?_
 obtain ⟨pb,pc,pr,pm,pw,hn⟩:=h.names hp
 have au:=h.row hn
 unfold iv at au
 have dm:=h.mW hn
 have cT:=sL h hp x
 have c4:=dz h hp 4 (by omega)
 have e2:s.ai.getD x.bk gp = s.ai[x.bk]:=by simp [hx]
 obtain ⟨z,hz⟩:∃ z,mZ s x = z:=⟨_,rfl⟩
 rw [hz]
 unfold mZ at hz
 rw [e2] at hz
 simp [go_sem,C81,hf,aX,iI]
 rw [jE]
 cases ho:gi s x with
 | none =>
   rw [ho] at cT hz
   unfold la at cT
   refine ah cT ?_
   simp [go_sem,hf]
   refine ar c4 ?_
   rintro r bP ⟨rfl,ad1,ee,h1⟩
   have bg:=h1.fin
   simp [go_sem,bg]
   exact al (by simp [go_sem]) (.of hz.symm ⟨by simp [go_sem],ad1,ee,h1⟩)
 | some i =>
   rw [ho] at cT hz
   unfold la at cT
   have hi:=(mX ho).1
   obtain ⟨b0,dH,me⟩:=h.EN hi
   have e1:s.aq.getD i kJ = s.aq[i]:=by simp [hi]
   simp only [dJ dH] at cT
   simp only [e1] at hz
   refine ah cT ?_
   by_cases s1:s.aq[i].st = 1
   ·rw [if_pos s1] at hz
    simp [go_sem,hf,me,qx,iI,s1]
    exact al (by simp [go_sem]) (.of hz.symm ⟨by simp [go_sem],ad,bT.refl _,h⟩)
   ·rw [if_neg s1] at hz
    have h1:=h.bh hi dH { s.aq[i] with st:=5,gone:=s.now } rfl
    have fN:=h1.row hn
    have B3:=h1.mW hn
    unfold iv at fN
    simp only [qx,iI] at h1 fN B3
    have bg:=h1.fin
    simp [go_sem,hf,me,qx,iI,s1,au]
    generalize aB bx b0 (some (bF.row ve 10 [V.agg [V.int .i64 s.aq[i].num,V.int .i64 s.aq[i].bk,V.int .i64 s.aq[i].bt,V.int .i64 s.aq[i].born,V.int .i64 s.now,V.int .i64 s.aq[i].cj,V.int .i64 s.aq[i].read,V.int .i64 5,V.int .i64 s.aq[i].call,V.int .i64 s.aq[i].since]])) = bP at *
    simp [go_sem,bg,fN,B3,hx,aX,iI,iq,kZ]
    exact al (by simp [go_sem]) (.of hz.symm ⟨by simp [go_sem],ad,bT.refl _,h1.lb hn hx { s.ai[x.bk] with cJ:=cH (s.ai[x.bk].cJ - 1) } rfl⟩)
def rG (s:IW) (x:Ev):IW × Bool:=match lG s x with
 | none=>(s.fault 4,true)
 | some i =>
   let c:=s.aq.getD i kJ
   ((s.aj (decide (x.kf ≠ x.call)) 6).bh i { c with read:=cH (c.read + x.n) },true)
theorem GW {aD bx:aa} {ad0 ad:di} (hk:bT ad0 ad) {s:IW} (h:WI aD ad s bx) (x:Ev) {i b0:Nat} (hi:i < s.aq.length) (dH:ad (.cn i) = some b0) {z:IW × Bool} (hz:z = (s.bh i { s.aq[i] with read:=cH (s.aq[i].read + x.n) },true)) (st:St) (hs:jq st ⟨31,bR [(3,.ep (aX x) 0),(5,.ptr b0 10 0 0)],bx⟩) :
 pw prog G2 (fV prog [.tmp 4] (dq aD ad0 z)) st:=by
 have hf:=h.fin
 have me:bx b0 = some (.row ve 10 [qx s.aq[i]]):=by
  obtain ⟨b',h1,h2⟩:=h.EN hi
  rw [dH] at h1; injection h1 with h1; rw [h1]; exact h2
 refine j0 hs ?_
 simp [go_sem,hf,me,qx,iI,aX]
 exact al (by simp [go_sem]) (.of hz ⟨by simp [go_sem],ad,hk,h.bh hi dH { s.aq[i] with read:=cH (s.aq[i].read + x.n) } rfl⟩)
theorem OH {aD bx:aa} {ad:di} {s:IW} (h:WI aD ad s bx) {p:Nat} (hp:ad .w = some p) (x:Ev) (hl:s.aI.length <= 90000) :
 aw prog 78 [.ptr p 13 0 0,aX x] bx (dq aD ad (rG s x)):=by
 refine We fun hf=>?_
 have cO:=GQ h hp x
 have c4:=dz h hp 4 (by omega)
 have c6:=dz h hp 6 (by omega)
 obtain ⟨z,hz⟩:∃ z,rG s x = z:=⟨_,rfl⟩
 rw [hz]
 unfold rG at hz
 simp [go_sem,C78,hf,aX,iI]
 rw [jE]
 cases ho:lG s x with
 | none =>
   rw [ho] at cO hz
   unfold la at cO
   refine ah cO ?_
   simp [go_sem,hf]
   refine ar c4 ?_
   rintro r bP ⟨rfl,ad1,ee,h1⟩
   have bg:=h1.fin
   simp [go_sem,bg]
   exact al (by simp [go_sem]) (.of hz.symm ⟨by simp [go_sem],ad1,ee,h1⟩)
 | some i =>
   rw [ho] at cO hz
   unfold la at cO
   have hi:=sM ho
   obtain ⟨b0,dH,me⟩:=h.EN hi
   have e1:s.aq.getD i kJ = s.aq[i]:=by simp [hi]
   simp only [dJ dH] at cO
   simp only [e1] at hz
   refine ah cO ?_
   by_cases c1:x.kf = x.call
   ·simp [go_sem,hf,aX,iI,c1]
    exact GW (bT.refl _) h x hi dH (by rw [<- hz]; simp [c1,IW.aj]) _ (ak (by simp [go_sem,aX,iI,c1]))
   ·simp [go_sem,hf,aX,iI,c1]
    refine ar c6 ?_
    rintro r bP ⟨rfl,ad1,ee,h1⟩
    have bg:=h1.fin
    simp [go_sem,bg]
    exact GW ee h1 x hi (ee _ _ dH rfl) (by rw [<- hz]; simp [c1,IW.aj,IW.fault]) _ (ak (by simp [go_sem,aX,iI,c1]))
theorem WI.cnB {aD bx:aa} {ad:di} {s:IW} (h:WI aD ad s bx) {i b:Nat} (hi:i < s.aq.length) (hb:ad (.cn i) = some b):bx b = some (.row ve 10 [qx s.aq[i]]):=by
 obtain ⟨b',h1,h2⟩:=h.EN hi
 rw [hb] at h1; injection h1 with h1; rw [h1]; exact h2
theorem WI.rqB {aD bx:aa} {ad:di} {s:IW} (h:WI aD ad s bx) {i b:Nat} (hi:i < s.aE.length) (hb:ad (.rq i) = some b):bx b = some (.row vg 5 [sI s.aE[i].2]):=by
 obtain ⟨b',h1,h2⟩:=h.LB hi
 rw [hb] at h1; injection h1 with h1; rw [h1]; exact h2
def rH (s:IW) (x:Ev):IW × Bool:=match lG s x with
 | none=>(s.fault 4,true)
 | some i=>match ki s.aE x.call with
   | none=>(s,true)
   | some j =>
     let c:=s.aq.getD i kJ
     let r:=(s.aE.getD j (0,o7)).2
     (((s.aj (!r.idem && decide (0 < r.cj) && decide (r.cj < r.aO)) 10).dU j { r with cj:=r.aO }).bh i { c with cj:=cH (c.cj + x.n) },true)
theorem GX {aD bx:aa} {ad0 ad:di} (hk:bT ad0 ad) {s:IW} (h:WI aD ad s bx) (x:Ev) {i b0:Nat} (hi:i < s.aq.length) (dH:ad (.cn i) = some b0) {j b1:Nat} (hj:j < s.aE.length) (eK:ad (.rq j) = some b1)
 {z:IW × Bool} (hz:z = ((s.dU j { s.aE[j].2 with cj:=s.aE[j].2.aO }).bh i { s.aq[i] with cj:=cH (s.aq[i].cj + x.n) },true)) (st:St) (hs:jq st ⟨64,bR [(3,.ep (aX x) 0),(5,.ptr b0 10 0 0),(6,.ptr b1 5 0 0)],bx⟩) :
 pw prog G1 (fV prog [.tmp 4] (dq aD ad0 z)) st:=by
 have hf:=h.fin
 have ma:=h.rqB hj eK
 have h1:=h.vX hj eK { s.aE[j].2 with cj:=s.aE[j].2.aO }
 have me:=h1.cnB (i:=i) hi dH
 have bg:=h1.fin
 simp only [sI,iI] at h1 me bg
 refine j0 hs ?_
 simp [go_sem,hf,ma,sI,iI]
 generalize aB bx b1 (some (bF.row vg 5 [V.agg [V.bool s.aE[j].2.idem,V.bool s.aE[j].2.ended,V.int .i64 s.aE[j].2.aO,V.int .i64 s.aE[j].2.at_,V.int .i64 s.aE[j].2.aO]])) = bP at *
 simp [go_sem,bg,me,qx,iI,aX]
 exact al (by simp [go_sem]) (.of hz ⟨by simp [go_sem],ad,hk,h1.bh (i:=i) hi dH { s.aq[i] with cj:=cH (s.aq[i].cj + x.n) } rfl⟩)
theorem OI {aD bx:aa} {ad:di} {s:IW} (h:WI aD ad s bx) {p:Nat} (hp:ad .w = some p) (x:Ev) (hl:s.aI.length <= 90000) (FL:∀ i,lG s x = some i -> ∃ j,ki s.aE x.call = some j) :
 aw prog 77 [.ptr p 13 0 0,aX x] bx (dq aD ad (rH s x)):=by
 refine Wd fun hf=>?_
 obtain ⟨pb,pc,pr,pm,pw,hn⟩:=h.names hp
 have au:=h.row hn
 unfold iv at au
 have vk:=h.WT hn
 have f1:=sJ s x.call ad
 have cO:=GQ h hp x
 have c4:=dz h hp 4 (by omega)
 have c10:=dz h hp 10 (by omega)
 obtain ⟨z,hz⟩:∃ z,rH s x = z:=⟨_,rfl⟩
 rw [hz]
 unfold rH at hz
 simp [go_sem,C77,hf,aX,iI]
 rw [jE]
 cases ho:lG s x with
 | none =>
   rw [ho] at cO hz
   unfold la at cO
   refine ah cO ?_
   cases h1:ki s.aE x.call <;> rw [h1] at f1 <;> simp only [Option.map_none,Option.map_some] at f1
   all_goals (
    simp [go_sem,hf,au,vk,f1,aX,iI]
    refine ar c4 ?_
    rintro r bP ⟨rfl,ad1,ee,h1⟩
    have bg:=h1.fin
    simp [go_sem,bg]
    exact al (by simp [go_sem]) (.of hz.symm ⟨by simp [go_sem],ad1,ee,h1⟩))
 | some i =>
   obtain ⟨j,hj⟩:=FL i ho
   rw [ho] at cO hz
   rw [hj] at f1 hz
   simp only [Option.map_some] at f1
   unfold la at cO
   have hi:=sM ho
   obtain ⟨lR,_⟩:=oX hj
   obtain ⟨b0,dH,me⟩:=h.EN hi
   obtain ⟨b1,eK,ma⟩:=h.LB lR
   rw [dJ eK] at f1
   have e1:s.aq.getD i kJ = s.aq[i]:=by simp [hi]
   have e2:s.aE.getD j (0,o7) = s.aE[j]:=by simp [lR]
   simp only [dJ dH] at cO
   simp only [e1,e2] at hz
   refine ah cO ?_
   cases s1:s.aE[j].2.idem <;> by_cases s2:0 < s.aE[j].2.cj <;> by_cases s3:s.aE[j].2.cj < s.aE[j].2.aO <;> simp [go_sem,hf,au,vk,f1,aX,iI,ma,sI,s1,s2,s3]
   all_goals first
    | exact GX (bT.refl _) h x hi dH lR eK (by rw [<- hz]; simp [s1,s2,s3,IW.aj]) _ (ak (by simp [go_sem,aX,iI]))
    | (refine ar c10 ?_
       rintro r bP ⟨rfl,ad1,ee,h1⟩
       have bg:=h1.fin
       simp [go_sem,bg]
       exact GX ee h1 x hi (ee _ _ dH rfl) lR (ee _ _ eK rfl) (by rw [<- hz]; simp [s1,s2,s3,IW.aj,IW.fault]) _ (ak (by simp [go_sem,aX,iI])))
def qe (s:IW) (x:Ev):IW × Bool :=
 if gQ s x || !oY s x then (s,false)
 else
  let b:=s.ai.getD x.bk gp
  let s1:=s.aQ x.bk { b with waits:=b.waits ++ [x.call] }
  ((aW s1 x ⟨false,true,false⟩).aj (decide ((s.aN.getD x.bk ⟨0,0,0,0⟩).queue < (b.waits.length + 1:Nat))) 3,true)
theorem na (s:IW) (x:Ev) (q:IP):(aW s x q).ai = s.ai /\ (aW s x q).aN = s.aN /\ (aW s x q).aI = s.aI /\ (aW s x q).at_ = s.at_ /\ (aW s x q).aq = s.aq:=by
 unfold aW
 split <;> exact ⟨rfl,rfl,rfl,rfl,rfl⟩
theorem OJ {aD bx:aa} {ad:di} {s:IW} (h:WI aD ad s bx) {p:Nat} (hp:ad .w = some p) (x:Ev) (hx:x.bk < s.ai.length) (cQ:x.bk < s.aN.length) (hl:s.aI.length <= 90000) (px:s.ai[x.bk].waits.length <= 90000) :
 aw prog 71 [.ptr p 13 0 0,aX x] bx (dq aD ad (qe s x)):=by
 refine VX fun hf=>?_
 obtain ⟨pb,pc,pr,pm,pw,hn⟩:=h.names hp
 have au:=h.row hn
 unfold iv at au
 have dm:=h.mW hn
 have hw:=h.JI hx
 have cW:=yc h hp x
 have cM:=GP h hp x
 have e2:s.ai.getD x.bk gp = s.ai[x.bk]:=by simp [hx]
 have e3:s.aN.getD x.bk ⟨0,0,0,0⟩ = s.aN[x.bk]:=by simp [cQ]
 obtain ⟨z,hz⟩:∃ z,qe s x = z:=⟨_,rfl⟩
 rw [hz]
 unfold qe at hz
 rw [e2,e3] at hz
 dsimp only at hz
 simp [go_sem,C71,hf,aX,iI]
 rw [jE]
 cases hwt:gQ s x
 ·rw [hwt] at cW hz
  refine ah cW ?_
  simp [go_sem,hf,aX,iI]
  rw [jE]
  cases A1:oY s x
  ·rw [A1] at cM hz
   refine dI cM (by simp) (by simp [go_sem]) ?_
   simp [go_sem,hf]
   exact al (by simp [go_sem]) (.of hz.symm ⟨by simp [go_sem],ad,bT.refl _,h⟩)
  ·rw [A1] at cM hz
   refine dI cM (by simp) (by simp [go_sem]) ?_
   simp [go_sem,hf,au,dm,hx,aX,iI,iq,kZ,hw.strip,hw.live]
   refine dx (.int .i64 0) hw hf (news:=[iI x.call]) mS Bq (by simp [go_sem,bM,iI]) tR (by simp [go_sem]) (by decide) (by simp [FP]; omega) (by simp; omega) (by simp [go_sem]) fun v' bx' ha hm _=>?_
   have fI:aY bx' 2 1 ((s.ai[x.bk].waits ++ [x.call]).map iI) v':=by simpa using ha
   have h1:=h.setW hn hx (s.ai[x.bk].waits ++ [x.call]) hm fI
   have eK:bx' pb = some (.row zI 6 (s.ai.mapIdx (iq ad))):=by rw [hm.other (by rw [dm]; simp) (hw.ne dm (by decide)),dm]
   have bg:=hm.fin
   simp only [kZ,iI] at h1
   simp [go_sem,eK,hx,iq,kZ,iI,ha.strip,ha.live,ha.cells,ha.okV,bg]
   have cm:=h1.fin
   generalize (aB bx' pb (some (bF.row zI 6 ((s.ai.mapIdx (iq ad)).set x.bk (V.agg [V.bool s.ai[x.bk].down,V.int .i64 s.ai[x.bk].gV,V.int .i64 s.ai[x.bk].aM,V.int .i64 s.ai[x.bk].ax,V.int .i64 s.ai[x.bk].cJ,v']))))) = bx2 at *
   obtain ⟨ad1,Xc⟩:∃ ad1,eS ad (.iu x.bk) (qN v') = ad1:=⟨_,rfl⟩
   have ee:bT ad ad1:=by rw [<- Xc]; exact WI.cw rfl _
   rw [Xc] at h1
   rw [jE,adw]
   refine ar (oZ h1 (ee _ _ hp rfl) x _ (by simp)) ?_
   have hbe:=na { s with ai:=s.ai.set x.bk { s.ai[x.bk] with waits:=s.ai[x.bk].waits ++ [x.call] } } x ⟨false,true,false⟩
   have Bc:z = ((aW { s with ai:=s.ai.set x.bk { s.ai[x.bk] with waits:=s.ai[x.bk].waits ++ [x.call] } } x ⟨false,true,false⟩).aj (decide (s.aN[x.bk].queue < (s.ai[x.bk].waits.length + 1:Nat))) 3,true):=by rw [<- hz]; rfl
   generalize aW { s with ai:=s.ai.set x.bk { s.ai[x.bk] with waits:=s.ai[x.bk].waits ++ [x.call] } } x ⟨false,true,false⟩ = s2 at *
   obtain ⟨e4,e5,e6,e7,e8⟩:=hbe
   dsimp only at e4 e5 e6
   rintro r bx3 ⟨rfl,ad3,CL,h3⟩
   have lU:=h3.fin
   have uN:=(hn.cw ee).cw CL
   have rI:=h3.row uN
   unfold iv at rI
   rw [e5] at rI
   have B4:=h3.mW uN
   have sN:x.bk < s2.ai.length:=by rw [e4]; simpa using hx
   have OK:s2.ai[x.bk].waits = s.ai[x.bk].waits ++ [x.call]:=by simp [e4]
   have Ii:=h3.JI sN
   simp only [OK,List.length_append,List.length_singleton] at Ii
   have hlen:=fun bx2=>fW (bx2:=bx2) (t:=60) Ii mS
   simp [go_sem,Ii.strip,Ii.live] at hlen
   by_cases c1:s.aN[x.bk].queue < (s.ai[x.bk].waits.length:Int) + 1
   ·simp [go_sem,lU,rI,B4,sN,iq,kZ,iI,cQ,bG,hlen,Ii.strip,Ii.live,OK,c1,aX]
    refine ar (dz h3 uN.w 3 (by rw [e6]; omega)) ?_
    rintro r bx4 ⟨rfl,ad4,Ei,h4⟩
    have lI:=h4.fin
    simp [go_sem,lI]
    exact al (by simp [go_sem]) (.of (z':=(s2.fault 3,true)) (by rw [Bc]; simp [IW.aj,c1]) ⟨by simp [go_sem],ad4,(ee.trans CL).trans Ei,h4⟩)
   ·simp [go_sem,lU,rI,B4,sN,iq,kZ,iI,cQ,bG,hlen,Ii.strip,Ii.live,OK,c1,aX]
    exact al (by simp [go_sem]) (.of (z':=(s2,true)) (by rw [Bc]; simp [IW.aj,c1]) ⟨by simp [go_sem],ad3,ee.trans CL,h3⟩)
 ·rw [hwt] at cW hz
  refine ah cW ?_
  simp [go_sem,hf]
  refine js (.bool false) (by simp [go_sem]) ?_
  simp [go_sem,hf]
  exact al (by simp [go_sem]) (.of hz.symm ⟨by simp [go_sem],ad,bT.refl _,h⟩)
theorem LH (s:IW) (c:Bool) (k:Int):(s.aj c k).ai = s.ai /\ (s.aj c k).aN = s.aN /\ (s.aj c k).at_ = s.at_ /\ (s.aj c k).aq = s.aq /\ (s.aj c k).aE = s.aE /\ (s.aj c k).most = s.most /\ (s.aj c k).now = s.now /\ (s.aj c k).aI.length <= s.aI.length + 1:=by
 unfold IW.aj
 split
 ·exact ⟨rfl,rfl,rfl,rfl,rfl,rfl,rfl,by simp [IW.fault]⟩
 ·exact ⟨rfl,rfl,rfl,rfl,rfl,rfl,rfl,by omega⟩
theorem zR (s:IW) (x:Ev):(bL s x).ai.length = s.ai.length /\ (bL s x).aN = s.aN /\ (bL s x).aI = s.aI /\ (bL s x).at_ = s.at_ /\ (bL s x).aq = s.aq /\ (bL s x).now = s.now:=by
 unfold bL
 exact ⟨by simp,rfl,rfl,rfl,rfl,rfl⟩
def rJ (s:IW) (x:Ev):IW × Bool :=
 if oY s x then
  let s3:=aW (bL (s.aj (gj s x) 9) x) x ⟨true,false,false⟩
  let b:=s3.ai.getD x.bk gp
  ((s3.aQ x.bk { b with ax:=cH (b.ax + 1) }).aj (decide ((s.aN.getD x.bk ⟨0,0,0,0⟩).max < cH (cH (b.ax + 1) + b.cJ))) 2,true)
 else (s,false)
theorem OL {aD bx:aa} {ad:di} {s:IW} (h:WI aD ad s bx) {p:Nat} (hp:ad .w = some p) (x:Ev) (hx:x.bk < s.ai.length) (cQ:x.bk < s.aN.length) (hl:s.aI.length <= 80000) (px:s.ai[x.bk].waits.length <= 90000) :
 aw prog 73 [.ptr p 13 0 0,aX x] bx (dq aD ad (rJ s x)):=by
 refine VZ fun hf=>?_
 obtain ⟨pb,pc,pr,pm,pw,hn⟩:=h.names hp
 have cM:=GP h hp x
 have e3:s.aN.getD x.bk ⟨0,0,0,0⟩ = s.aN[x.bk]:=by simp [cQ]
 obtain ⟨z,hz⟩:∃ z,rJ s x = z:=⟨_,rfl⟩
 rw [hz]
 unfold rJ at hz
 rw [e3] at hz
 simp [go_sem,C73,hf,aX,iI]
 rw [jE]
 cases A1:oY s x
 ·rw [A1] at cM hz
  refine ah cM ?_
  simp [go_sem,hf]
  exact al (by simp [go_sem]) (.of hz.symm ⟨by simp [go_sem],ad,bT.refl _,h⟩)
 ·rw [A1] at cM hz
  simp only [if_true] at hz
  refine ah cM ?_
  simp [go_sem,hf,aX,iI]
  rw [jE]
  refine ar (CK h hp x hx (by omega)) ?_
  have q1:=LH s (gj s x) 9
  generalize s.aj (gj s x) 9 = s1 at *
  obtain ⟨a1,a2,a3,a4,a5,a6,a7,a8⟩:=q1
  rintro r bP ⟨rfl,ad1,ee,h1⟩
  have bg:=h1.fin
  have iH:x.bk < s1.ai.length:=by rw [a1]; exact hx
  simp [go_sem,bg,aX,iI]
  rw [jE]
  refine ar (tW h1 (ee _ _ hp rfl) x iH (by simp only [a1]; omega)) ?_
  have q2:=zR s1 x
  generalize bL s1 x = s2 at *
  obtain ⟨b1,b2,b3,b4,b5,b6⟩:=q2
  rintro r bx2 ⟨rfl,ad2,fJ,h2⟩
  have cm:=h2.fin
  simp [go_sem,cm,aX,iI]
  rw [jE,adv]
  refine ar (oZ h2 (fJ _ _ (ee _ _ hp rfl) rfl) x _ (by simp)) ?_
  have q3:=na s2 x ⟨true,false,false⟩
  generalize aW s2 x ⟨true,false,false⟩ = s3 at *
  obtain ⟨c1,c2,c3,c4,c5⟩:=q3
  rintro r bx3 ⟨rfl,ad3,CL,h3⟩
  have lU:=h3.fin
  have uN:=((hn.cw ee).cw fJ).cw CL
  have rI:=h3.row uN
  unfold iv at rI
  rw [c2,b2,a2] at rI
  have B4:=h3.mW uN
  have sN:x.bk < s3.ai.length:=by rw [c1,b1]; exact iH
  have e2:s3.ai.getD x.bk gp = s3.ai[x.bk]:=by simp [sN]
  rw [e2] at hz
  have h4:=h3.lb uN sN { s3.ai[x.bk] with ax:=cH (s3.ai[x.bk].ax + 1) } rfl
  have oA:=h4.row uN
  unfold iv at oA
  have el:(s3.aQ x.bk { s3.ai[x.bk] with ax:=cH (s3.ai[x.bk].ax + 1) }).aN = s.aN:=by rw [<- a2,<- b2,<- c2]; rfl
  rw [el] at oA
  have OM:=h4.mW uN
  have lI:=h4.fin
  have ef:(s3.aQ x.bk { s3.ai[x.bk] with ax:=cH (s3.ai[x.bk].ax + 1) }).aI.length <= 80001:=by show s3.aI.length <= _; rw [c3,b3]; omega
  simp only [iq,kZ,iI] at h4 oA OM lI
  simp [go_sem,lU,rI,B4,sN,iq,kZ,iI,aX]
  have ja:∀ a:Int,IntKind.i64.wrap a = cH a:=fun a=>rfl
  simp only [ja] at *
  generalize (aB bx3 pb (some (bF.row zI 6 ((s3.ai.mapIdx (iq ad3)).set x.bk (V.agg [V.bool s3.ai[x.bk].down,V.int .i64 s3.ai[x.bk].gV,V.int .i64 s3.ai[x.bk].aM,V.int .i64 (cH (s3.ai[x.bk].ax + 1)),V.int .i64 s3.ai[x.bk].cJ,jJ (ad3 (.iu x.bk)) 1 s3.ai[x.bk].waits.length]))))) = bx4 at *
  have Cu:x.bk < (s3.aQ x.bk { s3.ai[x.bk] with ax:=cH (s3.ai[x.bk].ax + 1) }).ai.length:=by simpa [IW.aQ] using sN
  have eb:(s3.aQ x.bk { s3.ai[x.bk] with ax:=cH (s3.ai[x.bk].ax + 1) }).ai[x.bk] = { s3.ai[x.bk] with ax:=cH (s3.ai[x.bk].ax + 1) }:=by simp [IW.aQ]
  by_cases g1:s.aN[x.bk].max < cH (cH (s3.ai[x.bk].ax + 1) + s3.ai[x.bk].cJ)
  ·simp [go_sem,lI,oA,OM,Cu,eb,iq,kZ,iI,aX,cQ,bG,ja,g1]
   refine ar (dz h4 uN.w 2 (by omega)) ?_
   rintro r jt ⟨rfl,ad5,EO,h5⟩
   have nG:=h5.fin
   simp [go_sem,nG]
   exact al (by simp [go_sem]) (.of (z':=((s3.aQ x.bk { s3.ai[x.bk] with ax:=cH (s3.ai[x.bk].ax + 1) }).fault 2,true)) (by rw [<- hz]; simp [IW.aj,g1]) ⟨by simp [go_sem],ad5,((ee.trans fJ).trans CL).trans EO,h5⟩)
  ·simp [go_sem,lI,oA,OM,Cu,eb,iq,kZ,iI,aX,cQ,bG,ja,g1]
   exact al (by simp [go_sem]) (.of (z':=(s3.aQ x.bk { s3.ai[x.bk] with ax:=cH (s3.ai[x.bk].ax + 1) },true)) (by rw [<- hz]; simp [IW.aj,g1]) ⟨by simp [go_sem],ad3,(ee.trans fJ).trans CL,h4⟩)
def rK (s:IW) (x:Ev):IW × Bool:=match fM s x.call with
 | none=>(s,false)
 | some i =>
   let r:=(s.aE.getD i (0,o7)).2
   let b:=s.ai.getD x.bk gp
   let s1:=s.aj (b.down || decide (b.gV = 1)) 7
   let s2:=if b.gV = 2 then (s1.aj (decide (0 < b.aM) && decide (b.aM ≠ x.call)) 8).aQ x.bk { b with aM:=x.call } else s1
   let s3:=s2.aj (decide (s.most < r.aO)) 10
   (s3.dU i { r with aO:=cH (r.aO + 1),at_:=x.bk },true)
theorem zS {aD bx:aa} {ad0 ad:di} (hk:bT ad0 ad) {s:IW} (h:WI aD ad s bx) (x:Ev) {i b:Nat} (hi:i < s.aE.length) (hb:ad (.rq i) = some b)
 {z:IW × Bool} (hz:z = (s.dU i { s.aE[i].2 with aO:=cH (s.aE[i].2.aO + 1),at_:=x.bk },true)) (st:St) (hs:jq st ⟨83,bR [(3,.ep (aX x) 0),(5,.ptr b 5 0 0)],bx⟩) :
 pw prog Gw (fV prog [.tmp 4] (dq aD ad0 z)) st:=by
 have hf:=h.fin
 have hr:=h.rqB hi hb
 refine j0 hs ?_
 simp [go_sem,hf,hr,sI,iI,aX]
 exact al (by simp [go_sem]) (.of hz ⟨by simp [go_sem],ad,hk,h.vX hi hb { s.aE[i].2 with aO:=cH (s.aE[i].2.aO + 1),at_:=x.bk }⟩)
theorem qh {aD bx:aa} {ad0 ad:di} (hk:bT ad0 ad) {s:IW} (h:WI aD ad s bx) {p:Nat} (hp:ad .w = some p) (x:Ev) (hl:s.aI.length <= 90000) {i b:Nat} (hi:i < s.aE.length) (hb:ad (.rq i) = some b)
 {z:IW × Bool} (hz:z = ((s.aj (decide (s.most < s.aE[i].2.aO)) 10).dU i { s.aE[i].2 with aO:=cH (s.aE[i].2.aO + 1),at_:=x.bk },true)) (st:St) (hs:jq st ⟨83,bR [(0,.ptr p 13 0 0),(3,.ep (aX x) 0),(5,.ptr b 5 0 0)],bx⟩) :
 pw prog Gx (fV prog [.tmp 4] (dq aD ad0 z)) st:=by
 have hf:=h.fin
 obtain ⟨pb,pc,pr,pm,pw,hn⟩:=h.names hp
 have au:=h.row hn
 unfold iv at au
 have hr:=h.rqB hi hb
 refine j0 hs ?_
 by_cases c1:s.most < s.aE[i].2.aO
 ·simp [go_sem,hf,hr,sI,iI,aX,au,c1]
  refine ar (dz h hp 10 (by omega)) ?_
  rintro r bP ⟨rfl,ad1,ee,h1⟩
  have bg:=h1.fin
  simp [go_sem,bg]
  exact zS (hk.trans ee) h1 x (i:=i) hi (ee _ _ hb rfl) (by rw [hz]; simp [IW.aj,c1,IW.fault]) _ (ak (by simp [go_sem,aX,iI]))
 ·simp [go_sem,hf,hr,sI,iI,aX,au,c1]
  exact zS hk h x (i:=i) hi hb (by rw [hz]; simp [IW.aj,c1]) _ (ak (by simp [go_sem,aX,iI]))
theorem tY {aD bx:aa} {ad0 ad:di} (hk:bT ad0 ad) {s:IW} (h:WI aD ad s bx) {p pb:Nat} (hp:ad .w = some p) (Lc:ad .ai = some pb) (x:Ev) (hl:s.aI.length <= 80000) (hx:x.bk < s.ai.length) {i b:Nat} (hi:i < s.aE.length) (hb:ad (.rq i) = some b)
 {z:IW × Bool} (hz:z = (((if s.ai[x.bk].gV = 2 then (s.aj (decide (0 < s.ai[x.bk].aM) && decide (s.ai[x.bk].aM ≠ x.call)) 8).aQ x.bk { s.ai[x.bk] with aM:=x.call } else s).aj (decide (s.most < s.aE[i].2.aO)) 10).dU i { s.aE[i].2 with aO:=cH (s.aE[i].2.aO + 1),at_:=x.bk },true)) (st:St) (hs:jq st ⟨83,bR [(0,.ptr p 13 0 0),(3,.ep (aX x) 0),(5,.ptr b 5 0 0),(6,.ptr pb 6 x.bk 0)],bx⟩) :
 pw prog Gy (fV prog [.tmp 4] (dq aD ad0 z)) st:=by
 have hf:=h.fin
 obtain ⟨pb',pc,pr,pm,pw,hn⟩:=h.names hp
 have:pb' = pb:=by have:=hn.b; rw [Lc] at this; injection this with this; exact this.symm
 subst this
 have au:=h.row hn
 unfold iv at au
 have dm:=h.mW hn
 refine j0 hs ?_
 by_cases c1:s.ai[x.bk].gV = 2
 ·rw [if_pos c1] at hz
  have hY:=h.lb hn hx ⟨s.ai[x.bk].down,2,x.call,s.ai[x.bk].ax,s.ai[x.bk].cJ,s.ai[x.bk].waits⟩ rfl
  have hz0 (hc:(decide (0 < s.ai[x.bk].aM) && decide (s.ai[x.bk].aM ≠ x.call)) = false):z = (((s.aQ x.bk ⟨s.ai[x.bk].down,2,x.call,s.ai[x.bk].ax,s.ai[x.bk].cJ,s.ai[x.bk].waits⟩).aj (decide (s.most < s.aE[i].2.aO)) 10).dU i { s.aE[i].2 with aO:=cH (s.aE[i].2.aO + 1),at_:=x.bk },true):=by
   rw [hz,hc,<- c1]; rfl
  by_cases c2:0 < s.ai[x.bk].aM
  ·by_cases c3:s.ai[x.bk].aM = x.call
   ·simp [go_sem,hf,dm,hx,aX,iq,kZ,iI,au,c1,c2,c3]
    exact qh hk hY hp x (by show s.aI.length <= _; omega) (i:=i) hi hb (hz0 (by simp [c3])) _ (ak (by simp [go_sem,aX,iI]))
   ·simp [go_sem,hf,dm,hx,aX,iq,kZ,iI,au,c1,c2,c3]
    refine ar (dz h hp 8 (by omega)) ?_
    rintro r bP ⟨rfl,ad1,ee,h1⟩
    have bg:=h1.fin
    have xv:=hn.cw ee
    have B3:=h1.mW xv
    have Xd:=h1.lb xv (i:=x.bk) hx ⟨s.ai[x.bk].down,2,x.call,s.ai[x.bk].ax,s.ai[x.bk].cJ,s.ai[x.bk].waits⟩ rfl
    have eb:(s.fault 8).ai = s.ai:=rfl
    rw [eb] at B3
    simp [go_sem,bg,B3,hx,aX,iq,kZ,iI,c1]
    exact qh (hk.trans ee) Xd xv.w x (by show (s.aI ++ [_]).length <= _; simp; omega) (i:=i) hi (ee _ _ hb rfl) (by rw [hz]; simp [c2,c3,IW.aj,<- c1]; rfl) _ (ak (by simp [go_sem,aX,iI]))
  ·simp [go_sem,hf,dm,hx,aX,iq,kZ,iI,au,c1,c2]
   exact qh hk hY hp x (by show s.aI.length <= _; omega) (i:=i) hi hb (hz0 (by simp [c2])) _ (ak (by simp [go_sem,aX,iI]))
 ·rw [if_neg c1] at hz
  simp [go_sem,hf,dm,hx,aX,iq,kZ,iI,au,c1]
  exact qh hk h hp x (by omega) (i:=i) hi hb hz _ (ak (by simp [go_sem,aX,iI]))
theorem ON {aD bx:aa} {ad:di} {s:IW} (h:WI aD ad s bx) {p:Nat} (hp:ad .w = some p) (x:Ev) (hx:x.bk < s.ai.length) (hl:s.aI.length <= 70000) :
 aw prog 70 [.ptr p 13 0 0,aX x] bx (dq aD ad (rK s x)):=by
 refine VW fun hf=>?_
 obtain ⟨pb,pc,pr,pm,pw,hn⟩:=h.names hp
 have au:=h.row hn
 unfold iv at au
 have dm:=h.mW hn
 have cR:=yd h hp x.call
 have e2:s.ai.getD x.bk gp = s.ai[x.bk]:=by simp [hx]
 obtain ⟨z,hz⟩:∃ z,rK s x = z:=⟨_,rfl⟩
 rw [hz]
 unfold rK at hz
 rw [e2] at hz
 simp [go_sem,C70,hf,aX,iI]
 cases hr:fM s x.call with
 | none =>
   rw [hr] at cR hz
   unfold vh at cR
   refine ah cR ?_
   simp [go_sem,hf,au,dm,hx]
   exact al (by simp [go_sem]) (.of hz.symm ⟨by simp [go_sem],ad,bT.refl _,h⟩)
 | some i =>
   rw [hr] at cR hz
   unfold vh at cR
   obtain ⟨hi,_⟩:=zQ hr
   obtain ⟨b0,dH,me⟩:=h.LB hi
   have e1:s.aE.getD i (0,o7) = s.aE[i]:=by simp [hi]
   simp only [dJ dH] at cR
   simp only [e1] at hz
   refine ah cR ?_
   have c7:=dz h hp 7 (by omega)
   by_cases d1:s.ai[x.bk].down = true
   ·simp [go_sem,hf,au,dm,hx,iq,kZ,iI,d1]
    refine ar c7 ?_
    rintro r bP ⟨rfl,ad1,ee,h1⟩
    have bg:=h1.fin
    simp [go_sem,bg]
    exact tY ee h1 (ee _ _ hp rfl) (ee _ _ hn.b rfl) x (by simp [IW.fault]; omega) hx (i:=i) hi (ee _ _ dH rfl) (by rw [show (s.ai[x.bk].down || decide (s.ai[x.bk].gV = 1)) = true by simp [d1]] at hz; exact hz.symm) _ (ak (by simp [go_sem,aX,iI]))
   ·by_cases d2:s.ai[x.bk].gV = 1
    ·simp [go_sem,hf,au,dm,hx,iq,kZ,iI,d1,d2]
     refine ar c7 ?_
     rintro r bP ⟨rfl,ad1,ee,h1⟩
     have bg:=h1.fin
     simp [go_sem,bg]
     exact tY ee h1 (ee _ _ hp rfl) (ee _ _ hn.b rfl) x (by simp [IW.fault]; omega) hx (i:=i) hi (ee _ _ dH rfl) (by rw [show (s.ai[x.bk].down || decide (s.ai[x.bk].gV = 1)) = true by simp [d2]] at hz; exact hz.symm) _ (ak (by simp [go_sem,aX,iI]))
    ·simp [go_sem,hf,au,dm,hx,iq,kZ,iI,d1,d2]
     exact tY (bT.refl _) h hp hn.b x (by omega) hx (i:=i) hi dH (by rw [show (s.ai[x.bk].down || decide (s.ai[x.bk].gV = 1)) = false by simp [d1,d2]] at hz; exact hz.symm) _ (ak (by simp [go_sem,aX,iI]))
theorem WI.mono {aD bx bx':aa} {ad:di} {s:IW} (h:WI aD ad s bx) (he:Ext bx bx') (hf:ba bx'):WI aD ad s bx' :=
 ⟨hf,fun b hb=>by rw [he b (by rw [h.ext b hb]; exact hb),h.ext b hb],fun c b e=>by
  obtain ⟨h1,h2,h3⟩:=h.at_ c b e
  exact ⟨h1,by rw [he b (by rw [h2]; simp),h2],h3⟩,h.none_,h.inj⟩
def ng (s:IW) (x:Ev):IW × Bool :=
 if oY s x then match gi s x with
  | none=>(s.fault 4,true)
  | some i =>
    let c:=s.aq.getD i kJ
    if c.st = 4 then (s.fault 4,true) else if c.st = 1 then (s.fault 1,true)
    else
     let m:=s.aN.getD x.bk ⟨0,0,0,0⟩
     let s1:=s.aj (gj s x) 9
     let s2:=s1.aj (decide (m.xU <= cH (s.now - c.born)) || (decide (c.st = 2) && decide (m.idle <= cH (s.now - c.since)))) 5
     (j3 (bL s2 x) i x,true)
 else (s,false)
theorem vY {aD bx:aa} {ad0 ad:di} (hk:bT ad0 ad) {s:IW} (h:WI aD ad s bx) {p:Nat} (hp:ad .w = some p) (x:Ev) (hx:x.bk < s.ai.length) (px:s.ai[x.bk].waits.length <= 90000) {i b:Nat} (hi:i < s.aq.length) (hb:ad (.cn i) = some b)
 {z:IW × Bool} (hz:z = (j3 (bL s x) i x,true)) (st:St) (hs:jq st ⟨89,bR [(0,.ptr p 13 0 0),(3,.ep (aX x) 0),(5,.ptr b 10 0 0)],bx⟩) :
 pw prog Gz (fV prog [.tmp 4] (dq aD ad0 z)) st:=by
 have hf:=h.fin
 refine j0 hs ?_
 simp [go_sem,hf,aX,iI]
 rw [jE]
 refine ar (tW h hp x hx (by omega)) ?_
 have q2:=zR s x
 generalize bL s x = s2 at *
 obtain ⟨b1,b2,b3,b4,b5,b6⟩:=q2
 rintro r bP ⟨rfl,ad1,ee,h1⟩
 have bg:=h1.fin
 simp [go_sem,bg,aX,iI]
 rw [jE]
 refine ar (GU h1 (ee _ _ hp rfl) x (i:=i) (by rw [b5]; exact hi) (ee _ _ hb rfl)) ?_
 rintro r bx2 ⟨rfl,ad2,fJ,h2⟩
 have cm:=h2.fin
 simp [go_sem,cm]
 exact al (by simp [go_sem]) (.of hz ⟨by simp [go_sem],ad2,(hk.trans ee).trans fJ,h2⟩)
theorem Ej {aD bx:aa} {ad0 ad:di} (hk:bT ad0 ad) {s:IW} (h:WI aD ad s bx) {p:Nat} (hp:ad .w = some p) (x:Ev) (hx:x.bk < s.ai.length) (cQ:x.bk < s.aN.length) (hl:s.aI.length <= 90000) (px:s.ai[x.bk].waits.length <= 90000) {i b:Nat} (hi:i < s.aq.length) (hb:ad (.cn i) = some b)
 {z:IW × Bool} (hz:z = (j3 (bL (s.aj (decide (s.aN[x.bk].xU <= cH (s.now - s.aq[i].born)) || (decide (s.aq[i].st = 2) && decide (s.aN[x.bk].idle <= cH (s.now - s.aq[i].since)))) 5) x) i x,true)) (st:St) (hs:jq st ⟨89,bR [(0,.ptr p 13 0 0),(3,.ep (aX x) 0),(5,.ptr b 10 0 0)],bx⟩) :
 pw prog G0 (fV prog [.tmp 4] (dq aD ad0 z)) st:=by
 have hf:=h.fin
 obtain ⟨pb,pc,pr,pm,pw',hn⟩:=h.names hp
 have au:=h.row hn
 unfold iv at au
 refine j0 hs ?_
 simp [go_sem,hf,au,cQ,bG,aX,iI]
 intro b2 cz
 have h1:WI aD ad s (aB bx b2 (some (.row 111 4 [bG s.aN[x.bk]]))):=h.mono (qc cz _) ((an _ _ _).2 hf)
 have Ct:=af bx b2 (some (bF.row 111 4 [bG s.aN[x.bk]]))
 simp only [bG,iI] at h1 Ct
 generalize aB bx b2 (some (bF.row 111 4 [V.agg [V.int .i64 s.aN[x.bk].max,V.int .i64 s.aN[x.bk].queue,V.int .i64 s.aN[x.bk].idle,V.int .i64 s.aN[x.bk].xU]])) = bP at *
 have bg:=h1.fin
 have fN:=h1.row hn
 unfold iv at fN
 have eK:=h1.cnB hi hb
 have ja:∀ a:Int,IntKind.i64.wrap a = cH a:=fun a=>rfl
 by_cases c1:s.aN[x.bk].xU <= cH (s.now - s.aq[i].born) <;> by_cases c2:s.aq[i].st = 2 <;> by_cases c3:s.aN[x.bk].idle <= cH (s.now - s.aq[i].since) <;> simp [go_sem,bg,fN,eK,Ct,qx,iI,ja,c1,c2,c3]
 all_goals first
  | (refine ar (dz h1 hp 5 (by omega)) ?_
     rintro r bx2 ⟨rfl,ad2,fJ,h2⟩
     have cm:=h2.fin
     simp [go_sem,cm]
     refine vY (hk.trans fJ) h2 (fJ _ _ hp rfl) x hx px (i:=i) hi (fJ _ _ hb rfl) ?_ _ (ak (by simp [go_sem,aX,iI]))
     rw [hz]
     simp only [c1,c2,c3,decide_true,decide_false,Bool.true_or,Bool.or_true,Bool.and_true,Bool.true_and,Bool.or_self,IW.aj,if_true,Bool.false_or])
  | (refine vY hk h1 hp x hx px (i:=i) hi hb ?_ _ (ak (by simp [go_sem,aX,iI]))
     rw [hz]
     simp only [c1,c2,c3,decide_true,decide_false,Bool.false_or,Bool.and_false,Bool.false_and,Bool.or_self,IW.aj,Bool.false_eq_true,if_false])
theorem JO {aD bx:aa} {ad:di} {s:IW} (h:WI aD ad s bx) {p:Nat} (hp:ad .w = some p) (x:Ev) (hx:x.bk < s.ai.length) (cQ:x.bk < s.aN.length) (hl:s.aI.length <= 80000) (px:s.ai[x.bk].waits.length <= 90000) :
 aw prog 76 [.ptr p 13 0 0,aX x] bx (dq aD ad (ng s x)):=by
 refine Wc fun hf=>?_
 have cM:=GP h hp x
 have cT:=sL h hp x
 have c4:=dz h hp 4 (by omega)
 have c1:=dz h hp 1 (by omega)
 have e3:s.aN.getD x.bk ⟨0,0,0,0⟩ = s.aN[x.bk]:=by simp [cQ]
 obtain ⟨z,hz⟩:∃ z,ng s x = z:=⟨_,rfl⟩
 rw [hz]
 unfold ng at hz
 rw [e3] at hz
 simp [go_sem,C76,hf,aX,iI]
 rw [jE]
 cases A1:oY s x
 ·rw [A1] at cM hz
  refine ah cM ?_
  simp [go_sem,hf]
  exact al (by simp [go_sem]) (.of hz.symm ⟨by simp [go_sem],ad,bT.refl _,h⟩)
 rw [A1] at cM hz
 simp only [if_true] at hz
 refine ah cM ?_
 simp [go_sem,hf,aX,iI]
 rw [jE]
 cases ho:gi s x with
 | none =>
   rw [ho] at cT hz
   unfold la at cT
   refine ah cT ?_
   simp [go_sem,hf]
   refine ar c4 ?_
   rintro r bP ⟨rfl,ad1,ee,h1⟩
   have bg:=h1.fin
   simp [go_sem,bg]
   exact al (by simp [go_sem]) (.of hz.symm ⟨by simp [go_sem],ad1,ee,h1⟩)
 | some i =>
   rw [ho] at cT hz
   unfold la at cT
   have hi:=(mX ho).1
   obtain ⟨b0,dH,me⟩:=h.EN hi
   have e1:s.aq.getD i kJ = s.aq[i]:=by simp [hi]
   simp only [dJ dH] at cT
   simp only [e1] at hz
   refine ah cT ?_
   by_cases s4:s.aq[i].st = 4
   ·rw [if_pos s4] at hz
    simp [go_sem,hf,me,qx,iI,s4]
    refine ar c4 ?_
    rintro r bP ⟨rfl,ad1,ee,h1⟩
    have bg:=h1.fin
    simp [go_sem,bg]
    exact al (by simp [go_sem]) (.of hz.symm ⟨by simp [go_sem],ad1,ee,h1⟩)
   rw [if_neg s4] at hz
   by_cases s1:s.aq[i].st = 1
   ·rw [if_pos s1] at hz
    simp [go_sem,hf,me,qx,iI,s1]
    refine ar c1 ?_
    rintro r bP ⟨rfl,ad1,ee,h1⟩
    have bg:=h1.fin
    simp [go_sem,bg]
    exact al (by simp [go_sem]) (.of hz.symm ⟨by simp [go_sem],ad1,ee,h1⟩)
   rw [if_neg s1] at hz
   simp [go_sem,hf,me,qx,iI,s4,s1,aX]
   rw [jE]
   refine ar (CK h hp x hx (by omega)) ?_
   have q1:=LH s (gj s x) 9
   generalize s.aj (gj s x) 9 = s1' at *
   obtain ⟨a1,a2,a3,a4,a5,a6,a7,a8⟩:=q1
   rintro r bP ⟨rfl,ad1,ee,h1⟩
   have bg:=h1.fin
   simp [go_sem,bg]
   refine Ej ee h1 (ee _ _ hp rfl) x (by rw [a1]; exact hx) (by rw [a2]; exact cQ) (by omega) (by simp only [a1]; omega) (i:=i) (by rw [a4]; exact hi) (ee _ _ dH rfl) ?_ _ (ak (by simp [go_sem,aX,iI]))
   rw [<- hz]
   simp only [a2,a4,a7]
theorem JP:Bo (dE f75 1) (vS.take 11) (⟨some 17,.call { callee:=.value (.func 118),args:=#[.tmp 15,.tmp 16],argTypes:=#[95,69] },some (14,false),false⟩:bS) (vS.drop 12):=by
 have e:dE f75 1 = .region 1 (oT (dE f75 1)) true:=by kernel_rfl
 rw [e]
 exact ⟨by kernel_rfl,by kernel_rfl,by kernel_rfl,by kernel_rfl,by kernel_rfl⟩
def rL (s:IW) (x:Ev):IW × Bool :=
 match (s.aq.map (·.num)).findIdx? (· == x.conn) with
 | some _=>(s,false)
 | none =>
   let d:=bd s x
   if d.2 then
    let s1:IW:=d.1
    let s2:IW:={ s1 with aq:=s1.aq ++ [(⟨x.conn,x.bk,0,s1.now,-1,0,0,3,0,0⟩:IC)],ord:=s1.ord ++ [x.conn] }
    let b:=s2.ai.getD x.bk gp
    let s3:=s2.aQ x.bk { b with cJ:=cH (b.cJ + 1) }
    (if x.yes then j3 s3 s1.aq.length x else s3,true)
   else (d.1,false)
theorem B5 {aD bx:aa} {ad:di} {s:IW} (h:WI aD ad s bx) {p:Nat} (hp:ad .w = some p) (x:Ev):∃ r bx',dq aD ad (bd s x) r bx':=by
 obtain ⟨pb,pc,pr,pm,pw',hn⟩:=h.names hp
 unfold bd
 split
 ·dsimp only
  have h2:=h.aQ hn x.bk { s.ai.getD x.bk gp with ax:=cH ((s.ai.getD x.bk gp).ax - 1) } (fun b hb=>by rw [List.getD_eq_getElem?_getD,hb]; rfl)
  have h3:=h2.ya hn (nX s.busy x.call)
  unfold aW
  rw [if_pos rfl]
  exact ⟨_,_,rfl,ad,bT.refl _,h3⟩
 ·exact ⟨_,_,rfl,ad,bT.refl _,h⟩
theorem OO {aD bx:aa} {ad:di} {s:IW} (h:WI aD ad s bx) {p:Nat} (hp:ad .w = some p) (x:Ev) (hx:x.bk < s.ai.length) (JQ:s.ord.length <= 90000) :
 aw prog 75 [.ptr p 13 0 0,aX x] bx (dq aD ad (rL s x)):=by
 refine Wb fun hf=>?_
 obtain ⟨pb,pc,pr,pm,pw',hn⟩:=h.names hp
 have au:=h.row hn
 unfold iv at au
 have LD:=h.mcR hn
 have f1:=sK s x.conn ad
 obtain ⟨z,hz⟩:∃ z,rL s x = z:=⟨_,rfl⟩
 rw [hz]
 unfold rL at hz
 simp [go_sem,C75,hf,aX,iI]
 cases h1:(s.aq.map (·.num)).findIdx? (· == x.conn) with
 | some i =>
   rw [h1] at f1 hz
   simp only [Option.map_some] at f1
   refine J5 ?_
   simp [go_sem,vS,hf,au,LD,f1,aX,iI]
   refine js (.bool false) (by simp [go_sem]) ?_
   simp [go_sem,hf]
   exact al (by simp [go_sem]) (.of hz.symm ⟨by simp [go_sem],ad,bT.refl _,h⟩)
 | none =>
   have h1x:=h1
   rw [h1] at f1 hz
   simp only [Option.map_none] at f1
   refine Jo (by kernel_rfl) [0,3,19] JP ?_
   simp [go_sem,vS,hf,au,LD,f1,aX,iI]
   rw [jE]
   refine iL (vW h hp x hx) (B5 h hp x) ?_
   dsimp only at hz
   have hlen:(bd s x).1.ai.length = s.ai.length /\ (bd s x).1.aq = s.aq /\ (bd s x).1.ord = s.ord:=by
    unfold bd
    split
    ·obtain ⟨b1,_,_,_,b5⟩:=na { s with ai:=s.ai.set x.bk { s.ai.getD x.bk gp with ax:=cH ((s.ai.getD x.bk gp).ax - 1) } } x dF
     exact ⟨by dsimp only; rw [b1]; simp,by dsimp only; rw [b5],by dsimp only; unfold aW; split <;> rfl⟩
    ·exact ⟨rfl,rfl,rfl⟩
   generalize bd s x = d at *
   rintro r bP ⟨rfl,ad1,ee,h1⟩
   have bg:=h1.fin
   cases hd:d.2
   ·rw [hd] at hz
    simp [go_sem,bg]
    exact al (by simp [go_sem]) (.of hz.symm ⟨by simp [go_sem],ad1,ee,h1⟩)
   ·rw [hd] at hz
    simp only [if_true] at hz
    generalize d.1 = s1 at *
    have xv:=hn.cw ee
    have fN:=h1.row xv
    unfold iv at fN
    simp [go_sem,bg,fN,aX,iI]
    intro b hb
    have Xe:=h1.mcR xv
    have f2:=sK s1 x.conn ad1
    rw [hlen.2.1,h1x] at f2
    simp only [Option.map_none] at f2
    have hnp:p ≠ b:=by rintro rfl; rw [fN] at hb; cases hb
    have si:pc ≠ b:=by rintro rfl; rw [Xe] at hb; cases hb
    rw [<- hlen.2.1] at f2
    obtain ⟨h2,fJ⟩:=h1.OB xv ⟨x.conn,x.bk,0,s1.now,-1,0,0,3,0,0⟩ hb
    simp only [qx,iI] at h2
    simp [go_sem,bg,ae,hnp,si,fN,Xe,f2]
    generalize (aB (aB bP b (some (bF.row ve 10 [V.agg [V.int .i64 x.conn,V.int .i64 x.bk,V.int .i64 0,V.int .i64 s1.now,V.int .i64 (-1),V.int .i64 0,V.int .i64 0,V.int .i64 3,V.int .i64 0,V.int .i64 0]]))) pc (some (bF.map ((kh (s1.aq.map (fun x=>x.num)) fun i=>V.ptr (nY ad1 (.cn i)) 10 0 0) ++ [(V.int .i64 x.conn,V.ptr b 10 0 0)])))) = bx2 at *
    obtain ⟨ad2,Xf⟩:∃ ad2,eS ad1 (.cn s1.aq.length) (some b) = ad2:=⟨_,rfl⟩
    have Ax:ad2 (.cn s1.aq.length) = some b:=by rw [<- Xf]; exact ij _ _ _
    rw [Xf] at h2 fJ
    obtain ⟨s2,nA⟩:∃ s2:IW,({ s1 with aq:=s1.aq ++ [(⟨x.conn,x.bk,0,s1.now,-1,0,0,3,0,0⟩:IC)] }:IW) = s2:=⟨_,rfl⟩
    have h2:WI aD ad2 s2 bx2:=by rw [<- nA]; exact h2
    have F5:=xv.cw fJ
    have fO:=h2.row F5
    unfold iv at fO
    have cm:=h2.fin
    have ho2:=h2.WU
    simp [go_sem,cm,fO,aX,iI]
    refine dx (.int .i64 0) ho2 cm (news:=[iI x.conn]) mS Bq (by simp [go_sem,bM,iI]) tR (by simp [go_sem]) (by decide) (by have:=hlen.2.2; simp [FP,<- nA,this]; omega) (by have:=hlen.2.2; simp [<- nA,this]; omega) (by simp [go_sem]) fun v' bx' ha hm _=>?_
    have fI:aY bx' 2 1 ((s2.ord ++ [x.conn]).map iI) v':=by simpa using ha
    have h3:=h2.O9 F5 x.conn hm fI
    have OP:bx' p = _:=(hm.other (by rw [fO]; simp) (ho2.ne fO (by decide))).trans fO
    have lU:=hm.fin
    unfold iv at h3
    simp only [iI] at h3
    simp [go_sem,OP,ha.strip,ha.live,ha.cells,ha.okV,lU,iI]
    generalize (aB bx' p (some (bF.row LA 13 [V.agg [V.sl 4 (s2.aN.map bG),V.int .i64 s2.most,V.sl 8 (s2.kO.map ey),V.int .i64 s2.now,V.int .i64 s2.at_,V.own pb 6 0 s2.ai.length,V.mp pc,v',V.mp pr,V.mp pm,V.mp pw',V.bool s2.stop,jJ (ad2 .aI) 2 s2.aI.length]]))) = bx3 at *
    obtain ⟨ad3,Xg⟩:∃ ad3,eS ad2 .ord (qN v') = ad3:=⟨_,rfl⟩
    have CL:bT ad2 ad3:=by rw [<- Xg]; exact WI.cw rfl _
    rw [Xg] at h3
    have uN:=F5.cw CL
    have lU:=h3.fin
    have B4:=h3.mW uN
    have cQ:x.bk < s2.ai.length:=by rw [<- nA]; show x.bk < s1.ai.length; rw [hlen.1]; exact hx
    have h4:=h3.lb uN (i:=x.bk) cQ { s2.ai[x.bk] with cJ:=cH (s2.ai[x.bk].cJ + 1) } rfl
    have cz:s2.ai.getD x.bk gp = s2.ai[x.bk]:=by simp [cQ]
    have jj:s2.aq.length = s1.aq.length + 1:=by rw [<- nA]; simp
    have Bc:z = (if x.yes then j3 (IW.aQ { s2 with ord:=s2.ord ++ [x.conn] } x.bk { s2.ai[x.bk] with cJ:=cH (s2.ai[x.bk].cJ + 1) }) s1.aq.length x else IW.aQ { s2 with ord:=s2.ord ++ [x.conn] } x.bk { s2.ai[x.bk] with cJ:=cH (s2.ai[x.bk].cJ + 1) },true):=by
     rw [<- hz,<- cz,<- nA]
    have ja:∀ a:Int,IntKind.i64.wrap a = cH a:=fun a=>rfl
    simp only [iq,kZ,iI] at h4
    have lI:=h4.fin
    cases hy:x.yes
    ·simp [go_sem,lU,B4,cQ,iq,kZ,iI,ja,hy]
     exact al (by simp [go_sem]) (.of (z':=(IW.aQ { s2 with ord:=s2.ord ++ [x.conn] } x.bk { s2.ai[x.bk] with cJ:=cH (s2.ai[x.bk].cJ + 1) },true)) (by rw [Bc,hy]; rfl) ⟨by simp [go_sem],ad3,(ee.trans fJ).trans CL,h4⟩)
    ·simp [go_sem,lU,B4,cQ,iq,kZ,iI,ja,hy]
     have evh:V.agg [V.int .i64 x.kind,V.int .i64 x.bk,V.int .i64 x.t,V.int .i64 x.call,V.int .i64 x.conn,V.int .i64 x.kf,V.int .i64 x.n,V.bool true] = aX x:=by rw [<- jE x,hy]
     rw [evh]
     refine ar (GU h4 uN.w x (i:=s1.aq.length) (by show s1.aq.length < s2.aq.length; omega) (CL _ _ Ax rfl)) ?_
     rintro r jt ⟨rfl,ad5,EO,h5⟩
     have nG:=h5.fin
     simp [go_sem,nG]
     exact al (by simp [go_sem]) (.of (z':=(j3 (IW.aQ { s2 with ord:=s2.ord ++ [x.conn] } x.bk { s2.ai[x.bk] with cJ:=cH (s2.ai[x.bk].cJ + 1) }) s1.aq.length x,true)) (by rw [Bc,hy]; rfl) ⟨by simp [go_sem],ad5,((ee.trans fJ).trans CL).trans EO,h5⟩)
end Go.Proofs
