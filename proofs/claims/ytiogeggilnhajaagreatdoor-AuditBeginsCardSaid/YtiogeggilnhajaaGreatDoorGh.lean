/- Texts of the proof, put together: UA, UB, UC, VA, VB, VC, VD, VE, VF, VG, VH, VI, VJ, VK, VL. -/
import Derived.Test.YtiogeggilnhajaaGreatDoorGg
import Derived.Test.YtiogeggilnhajaaGreatDoorGd
import Derived.Test.YtiogeggilnhajaaGreatDoorGe

set_option linter.unusedSimpArgs false
set_option linter.unusedVariables false
set_option maxRecDepth 100000
namespace Go.Proofs
open Go Go.Pl
def iI (n : Int) : V := .int .i64 n
def w64 (n : Int) : Int := IntKind.i64.wrap n
structure Ev where
 kind : Int
 bk : Nat
 t : Int
 call : Int
 conn : Int
 of_ : Int
 n : Int
 yes : Bool
deriving DecidableEq
structure Ex where
 ev : Ev
 b : Int
deriving DecidableEq
structure Lim where
 max : Int
 queue : Int
 idle : Int
 age : Int
deriving DecidableEq
structure RB where
 down : Bool
 brk : Int
 probe : Int
 dials : List Int
 waits : List Int
structure RC where
 num : Int
 bk : Int
 st : Int
 call : Int
 born : Int
 since : Int
 fin : Int
 leases : Int
 sent : Int
 read : Int
structure RR where
 call : Int
 idem : Bool
 picks : Int
 at_ : Int
 sent : Int
 ended : Bool
structure RW where
 lims : List Lim
 most : Int
 evs : List Ex
 now : Int
 bks : List RB
 cns : List RC
 rqs : List RR
 stop : Bool
 ev : Int
 flt : List (Int × Int)
def evV (x : Ev) : V := .agg [iI x.kind, iI x.bk, iI x.t, iI x.call, iI x.conn, iI x.of_, iI x.n, .bool x.yes]
def evW (x : Ev) (b : Int) : V := .agg [iI x.kind, iI b, iI x.t, iI x.call, iI x.conn, iI x.of_, iI x.n, .bool x.yes]
def exV (x : Ex) : V := evW x.ev x.b
def limV (x : Lim) : V := .agg [iI x.max, iI x.queue, iI x.idle, iI x.age]
def rcV (c : RC) : V := .agg [iI c.num, iI c.bk, iI c.st, iI c.call, iI c.born, iI c.since, iI c.fin, iI c.leases, iI c.sent, iI c.read]
def rrV (r : RR) : V := .agg [iI r.call, .bool r.idem, iI r.picks, iI r.at_, iI r.sent, .bool r.ended]
def fltV (f : Int × Int) : V := .agg [iI f.1, iI f.2]
def OwnV (bx : Boxes) (ty : TypeId) (sz : Nat) (es : List V) (v : V) : Prop := (es = [] ∧ v = .nils) ∨ ∃ b, v = .own b sz 0 es.length ∧ bx b = some (.row ty sz es)
theorem OwnV.of {bx0 bx : Boxes} {e sz : Nat} {es : List V} {v : V} (h : Acc bx0 e sz es v bx) : OwnV bx e sz es v := by
 rcases h.is with h | ⟨b, _, h1, h2⟩
 · exact .inl h
 · exact .inr ⟨b, h1, h2⟩
theorem OwnV.strip {bx : Boxes} {e sz : Nat} {es : List V} {v : V} (h : OwnV bx e sz es v) : v.strip = v := by
 rcases h with ⟨_, rfl⟩ | ⟨b, rfl, _⟩ <;> rfl
theorem OwnV.live {bx : Boxes} {e sz : Nat} {es : List V} {v : V} (h : OwnV bx e sz es v) : v.liveB = true := by
 rcases h with ⟨_, rfl⟩ | ⟨b, rfl, _⟩ <;> rfl
theorem OwnV.cells {bx : Boxes} {e sz : Nat} {es : List V} {v : V} (h : OwnV bx e sz es v) : v.cells = [v] := by
 rcases h with ⟨_, rfl⟩ | ⟨b, rfl, _⟩ <;> rfl
theorem OwnV.okV {bx : Boxes} {e sz : Nat} {es : List V} {v : V} (h : OwnV bx e sz es v) : okV v = true := by
 rcases h with ⟨_, rfl⟩ | ⟨b, rfl, _⟩ <;> rfl
def clr (v : V) (bx : Boxes) : Boxes := match v with | .own b _ _ _ => upd bx b none | _ => bx
theorem OwnV.acc {bx : Boxes} {e sz : Nat} {es : List V} {v : V} (h : OwnV bx e sz es v) (hf : FinB bx) : Acc (clr v bx) e sz es v bx := by
 rcases h with ⟨h1, rfl⟩ | ⟨b, rfl, hb⟩
 · exact ⟨Ext.refl _, hf, .inl ⟨h1, rfl⟩⟩
 · refine ⟨fun c hc => ?_, hf, .inr ⟨b, upd_eq _ _ _, rfl, hb⟩⟩
   by_cases e1 : c = b
   · subst e1; exact absurd (upd_eq _ _ _) hc
   · exact (upd_ne _ _ e1).symm
def NewV (bx0 : Boxes) (v : V) : Prop := ∀ b sz o m, v = .own b sz o m → bx0 b = none
structure Moved (v v' : V) (bx bx' : Boxes) : Prop where
 fin : FinB bx'
 ext : Ext (clr v bx) bx'
 new : NewV (clr v bx) v'
theorem Moved.other {v v' : V} {bx bx' : Boxes} (h : Moved v v' bx bx') {b : Nat} (hb : bx b ≠ none) (hne : ∀ sz o m, v ≠ .own b sz o m) : bx' b = bx b := by
 have : clr v bx b = bx b := by
   unfold clr
   split
   · rename_i c _ _ _
     exact upd_ne _ _ (by rintro rfl; exact hne _ _ _ rfl)
   · rfl
 rw [h.ext b (by rw [this]; exact hb), this]
theorem Moved.base {bx0 : Boxes} {v v' : V} {bx bx' : Boxes} (h : Moved v v' bx bx') (he : Ext bx0 bx) (hn : NewV bx0 v) : Ext bx0 bx' ∧ NewV bx0 v' := by
 have hc : ∀ b, bx0 b ≠ none → clr v bx b = bx b := by
   intro b hb
   unfold clr
   split
   · rename_i c _ _ _
     exact upd_ne _ _ (by rintro rfl; exact hb (hn _ _ _ _ rfl))
   · rfl
 refine ⟨fun b hb => ?_, fun b sz o m e => ?_⟩
 · rw [h.ext b (by rw [hc b hb, he b hb]; exact hb), hc b hb, he b hb]
 · have h1 := h.new b sz o m e
   cases h2 : bx0 b with
   | none => rfl
   | some x =>
     rw [hc b (by rw [h2]; simp), he b (by rw [h2]; simp), h2] at h1
     cases h1
theorem OwnV.keep {v v' : V} {bx bx' : Boxes} {e sz : Nat} {es : List V} {u : V} (h : OwnV bx e sz es u) (hm : Moved v v' bx bx') (hne : ∀ b sz o m sz' o' m', v = .own b sz o m → u ≠ .own b sz' o' m') : OwnV bx' e sz es u := by
 rcases h with h | ⟨b, rfl, hb⟩
 · exact .inl h
 · exact .inr ⟨b, rfl, by rw [hm.other (by rw [hb]; simp) fun sz' o m e1 => hne _ _ _ _ _ _ _ e1 rfl, hb]⟩
theorem own_ne {bx : Boxes} {e e' sz sz' : Nat} {es es' : List V} {v u : V} (h : OwnV bx e sz es v) (h' : OwnV bx e' sz' es' u) (hne : e ≠ e') : ∀ b sz o m sz' o' m', v = .own b sz o m → u ≠ .own b sz' o' m' := by
 rintro b _ _ _ _ _ _ rfl rfl
 rcases h with ⟨_, h⟩ | ⟨c, h, hc⟩
 · cases h
 rcases h' with ⟨_, h'⟩ | ⟨d, h', hd⟩
 · cases h'
 injection h with h; injection h' with h'
 subst h h'
 rw [hc] at hd
 injection hd with hd
 injection hd with hd
 exact hne hd
theorem own_app {bx : Boxes} {e sz : Nat} {es news : List V} {v x : V} {t : TypeId} {dst : Option Tmp} {n : Nat} {sl : Nat → V} {K : St → Prop} (z : Value)
   (ha : OwnV bx e sz es v) (hf : FinB bx) (hk : knd Tryz.prog t = .slice e) (hsz : tsz Tryz.prog e = sz) (src : srcEls ⟨n, sl, bx⟩ sz x = some news) (hz : tzero Tryz.prog e = some z) (hst : storable Tryz.prog e (ofValue z)) (hpos : 0 < sz)
   (hby : (es.length + news.length) * tby Tryz.prog e ≤ 140737488355328) (hlen : es.length + news.length ≤ 9223372036854775807) (hd : dstOk ⟨n, sl, bx⟩ dst)
   (hK : ∀ v' bx', OwnV bx' e sz (es ++ news) v' → Moved v v' bx bx' → v' ≠ .nils ∨ es ++ news = [] → K (St.put ⟨n, sl, bx'⟩ dst v')) : appendA Tryz.prog ⟨n, sl, bx⟩ dst t v x K :=
 acc_append z (ha.acc hf) (Ext.refl _) hf hk hsz src hz hst hpos hby hlen hd fun v' bx' h => hK v' bx' (.of h) ⟨h.fin, h.ext, fun b sz o m e1 => by
   rcases h.is with ⟨_, h1⟩ | ⟨b', h1, h2, _⟩
   · rw [h1] at e1; cases e1
   · rw [h2] at e1; injection e1 with e1; subst e1; exact h1⟩ (by
   rcases h.is with ⟨h1, _⟩ | ⟨b', h1, h2, _⟩
   · exact .inr h1
   · rw [h2]; exact .inl (by simp))
end Go.Proofs

set_option linter.unusedSimpArgs false
set_option linter.unusedVariables false
set_option maxRecDepth 100000
namespace Go.Proofs
open Go Go.Pl
theorem own_len {bx bx2 : Boxes} {e t : TypeId} {sz : Nat} {es : List V} {v : V} {P : Program} (ha : OwnV bx e sz es v) {e' : TypeId} (ht : knd P t = .slice e') : lenV P bx2 t v = (True, .int .i64 es.length) := by
 unfold lenV
 rw [ht]
 rcases ha with ⟨rfl, rfl⟩ | ⟨b, rfl, g2⟩ <;> simp [V.strip, V.liveB]
structure RN where
 p : Nat
 bb : Nat
 cv : V
 rv : V
 fv : V
 dv : Nat → V
 wv : Nat → V
def bkV (dv wv : Nat → V) (i : Nat) (b : RB) : V := .agg [.bool b.down, iI b.brk, iI b.probe, dv i, wv i]
def rwV (n : RN) (w : RW) : V := .agg [.sl 4 (w.lims.map limV), iI w.most, .sl 8 (w.evs.map exV), iI w.now, .own n.bb 5 0 w.bks.length, n.cv, n.rv, .bool w.stop, iI w.ev, n.fv]
structure WR (bx0 : Boxes) (n : RN) (w : RW) (bx : Boxes) : Prop where
 fin : FinB bx
 ext : Ext bx0 bx
 np : bx0 n.p = none
 nb : bx0 n.bb = none
 nc : NewV bx0 n.cv
 nr : NewV bx0 n.rv
 nf : NewV bx0 n.fv
 nd : ∀ i, i < w.bks.length → NewV bx0 (n.dv i)
 nw : ∀ i, i < w.bks.length → NewV bx0 (n.wv i)
 row : bx n.p = some (.row 103 10 [rwV n w])
 bks : bx n.bb = some (.row 209 5 (w.bks.mapIdx (bkV n.dv n.wv)))
 cns : OwnV bx 108 10 (w.cns.map rcV) n.cv
 rqs : OwnV bx 205 6 (w.rqs.map rrV) n.rv
 flt : OwnV bx 66 2 (w.flt.map fltV) n.fv
 dia : ∀ i b, w.bks[i]? = some b → OwnV bx 2 1 (b.dials.map iI) (n.dv i)
 wai : ∀ i b, w.bks[i]? = some b → OwnV bx 2 1 (b.waits.map iI) (n.wv i)
 dd : ∀ i j b s o m s' o' m', i < w.bks.length → j < w.bks.length → n.dv i = .own b s o m → n.dv j = .own b s' o' m' → i = j
 ww : ∀ i j b s o m s' o' m', i < w.bks.length → j < w.bks.length → n.wv i = .own b s o m → n.wv j = .own b s' o' m' → i = j
 dw : ∀ i j b s o m s' o' m', i < w.bks.length → j < w.bks.length → n.dv i = .own b s o m → n.wv j ≠ .own b s' o' m'
 sm : w.bks.length ≤ 1000 ∧ w.cns.length ≤ 100000 ∧ w.rqs.length ≤ 100000 ∧ w.flt.length ≤ 100000 ∧ ∀ b, b ∈ w.bks → b.dials.length ≤ 100000 ∧ b.waits.length ≤ 100000
def findR (w : RW) (call : Int) : Option Nat := w.rqs.findIdx? (fun r => r.call == call)
def thereR (w : RW) (num : Int) (b : Int) : Option Nat := w.cns.findIdx? (fun c => c.num == num && c.bk == b && c.st != 5)
theorem OwnV.at {bx : Boxes} {e sz : Nat} {es : List V} {v : V} (h : OwnV bx e sz es v) (hl : 0 < es.length) : ∃ b, v = .own b sz 0 es.length ∧ bx b = some (.row e sz es) := by
 rcases h with ⟨h1, _⟩ | h
 · rw [h1] at hl; cases hl
 · exact h
def ownR (w : RW) (x : Ev) : Option Nat := match thereR w x.conn x.bk with
 | some i => match w.cns[i]? with
   | some c => if c.st = 1 ∧ c.call = x.call then some i else none
   | none => none
 | none => none
end Go.Proofs

set_option linter.unusedSimpArgs false
set_option linter.unusedVariables false
set_option maxRecDepth 100000
namespace Go.Proofs
open Go Go.Pl
theorem OwnV.put {bx : Boxes} {e sz : Nat} {es : List V} {u : V} (h : OwnV bx e sz es u) {p : Nat} {ty0 sz0 : Nat} {es0 : List V} (hp : bx p = some (.row ty0 sz0 es0)) (hne : e ≠ ty0) (x : Option Box) : OwnV (upd bx p x) e sz es u := by
 rcases h with h | ⟨b, rfl, hb⟩
 · exact .inl h
 · refine .inr ⟨b, rfl, ?_⟩
   rw [upd_ne _ _ (by rintro rfl; rw [hp] at hb; injection hb with hb; injection hb with hb; exact hne hb.symm), hb]
theorem OwnV.ne {bx : Boxes} {e sz : Nat} {es : List V} {u : V} (h : OwnV bx e sz es u) {p : Nat} {ty0 sz0 : Nat} {es0 : List V} (hp : bx p = some (.row ty0 sz0 es0)) (hne : e ≠ ty0) : ∀ sz o m, u ≠ .own p sz o m := by
 rintro _ _ _ rfl
 rcases h with ⟨_, h⟩ | ⟨b, h, hb⟩
 · cases h
 · injection h with h
   subst h
   rw [hp] at hb
   injection hb with hb
   injection hb with hb
   exact hne hb.symm
theorem ext_upd {bx0 bx : Boxes} (h : Ext bx0 bx) {p : Nat} (hp : bx0 p = none) (x : Option Box) : Ext bx0 (upd bx p x) := fun b hb => by
 rw [upd_ne _ _ (by rintro rfl; exact hb hp), h b hb]
theorem Moved.ne {v v' : V} {bx bx' : Boxes} (h : Moved v v' bx bx') {p : Nat} (hp : bx p ≠ none) (hne : ∀ sz o m, v ≠ .own p sz o m) : ∀ sz o m, v' ≠ .own p sz o m := fun sz o m e => by
 have h1 := h.new p sz o m e
 have : clr v bx p = bx p := by
   unfold clr
   split
   · rename_i c _ _ _
     exact upd_ne _ _ (by rintro rfl; exact hne _ _ _ rfl)
   · rfl
 rw [this] at h1
 exact hp h1
abbrev tyW : TypeId := 103
abbrev tyB : TypeId := 209
abbrev tyF : TypeId := 66
theorem WR.world {bx0 bx : Boxes} {n : RN} {w : RW} (h : WR bx0 n w bx) (w' : RW) (hb : w'.bks = w.bks) (hc : w'.cns = w.cns) (hr : w'.rqs = w.rqs) (hf : w'.flt = w.flt) : WR bx0 n w' (upd bx n.p (some (.row tyW 10 [rwV n w']))) := by
 have hne : n.bb ≠ n.p := fun e => by have h1 := h.bks; rw [e, h.row] at h1; injection h1 with h1; injection h1 with h1; revert h1; decide
 exact ⟨(finB_upd _ _ _).2 h.fin, ext_upd h.ext h.np _, h.np, h.nb, h.nc, h.nr, h.nf, by rw [hb]; exact h.nd, by rw [hb]; exact h.nw, upd_eq _ _ _, by rw [upd_ne _ _ hne, hb]; exact h.bks,
   by rw [hc]; exact h.cns.put h.row (by decide) _, by rw [hr]; exact h.rqs.put h.row (by decide) _, by rw [hf]; exact h.flt.put h.row (by decide) _,
   fun i b hi => (h.dia i b (by rw [← hb]; exact hi)).put h.row (by decide) _, fun i b hi => (h.wai i b (by rw [← hb]; exact hi)).put h.row (by decide) _, by rw [hb]; exact h.dd, by rw [hb]; exact h.ww, by rw [hb]; exact h.dw, by rw [hb, hc, hr, hf]; exact h.sm⟩
theorem WR.fault {bx0 bx bx' : Boxes} {n : RN} {w : RW} (h : WR bx0 n w bx) {f : Int × Int} {v' : V} (hl : w.flt.length < 100000) (ha : OwnV bx' tyF 2 (w.flt.map fltV ++ [fltV f]) v') (hm : Moved n.fv v' bx bx') :
   WR bx0 { n with fv := v' } { w with flt := w.flt ++ [f] } (upd bx' n.p (some (.row tyW 10 [rwV { n with fv := v' } { w with flt := w.flt ++ [f] }]))) := by
 have hp : bx' n.p = some (.row tyW 10 [rwV n w]) := by rw [hm.other (by rw [h.row]; simp) (h.flt.ne h.row (by decide)), h.row]
 have hbb : bx' n.bb = some (.row tyB 5 (w.bks.mapIdx (bkV n.dv n.wv))) := by rw [hm.other (by rw [h.bks]; simp) (h.flt.ne h.bks (by decide)), h.bks]
 have hne : n.bb ≠ n.p := fun e => by rw [e, hp] at hbb; injection hbb with h1; injection h1 with h1; revert h1; decide
 obtain ⟨e1, e2⟩ := hm.base h.ext h.nf
 have k {e sz : Nat} {es : List V} {u : V} (hu : OwnV bx e sz es u) (h1 : e ≠ tyF) (h2 : e ≠ tyW) : OwnV (upd bx' n.p (some (.row tyW 10 [rwV { n with fv := v' } { w with flt := w.flt ++ [f] }]))) e sz es u :=
   (hu.keep hm (own_ne h.flt hu (Ne.symm h1))).put hp h2 _
 exact ⟨(finB_upd _ _ _).2 hm.fin, ext_upd e1 h.np _, h.np, h.nb, h.nc, h.nr, e2, h.nd, h.nw, upd_eq _ _ _, by rw [upd_ne _ _ hne]; exact hbb, k h.cns (by decide) (by decide), k h.rqs (by decide) (by decide), by simpa using ha.put hp (by decide) _,
   fun i b hi => k (h.dia i b hi) (by decide) (by decide), fun i b hi => k (h.wai i b hi) (by decide) (by decide), h.dd, h.ww, h.dw, by
     have := h.sm
     simp only [List.length_append, List.length_singleton]
     exact ⟨this.1, this.2.1, this.2.2.1, by omega, this.2.2.2.2⟩⟩
theorem OwnV.set {bx : Boxes} {e sz : Nat} {es es' : List V} {u : V} {b : Nat} (hu : u = .own b sz 0 es.length) (hl : es'.length = es.length) : OwnV (upd bx b (some (.row e sz es'))) e sz es' u :=
 .inr ⟨b, by rw [hu, hl], upd_eq _ _ _⟩
theorem mapIdx_setW {l : List RB} {i : Nat} {dv wv : Nat → V} (x : RB) (v : V) : (l.mapIdx (bkV dv wv)).set i (bkV dv (upd wv i v) i x) = (l.set i x).mapIdx (bkV dv (upd wv i v)) := by
 apply List.ext_getElem?
 intro j
 rw [List.getElem?_set, List.getElem?_mapIdx, List.getElem?_mapIdx, List.getElem?_set]
 by_cases e : i = j
 · subst e
   simp
 · simp only [e, if_false]
   cases l[j]? with
   | none => rfl
   | some y => simp [bkV, upd_ne _ _ (Ne.symm e)]
theorem mapIdx_setD {l : List RB} {i : Nat} {dv wv : Nat → V} (x : RB) (v : V) : (l.mapIdx (bkV dv wv)).set i (bkV (upd dv i v) wv i x) = (l.set i x).mapIdx (bkV (upd dv i v) wv) := by
 apply List.ext_getElem?
 intro j
 rw [List.getElem?_set, List.getElem?_mapIdx, List.getElem?_mapIdx, List.getElem?_set]
 by_cases e : i = j
 · subst e
   simp
 · simp only [e, if_false]
   cases l[j]? with
   | none => rfl
   | some y => simp [bkV, upd_ne _ _ (Ne.symm e)]
theorem WR.waits {bx0 bx bx' : Boxes} {n : RN} {w : RW} (h : WR bx0 n w bx) {i : Nat} (hi : i < w.bks.length) {l : List Int} {v' : V} (hl : l.length ≤ 100000) (ha : OwnV bx' 2 1 (l.map iI) v') (hm : Moved (n.wv i) v' bx bx') :
   WR bx0 { n with wv := upd n.wv i v' } { w with bks := w.bks.set i { w.bks[i] with waits := l } } (upd bx' n.bb (some (.row tyB 5 ((w.bks.mapIdx (bkV n.dv n.wv)).set i (bkV n.dv (upd n.wv i v') i { w.bks[i] with waits := l }))))) := by
 have hwi := h.wai i _ (List.getElem?_eq_getElem hi)
 have hp : bx' n.p = some (.row tyW 10 [rwV n w]) := by rw [hm.other (by rw [h.row]; simp) (hwi.ne h.row (by decide)), h.row]
 have hbb : bx' n.bb = some (.row tyB 5 (w.bks.mapIdx (bkV n.dv n.wv))) := by rw [hm.other (by rw [h.bks]; simp) (hwi.ne h.bks (by decide)), h.bks]
 have hne : n.p ≠ n.bb := fun e => by rw [← e, hp] at hbb; injection hbb with h1; injection h1 with h1; revert h1; decide
 obtain ⟨e1, e2⟩ := hm.base h.ext (h.nw i hi)
 have k {e sz : Nat} {es : List V} {u : V} (hu : OwnV bx e sz es u) (h1 : ∀ b sz o m sz' o' m', n.wv i = .own b sz o m → u ≠ .own b sz' o' m') (h2 : e ≠ tyB) (x : Option Box) : OwnV (upd bx' n.bb x) e sz es u :=
   (hu.keep hm h1).put hbb h2 _
 have hv' (u : V) (es : List V) (hu : OwnV bx 2 1 es u) (hne : ∀ b s o m s' o' m', n.wv i = .own b s o m → u ≠ .own b s' o' m') : ∀ b s o m s' o' m', v' = .own b s o m → u ≠ .own b s' o' m' := by
   rintro b s o m s' o' m' e1 rfl
   rcases hu with ⟨_, h1⟩ | ⟨b', h1, h2⟩
   · cases h1
   · injection h1 with h1
     subst h1
     have h3 : ∀ sz o m, n.wv i ≠ .own b sz o m := fun sz o m e => hne _ _ _ _ _ _ _ e rfl
     exact hm.ne (p := b) (by rw [h2]; simp) h3 s o m e1
 refine ⟨(finB_upd _ _ _).2 hm.fin, ext_upd e1 h.nb _, h.np, h.nb, h.nc, h.nr, h.nf, by simpa using h.nd, fun j hj => ?_, by rw [upd_ne _ _ hne, hp]; simp [rwV], by rw [upd_eq, mapIdx_setW],
   k h.cns (own_ne hwi h.cns (by decide)) (by decide) _, k h.rqs (own_ne hwi h.rqs (by decide)) (by decide) _, k h.flt (own_ne hwi h.flt (by decide)) (by decide) _, fun j b hj => ?_, fun j b hj => ?_, by simpa using h.dd, ?_, ?_, ?_⟩
 · by_cases e : j = i
   · subst e; simp only [upd_eq]; exact e2
   · simp only [upd_ne _ _ e]; exact h.nw j (by simpa using hj)
 · have hj' : ∃ b', w.bks[j]? = some b' ∧ b.dials = b'.dials := by
     by_cases e : i = j
     · subst e
       rw [List.getElem?_set_self hi] at hj
       injection hj with hj
       subst hj
       exact ⟨_, List.getElem?_eq_getElem hi, rfl⟩
     · rw [List.getElem?_set_ne e] at hj
       exact ⟨b, hj, rfl⟩
   obtain ⟨b', h1, h2⟩ := hj'
   have hjl : j < w.bks.length := (List.getElem?_eq_some_iff.1 h1).1
   rw [h2]
   exact k (h.dia j b' h1) (fun b sz o m sz' o' m' e1 e2 => h.dw j i _ _ _ _ _ _ _ hjl hi e2 e1) (by decide) _
 · by_cases e : j = i
   · subst e
     rw [List.getElem?_set_self hi] at hj
     injection hj with hj
     subst hj
     simp only [upd_eq]
     exact ha.put hbb (by decide) _
   · rw [List.getElem?_set_ne (Ne.symm e)] at hj
     have hjl : j < w.bks.length := (List.getElem?_eq_some_iff.1 hj).1
     simp only [upd_ne _ _ e]
     exact k (h.wai j b hj) (fun b sz o m sz' o' m' e1 e2 => e (h.ww i j _ _ _ _ _ _ _ hi hjl e1 e2).symm) (by decide) _
 · intro a b c s o m s' o' m' ha' hb' h1 h2
   simp only [List.length_set] at ha' hb'
   by_cases ea : a = i <;> by_cases eb : b = i
   · rw [ea, eb]
   · subst ea
     simp only [upd_eq, upd_ne _ _ eb] at h1 h2
     exact absurd h2 (hv' _ _ (h.wai b _ (List.getElem?_eq_getElem hb')) (fun b2 s o m s' o' m' e1 e2 => eb (h.ww a b _ _ _ _ _ _ _ ha' hb' e1 e2).symm) _ _ _ _ _ _ _ h1)
   · subst eb
     simp only [upd_eq, upd_ne _ _ ea] at h1 h2
     exact absurd h1 (hv' _ _ (h.wai a _ (List.getElem?_eq_getElem ha')) (fun b2 s o m s' o' m' e1 e2 => ea (h.ww b a _ _ _ _ _ _ _ hb' ha' e1 e2).symm) _ _ _ _ _ _ _ h2)
   · simp only [upd_ne _ _ ea, upd_ne _ _ eb] at h1 h2
     exact h.ww a b _ _ _ _ _ _ _ ha' hb' h1 h2
 · intro a b c s o m s' o' m' ha' hb' h1 h2
   simp only [List.length_set] at ha' hb'
   by_cases eb : b = i
   · subst eb
     simp only [upd_eq] at h2
     exact absurd h1 (hv' _ _ (h.dia a _ (List.getElem?_eq_getElem ha')) (fun b2 s o m s' o' m' e1 e2 => h.dw a b _ _ _ _ _ _ _ ha' hb' e2 e1) _ _ _ _ _ _ _ h2)
   · simp only [upd_ne _ _ eb] at h2
     exact h.dw a b _ _ _ _ _ _ _ ha' hb' h1 h2
 · have := h.sm
   refine ⟨by simpa using this.1, this.2.1, this.2.2.1, this.2.2.2.1, fun b hb => ?_⟩
   rcases List.mem_or_eq_of_mem_set hb with hb | rfl
   · exact this.2.2.2.2 b hb
   · exact ⟨(this.2.2.2.2 _ (List.getElem_mem hi)).1, hl⟩
theorem WR.dials {bx0 bx bx' : Boxes} {n : RN} {w : RW} (h : WR bx0 n w bx) {i : Nat} (hi : i < w.bks.length) {l : List Int} {v' : V} (hl : l.length ≤ 100000) (ha : OwnV bx' 2 1 (l.map iI) v') (hm : Moved (n.dv i) v' bx bx') :
   WR bx0 { n with dv := upd n.dv i v' } { w with bks := w.bks.set i { w.bks[i] with dials := l } } (upd bx' n.bb (some (.row tyB 5 ((w.bks.mapIdx (bkV n.dv n.wv)).set i (bkV (upd n.dv i v') n.wv i { w.bks[i] with dials := l }))))) := by
 have hwi := h.dia i _ (List.getElem?_eq_getElem hi)
 have hp : bx' n.p = some (.row tyW 10 [rwV n w]) := by rw [hm.other (by rw [h.row]; simp) (hwi.ne h.row (by decide)), h.row]
 have hbb : bx' n.bb = some (.row tyB 5 (w.bks.mapIdx (bkV n.dv n.wv))) := by rw [hm.other (by rw [h.bks]; simp) (hwi.ne h.bks (by decide)), h.bks]
 have hne : n.p ≠ n.bb := fun e => by rw [← e, hp] at hbb; injection hbb with h1; injection h1 with h1; revert h1; decide
 obtain ⟨e1, e2⟩ := hm.base h.ext (h.nd i hi)
 have k {e sz : Nat} {es : List V} {u : V} (hu : OwnV bx e sz es u) (h1 : ∀ b sz o m sz' o' m', n.dv i = .own b sz o m → u ≠ .own b sz' o' m') (h2 : e ≠ tyB) (x : Option Box) : OwnV (upd bx' n.bb x) e sz es u :=
   (hu.keep hm h1).put hbb h2 _
 have hv' (u : V) (es : List V) (hu : OwnV bx 2 1 es u) (hne : ∀ b s o m s' o' m', n.dv i = .own b s o m → u ≠ .own b s' o' m') : ∀ b s o m s' o' m', v' = .own b s o m → u ≠ .own b s' o' m' := by
   rintro b s o m s' o' m' e1 rfl
   rcases hu with ⟨_, h1⟩ | ⟨b', h1, h2⟩
   · cases h1
   · injection h1 with h1
     subst h1
     have h3 : ∀ sz o m, n.dv i ≠ .own b sz o m := fun sz o m e => hne _ _ _ _ _ _ _ e rfl
     exact hm.ne (p := b) (by rw [h2]; simp) h3 s o m e1
 refine ⟨(finB_upd _ _ _).2 hm.fin, ext_upd e1 h.nb _, h.np, h.nb, h.nc, h.nr, h.nf, fun j hj => ?_, by simpa using h.nw, by rw [upd_ne _ _ hne, hp]; simp [rwV], by rw [upd_eq, mapIdx_setD],
   k h.cns (own_ne hwi h.cns (by decide)) (by decide) _, k h.rqs (own_ne hwi h.rqs (by decide)) (by decide) _, k h.flt (own_ne hwi h.flt (by decide)) (by decide) _, fun j b hj => ?_, fun j b hj => ?_, ?_, by simpa using h.ww, ?_, ?_⟩
 · by_cases e : j = i
   · subst e; simp only [upd_eq]; exact e2
   · simp only [upd_ne _ _ e]; exact h.nd j (by simpa using hj)
 · by_cases e : j = i
   · subst e
     rw [List.getElem?_set_self hi] at hj
     injection hj with hj
     subst hj
     simp only [upd_eq]
     exact ha.put hbb (by decide) _
   · rw [List.getElem?_set_ne (Ne.symm e)] at hj
     have hjl : j < w.bks.length := (List.getElem?_eq_some_iff.1 hj).1
     simp only [upd_ne _ _ e]
     exact k (h.dia j b hj) (fun b sz o m sz' o' m' e1 e2 => e (h.dd i j _ _ _ _ _ _ _ hi hjl e1 e2).symm) (by decide) _
 · have hj' : ∃ b', w.bks[j]? = some b' ∧ b.waits = b'.waits := by
     by_cases e : i = j
     · subst e
       rw [List.getElem?_set_self hi] at hj
       injection hj with hj
       subst hj
       exact ⟨_, List.getElem?_eq_getElem hi, rfl⟩
     · rw [List.getElem?_set_ne e] at hj
       exact ⟨b, hj, rfl⟩
   obtain ⟨b', h1, h2⟩ := hj'
   have hjl : j < w.bks.length := (List.getElem?_eq_some_iff.1 h1).1
   rw [h2]
   exact k (h.wai j b' h1) (fun b sz o m sz' o' m' e1 e2 => h.dw i j _ _ _ _ _ _ _ hi hjl e1 e2) (by decide) _
 · intro a b c s o m s' o' m' ha' hb' h1 h2
   simp only [List.length_set] at ha' hb'
   by_cases ea : a = i <;> by_cases eb : b = i
   · rw [ea, eb]
   · subst ea
     simp only [upd_eq, upd_ne _ _ eb] at h1 h2
     exact absurd h2 (hv' _ _ (h.dia b _ (List.getElem?_eq_getElem hb')) (fun b2 s o m s' o' m' e1 e2 => eb (h.dd a b _ _ _ _ _ _ _ ha' hb' e1 e2).symm) _ _ _ _ _ _ _ h1)
   · subst eb
     simp only [upd_eq, upd_ne _ _ ea] at h1 h2
     exact absurd h1 (hv' _ _ (h.dia a _ (List.getElem?_eq_getElem ha')) (fun b2 s o m s' o' m' e1 e2 => ea (h.dd b a _ _ _ _ _ _ _ hb' ha' e1 e2).symm) _ _ _ _ _ _ _ h2)
   · simp only [upd_ne _ _ ea, upd_ne _ _ eb] at h1 h2
     exact h.dd a b _ _ _ _ _ _ _ ha' hb' h1 h2
 · intro a b c s o m s' o' m' ha' hb' h1 h2
   simp only [List.length_set] at ha' hb'
   by_cases ea : a = i
   · subst ea
     simp only [upd_eq] at h1
     exact absurd h2 (hv' _ _ (h.wai b _ (List.getElem?_eq_getElem hb')) (fun b2 s o m s' o' m' e1 e2 => h.dw a b _ _ _ _ _ _ _ ha' hb' e1 e2) _ _ _ _ _ _ _ h1)
   · simp only [upd_ne _ _ ea] at h1
     exact h.dw a b _ _ _ _ _ _ _ ha' hb' h1 h2
 · have := h.sm
   refine ⟨by simpa using this.1, this.2.1, this.2.2.1, this.2.2.2.1, fun b hb => ?_⟩
   rcases List.mem_or_eq_of_mem_set hb with hb | rfl
   · exact this.2.2.2.2 b hb
   · exact ⟨hl, (this.2.2.2.2 _ (List.getElem_mem hi)).2⟩
end Go.Proofs

set_option linter.unusedSimpArgs false
set_option linter.unusedVariables false
set_option maxRecDepth 100000
namespace Go.Proofs
open Go Go.Pl
theorem ext_newI {bx : Boxes} {b : Nat} (hb : bx b = none) (x : Option Box) : Ext bx (upd bx b x) := fun c hc => upd_ne _ _ (by rintro rfl; exact hc hb)
structure IC where
 num : Int
 bk : Int
 leases : Int
 born : Int
 gone : Int
 sent : Int
 read : Int
 st : Int
 call : Int
 since : Int
structure IR where
 idem : Bool
 ended : Bool
 picks : Int
 at_ : Int
 sent : Int
structure IP where
 dials : Bool
 waits : Bool
 leases : Bool
deriving DecidableEq
structure IB where
 down : Bool
 brk : Int
 probe : Int
 dials : Int
 conns : Int
 waits : List Int
structure IW where
 lims : List Lim
 most : Int
 evs : List Ex
 now : Int
 at_ : Int
 bks : List IB
 cns : List IC
 ord : List Int
 rqs : List (Int × IR)
 busy : List (Int × IP)
 whr : List (Int × Int)
 stop : Bool
 flt : List (Int × Int)
def icV (c : IC) : V := .agg [iI c.num, iI c.bk, iI c.leases, iI c.born, iI c.gone, iI c.sent, iI c.read, iI c.st, iI c.call, iI c.since]
def irV (r : IR) : V := .agg [.bool r.idem, .bool r.ended, iI r.picks, iI r.at_, iI r.sent]
def ipV (p : IP) : V := .agg [.bool p.dials, .bool p.waits, .bool p.leases]
def ibV (v : V) (b : IB) : V := .agg [.bool b.down, iI b.brk, iI b.probe, iI b.dials, iI b.conns, v]
def ic0 : IC := ⟨0, 0, 0, 0, 0, 0, 0, 0, 0, 0⟩
def ir0 : IR := ⟨false, false, 0, 0, 0⟩
def ip0 : IP := ⟨false, false, false⟩
def ib0 : IB := ⟨false, 0, 0, 0, 0, []⟩
def mapE (ks : List Int) (v : Nat → V) : List (V × V) := ks.mapIdx fun i k => (iI k, v i)
theorem mapE_cons (k : Int) (ks : List Int) (v : Nat → V) : mapE (k :: ks) v = (iI k, v 0) :: mapE ks (fun i => v (i + 1)) := by
 unfold mapE
 rw [List.mapIdx_cons]
theorem mapE_find (k : Int) : ∀ (ks : List Int) (v : Nat → V) (n : Nat), findV (.int .i64 k) (mapE ks v) n = some ((ks.findIdx? (· == k)).map fun j => (n + j, v j))
 | [], v, n => rfl
 | y :: ks, v, n => by
   rw [mapE_cons]
   unfold findV
   have hs : sameK (.int .i64 k) (iI y) = some (k == y) := by simp [sameK, iI]
   rw [hs, List.findIdx?_cons]
   by_cases e : y = k
   · subst e
     simp
   · have e1 : (k == y) = false := by simpa using fun h => e h.symm
     have e2 : (y == k) = false := by simpa using e
     rw [e1, e2]
     dsimp only
     rw [mapE_find k ks _ (n + 1)]
     simp only [Bool.false_eq_true, if_false, Option.map_map]
     congr 2
     funext j
     simp only [Function.comp]
     congr 1
     omega
theorem mapE_len (ks : List Int) (v : Nat → V) : (mapE ks v).length = ks.length := by simp [mapE]
theorem mapE_app (ks : List Int) (v : Nat → V) (k : Int) (x : V) : mapE ks v ++ [(iI k, x)] = mapE (ks ++ [k]) (upd v ks.length x) := by
 unfold mapE
 rw [List.mapIdx_append]
 congr 1
 · apply List.ext_getElem?
   intro i
   rw [List.getElem?_mapIdx, List.getElem?_mapIdx]
   cases hk : ks[i]? with
   | none => rfl
   | some y =>
     have := (List.getElem?_eq_some_iff.1 hk).1
     simp [upd_ne _ _ (show i ≠ ks.length by omega)]
 · simp [upd_eq]
def mapL {α : Type} (l : List (Int × α)) (f : α → V) : List (V × V) := l.map fun p => (iI p.1, f p.2)
def lkI {α : Type} (l : List (Int × α)) (k : Int) : Option Nat := l.findIdx? (fun p => p.1 == k)
theorem mapL_find {α : Type} (k : Int) (f : α → V) (d : Int × α) : ∀ (l : List (Int × α)) (n : Nat), findV (.int .i64 k) (mapL l f) n = some ((lkI l k).map fun j => (n + j, f (l.getD j d).2))
 | [], n => rfl
 | y :: l, n => by
   show findV _ ((iI y.1, f y.2) :: mapL l f) n = _
   unfold findV lkI
   have hs : sameK (.int .i64 k) (iI y.1) = some (k == y.1) := by simp [sameK, iI]
   rw [hs, List.findIdx?_cons]
   by_cases e : y.1 = k
   · subst e
     simp
   · have e1 : (k == y.1) = false := by simpa using fun h => e h.symm
     have e2 : (y.1 == k) = false := by simpa using e
     rw [e1, e2]
     dsimp only
     rw [mapL_find k f d l (n + 1)]
     unfold lkI
     simp only [Bool.false_eq_true, if_false, Option.map_map]
     congr 2
     funext j
     simp only [Function.comp]
     congr 1
     omega
theorem lkI_lt {α : Type} {l : List (Int × α)} {k : Int} {j : Nat} (h : lkI l k = some j) : ∃ hj : j < l.length, l[j].1 = k := by
 unfold lkI at h
 rw [List.findIdx?_eq_some_iff_getElem] at h
 obtain ⟨hj, h1, _⟩ := h
 exact ⟨hj, by simpa using h1⟩
def putK {α : Type} (l : List (Int × α)) (k : Int) (x : α) : List (Int × α) := match lkI l k with
 | some j => l.set j (k, x)
 | none => l ++ [(k, x)]
def delK {α : Type} (l : List (Int × α)) (k : Int) : List (Int × α) := match lkI l k with
 | some j => l.eraseIdx j
 | none => l
inductive Cel where
 | w | bks | mc | mr | mb | mw | ord | flt
 | wai (i : Nat) | cn (i : Nat) | rq (i : Nat)
deriving DecidableEq
abbrev Adr := Cel → Option Nat
def updC (ad : Adr) (c : Cel) (o : Option Nat) : Adr := fun x => if x = c then o else ad x
theorem updC_eq (ad : Adr) (c : Cel) (o : Option Nat) : updC ad c o c = o := by simp [updC]
theorem updC_ne (ad : Adr) {c c' : Cel} (o : Option Nat) (h : c' ≠ c) : updC ad c o c' = ad c' := by simp [updC, h]
def slV (o : Option Nat) (sz n : Nat) : V := match o with | some b => .own b sz 0 n | none => .nils
def ibW (ad : Adr) (i : Nat) (b : IB) : V := ibV (slV (ad (.wai i)) 1 b.waits.length) b
def adr (ad : Adr) (c : Cel) : Nat := (ad c).getD 0
def stV (pb pc pr pm pw : Nat) (vo vf : V) (s : IW) : V := .agg [.sl 4 (s.lims.map limV), iI s.most, .sl 8 (s.evs.map exV), iI s.now, iI s.at_, .own pb 6 0 s.bks.length, .mp pc, vo, .mp pr, .mp pm, .mp pw, .bool s.stop, vf]
def iwV (ad : Adr) (s : IW) : V := stV (adr ad .bks) (adr ad .mc) (adr ad .mr) (adr ad .mb) (adr ad .mw) (slV (ad .ord) 1 s.ord.length) (slV (ad .flt) 2 s.flt.length) s
def cont (ad : Adr) (s : IW) : Cel → Box
 | .w => .row 94 13 [iwV ad s]
 | .bks => .row 194 6 (s.bks.mapIdx (ibW ad))
 | .mc => .map (mapE (s.cns.map (·.num)) fun i => .ptr (adr ad (.cn i)) 10 0 0)
 | .mr => .map (mapE (s.rqs.map (·.1)) fun i => .ptr (adr ad (.rq i)) 5 0 0)
 | .mb => .map (mapL s.busy ipV)
 | .mw => .map (mapL s.whr iI)
 | .ord => .row 2 1 (s.ord.map iI)
 | .flt => .row 66 2 (s.flt.map fltV)
 | .wai i => .row 2 1 ((s.bks.getD i ib0).waits.map iI)
 | .cn i => .row 105 10 [icV (s.cns.getD i ic0)]
 | .rq i => .row 190 5 [irV (s.rqs.getD i (0, ir0)).2]
def okC (s : IW) : Cel → Prop
 | .wai i => i < s.bks.length
 | .cn i => i < s.cns.length
 | .rq i => i < s.rqs.length
 | _ => True
def optC (s : IW) : Cel → Prop
 | .ord => s.ord = []
 | .flt => s.flt = []
 | .wai i => (s.bks.getD i ib0).waits = []
 | _ => False
def sliC : Cel → Bool
 | .ord | .flt | .wai _ => true
 | _ => false
structure WI (bx0 : Boxes) (ad : Adr) (s : IW) (bx : Boxes) : Prop where
 fin : FinB bx
 ext : Ext bx0 bx
 at_ : ∀ c b, ad c = some b → bx0 b = none ∧ bx b = some (cont ad s c) ∧ okC s c
 none_ : ∀ c, ad c = none → okC s c → optC s c
 inj : ∀ c c' b, ad c = some b → ad c' = some b → c = c'
def Keep (ad ad' : Adr) : Prop := ∀ c b, ad c = some b → sliC c = false → ad' c = some b
theorem Keep.refl (ad : Adr) : Keep ad ad := fun _ _ h _ => h
theorem Keep.trans {a b c : Adr} (h : Keep a b) (h' : Keep b c) : Keep a c := fun x y e hs => h' x y (h x y e hs) hs
theorem WI.put {bx0 bx : Boxes} {ad : Adr} {s : IW} (h : WI bx0 ad s bx) {c : Cel} {b : Nat} (hc : ad c = some b) (s' : IW) (h1 : ∀ c' b', c' ≠ c → ad c' = some b' → cont ad s' c' = cont ad s c') (h2 : ∀ c', okC s' c' ↔ okC s c') (h3 : ∀ c', optC s c' → ad c' = none → optC s' c') :
   WI bx0 ad s' (upd bx b (some (cont ad s' c))) := by
 obtain ⟨g1, g2, g3⟩ := h.at_ c b hc
 refine ⟨(finB_upd _ _ _).2 h.fin, ext_upd h.ext g1 _, fun c' b' e => ?_, fun c' e o => h3 c' (h.none_ c' e ((h2 c').1 o)) e, h.inj⟩
 obtain ⟨k1, k2, k3⟩ := h.at_ c' b' e
 by_cases hcc : c' = c
 · subst hcc
   rw [hc] at e
   injection e with e
   subst e
   exact ⟨g1, upd_eq _ _ _, (h2 _).2 g3⟩
 · have hbb : b' ≠ b := fun e2 => hcc (h.inj c' c b (by rw [e, e2]) hc)
   exact ⟨k1, by rw [upd_ne _ _ hbb, k2, h1 c' b' hcc e], (h2 _).2 k3⟩
def adrV (v : V) : Option Nat := match v with | .own b _ _ _ => some b | _ => none
theorem OwnV.slV {bx : Boxes} {e sz : Nat} {es : List V} {v : V} (h : OwnV bx e sz es v) : v = Go.Proofs.slV (adrV v) sz es.length := by
 rcases h with ⟨_, rfl⟩ | ⟨b, rfl, _⟩ <;> rfl
theorem WI.sl {bx0 bx : Boxes} {ad : Adr} {s : IW} (h : WI bx0 ad s bx) {c : Cel} (hs : sliC c = true) (ho : okC s c) {ty sz : Nat} {es : List V} (hc : cont ad s c = .row ty sz es) (h0 : optC s c → es = []) : OwnV bx ty sz es (Go.Proofs.slV (ad c) sz es.length) := by
 cases hc2 : ad c with
 | none => exact .inl ⟨h0 (h.none_ c hc2 ho), rfl⟩
 | some b => exact .inr ⟨b, rfl, by rw [← hc]; exact (h.at_ c b hc2).2.1⟩
theorem WI.slice {bx0 bx bx' : Boxes} {ad : Adr} {s : IW} (h : WI bx0 ad s bx) {c hd : Cel} {hb : Nat} (hh : ad hd = some hb) (hne : hd ≠ c) (s' : IW) {v' : V} {ty sz : Nat} {es : List V} {n : Nat} (hm : Moved (Go.Proofs.slV (ad c) sz n) v' bx bx') (hv : OwnV bx' ty sz es v')
   (hcc : cont (updC ad c (adrV v')) s' c = .row ty sz es) (hok : okC s' c) (hopt : es = [] → optC s' c)
   (h1 : ∀ c' b', c' ≠ c → c' ≠ hd → ad c' = some b' → cont (updC ad c (adrV v')) s' c' = cont ad s c') (h2 : ∀ c', okC s' c' ↔ okC s c') (h3 : ∀ c', c' ≠ c → optC s c' → ad c' = none → optC s' c') :
   WI bx0 (updC ad c (adrV v')) s' (upd bx' hb (some (cont (updC ad c (adrV v')) s' hd))) := by
 obtain ⟨g1, g2, g3⟩ := h.at_ hd hb hh
 have hno : ∀ c' b', c' ≠ c → ad c' = some b' → ∀ sz' o m, Go.Proofs.slV (ad c) sz n ≠ .own b' sz' o m := by
   intro c' b' hcc' e sz' o m e2
   cases hc2 : ad c with
   | none => rw [hc2] at e2; cases e2
   | some b =>
     rw [hc2] at e2
     injection e2 with e2
     subst e2
     exact hcc' (h.inj c' c b e hc2)
 have hkeep : ∀ c' b', c' ≠ c → ad c' = some b' → bx' b' = bx b' := fun c' b' hcc' e => hm.other (by rw [(h.at_ c' b' e).2.1]; simp) (hno c' b' hcc' e)
 have hnv : NewV bx0 (Go.Proofs.slV (ad c) sz n) := by
   intro b sz' o m e
   cases hc2 : ad c with
   | none => rw [hc2] at e; cases e
   | some b2 =>
     rw [hc2] at e
     injection e with e
     subst e
     exact (h.at_ c b2 hc2).1
 obtain ⟨e1, e2⟩ := hm.base h.ext hnv
 have hnew : ∀ b', adrV v' = some b' → bx0 b' = none ∧ bx' b' = some (.row ty sz es) ∧ ∀ c', c' ≠ c → ad c' ≠ some b' := by
   intro b' e
   rcases hv with ⟨_, rfl⟩ | ⟨b2, rfl, hb2⟩
   · cases e
   · injection e with e
     subst e
     refine ⟨e2 _ _ _ _ rfl, hb2, fun c' hcc' e3 => ?_⟩
     exact hm.ne (p := b2) (by rw [(h.at_ c' b2 e3).2.1]; simp) (hno c' b2 hcc' e3) _ _ _ rfl
 refine ⟨(finB_upd _ _ _).2 hm.fin, ext_upd e1 g1 _, fun c' b' e => ?_, fun c' e o => ?_, fun c1 c2 b' q1 q2 => ?_⟩
 · by_cases k1 : c' = c
   · subst k1
     rw [updC_eq] at e
     obtain ⟨n1, n2, n3⟩ := hnew b' e
     have : b' ≠ hb := fun e4 => n3 hd hne (by rw [hh, e4])
     exact ⟨n1, by rw [upd_ne _ _ this, n2, hcc], hok⟩
   · rw [updC_ne _ _ k1] at e
     obtain ⟨m1, m2, m3⟩ := h.at_ c' b' e
     refine ⟨m1, ?_, (h2 c').2 m3⟩
     by_cases k2 : c' = hd
     · subst k2
       rw [hh] at e
       injection e with e
       subst e
       exact upd_eq _ _ _
     · have : b' ≠ hb := fun e4 => k2 (h.inj c' hd hb (by rw [e, e4]) hh)
       rw [upd_ne _ _ this, hkeep c' b' k1 e, m2, h1 c' b' k1 k2 e]
 · by_cases k1 : c' = c
   · subst k1
     rw [updC_eq] at e
     rcases hv with ⟨h0, _⟩ | ⟨b2, rfl, _⟩
     · exact hopt h0
     · cases e
   · rw [updC_ne _ _ k1] at e
     exact h3 c' k1 (h.none_ c' e ((h2 c').1 o)) e
 · by_cases k1 : c1 = c <;> by_cases k2 : c2 = c
   · rw [k1, k2]
   · subst k1
     rw [updC_eq] at q1
     rw [updC_ne _ _ k2] at q2
     exact absurd q2 ((hnew b' q1).2.2 c2 k2)
   · subst k2
     rw [updC_eq] at q2
     rw [updC_ne _ _ k1] at q1
     exact absurd q1 ((hnew b' q2).2.2 c1 k1)
   · rw [updC_ne _ _ k1] at q1
     rw [updC_ne _ _ k2] at q2
     exact h.inj c1 c2 b' q1 q2
theorem WI.keep {ad : Adr} {c : Cel} (hs : sliC c = true) (o : Option Nat) : Keep ad (updC ad c o) := fun c' b e h => by
 rw [updC_ne _ _ (by rintro rfl; rw [hs] at h; cases h)]
 exact e
theorem WI.grow {bx0 bx : Boxes} {ad : Adr} {s : IW} (h : WI bx0 ad s bx) {c hd : Cel} {hb b : Nat} (hh : ad hd = some hb) (hne : hd ≠ c) (hn : ad c = none) (hb0 : bx b = none) (s' : IW) (hok : okC s' c)
   (h1 : ∀ c' b', c' ≠ c → c' ≠ hd → ad c' = some b' → cont (updC ad c (some b)) s' c' = cont ad s c') (h2 : ∀ c', c' ≠ c → (okC s' c' ↔ okC s c')) (h3 : ∀ c', c' ≠ c → optC s c' → ad c' = none → optC s' c') :
   WI bx0 (updC ad c (some b)) s' (upd (upd bx b (some (cont (updC ad c (some b)) s' c))) hb (some (cont (updC ad c (some b)) s' hd))) := by
 obtain ⟨g1, g2, g3⟩ := h.at_ hd hb hh
 have hbb : b ≠ hb := fun e => by rw [e, g2] at hb0; cases hb0
 have hb00 : bx0 b = none := by
   cases e : bx0 b with
   | none => rfl
   | some x => have := h.ext b (by rw [e]; simp); rw [hb0, e] at this; cases this
 have hno : ∀ c' b', ad c' = some b' → b' ≠ b := fun c' b' e e2 => by rw [e2] at e; rw [(h.at_ c' b e).2.1] at hb0; cases hb0
 refine ⟨(finB_upd _ _ _).2 ((finB_upd _ _ _).2 h.fin), ext_upd (ext_upd h.ext hb00 _) g1 _, fun c' b' e => ?_, fun c' e o => ?_, fun c1 c2 b' q1 q2 => ?_⟩
 · by_cases k1 : c' = c
   · subst k1
     rw [updC_eq] at e
     injection e with e
     subst e
     exact ⟨hb00, by rw [upd_ne _ _ hbb, upd_eq], hok⟩
   · rw [updC_ne _ _ k1] at e
     obtain ⟨m1, m2, m3⟩ := h.at_ c' b' e
     refine ⟨m1, ?_, (h2 c' k1).2 m3⟩
     by_cases k2 : c' = hd
     · subst k2
       rw [hh] at e
       injection e with e
       subst e
       exact upd_eq _ _ _
     · have : b' ≠ hb := fun e4 => k2 (h.inj c' hd hb (by rw [e, e4]) hh)
       rw [upd_ne _ _ this, upd_ne _ _ (hno c' b' e), m2, h1 c' b' k1 k2 e]
 · have k1 : c' ≠ c := fun k1 => by subst k1; rw [updC_eq] at e; cases e
   rw [updC_ne _ _ k1] at e
   exact h3 c' k1 (h.none_ c' e ((h2 c' k1).1 o)) e
 · by_cases k1 : c1 = c <;> by_cases k2 : c2 = c
   · rw [k1, k2]
   · subst k1
     rw [updC_eq] at q1
     injection q1 with q1
     rw [updC_ne _ _ k2] at q2
     exact absurd q1.symm (hno c2 b' q2)
   · subst k2
     rw [updC_eq] at q2
     injection q2 with q2
     rw [updC_ne _ _ k1] at q1
     exact absurd q2.symm (hno c1 b' q1)
   · rw [updC_ne _ _ k1] at q1
     rw [updC_ne _ _ k2] at q2
     exact h.inj c1 c2 b' q1 q2
theorem Keep.grow {ad : Adr} {c : Cel} (hn : ad c = none) (o : Option Nat) : Keep ad (updC ad c o) := fun c' b e _ => by
 rw [updC_ne _ _ (by rintro rfl; rw [hn] at e; cases e)]
 exact e
end Go.Proofs

set_option linter.unusedSimpArgs false
set_option linter.unusedVariables false
set_option maxRecDepth 100000
namespace Go.Proofs
open Go Go.Pl
abbrev tyS : TypeId := 94
abbrev tyIB : TypeId := 194
abbrev tyIC : TypeId := 105
abbrev tyIR : TypeId := 190
structure Nm (ad : Adr) (p pb pc pr pm pw : Nat) : Prop where
 w : ad .w = some p
 b : ad .bks = some pb
 c : ad .mc = some pc
 r : ad .mr = some pr
 m : ad .mb = some pm
 h : ad .mw = some pw
theorem WI.has {bx0 bx : Boxes} {ad : Adr} {s : IW} (h : WI bx0 ad s bx) (c : Cel) (h1 : okC s c) (h2 : ¬ optC s c) : ∃ b, ad c = some b := by
 cases hc : ad c with
 | some b => exact ⟨b, rfl⟩
 | none => exact absurd (h.none_ c hc h1) h2
theorem WI.names {bx0 bx : Boxes} {ad : Adr} {s : IW} (h : WI bx0 ad s bx) {p : Nat} (hp : ad .w = some p) : ∃ pb pc pr pm pw, Nm ad p pb pc pr pm pw := by
 obtain ⟨pb, h1⟩ := h.has .bks trivial id
 obtain ⟨pc, h2⟩ := h.has .mc trivial id
 obtain ⟨pr, h3⟩ := h.has .mr trivial id
 obtain ⟨pm, h4⟩ := h.has .mb trivial id
 obtain ⟨pw, h5⟩ := h.has .mw trivial id
 exact ⟨pb, pc, pr, pm, pw, hp, h1, h2, h3, h4, h5⟩
theorem Nm.keep {ad ad' : Adr} {p pb pc pr pm pw : Nat} (h : Nm ad p pb pc pr pm pw) (hk : Keep ad ad') : Nm ad' p pb pc pr pm pw :=
 ⟨hk _ _ h.w rfl, hk _ _ h.b rfl, hk _ _ h.c rfl, hk _ _ h.r rfl, hk _ _ h.m rfl, hk _ _ h.h rfl⟩
theorem adr_of {ad : Adr} {c : Cel} {b : Nat} (h : ad c = some b) : adr ad c = b := by unfold adr; rw [h]; rfl
theorem Nm.iw {ad : Adr} {p pb pc pr pm pw : Nat} (h : Nm ad p pb pc pr pm pw) (s : IW) : cont ad s .w = .row tyS 13 [stV pb pc pr pm pw (slV (ad .ord) 1 s.ord.length) (slV (ad .flt) 2 s.flt.length) s] := by
 unfold cont iwV
 rw [adr_of h.b, adr_of h.c, adr_of h.r, adr_of h.m, adr_of h.h]
theorem WI.row {bx0 bx : Boxes} {ad : Adr} {s : IW} (h : WI bx0 ad s bx) {p pb pc pr pm pw : Nat} (hn : Nm ad p pb pc pr pm pw) : bx p = some (.row tyS 13 [stV pb pc pr pm pw (slV (ad .ord) 1 s.ord.length) (slV (ad .flt) 2 s.flt.length) s]) := by
 rw [(h.at_ .w p hn.w).2.1, hn.iw]
theorem WI.bksR {bx0 bx : Boxes} {ad : Adr} {s : IW} (h : WI bx0 ad s bx) {p pb pc pr pm pw : Nat} (hn : Nm ad p pb pc pr pm pw) : bx pb = some (.row tyIB 6 (s.bks.mapIdx (ibW ad))) := (h.at_ .bks pb hn.b).2.1
theorem WI.mcR {bx0 bx : Boxes} {ad : Adr} {s : IW} (h : WI bx0 ad s bx) {p pb pc pr pm pw : Nat} (hn : Nm ad p pb pc pr pm pw) : bx pc = some (.map (mapE (s.cns.map (·.num)) fun i => .ptr (adr ad (.cn i)) 10 0 0)) := (h.at_ .mc pc hn.c).2.1
theorem WI.mrR {bx0 bx : Boxes} {ad : Adr} {s : IW} (h : WI bx0 ad s bx) {p pb pc pr pm pw : Nat} (hn : Nm ad p pb pc pr pm pw) : bx pr = some (.map (mapE (s.rqs.map (·.1)) fun i => .ptr (adr ad (.rq i)) 5 0 0)) := (h.at_ .mr pr hn.r).2.1
theorem WI.mbR {bx0 bx : Boxes} {ad : Adr} {s : IW} (h : WI bx0 ad s bx) {p pb pc pr pm pw : Nat} (hn : Nm ad p pb pc pr pm pw) : bx pm = some (.map (mapL s.busy ipV)) := (h.at_ .mb pm hn.m).2.1
theorem WI.mwR {bx0 bx : Boxes} {ad : Adr} {s : IW} (h : WI bx0 ad s bx) {p pb pc pr pm pw : Nat} (hn : Nm ad p pb pc pr pm pw) : bx pw = some (.map (mapL s.whr iI)) := (h.at_ .mw pw hn.h).2.1
theorem WI.cnR {bx0 bx : Boxes} {ad : Adr} {s : IW} (h : WI bx0 ad s bx) {i : Nat} (hi : i < s.cns.length) : ∃ b, ad (.cn i) = some b ∧ bx b = some (.row tyIC 10 [icV s.cns[i]]) := by
 obtain ⟨b, hb⟩ := h.has (.cn i) hi id
 refine ⟨b, hb, ?_⟩
 rw [(h.at_ _ b hb).2.1]
 simp [cont, hi]
theorem WI.rqR {bx0 bx : Boxes} {ad : Adr} {s : IW} (h : WI bx0 ad s bx) {i : Nat} (hi : i < s.rqs.length) : ∃ b, ad (.rq i) = some b ∧ bx b = some (.row tyIR 5 [irV s.rqs[i].2]) := by
 obtain ⟨b, hb⟩ := h.has (.rq i) hi id
 refine ⟨b, hb, ?_⟩
 rw [(h.at_ _ b hb).2.1]
 simp [cont, hi]
theorem WI.fltO {bx0 bx : Boxes} {ad : Adr} {s : IW} (h : WI bx0 ad s bx) : OwnV bx tyF 2 (s.flt.map fltV) (slV (ad .flt) 2 s.flt.length) := by
 simpa using h.sl (c := .flt) rfl trivial rfl (fun h => by simpa [optC] using h)
theorem WI.ordO {bx0 bx : Boxes} {ad : Adr} {s : IW} (h : WI bx0 ad s bx) : OwnV bx 2 1 (s.ord.map iI) (slV (ad .ord) 1 s.ord.length) := by
 simpa using h.sl (c := .ord) rfl trivial rfl (fun h => by simpa [optC] using h)
theorem WI.waiO {bx0 bx : Boxes} {ad : Adr} {s : IW} (h : WI bx0 ad s bx) {i : Nat} (hi : i < s.bks.length) : OwnV bx 2 1 (s.bks[i].waits.map iI) (slV (ad (.wai i)) 1 s.bks[i].waits.length) := by
 have := h.sl (c := .wai i) rfl hi rfl (fun h => by simpa [optC] using h)
 simpa [hi] using this
theorem WI.world {bx0 bx : Boxes} {ad : Adr} {s : IW} (h : WI bx0 ad s bx) {p pb pc pr pm pw : Nat} (hn : Nm ad p pb pc pr pm pw) (now at_ : Int) (stop : Bool) :
   WI bx0 ad { s with now := now, at_ := at_, stop := stop } (upd bx p (some (.row tyS 13 [stV pb pc pr pm pw (slV (ad .ord) 1 s.ord.length) (slV (ad .flt) 2 s.flt.length) { s with now := now, at_ := at_, stop := stop }]))) := by
 have := h.put hn.w { s with now := now, at_ := at_, stop := stop } (fun c' b' hc _ => by cases c' <;> first | rfl | exact absurd rfl hc) (fun c' => by cases c' <;> exact Iff.rfl) (fun c' o _ => by cases c' <;> exact o)
 rwa [hn.iw] at this
theorem WI.fault {bx0 bx bx' : Boxes} {ad : Adr} {s : IW} (h : WI bx0 ad s bx) {p pb pc pr pm pw : Nat} (hn : Nm ad p pb pc pr pm pw) (f : Int × Int) {v' : V} (hm : Moved (slV (ad .flt) 2 s.flt.length) v' bx bx') (hv : OwnV bx' tyF 2 ((s.flt ++ [f]).map fltV) v') :
   WI bx0 (updC ad .flt (adrV v')) { s with flt := s.flt ++ [f] } (upd bx' p (some (.row tyS 13 [stV pb pc pr pm pw (slV (ad .ord) 1 s.ord.length) v' { s with flt := s.flt ++ [f] }]))) := by
 have := h.slice (c := .flt) (hd := .w) hn.w (by decide) { s with flt := s.flt ++ [f] } hm hv rfl trivial (fun e => by simp at e) (fun c' b' h1 h2 _ => by cases c' <;> first | rfl | exact absurd rfl h1 | exact absurd rfl h2 | (simp [cont, adr, updC, ibW])) (fun c' => by cases c' <;> exact Iff.rfl) (fun c' hc o _ => by cases c' <;> first | exact o | exact absurd rfl hc)
 rw [(hn.keep (WI.keep rfl _)).iw] at this
 have e := hv.slV
 rw [List.length_map] at e
 rw [updC_ne _ _ (show Cel.ord ≠ Cel.flt by decide), updC_eq, ← e] at this
 exact this
theorem WI.addOrd {bx0 bx bx' : Boxes} {ad : Adr} {s : IW} (h : WI bx0 ad s bx) {p pb pc pr pm pw : Nat} (hn : Nm ad p pb pc pr pm pw) (k : Int) {v' : V} (hm : Moved (slV (ad .ord) 1 s.ord.length) v' bx bx') (hv : OwnV bx' 2 1 ((s.ord ++ [k]).map iI) v') :
   WI bx0 (updC ad .ord (adrV v')) { s with ord := s.ord ++ [k] } (upd bx' p (some (.row tyS 13 [stV pb pc pr pm pw v' (slV (ad .flt) 2 s.flt.length) { s with ord := s.ord ++ [k] }]))) := by
 have := h.slice (c := .ord) (hd := .w) hn.w (by decide) { s with ord := s.ord ++ [k] } hm hv rfl trivial (fun e => by simp at e) (fun c' b' h1 h2 _ => by cases c' <;> first | rfl | exact absurd rfl h1 | exact absurd rfl h2 | (simp [cont, adr, updC, ibW])) (fun c' => by cases c' <;> exact Iff.rfl) (fun c' hc o _ => by cases c' <;> first | exact o | exact absurd rfl hc)
 rw [(hn.keep (WI.keep rfl _)).iw] at this
 have e := hv.slV
 rw [List.length_map] at e
 rw [updC_ne _ _ (show Cel.flt ≠ Cel.ord by decide), updC_eq, ← e] at this
 exact this
theorem ibW_set {l : List IB} {ad : Adr} {i : Nat} (x : IB) : (l.mapIdx (ibW ad)).set i (ibW ad i x) = (l.set i x).mapIdx (ibW ad) := by
 apply List.ext_getElem?
 intro j
 rw [List.getElem?_set, List.getElem?_mapIdx, List.getElem?_mapIdx, List.getElem?_set]
 by_cases e : i = j
 · subst e; simp
 · simp [e]
theorem ibW_setW {l : List IB} {ad : Adr} {i : Nat} (x : IB) {v : V} (hv : v = slV (adrV v) 1 x.waits.length) : (l.mapIdx (ibW ad)).set i (ibV v x) = (l.set i x).mapIdx (ibW (updC ad (.wai i) (adrV v))) := by
 apply List.ext_getElem?
 intro j
 rw [List.getElem?_set, List.getElem?_mapIdx, List.getElem?_mapIdx, List.getElem?_set]
 by_cases e : i = j
 · subst e
   simp [ibW, updC, ← hv]
 · simp only [e, if_false]
   cases l[j]? with
   | none => rfl
   | some y =>
     have : Cel.wai j ≠ Cel.wai i := fun h => e (by injection h with h; exact h.symm)
     simp [ibW, updC, this]
theorem WI.setB {bx0 bx : Boxes} {ad : Adr} {s : IW} (h : WI bx0 ad s bx) {p pb pc pr pm pw : Nat} (hn : Nm ad p pb pc pr pm pw) (i : Nat) (x : IB) (hx : ∀ b, s.bks[i]? = some b → x.waits = b.waits) :
   WI bx0 ad { s with bks := s.bks.set i x } (upd bx pb (some (.row tyIB 6 ((s.bks.mapIdx (ibW ad)).set i (ibW ad i x))))) := by
 have hw : ∀ j, ((s.bks.set i x).getD j ib0).waits = (s.bks.getD j ib0).waits := by
   intro j
   rw [List.getD_eq_getElem?_getD, List.getD_eq_getElem?_getD, List.getElem?_set]
   by_cases e : i = j
   · subst e
     cases hb : s.bks[i]? with
     | none =>
       have : ¬ i < s.bks.length := fun hi => by rw [List.getElem?_eq_getElem hi] at hb; cases hb
       simp [this]
     | some b =>
       have := (List.getElem?_eq_some_iff.1 hb).1
       simp [this, hx b hb]
   · simp [e]
 have := h.put hn.b { s with bks := s.bks.set i x } (fun c' b' hc _ => by
   cases c' <;> first | rfl | exact absurd rfl hc | (simp [cont, iwV, stV]; done) | (simp only [cont, hw])) (fun c' => by cases c' <;> simp [okC]) (fun c' o _ => by
   cases c' <;> first | exact o | (simp only [optC, hw] at o ⊢; exact o))
 rw [ibW_set]
 exact this
theorem WI.setW {bx0 bx bx' : Boxes} {ad : Adr} {s : IW} (h : WI bx0 ad s bx) {p pb pc pr pm pw : Nat} (hn : Nm ad p pb pc pr pm pw) {i : Nat} (hi : i < s.bks.length) (l : List Int) {v' : V} (hm : Moved (slV (ad (.wai i)) 1 s.bks[i].waits.length) v' bx bx') (hv : OwnV bx' 2 1 (l.map iI) v') :
   WI bx0 (updC ad (.wai i) (adrV v')) { s with bks := s.bks.set i { s.bks[i] with waits := l } } (upd bx' pb (some (.row tyIB 6 ((s.bks.mapIdx (ibW ad)).set i (ibV v' { s.bks[i] with waits := l }))))) := by
 have hw : ∀ j, j ≠ i → (s.bks.set i { s.bks[i] with waits := l }).getD j ib0 = s.bks.getD j ib0 := by
   intro j hj
   rw [List.getD_eq_getElem?_getD, List.getD_eq_getElem?_getD, List.getElem?_set, if_neg (Ne.symm hj)]
 have e := hv.slV
 simp only [List.length_map] at e
 have := h.slice (c := .wai i) (hd := .bks) hn.b (by simp) { s with bks := s.bks.set i { s.bks[i] with waits := l } } hm hv (by simp [cont, hi]) (by simpa [okC] using hi) (fun e => by simpa [optC, hi] using e) (fun c' b' h1 h2 _ => by
   cases c' with
   | wai j => have hj : j ≠ i := fun e => h1 (by rw [e]); simp only [cont, hw j hj]
   | bks => exact absurd rfl h2
   | _ => first | rfl | (simp [cont, iwV, stV, adr, updC])) (fun c' => by cases c' <;> simp [okC]) (fun c' hc o _ => by
   cases c' with
   | wai j => have hj : j ≠ i := fun e => hc (by rw [e]); simp only [optC, hw j hj] at o ⊢; exact o
   | _ => exact o)
 rw [ibW_setW _ (by exact e)]
 exact this
theorem WI.setC {bx0 bx : Boxes} {ad : Adr} {s : IW} (h : WI bx0 ad s bx) {i b : Nat} (hi : i < s.cns.length) (hb : ad (.cn i) = some b) (c : IC) (hc : c.num = s.cns[i].num) :
   WI bx0 ad { s with cns := s.cns.set i c } (upd bx b (some (.row tyIC 10 [icV c]))) := by
 have hm : (s.cns.set i c).map (·.num) = s.cns.map (·.num) := by
   apply List.ext_getElem?
   intro j
   rw [List.getElem?_map, List.getElem?_map, List.getElem?_set]
   by_cases e : i = j
   · subst e; simp [hi, hc]
   · simp [e]
 have hw : ∀ j, j ≠ i → (s.cns.set i c).getD j ic0 = s.cns.getD j ic0 := by
   intro j hj
   rw [List.getD_eq_getElem?_getD, List.getD_eq_getElem?_getD, List.getElem?_set, if_neg (Ne.symm hj)]
 have := h.put hb { s with cns := s.cns.set i c } (fun c' b' hc' _ => by
   cases c' with
   | cn j => have hj : j ≠ i := fun e => hc' (by rw [e]); simp only [cont, hw j hj]
   | mc => simp only [cont, hm]
   | _ => first | rfl | (simp [cont, iwV, stV])) (fun c' => by cases c' <;> simp [okC]) (fun c' o _ => by cases c' <;> exact o)
 have e : cont ad { s with cns := s.cns.set i c } (.cn i) = .row tyIC 10 [icV c] := by simp [cont, hi]
 rwa [e] at this
theorem WI.setR {bx0 bx : Boxes} {ad : Adr} {s : IW} (h : WI bx0 ad s bx) {i b : Nat} (hi : i < s.rqs.length) (hb : ad (.rq i) = some b) (r : IR) :
   WI bx0 ad { s with rqs := s.rqs.set i (s.rqs[i].1, r) } (upd bx b (some (.row tyIR 5 [irV r]))) := by
 have hm : (s.rqs.set i (s.rqs[i].1, r)).map (·.1) = s.rqs.map (·.1) := by
   apply List.ext_getElem?
   intro j
   rw [List.getElem?_map, List.getElem?_map, List.getElem?_set]
   by_cases e : i = j
   · subst e; simp [hi]
   · simp [e]
 have hw : ∀ j, j ≠ i → (s.rqs.set i (s.rqs[i].1, r)).getD j (0, ir0) = s.rqs.getD j (0, ir0) := by
   intro j hj
   rw [List.getD_eq_getElem?_getD, List.getD_eq_getElem?_getD, List.getElem?_set, if_neg (Ne.symm hj)]
 have := h.put hb { s with rqs := s.rqs.set i (s.rqs[i].1, r) } (fun c' b' hc' _ => by
   cases c' with
   | rq j => have hj : j ≠ i := fun e => hc' (by rw [e]); simp only [cont, hw j hj]
   | mr => simp only [cont, hm]
   | _ => first | rfl | (simp [cont, iwV, stV])) (fun c' => by cases c' <;> simp [okC]) (fun c' o _ => by cases c' <;> exact o)
 have e : cont ad { s with rqs := s.rqs.set i (s.rqs[i].1, r) } (.rq i) = .row tyIR 5 [irV r] := by simp [cont, hi]
 rwa [e] at this
theorem WI.setBusy {bx0 bx : Boxes} {ad : Adr} {s : IW} (h : WI bx0 ad s bx) {p pb pc pr pm pw : Nat} (hn : Nm ad p pb pc pr pm pw) (l : List (Int × IP)) :
   WI bx0 ad { s with busy := l } (upd bx pm (some (.map (mapL l ipV)))) :=
 h.put hn.m { s with busy := l } (fun c' b' hc' _ => by cases c' <;> first | rfl | exact absurd rfl hc') (fun c' => by cases c' <;> exact Iff.rfl) (fun c' o _ => by cases c' <;> exact o)
theorem WI.setWhr {bx0 bx : Boxes} {ad : Adr} {s : IW} (h : WI bx0 ad s bx) {p pb pc pr pm pw : Nat} (hn : Nm ad p pb pc pr pm pw) (l : List (Int × Int)) :
   WI bx0 ad { s with whr := l } (upd bx pw (some (.map (mapL l iI)))) :=
 h.put hn.h { s with whr := l } (fun c' b' hc' _ => by cases c' <;> first | rfl | exact absurd rfl hc') (fun c' => by cases c' <;> exact Iff.rfl) (fun c' o _ => by cases c' <;> exact o)
theorem WI.beyond {bx0 bx : Boxes} {ad : Adr} {s : IW} (h : WI bx0 ad s bx) (c : Cel) (hc : ¬ okC s c) : ad c = none := by
 cases e : ad c with
 | none => rfl
 | some b => exact absurd (h.at_ c b e).2.2 hc
theorem WI.addC {bx0 bx : Boxes} {ad : Adr} {s : IW} (h : WI bx0 ad s bx) {p pb pc pr pm pw : Nat} (hn : Nm ad p pb pc pr pm pw) (c : IC) {b : Nat} (hb : bx b = none) :
   WI bx0 (updC ad (.cn s.cns.length) (some b)) { s with cns := s.cns ++ [c] } (upd (upd bx b (some (.row tyIC 10 [icV c]))) pc (some (.map (mapE (s.cns.map (·.num)) (fun i => .ptr (adr ad (.cn i)) 10 0 0) ++ [(iI c.num, .ptr b 10 0 0)])))) ∧ Keep ad (updC ad (.cn s.cns.length) (some b)) := by
 have hnone : ad (.cn s.cns.length) = none := h.beyond _ (by simp [okC])
 have hw : ∀ j, j < s.cns.length → (s.cns ++ [c]).getD j ic0 = s.cns.getD j ic0 := by
   intro j hj
   rw [List.getD_eq_getElem?_getD, List.getD_eq_getElem?_getD, List.getElem?_append_left hj]
 have := h.grow (c := .cn s.cns.length) (hd := .mc) (hb := pc) (b := b) hn.c (by simp) hnone hb { s with cns := s.cns ++ [c] } (by simp [okC]) (fun c' b' h1 h2 e => by
   cases c' with
   | cn j => have hj := (h.at_ _ _ e).2.2; simp only [cont, hw j hj]
   | mc => exact absurd rfl h2
   | _ => first | rfl | (simp [cont, iwV, stV, adr, updC, ibW])) (fun c' h1 => by
   cases c' with
   | cn j => have hj : j ≠ s.cns.length := fun e => h1 (by rw [e]); simp [okC]; omega
   | _ => simp [okC]) (fun c' _ o _ => by cases c' <;> exact o)
 refine ⟨?_, Keep.grow hnone _⟩
 have e1 : cont (updC ad (.cn s.cns.length) (some b)) { s with cns := s.cns ++ [c] } (.cn s.cns.length) = .row tyIC 10 [icV c] := by simp [cont]
 have e2 : cont (updC ad (.cn s.cns.length) (some b)) { s with cns := s.cns ++ [c] } .mc = .map (mapE (s.cns.map (·.num)) (fun i => .ptr (adr ad (.cn i)) 10 0 0) ++ [(iI c.num, .ptr b 10 0 0)]) := by
   rw [mapE_app]
   simp only [cont, List.map_append, List.map_cons, List.map_nil, List.length_map]
   congr 2
   funext i
   by_cases e : i = s.cns.length
   · subst e; simp [upd_eq, adr, updC]
   · have : Cel.cn i ≠ Cel.cn s.cns.length := fun h => e (by injection h)
     simp [upd_ne _ _ e, adr, updC, e]
 rwa [e1, e2] at this
theorem WI.addR {bx0 bx : Boxes} {ad : Adr} {s : IW} (h : WI bx0 ad s bx) {p pb pc pr pm pw : Nat} (hn : Nm ad p pb pc pr pm pw) (k : Int) (r : IR) {b : Nat} (hb : bx b = none) :
   WI bx0 (updC ad (.rq s.rqs.length) (some b)) { s with rqs := s.rqs ++ [(k, r)] } (upd (upd bx b (some (.row tyIR 5 [irV r]))) pr (some (.map (mapE (s.rqs.map (·.1)) (fun i => .ptr (adr ad (.rq i)) 5 0 0) ++ [(iI k, .ptr b 5 0 0)])))) ∧ Keep ad (updC ad (.rq s.rqs.length) (some b)) := by
 have hnone : ad (.rq s.rqs.length) = none := h.beyond _ (by simp [okC])
 have hw : ∀ j, j < s.rqs.length → (s.rqs ++ [(k, r)]).getD j (0, ir0) = s.rqs.getD j (0, ir0) := by
   intro j hj
   rw [List.getD_eq_getElem?_getD, List.getD_eq_getElem?_getD, List.getElem?_append_left hj]
 have := h.grow (c := .rq s.rqs.length) (hd := .mr) (hb := pr) (b := b) hn.r (by simp) hnone hb { s with rqs := s.rqs ++ [(k, r)] } (by simp [okC]) (fun c' b' h1 h2 e => by
   cases c' with
   | rq j => have hj := (h.at_ _ _ e).2.2; simp only [cont, hw j hj]
   | mr => exact absurd rfl h2
   | _ => first | rfl | (simp [cont, iwV, stV, adr, updC, ibW])) (fun c' h1 => by
   cases c' with
   | rq j => have hj : j ≠ s.rqs.length := fun e => h1 (by rw [e]); simp [okC]; omega
   | _ => simp [okC]) (fun c' _ o _ => by cases c' <;> exact o)
 refine ⟨?_, Keep.grow hnone _⟩
 have e1 : cont (updC ad (.rq s.rqs.length) (some b)) { s with rqs := s.rqs ++ [(k, r)] } (.rq s.rqs.length) = .row tyIR 5 [irV r] := by simp [cont]
 have e2 : cont (updC ad (.rq s.rqs.length) (some b)) { s with rqs := s.rqs ++ [(k, r)] } .mr = .map (mapE (s.rqs.map (·.1)) (fun i => .ptr (adr ad (.rq i)) 5 0 0) ++ [(iI k, .ptr b 5 0 0)]) := by
   rw [mapE_app]
   simp only [cont, List.map_append, List.map_cons, List.map_nil, List.length_map]
   congr 2
   funext i
   by_cases e : i = s.rqs.length
   · subst e; simp [upd_eq, adr, updC]
   · have : Cel.rq i ≠ Cel.rq s.rqs.length := fun h => e (by injection h)
     simp [upd_ne _ _ e, adr, updC, e]
 rwa [e1, e2] at this
end Go.Proofs

set_option linter.unusedSimpArgs false
set_option linter.unusedVariables false
set_option maxRecDepth 100000
namespace Go.Proofs
open Go Go.Pl
def StepI (bx0 : Boxes) (ad : Adr) (z : IW × Bool) (r : V) (bx' : Boxes) : Prop := r = .bool z.2 ∧ ∃ ad', Keep ad ad' ∧ WI bx0 ad' z.1 bx'
def StepV (bx0 : Boxes) (ad : Adr) (z : IW) (r : V) (bx' : Boxes) : Prop := r = .tup [] ∧ ∃ ad', Keep ad ad' ∧ WI bx0 ad' z bx'
theorem StepI.of {bx0 bx' : Boxes} {ad : Adr} {z z' : IW × Bool} {r : V} (hz : z = z') (h : StepI bx0 ad z' r bx') : StepI bx0 ad z r bx' := hz ▸ h
theorem StepV.of {bx0 bx' : Boxes} {ad : Adr} {z z' : IW} {r : V} (hz : z = z') (h : StepV bx0 ad z' r bx') : StepV bx0 ad z r bx' := hz ▸ h
def IW.fault (s : IW) (k : Int) : IW := { s with flt := s.flt ++ [(k, s.at_)] }
def IW.faultIf (s : IW) (c : Bool) (k : Int) : IW := if c then s.fault k else s
def busyOf (s : IW) (call : Int) : IP := match lkI s.busy call with | some j => (s.busy.getD j (0, ip0)).2 | none => ip0
def whereOf (s : IW) (call : Int) : Int := match lkI s.whr call with | some j => (s.whr.getD j (0, 0)).2 | none => 0
def waitsI (s : IW) (x : Ev) : Bool := (busyOf s x.call).waits && decide (whereOf s x.call = x.bk)
def readyI (s : IW) (call : Int) : Option Nat := match lkI s.rqs call with
 | some i => if (s.rqs.getD i (0, ir0)).2.ended || (lkI s.busy call).isSome then none else some i
 | none => none
def ptrR (ad : Adr) (o : Option Nat) : V := match o with | some i => .ptr (adr ad (.rq i)) 5 0 0 | none => .nilp
def ptrC (ad : Adr) (o : Option Nat) : V := match o with | some i => .ptr (adr ad (.cn i)) 10 0 0 | none => .nilp
def mayI (s : IW) (x : Ev) : Bool := waitsI s x || (match readyI s x.call with | some i => decide ((s.rqs.getD i (0, ir0)).2.at_ = x.bk) | none => false)
def thereI (s : IW) (x : Ev) : Option Nat := match (s.cns.map (·.num)).findIdx? (· == x.conn) with
 | some i => if (s.cns.getD i ic0).st = 5 ∨ (s.cns.getD i ic0).bk ≠ x.bk then none else some i
 | none => none
def ownI (s : IW) (x : Ev) : Option Nat := match thereI s x with
 | some i => if (s.cns.getD i ic0).st = 1 ∧ (s.cns.getD i ic0).call = x.call then some i else none
 | none => none
theorem busy_find (s : IW) (call : Int) : (findV (.int .i64 call) (mapL s.busy ipV) 0 = some none ∧ busyOf s call = ip0) ∨ ∃ j, findV (.int .i64 call) (mapL s.busy ipV) 0 = some (some (j, ipV (busyOf s call))) := by
 rw [mapL_find call ipV (0, ip0)]
 unfold busyOf
 cases lkI s.busy call with
 | none => exact .inl ⟨rfl, rfl⟩
 | some j => exact .inr ⟨0 + j, rfl⟩
theorem whr_find (s : IW) (call : Int) : (findV (.int .i64 call) (mapL s.whr iI) 0 = some none ∧ whereOf s call = 0) ∨ ∃ j, findV (.int .i64 call) (mapL s.whr iI) 0 = some (some (j, iI (whereOf s call))) := by
 rw [mapL_find call iI (0, 0)]
 unfold whereOf
 cases lkI s.whr call with
 | none => exact .inl ⟨rfl, rfl⟩
 | some j => exact .inr ⟨0 + j, rfl⟩
theorem rq_find (s : IW) (call : Int) (ad : Adr) : findV (.int .i64 call) (mapE (s.rqs.map (·.1)) fun i => .ptr (adr ad (.rq i)) 5 0 0) 0 = some ((lkI s.rqs call).map fun j => (j, .ptr (adr ad (.rq j)) 5 0 0)) := by
 rw [mapE_find]
 unfold lkI
 rw [List.findIdx?_map]
 simp only [Nat.zero_add]
 rfl
theorem cn_find (s : IW) (n : Int) (ad : Adr) : findV (.int .i64 n) (mapE (s.cns.map (·.num)) fun i => .ptr (adr ad (.cn i)) 10 0 0) 0 = some (((s.cns.map (·.num)).findIdx? (· == n)).map fun j => (j, .ptr (adr ad (.cn j)) 10 0 0)) := by
 rw [mapE_find]
 simp only [Nat.zero_add]
theorem cn_lt {s : IW} {n : Int} {i : Nat} (h : (s.cns.map (·.num)).findIdx? (· == n) = some i) : ∃ hi : i < s.cns.length, s.cns[i].num = n := by
 rw [List.findIdx?_eq_some_iff_getElem] at h
 obtain ⟨hi, h1, _⟩ := h
 have hi' : i < s.cns.length := by simpa using hi
 exact ⟨hi', by simpa using h1⟩
theorem there_at {s : IW} {x : Ev} {i : Nat} (h : thereI s x = some i) : ∃ hi : i < s.cns.length, s.cns[i].num = x.conn ∧ s.cns[i].st ≠ 5 ∧ s.cns[i].bk = x.bk := by
 unfold thereI at h
 split at h
 · rename_i j hj
   obtain ⟨hi, h1⟩ := cn_lt hj
   split at h
   · cases h
   · rename_i hc
     injection h with h
     subst h
     obtain ⟨c1, c2⟩ := not_or.1 hc
     simp only [List.getD_eq_getElem?_getD, List.getElem?_eq_getElem hi, Option.getD_some] at c1 c2
     exact ⟨hi, h1, c1, Decidable.byContradiction c2⟩
 · cases h
theorem Tryz.fault_i {bx0 bx : Boxes} {ad : Adr} {s : IW} (h : WI bx0 ad s bx) {p : Nat} (hp : ad .w = some p) (kind : Int) (hl : s.flt.length ≤ 100000) :
   AbsCall Tryz.prog 112 [.ptr p 13 0 0, .int .i64 kind] bx (StepV bx0 ad (s.fault kind)) := by
 refine Tryz.ctr112 fun hf => ?_
 obtain ⟨pb, pc, pr, pm, pw, hn⟩ := h.names hp
 have hrow := h.row hn
 unfold stV at hrow
 have hfl := h.fltO
 simp [go_sem, Tryz.C112, hf, hrow, iI]
 refine own_app (.agg #[.int .i64 0, .int .i64 0]) hfl hf (news := [fltV (kind, s.at_)]) Tryz.knd31 Tryz.tsz66 (by simp [go_sem, srcEls, fltV, iI]) Tryz.tzero66 (by simp [go_sem]) (by decide) (by simp [Tryz.tby66]; omega) (by simp; omega) (by simp [go_sem]) fun v' bx' ha hm _ => ?_
 have ha' : OwnV bx' tyF 2 ((s.flt ++ [(kind, s.at_)]).map fltV) v' := by simpa using ha
 have hw := h.fault hn (kind, s.at_) hm ha'
 have hp' : bx' p = _ := (hm.other (by rw [hrow]; simp) (hfl.ne hrow (by decide))).trans hrow
 simp [go_sem, hp', ha.strip, ha.live, ha.cells, ha.okV, hm.fin, iI]
 exact ret_keep (by simp [go_sem]) ⟨by simp [go_sem], _, WI.keep rfl _, hw⟩
theorem Tryz.waits_i {bx0 bx : Boxes} {ad : Adr} {s : IW} (h : WI bx0 ad s bx) {p : Nat} (hp : ad .w = some p) (x : Ev) :
   PureCall Tryz.prog 113 [.ptr p 13 0 0, evV x] bx (.bool (waitsI s x)) := by
 refine Tryz.ctr113 fun hf => ?_
 obtain ⟨pb, pc, pr, pm, pw, hn⟩ := h.names hp
 have hrow := h.row hn
 unfold stV at hrow
 have hmb := h.mbR hn
 have hmw := h.mwR hn
 unfold waitsI
 rcases busy_find s x.call with ⟨f1, e1⟩ | ⟨j1, f1⟩
 · rw [e1]
   simp [go_sem, Tryz.C113, hf, hrow, evV, iI, hmb, f1]
   exact ret_pure (by simp [go_sem]) ⟨by simp [go_sem, ip0], rfl⟩
 · cases hbw : (busyOf s x.call).waits
   · simp [go_sem, Tryz.C113, hf, hrow, evV, iI, hmb, f1, ipV, hbw]
     exact ret_pure (by simp [go_sem]) ⟨by simp [go_sem], rfl⟩
   · rcases whr_find s x.call with ⟨f2, e2⟩ | ⟨j2, f2⟩
     · rw [e2]
       simp [go_sem, Tryz.C113, hf, hrow, evV, iI, hmb, f1, ipV, hbw, hmw, f2]
       exact ret_pure (by simp [go_sem]) ⟨by simp [go_sem], rfl⟩
     · simp [go_sem, Tryz.C113, hf, hrow, evV, iI, hmb, f1, ipV, hbw, hmw, f2]
       exact ret_pure (by simp [go_sem]) ⟨by simp [go_sem], rfl⟩
theorem Tryz.ready_i {bx0 bx : Boxes} {ad : Adr} {s : IW} (h : WI bx0 ad s bx) {p : Nat} (hp : ad .w = some p) (call : Int) :
   PureCall Tryz.prog 111 [.ptr p 13 0 0, .int .i64 call] bx (ptrR ad (readyI s call)) := by
 refine Tryz.ctr111 fun hf => ?_
 obtain ⟨pb, pc, pr, pm, pw, hn⟩ := h.names hp
 have hrow := h.row hn
 unfold stV at hrow
 have hmr := h.mrR hn
 have hmb := h.mbR hn
 have f1 := rq_find s call ad
 have f2 := mapL_find call ipV (0, ip0) s.busy 0
 unfold readyI
 cases h1 : lkI s.rqs call with
 | none =>
   rw [h1] at f1
   simp only [Option.map_none] at f1
   cases h2 : lkI s.busy call <;> rw [h2] at f2 <;> simp only [Option.map_none, Option.map_some] at f2
   · simp [go_sem, Tryz.C111, hf, hrow, hmr, hmb, f1, f2]
     intro b hb
     exact ret_drop (bx := bx) (by simp [go_sem]) (ext_newI hb _) ⟨by simp [go_sem, ptrR], rfl⟩
   · simp [go_sem, Tryz.C111, hf, hrow, hmr, hmb, f1, f2, ipV]
     intro b hb
     exact ret_drop (bx := bx) (by simp [go_sem]) (ext_newI hb _) ⟨by simp [go_sem, ptrR], rfl⟩
 | some i =>
   rw [h1] at f1
   simp only [Option.map_some] at f1
   obtain ⟨hi, _⟩ := lkI_lt h1
   obtain ⟨b0, hb0, hr0⟩ := h.rqR hi
   rw [adr_of hb0] at f1
   have e1 : s.rqs.getD i (0, ir0) = s.rqs[i] := by simp [hi]
   simp only [e1]
   cases h2 : lkI s.busy call <;> rw [h2] at f2 <;> simp only [Option.map_none, Option.map_some] at f2
   all_goals (
     simp [go_sem, Tryz.C111, hf, hrow, hmr, hmb, f1, f2, ipV]
     intro b hb
     have hne : b0 ≠ b := by rintro rfl; rw [hr0] at hb; cases hb
     have hr1 : ∀ z, upd bx b z b0 = some (.row tyIR 5 [irV s.rqs[i].2]) := fun z => by rw [upd_ne _ _ hne, hr0]
     cases he : s.rqs[i].2.ended
     all_goals (
       simp [go_sem, hr1, irV, iI, he]
       exact ret_drop (bx := bx) (by simp [go_sem]) (ext_newI hb _) ⟨by simp [go_sem, ptrR, adr_of hb0], rfl⟩))
theorem Tryz.may_i {bx0 bx : Boxes} {ad : Adr} {s : IW} (h : WI bx0 ad s bx) {p : Nat} (hp : ad .w = some p) (x : Ev) :
   PureCall Tryz.prog 114 [.ptr p 13 0 0, evV x] bx (.bool (mayI s x)) := by
 refine Tryz.ctr114 fun hf => ?_
 have cR := Tryz.ready_i h hp x.call
 have cW := Tryz.waits_i h hp x
 have evg : V.agg [V.int .i64 x.kind, V.int .i64 x.bk, V.int .i64 x.t, V.int .i64 x.call, V.int .i64 x.conn, V.int .i64 x.of_, V.int .i64 x.n, V.bool x.yes] = evV x := by simp [evV, iI]
 simp [go_sem, Tryz.C114, hf, evV, iI]
 unfold mayI
 cases hr : readyI s x.call with
 | none =>
   rw [hr] at cR
   unfold ptrR at cR
   refine callK_pure cR ?_
   simp [go_sem, hf]
   rw [evg]
   refine callK_pure cW ?_
   cases waitsI s x
   all_goals (
     simp [go_sem, hf]
     exact ret_pure (by simp [go_sem]) ⟨by simp [go_sem], rfl⟩)
 | some i =>
   rw [hr] at cR
   unfold ptrR at cR
   have hi : i < s.rqs.length := by
     unfold readyI at hr
     split at hr
     · rename_i j hj
       split at hr
       · cases hr
       · injection hr with hr
         subst hr
         exact (lkI_lt hj).1
     · cases hr
   obtain ⟨b0, hb0, hr0⟩ := h.rqR hi
   have e1 : s.rqs.getD i (0, ir0) = s.rqs[i] := by simp [hi]
   simp only [adr_of hb0] at cR
   refine callK_pure cR ?_
   simp [go_sem, hf]
   rw [evg]
   refine callK_pure cW ?_
   cases waitsI s x
   · by_cases c1 : s.rqs[i].2.at_ = x.bk
     all_goals (
       simp [go_sem, hf, hr0, irV, iI, c1, hi, evV]
       exact ret_pure (by simp [go_sem]) ⟨by simp [go_sem], rfl⟩)
   · simp [go_sem, hf]
     exact ret_pure (by simp [go_sem]) ⟨by simp [go_sem], rfl⟩
theorem Tryz.there_i {bx0 bx : Boxes} {ad : Adr} {s : IW} (h : WI bx0 ad s bx) {p : Nat} (hp : ad .w = some p) (x : Ev) :
   PureCall Tryz.prog 120 [.ptr p 13 0 0, evV x] bx (ptrC ad (thereI s x)) := by
 refine Tryz.ctr120 fun hf => ?_
 obtain ⟨pb, pc, pr, pm, pw, hn⟩ := h.names hp
 have hrow := h.row hn
 unfold stV at hrow
 have hmc := h.mcR hn
 have f1 := cn_find s x.conn ad
 unfold thereI
 cases h1 : (s.cns.map (·.num)).findIdx? (· == x.conn) with
 | none =>
   rw [h1] at f1
   simp only [Option.map_none] at f1
   simp [go_sem, Tryz.C120, hf, hrow, hmc, f1, evV, iI]
   exact ret_pure (by simp [go_sem]) ⟨by simp [go_sem, ptrC], rfl⟩
 | some i =>
   rw [h1] at f1
   simp only [Option.map_some] at f1
   obtain ⟨hi, _⟩ := cn_lt h1
   obtain ⟨b0, hb0, hr0⟩ := h.cnR hi
   rw [adr_of hb0] at f1
   have e1 : s.cns.getD i ic0 = s.cns[i] := by simp [hi]
   simp only [e1]
   by_cases c1 : s.cns[i].st = 5 <;> by_cases c2 : s.cns[i].bk = x.bk <;> simp [go_sem, Tryz.C120, hf, hrow, hmc, f1, evV, iI, hr0, icV, c1, c2]
   all_goals exact ret_pure (by simp [go_sem]) ⟨by simp [go_sem, ptrC, adr_of hb0, c1, c2], rfl⟩
theorem Tryz.own_i {bx0 bx : Boxes} {ad : Adr} {s : IW} (h : WI bx0 ad s bx) {p : Nat} (hp : ad .w = some p) (x : Ev) :
   PureCall Tryz.prog 121 [.ptr p 13 0 0, evV x] bx (ptrC ad (ownI s x)) := by
 refine Tryz.ctr121 fun hf => ?_
 have cT := Tryz.there_i h hp x
 have evg : V.agg [V.int .i64 x.kind, V.int .i64 x.bk, V.int .i64 x.t, V.int .i64 x.call, V.int .i64 x.conn, V.int .i64 x.of_, V.int .i64 x.n, V.bool x.yes] = evV x := by simp [evV, iI]
 simp [go_sem, Tryz.C121, hf, evV, iI]
 rw [evg]
 unfold ownI
 cases hr : thereI s x with
 | none =>
   rw [hr] at cT
   unfold ptrC at cT
   refine callK_pure cT ?_
   simp [go_sem, hf]
   exact ret_pure (by simp [go_sem]) ⟨by simp [go_sem, ptrC], rfl⟩
 | some i =>
   rw [hr] at cT
   unfold ptrC at cT
   obtain ⟨hi, _⟩ := there_at hr
   obtain ⟨b0, hb0, hr0⟩ := h.cnR hi
   have e1 : s.cns.getD i ic0 = s.cns[i] := by simp [hi]
   simp only [adr_of hb0] at cT
   simp only [e1]
   refine callK_pure cT ?_
   by_cases c1 : s.cns[i].st = 1 <;> by_cases c2 : s.cns[i].call = x.call <;> simp [go_sem, hf, hr0, icV, iI, c1, c2, evV]
   all_goals exact ret_pure (by simp [go_sem]) ⟨by simp [go_sem, ptrC, adr_of hb0, c1, c2], rfl⟩
end Go.Proofs

set_option linter.unusedSimpArgs false
set_option linter.unusedVariables false
set_option maxRecDepth 100000
namespace Go.Proofs
open Go Go.Pl
theorem mapL_erase {α : Type} (f : α → V) : ∀ (l : List (Int × α)) (j : Nat), (mapL l f).eraseIdx j = mapL (l.eraseIdx j) f
 | [], j => by simp [mapL]
 | y :: l, 0 => by simp [mapL]
 | y :: l, j + 1 => by
   have := mapL_erase f l j
   unfold mapL at this ⊢
   simpa using this
theorem mapL_set {α : Type} (f : α → V) (l : List (Int × α)) (j : Nat) (k : Int) (x : α) : (mapL l f).set j (iI k, f x) = mapL (l.set j (k, x)) f := by
 unfold mapL
 rw [List.map_set]
theorem mapL_app {α : Type} (f : α → V) (l : List (Int × α)) (k : Int) (x : α) : mapL l f ++ [(iI k, f x)] = mapL (l ++ [(k, x)]) f := by
 unfold mapL
 rw [List.map_append]
 rfl
theorem ent_put {α : Type} (l : List (Int × α)) (k : Int) (f : α → V) (z : V) (x : α) : ∃ es1 j v a c, entIdx (.int .i64 k) z (mapL l f) = some (es1, j, v) ∧ es1[j]? = some (a, c) ∧ es1.set j (a, f x) = mapL (putK l k x) f := by
 cases hl : lkI l k with
 | none =>
   refine ⟨mapL l f ++ [(.int .i64 k, z)], (mapL l f).length, z, .int .i64 k, z, ?_, by simp, ?_⟩
   · unfold entIdx
     have : findV (.int .i64 k) (mapL l f) 0 = some none := by
       cases l with
       | nil => rfl
       | cons y l' => rw [mapL_find k f y (y :: l') 0, hl]; rfl
     rw [this]
   · unfold putK
     rw [hl]
     dsimp only
     rw [← mapL_app]
     rw [List.set_append_right _ _ (Nat.le_refl _)]
     simp [iI]
 | some j =>
   obtain ⟨hj, hk⟩ := lkI_lt hl
   refine ⟨mapL l f, j, f l[j].2, .int .i64 k, f l[j].2, ?_, ?_, ?_⟩
   · unfold entIdx
     have : findV (.int .i64 k) (mapL l f) 0 = some (some (j, f l[j].2)) := by
       rw [mapL_find k f l[j] l 0, hl]
       simp [hj]
     rw [this]
   · unfold mapL
     rw [List.getElem?_map, List.getElem?_eq_getElem hj, Option.map_some, hk]
     rfl
   · unfold putK
     rw [hl]
     exact mapL_set f l j k x
def becomesI (s : IW) (x : Ev) (q : IP) : IW := if q = ip0 then { s with busy := delK s.busy x.call } else { s with busy := putK s.busy x.call q, whr := putK s.whr x.call x.bk }
theorem Tryz.becomes0_i {bx0 bx : Boxes} {ad : Adr} {s : IW} (h : WI bx0 ad s bx) {p : Nat} (hp : ad .w = some p) (x : Ev) :
   AbsCall Tryz.prog 115 [.ptr p 13 0 0, evV x, ipV ip0] bx (StepV bx0 ad (becomesI s x ip0)) := by
 refine Tryz.ctr115 fun hf => ?_
 obtain ⟨pb, pc, pr, pm, pw, hn⟩ := h.names hp
 have hrow := h.row hn
 unfold stV at hrow
 have hmb := h.mbR hn
 have f2 := mapL_find x.call ipV (0, ip0) s.busy 0
 have hw := h.setBusy hn (delK s.busy x.call)
 unfold becomesI
 rw [if_pos rfl]
 unfold delK at hw ⊢
 cases h2 : lkI s.busy x.call <;> rw [h2] at f2 hw <;> simp only [Option.map_none, Option.map_some] at f2 hw
 · simp [go_sem, Tryz.C115, hf, hrow, hmb, f2, evV, iI, ipV, ip0]
   exact ret_keep (by simp [go_sem]) ⟨by simp [go_sem], ad, Keep.refl _, hw⟩
 · simp [go_sem, Tryz.C115, hf, hrow, hmb, f2, evV, iI, ipV, ip0]
   rw [mapL_erase]
   exact ret_keep (by simp [go_sem]) ⟨by simp [go_sem], ad, Keep.refl _, hw⟩
theorem Tryz.becomes1_i {bx0 bx : Boxes} {ad : Adr} {s : IW} (h : WI bx0 ad s bx) {p : Nat} (hp : ad .w = some p) (x : Ev) (q : IP) (hq : q = ⟨true, false, false⟩ ∨ q = ⟨false, true, false⟩ ∨ q = ⟨false, false, true⟩) :
   AbsCall Tryz.prog 115 [.ptr p 13 0 0, evV x, ipV q] bx (StepV bx0 ad (becomesI s x q)) := by
 refine Tryz.ctr115 fun hf => ?_
 obtain ⟨pb, pc, pr, pm, pw, hn⟩ := h.names hp
 have hrow := h.row hn
 unfold stV at hrow
 have hmb := h.mbR hn
 have hmw := h.mwR hn
 have hne : pw ≠ pm := fun e => by have := h.inj .mw .mb pw hn.h (by rw [e]; exact hn.m); cases this
 obtain ⟨es1, j1, v1, a1, c1, hE1, hA1, hS1⟩ := ent_put s.busy x.call ipV (.agg [.bool false, .bool false, .bool false]) q
 obtain ⟨es2, j2, v2, a2, c2, hE2, hA2, hS2⟩ := ent_put s.whr x.call iI (.int .i64 0) (x.bk : Int)
 have hw1 := h.setBusy hn (putK s.busy x.call q)
 have hw2 := hw1.setWhr hn (putK s.whr x.call x.bk)
 have hz : becomesI s x q = { s with busy := putK s.busy x.call q, whr := putK s.whr x.call x.bk } := by
   unfold becomesI
   rw [if_neg (by rcases hq with rfl | rfl | rfl <;> decide)]
 rw [hz]
 rcases hq with rfl | rfl | rfl
 all_goals (
   simp only [ipV, iI] at hS1 hS2
   simp [go_sem, Tryz.C115, hf, hrow, hmb, hmw, hne, upd_ne, hE1, hE2, evV, iI, ipV]
   refine ⟨by simp [fzAt, clAt, fzb, callQ], ?_⟩
   unfold entIdx at hE1 hE2
   rw [hE1]
   dsimp only
   intro bs q1 g1 g2 g3
   refine ⟨j1, q1, rfl, g3, a1, ⟨c1, hA1⟩, ?_⟩
   rw [hE2]
   dsimp only
   intro bs2 q2 k1 k2 k3
   refine ⟨j2, q2, rfl, k3, a2, ⟨c2, hA2⟩, ?_⟩
   rw [hS1, hS2]
   exact ret_keep (by simp [go_sem]) ⟨by simp [go_sem], ad, Keep.refl _, hw2⟩)
end Go.Proofs

set_option linter.unusedVariables false
set_option linter.unusedSimpArgs false
set_option maxRecDepth 100000
namespace Go.Proofs
open Go Go.Pl
def fIdx {α : Type} (p : α → Bool) (l : List α) : Int := match l.findIdx? p with
 | some i => i
 | none => -1
theorem fIdx_hit {α : Type} {p : α → Bool} {l : List α} {d : α} {i : Nat} (hi : i < l.length) (hJ : ∀ j, j < i → p (l.getD j d) = false) (h : p l[i] = true) : fIdx p l = i := by
 unfold fIdx
 have : l.findIdx? p = some i := by
   rw [List.findIdx?_eq_some_iff_getElem]
   refine ⟨hi, h, fun j hj => ?_⟩
   have h1 := hJ j hj
   have h2 : j < l.length := by omega
   simp [h2] at h1
   simp [h1]
 rw [this]
theorem fIdx_none {α : Type} {p : α → Bool} {l : List α} {d : α} (hJ : ∀ j, j < l.length → p (l.getD j d) = false) : fIdx p l = -1 := by
 unfold fIdx
 have : l.findIdx? p = none := by
   rw [List.findIdx?_eq_none_iff]
   intro x hx
   obtain ⟨j, hj, rfl⟩ := List.getElem_of_mem hx
   have := hJ j hj
   simpa [hj] using this
 rw [this]
theorem fIdx_or {α : Type} (p : α → Bool) (l : List α) : (fIdx p l = -1 ∧ ∀ x, x ∈ l → p x = false) ∨ ∃ (i : Nat) (hi : i < l.length), fIdx p l = i ∧ p l[i] = true ∧ ∀ x, x ∈ l.take i → p x = false := by
 unfold fIdx
 cases h : l.findIdx? p with
 | none =>
   left
   rw [List.findIdx?_eq_none_iff] at h
   exact ⟨rfl, fun x hx => by simpa using h x hx⟩
 | some i =>
   right
   rw [List.findIdx?_eq_some_iff_getElem] at h
   obtain ⟨hi, h1, h2⟩ := h
   refine ⟨i, hi, rfl, h1, fun x hx => ?_⟩
   obtain ⟨j, hj, rfl⟩ := List.getElem_of_mem hx
   rw [List.length_take] at hj
   rw [List.getElem_take]
   simpa using h2 j (by omega)
theorem filter_all {α : Type} {p : α → Bool} {l : List α} (h : ∀ x, x ∈ l → p x = false) : (l.filter fun x => !p x) = l := by
 rw [List.filter_eq_self]
 intro x hx
 simp [h x hx]
theorem Tryz.IndexFunc_i (p : Int → Bool) (g : FuncId) (caps : List V) (L : List Int) (hl : L.length ≤ 1000000) {b : Nat} {bx : Boxes} (hb : bx b = some (.row 2 1 (L.map (V.int .i64)))) (hp : ∀ x, x ∈ L → PureCall Tryz.prog g ((V.int .i64) x :: caps) bx (.bool (p x))) :
   PureCall Tryz.prog 170 [.own b 1 0 L.length, .fn (.func g) caps] bx (.int .i64 (fIdx p L)) := by
 refine Tryz.ctr170 fun hf => ?_
 simp [go_sem, Tryz.C170, hf]
 refine pw_find L.length (fun i => p (L.getD i 0)) (fun i => ⟨19, slk [(0, .own b 1 0 L.length), (1, .fn (.func g) caps), (7, .int .i64 L.length), (8, .int .i64 i)], bx⟩) (cov_look (by simp [go_sem])) (fun i hi hJ N hN => ?_) (fun hJ N => ?_)
 · have hw := wr_succ (k := i) (by omega)
   have hg : L.getD i 0 = L[i] := by simp [hi]
   have hR : (L.map (V.int .i64))[i]? = some ((V.int .i64) L[i]) := by rw [List.getElem?_map, List.getElem?_eq_getElem hi]; rfl
   have hp1 := hp L[i] (List.getElem_mem hi)
   rw [hg] at hN
   simp [go_sem, Tryz.L170_0, hi, hf, hw, hb, hR, List.length_map]
   refine callK_pure hp1 ?_
   cases hpi : p L[i]
   · simp [go_sem, hf, hw]
     exact hN _ hpi (cov_look (by simp [go_sem]))
   · simp [go_sem, hf, hw]
     refine ret_pure (by simp [go_sem]) ⟨?_, rfl⟩
     simp [go_sem, fIdx_hit hi hJ hpi]
 · simp [go_sem, Tryz.L170_0, hf]
   refine ret_pure (by simp [go_sem]) ⟨?_, rfl⟩
   simp [go_sem, fIdx_none hJ]
set_option maxHeartbeats 1000000 in
theorem Tryz.DeleteFunc_i (p : Int → Bool) (g : FuncId) (caps : List V) (L : List Int) (hl : L.length ≤ 1000000) {b : Nat} {bx : Boxes} (hb : bx b = some (.row 2 1 (L.map (V.int .i64)))) (hp : ∀ x, x ∈ L → ∀ row, PureCall Tryz.prog g ((V.int .i64) x :: caps) (upd bx b (some (.row 2 1 row))) (.bool (p x))) :
   AbsCall Tryz.prog 152 [.own b 1 0 L.length, .fn (.func g) caps] bx fun r bx' => r = .own b 1 0 (L.filter fun x => !p x).length ∧ ∃ row, bx' = upd bx b (some (.row 2 1 row)) ∧ row.length = L.length ∧ row.take (L.filter fun x => !p x).length = (L.filter fun x => !p x).map (V.int .i64) := by
 have hbb : upd bx b (some (.row 2 1 (L.map (V.int .i64)))) = bx := by
   funext c
   by_cases e : c = b
   · subst e; rw [upd_eq, hb]
   · rw [upd_ne _ _ e]
 refine Tryz.ctr152 fun hf => ?_
 simp [go_sem, Tryz.C152, hf]
 refine callK_pure (Tryz.IndexFunc_i p g caps L hl hb (fun x hx => by have := hp x hx (L.map (V.int .i64)); rwa [hbb] at this)) ?_
 rcases fIdx_or p L with ⟨h1, h2⟩ | ⟨i, hi, h1, h2, h3⟩
 · simp [go_sem, h1, hf]
   refine ret_pure (by simp [go_sem]) ⟨?_, L.map (V.int .i64), hbb.symm, by simp, ?_⟩
   · simp [go_sem, filter_all h2]
   · rw [filter_all h2, List.take_of_length_le (by simp)]
 · have hwi := wr_succ (k := i) (by omega)
   have hwi2 : IntKind.i64.wrap (i : Int) = (i : Int) := wr64 (by omega)
   have hne : ¬ (i : Int) = -1 := by omega
   simp [go_sem, h1, hf, hne, hwi]
   have hK0 : (L.take i).filter (fun x => !p x) = L.take i := filter_all h3
   have hKs : ∀ j (hj : j < L.length), (L.take (j + 1)).filter (fun x => !p x) = if p L[j] = true then (L.take j).filter (fun x => !p x) else (L.take j).filter (fun x => !p x) ++ [L[j]] := by
     intro j hj
     rw [List.take_succ_eq_append_getElem hj, List.filter_append]
     cases h : p L[j] <;> simp [h]
   have hKl : ∀ j, ((L.take j).filter (fun x => !p x)).length ≤ L.length := fun j => Nat.le_trans (List.length_filter_le _ _) (by simp; omega)
   refine pw_loop (ι := Nat × List Int × Boxes) (fun q => q.1 ≤ L.length ∧ q.2.1 ≠ [] ∧ q.2.1.length + ((L.take q.1).filter fun x => !p x).length = q.1 ∧ q.2.2 = upd bx b (some (.row 2 1 (((L.take q.1).filter fun x => !p x).map (V.int .i64) ++ q.2.1.map (V.int .i64) ++ (L.drop q.1).map (V.int .i64))))) (fun q => ⟨42, slk [(0, .own b 1 0 L.length), (1, .fn (.func g) caps), (5, .int .i64 ((L.take q.1).filter fun x => !p x).length), (6, .int .i64 q.1)], q.2.2⟩) (fun q => L.length - q.1) (i + 1, [L[i]], bx) ⟨hi, by simp, ?_, ?_⟩ (cov_look ?_) ?_
   · dsimp only
     rw [hKs i hi, if_pos h2, hK0]; simp; omega
   · dsimp only
     rw [hKs i hi, if_pos h2, hK0]
     have hsp : L = L.take i ++ [L[i]] ++ L.drop (i + 1) := by rw [← List.take_succ_eq_append_getElem hi, List.take_append_drop]
     have hsp2 := congrArg (List.map (V.int .i64)) hsp
     rw [List.map_append, List.map_append, List.map_cons, List.map_nil] at hsp2
     rw [List.map_cons, List.map_nil, ← hsp2, hbb]
   · dsimp only
     rw [hKs i hi, if_pos h2, hK0]
     simp [go_sem]; omega
   · rintro ⟨j, junk, bx1⟩ ⟨g1, g2, g3, g4⟩
     dsimp only at g1 g2 g3 g4 ⊢
     have hKj := hKl j
     by_cases hj : j < L.length
     · have hKsj := hKs j hj
       generalize (L.take j).filter (fun x => !p x) = K at *
       have hwj := wr_succ (k := j) (by omega)
       obtain ⟨y0, junk2, rfl⟩ : ∃ y0 junk2, junk = y0 :: junk2 := by
         cases junk with
         | nil => exact absurd rfl g2
         | cons y0 j2 => exact ⟨y0, j2, rfl⟩
       simp at g3
       rw [List.map_cons] at g4
       have hRl : (K.map (V.int .i64) ++ ((V.int .i64) y0 :: junk2.map (V.int .i64)) ++ (L.drop j).map (V.int .i64)).length = L.length := by simp; omega
       have hRj : (K.map (V.int .i64) ++ ((V.int .i64) y0 :: junk2.map (V.int .i64)) ++ (L.drop j).map (V.int .i64))[j]? = some ((V.int .i64) L[j]) := by
         rw [List.getElem?_append_right (by simp; omega), List.getElem?_map, show j - (K.map (V.int .i64) ++ ((V.int .i64) y0 :: junk2.map (V.int .i64))).length = 0 by simp; omega, List.drop_eq_getElem_cons hj]
         rfl
       have hset : ∀ y, (K.map (V.int .i64) ++ ((V.int .i64) y0 :: junk2.map (V.int .i64)) ++ (L.drop j).map (V.int .i64)).set K.length y = K.map (V.int .i64) ++ (y :: junk2.map (V.int .i64)) ++ (L.drop j).map (V.int .i64) := by
         intro y
         rw [List.append_assoc, List.set_append_right _ _ (by simp), List.length_map, Nat.sub_self, List.append_assoc]
         rfl
       have hdr : (L.drop j).map (V.int .i64) = (V.int .i64) L[j] :: (L.drop (j + 1)).map (V.int .i64) := by rw [List.drop_eq_getElem_cons hj]; rfl
       have hRK : (K.map (V.int .i64) ++ ((V.int .i64) y0 :: junk2.map (V.int .i64)) ++ (L.drop j).map (V.int .i64))[K.length]? = some ((V.int .i64) y0) := by
         rw [List.append_assoc, List.getElem?_append_right (by simp), List.length_map, Nat.sub_self]
         rfl
       have hpj := hp L[j] (List.getElem_mem hj)
       have hwK := wr_succ (k := K.length) (by omega)
       have hfx : FinB bx1 := by rw [g4]; exact (finB_upd _ _ _).2 hf
       have hbx1 : bx1 b = some (.row 2 1 (K.map (V.int .i64) ++ ((V.int .i64) y0 :: junk2.map (V.int .i64)) ++ (L.drop j).map (V.int .i64))) := by rw [g4, upd_eq]
       have hpj1 := hpj (K.map (V.int .i64) ++ ((V.int .i64) y0 :: junk2.map (V.int .i64)) ++ (L.drop j).map (V.int .i64))
       rw [← g4] at hpj1
       generalize hR : K.map (V.int .i64) ++ ((V.int .i64) y0 :: junk2.map (V.int .i64)) ++ (L.drop j).map (V.int .i64) = R at *
       have hRe := (List.getElem?_eq_some_iff.1 hRj).2
       have hRKe := (List.getElem?_eq_some_iff.1 hRK).2
       have hKlt : K.length < L.length := by omega
       simp [go_sem, Tryz.L152_0, hj, hfx, hbx1, hRj, hRl, hRe, List.length_map]
       refine callK_pure hpj1 ?_
       cases hpb : p L[j]
       · rw [hpb, if_neg (by simp)] at hKsj
         simp [go_sem, hfx, hbx1, hRl, hwK, hwj, hKlt, -List.map_set, hset, hRKe, hRe]
         refine ⟨(j + 1, junk2 ++ [L[j]], upd bx1 b _), ⟨hj, by simp, by dsimp only; rw [hKsj]; simp; omega, ?_⟩, cov_look (by simp [go_sem, hKsj]), by dsimp only; omega⟩
         dsimp only
         rw [hKsj, g4, upd_upd]
         congr 3
         rw [← List.map_drop, hdr]
         simp
       · rw [hpb, if_pos rfl] at hKsj
         simp [go_sem, hfx, hwj]
         refine ⟨(j + 1, y0 :: (junk2 ++ [L[j]]), bx1), ⟨hj, by simp, by dsimp only; rw [hKsj]; simp; omega, ?_⟩, cov_look (by simp [go_sem, hKsj]), by dsimp only; omega⟩
         dsimp only
         rw [hKsj, g4, ← hR, hdr]
         simp
     · have : j = L.length := by omega
       subst this
       rw [List.take_length] at g3 g4 ⊢
       rw [List.drop_length, List.map_nil, List.append_nil] at g4
       have hfx : FinB bx1 := by rw [g4]; exact (finB_upd _ _ _).2 hf
       generalize (L.filter fun x => !p x) = K at *
       have hbx1 : bx1 b = some (.row 2 1 (K.map (V.int .i64) ++ junk.map (V.int .i64))) := by rw [g4, upd_eq]
       have hjl : junk.length ≠ 0 := fun e => g2 (List.length_eq_zero_iff.1 e)
       have hKL : K.length < L.length := by omega
       simp [go_sem, Tryz.L152_0, hfx, hbx1, List.length_map, clearA, hKL]
       refine ⟨by omega, by omega, by omega, ret_pure (by simp [go_sem]) ⟨by simp [go_sem], _, by rw [g4, upd_upd], ?_, ?_⟩⟩
       · simp; omega
       · simp
end Go.Proofs

set_option linter.unusedSimpArgs false
set_option linter.unusedVariables false
set_option maxRecDepth 100000
namespace Go.Pl
open Go
theorem AbsCall.sub {P : Program} {f : FuncId} {args : List V} {bx : Boxes} {Kc K2 : V → Boxes → Prop} (h : AbsCall P f args bx Kc) (hs : ∀ r bx', Kc r bx' → ∃ bx2, SubBx bx' bx2 ∧ K2 r bx2) : AbsCall P f args bx K2 := by
 refine ⟨h.1, fun β M w vs h1 h2 h3 h4 => (h.2 β M w vs h1 h2 h3 h4).mono ?_⟩
 rintro e w' ⟨v, r, bx', β', rfl, hk, hok, ht, hrep⟩
 obtain ⟨bx2, hs2, hk2⟩ := hs r bx' hk
 exact ⟨v, r, bx2, β', rfl, hk2, hok.sub hs2, ht.trans hs2.tr, hs2.rep hrep⟩
end Go.Pl
namespace Go.Proofs
open Go Go.Pl
theorem Tryz.IndexFunc_0 (g : FuncId) (caps : List V) (bx : Boxes) : PureCall Tryz.prog 170 [.nils, .fn (.func g) caps] bx (.int .i64 (-1)) := by
 refine Tryz.ctr170 fun hf => ?_
 simp [go_sem, Tryz.C170, hf]
 refine pw_upto 0 (fun j => ⟨19, slk [(0, .nils), (1, .fn (.func g) caps), (7, .int .i64 0), (8, .int .i64 j)], bx⟩) (cov_look (by simp [go_sem])) (fun j hj N hN => by omega) (fun N => ?_)
 simp [go_sem, Tryz.L170_0, hf]
 exact ret_pure (by simp [go_sem]) ⟨by simp [go_sem], rfl⟩
theorem Tryz.DeleteFunc_0 (g : FuncId) (caps : List V) (bx : Boxes) : PureCall Tryz.prog 152 [.nils, .fn (.func g) caps] bx .nils := by
 refine Tryz.ctr152 fun hf => ?_
 simp [go_sem, Tryz.C152, hf]
 refine callK_pure (Tryz.IndexFunc_0 g caps bx) ?_
 simp [go_sem]
 exact ret_pure (by simp [go_sem]) ⟨by simp [go_sem], rfl⟩
theorem Tryz.DeleteFunc_v (p : Int → Bool) (g : FuncId) (caps : List V) (L : List Int) (hl : L.length ≤ 1000000) {bx : Boxes} {v : V} (hf : FinB bx) (ha : OwnV bx 2 1 (L.map iI) v) (hp : ∀ x, x ∈ L → ∀ bx', PureCall Tryz.prog g (.int .i64 x :: caps) bx' (.bool (p x))) :
   AbsCall Tryz.prog 152 [v, .fn (.func g) caps] bx fun r bx' => OwnV bx' 2 1 ((L.filter fun x => !p x).map iI) r ∧ Moved v r bx bx' := by
 rcases ha with ⟨h1, rfl⟩ | ⟨b, rfl, hb⟩
 · have h3 : L = [] := by simpa using h1
   subst h3
   refine (Tryz.DeleteFunc_0 g caps bx).mono ?_
   rintro r bx' ⟨rfl, rfl⟩
   exact ⟨.inl ⟨rfl, rfl⟩, hf, Ext.refl _, fun b sz o m e => by cases e⟩
 · rw [List.length_map]
   refine (Tryz.DeleteFunc_i p g caps L hl hb (fun x hx row => hp x hx _)).sub ?_
   rintro r bx' ⟨rfl, row, rfl, h5, h6⟩
   refine ⟨upd bx b (some (.row 2 1 (row.take (L.filter fun x => !p x).length))), fun c => ?_, .inr ⟨b, by simp, ?_⟩, (finB_upd _ _ _).2 hf, fun c hc => ?_, fun c sz o m e => ?_⟩
   · by_cases e : c = b
     · subst e
       exact .inr (.inr (.inr ⟨_, 1, row, _, by decide, upd_eq _ _ _, upd_eq _ _ _⟩))
     · exact .inr (.inl (by rw [upd_ne _ _ e, upd_ne _ _ e]))
   · rw [upd_eq, h6]; rfl
   · show upd bx b _ c = upd bx b none c
     have hc : upd bx b none c ≠ none := hc
     by_cases e : c = b
     · subst e; exact absurd (upd_eq _ _ _) hc
     · rw [upd_ne _ _ e, upd_ne _ _ e]
   · injection e with e
     subst e
     exact upd_eq _ _ _
theorem Tryz.served1_i (x : Ev) (n : Int) (bx : Boxes) : PureCall Tryz.prog 153 [.int .i64 n, .ep (evV x) 0] bx (.bool (n == x.call)) := by
 refine Tryz.ctr153 fun hf => ?_
 by_cases e : n = x.call
 all_goals (
   simp [go_sem, Tryz.C153, hf, evV, iI, e]
   exact ret_pure (by simp [go_sem]) ⟨by simp [go_sem, e], rfl⟩)
def dropJ (l : List Int) (n : Int) : List Int := l.filter (· != n)
def servedI (s : IW) (x : Ev) : IW := { s with bks := s.bks.set x.bk { s.bks.getD x.bk ib0 with waits := dropJ (s.bks.getD x.bk ib0).waits x.call } }
theorem Tryz.served_i {bx0 bx : Boxes} {ad : Adr} {s : IW} (h : WI bx0 ad s bx) {p : Nat} (hp : ad .w = some p) (x : Ev) (hx : x.bk < s.bks.length) (hl : s.bks[x.bk].waits.length ≤ 100000) :
   AbsCall Tryz.prog 116 [.ptr p 13 0 0, evV x] bx (StepV bx0 ad (servedI s x)) := by
 refine Tryz.ctr116 fun hf => ?_
 obtain ⟨pb, pc, pr, pm, pw, hn⟩ := h.names hp
 have hrow := h.row hn
 unfold stV at hrow
 have hbk := h.bksR hn
 have hw := h.waiO hx
 have e2 : s.bks.getD x.bk ib0 = s.bks[x.bk] := by simp [hx]
 unfold servedI
 rw [e2]
 simp [go_sem, Tryz.C116, hf, hrow, hbk, hx, evV, iI, ibW, ibV, hw.strip, hw.live]
 refine callK_abs (Tryz.DeleteFunc_v (fun n => n == x.call) _ _ s.bks[x.bk].waits (by omega) hf hw (fun n _ bx' => Tryz.served1_i x n bx')) ?_
 rintro r bx' ⟨ha, hm⟩
 have hm : Moved (slV (ad (.wai x.bk)) 1 s.bks[x.bk].waits.length) r bx bx' := hm
 have ha' : OwnV bx' 2 1 ((dropJ s.bks[x.bk].waits x.call).map iI) r := ha
 have hw2 := h.setW hn hx (dropJ s.bks[x.bk].waits x.call) hm ha'
 have hb1 : bx' pb = some (.row tyIB 6 (s.bks.mapIdx (ibW ad))) := by rw [hm.other (by rw [hbk]; simp) (hw.ne hbk (by decide)), hbk]
 have hf1 := hm.fin
 simp [go_sem, hb1, hx, ibW, ibV, iI, ha.strip, ha.live, ha.cells, ha.okV, hf1]
 exact ret_keep (by simp [go_sem]) ⟨by simp [go_sem], _, WI.keep rfl _, hw2⟩
def firstI (s : IW) (x : Ev) : Bool := match s.bks[x.bk]? with
 | some b => (match b.waits.head? with | some c => c != x.call | none => false)
 | none => false
theorem Tryz.first_i {bx0 bx : Boxes} {ad : Adr} {s : IW} (h : WI bx0 ad s bx) {p : Nat} (hp : ad .w = some p) (x : Ev) (hx : x.bk < s.bks.length) (hl : s.flt.length ≤ 90000) :
   AbsCall Tryz.prog 117 [.ptr p 13 0 0, evV x] bx (StepV bx0 ad (s.faultIf (firstI s x) 9)) := by
 refine Tryz.ctr117 fun hf => ?_
 obtain ⟨pb, pc, pr, pm, pw, hn⟩ := h.names hp
 have hrow := h.row hn
 unfold stV at hrow
 have hbk := h.bksR hn
 have hq := h.waiO hx
 unfold firstI
 rw [List.getElem?_eq_getElem hx]
 dsimp only
 have cF := Tryz.fault_i h hp 9 (by omega)
 obtain ⟨vq, hvq⟩ : ∃ v, slV (ad (.wai x.bk)) 1 s.bks[x.bk].waits.length = v := ⟨_, rfl⟩
 rw [hvq] at hq
 rcases hq with ⟨hl, hv⟩ | ⟨b, hv, hb⟩
 · have h0 : s.bks[x.bk].waits = [] := by simpa using hl
   rw [h0]
   simp [go_sem, Tryz.C117, hf, evV, iI, hrow, hbk, ibW, ibV, hx, hvq, hv]
   exact ret_keep (by simp [go_sem]) ⟨by simp [go_sem], ad, Keep.refl _, by simpa [IW.faultIf] using h⟩
 · cases h0 : s.bks[x.bk].waits with
   | nil =>
     rw [h0] at hv hb
     simp at hv hb
     simp [go_sem, Tryz.C117, hf, evV, iI, hrow, hbk, ibW, ibV, hx, hvq, hv, hb]
     exact ret_keep (by simp [go_sem]) ⟨by simp [go_sem], ad, Keep.refl _, by simpa [IW.faultIf] using h⟩
   | cons y ys =>
     rw [h0] at hv hb
     simp [iI] at hv hb
     by_cases c1 : y = x.call
     · simp [go_sem, Tryz.C117, hf, evV, iI, hrow, hbk, ibW, ibV, hx, hvq, hv, hb, c1]
       exact ret_keep (by simp [go_sem]) ⟨by simp [go_sem], ad, Keep.refl _, by simpa [IW.faultIf, c1] using h⟩
     · simp [go_sem, Tryz.C117, hf, evV, iI, hrow, hbk, ibW, ibV, hx, hvq, hv, hb, c1]
       refine callK_abs cF ?_
       rintro r bx1 ⟨rfl, ad1, hk1, h1⟩
       have hf1 := h1.fin
       simp [go_sem, hf1]
       exact ret_keep (by simp [go_sem]) ⟨by simp [go_sem], ad1, hk1, by simpa [IW.faultIf, c1] using h1⟩
def dialledI (s : IW) (x : Ev) : IW × Bool :=
 if (busyOf s x.call).dials = true ∧ whereOf s x.call = x.bk then
   let b := s.bks.getD x.bk ib0
   (becomesI { s with bks := s.bks.set x.bk { b with dials := w64 (b.dials - 1) } } x ip0, true)
 else (s, false)
theorem Tryz.dialled_i {bx0 bx : Boxes} {ad : Adr} {s : IW} (h : WI bx0 ad s bx) {p : Nat} (hp : ad .w = some p) (x : Ev) (hx : x.bk < s.bks.length) :
   AbsCall Tryz.prog 118 [.ptr p 13 0 0, evV x] bx (StepI bx0 ad (dialledI s x)) := by
 refine Tryz.ctr118 fun hf => ?_
 obtain ⟨pb, pc, pr, pm, pw, hn⟩ := h.names hp
 have hrow := h.row hn
 unfold stV at hrow
 have hbk := h.bksR hn
 have hmb := h.mbR hn
 have hmw := h.mwR hn
 have e2 : s.bks.getD x.bk ib0 = s.bks[x.bk] := by simp [hx]
 obtain ⟨z, hz⟩ : ∃ z, dialledI s x = z := ⟨_, rfl⟩
 rw [hz]
 unfold dialledI at hz
 rw [e2] at hz
 dsimp only at hz
 have h2 := h.setB hn x.bk { s.bks[x.bk] with dials := w64 (s.bks[x.bk].dials - 1) } (fun b hb => by rw [List.getElem?_eq_getElem hx] at hb; injection hb with hb; rw [← hb])
 have evg : V.agg [V.int .i64 x.kind, V.int .i64 x.bk, V.int .i64 x.t, V.int .i64 x.call, V.int .i64 x.conn, V.int .i64 x.of_, V.int .i64 x.n, V.bool x.yes] = evV x := by simp [evV, iI]
 have ipg : V.agg [V.bool false, V.bool false, V.bool false] = ipV ip0 := rfl
 rcases busy_find s x.call with ⟨f1, e1⟩ | ⟨j1, f1⟩
 · rw [if_neg (by rw [e1]; simp [ip0])] at hz
   simp [go_sem, Tryz.C118, hf, hrow, evV, iI, hmb, f1]
   exact ret_keep (by simp [go_sem]) (.of hz.symm ⟨by simp [go_sem], ad, Keep.refl _, h⟩)
 · cases hbd : (busyOf s x.call).dials
   · rw [if_neg (by rw [hbd]; simp)] at hz
     simp [go_sem, Tryz.C118, hf, hrow, evV, iI, hmb, f1, ipV, hbd]
     exact ret_keep (by simp [go_sem]) (.of hz.symm ⟨by simp [go_sem], ad, Keep.refl _, h⟩)
   · rcases whr_find s x.call with ⟨f2, e2⟩ | ⟨j2, f2⟩
     · by_cases c1 : (0 : Int) = x.bk
       · rw [if_pos ⟨hbd, by rw [e2, c1]⟩] at hz
         obtain ⟨kind, bk, t, call, conn, of_, n, yes⟩ := x
         have hb0 : bk = 0 := by simpa using c1.symm
         subst hb0
         dsimp only at *
         simp [go_sem, Tryz.C118, hf, hrow, evV, iI, hmb, f1, ipV, hbd, hmw, f2, hbk, hx, ibW, ibV]
         have evh : V.agg [V.int .i64 kind, V.int .i64 0, V.int .i64 t, V.int .i64 call, V.int .i64 conn, V.int .i64 of_, V.int .i64 n, V.bool yes] = evV ⟨kind, 0, t, call, conn, of_, n, yes⟩ := by simp [evV, iI]
         rw [evh, ipg]
         refine callK_abs (Tryz.becomes0_i h2 hp ⟨kind, 0, t, call, conn, of_, n, yes⟩) ?_
         rintro r bx1 ⟨rfl, ad1, hk1, h3⟩
         have hf1 := h3.fin
         simp [go_sem, hf1]
         exact ret_keep (by simp [go_sem]) (.of hz.symm ⟨by simp [go_sem], ad1, hk1, h3⟩)
       · rw [if_neg (by rw [e2]; simpa using fun _ => c1)] at hz
         simp [go_sem, Tryz.C118, hf, hrow, evV, iI, hmb, f1, ipV, hbd, hmw, f2, c1]
         exact ret_keep (by simp [go_sem]) (.of hz.symm ⟨by simp [go_sem], ad, Keep.refl _, h⟩)
     · by_cases c1 : whereOf s x.call = x.bk
       · rw [if_pos ⟨hbd, c1⟩] at hz
         simp [go_sem, Tryz.C118, hf, hrow, evV, iI, hmb, f1, ipV, hbd, hmw, f2, c1, hbk, hx, ibW, ibV]
         rw [evg, ipg]
         refine callK_abs (Tryz.becomes0_i h2 hp x) ?_
         rintro r bx1 ⟨rfl, ad1, hk1, h3⟩
         have hf1 := h3.fin
         simp [go_sem, hf1]
         exact ret_keep (by simp [go_sem]) (.of hz.symm ⟨by simp [go_sem], ad1, hk1, h3⟩)
       · rw [if_neg (by simpa using fun _ => c1)] at hz
         simp [go_sem, Tryz.C118, hf, hrow, evV, iI, hmb, f1, ipV, hbd, hmw, f2, c1]
         exact ret_keep (by simp [go_sem]) (.of hz.symm ⟨by simp [go_sem], ad, Keep.refl _, h⟩)
def takeI (s : IW) (i : Nat) (x : Ev) : IW :=
 let c := s.cns.getD i ic0
 becomesI { s with cns := s.cns.set i { c with st := 1, call := x.call, leases := w64 (c.leases + 1) } } x ⟨false, false, true⟩
theorem Tryz.take_i {bx0 bx : Boxes} {ad : Adr} {s : IW} (h : WI bx0 ad s bx) {p : Nat} (hp : ad .w = some p) (x : Ev) {i b : Nat} (hi : i < s.cns.length) (hb : ad (.cn i) = some b) :
   AbsCall Tryz.prog 119 [.ptr p 13 0 0, .ptr b 10 0 0, evV x] bx (StepV bx0 ad (takeI s i x)) := by
 refine Tryz.ctr119 fun hf => ?_
 have hr : bx b = some (.row tyIC 10 [icV s.cns[i]]) := by
   obtain ⟨b', h1, h2⟩ := h.cnR hi
   rw [hb] at h1
   injection h1 with h1
   rw [h1]; exact h2
 have e1 : s.cns.getD i ic0 = s.cns[i] := by simp [hi]
 unfold takeI
 rw [e1]
 dsimp only
 have h2 := h.setC hi hb { s.cns[i] with st := 1, call := x.call, leases := w64 (s.cns[i].leases + 1) } rfl
 have evg : V.agg [V.int .i64 x.kind, V.int .i64 x.bk, V.int .i64 x.t, V.int .i64 x.call, V.int .i64 x.conn, V.int .i64 x.of_, V.int .i64 x.n, V.bool x.yes] = evV x := by simp [evV, iI]
 have ipg : V.agg [V.bool false, V.bool false, V.bool true] = ipV ⟨false, false, true⟩ := rfl
 simp [go_sem, Tryz.C119, hf, hr, evV, iI, icV]
 refine ⟨by simp [fzAt, clAt, fzb, callQ], ?_⟩
 rw [evg, ipg]
 refine callK_abs (Tryz.becomes1_i h2 hp x _ (by simp)) ?_
 rintro r bx1 ⟨rfl, ad1, hk1, h3⟩
 have hf1 := h3.fin
 simp [go_sem, hf1]
 exact ret_keep (by simp [go_sem]) ⟨by simp [go_sem], ad1, hk1, h3⟩
end Go.Proofs

set_option linter.unusedSimpArgs false
set_option linter.unusedVariables false
set_option maxRecDepth 100000
namespace Go.Proofs
open Go Go.Pl
def IW.setB (s : IW) (i : Nat) (b : IB) : IW := { s with bks := s.bks.set i b }
def IW.setR (s : IW) (i : Nat) (r : IR) : IW := { s with rqs := s.rqs.set i ((s.rqs.getD i (0, ir0)).1, r) }
def IW.setC (s : IW) (i : Nat) (c : IC) : IW := { s with cns := s.cns.set i c }
theorem WI.setB' {bx0 bx : Boxes} {ad : Adr} {s : IW} (h : WI bx0 ad s bx) {p pb pc pr pm pw : Nat} (hn : Nm ad p pb pc pr pm pw) {i : Nat} (hi : i < s.bks.length) (x : IB) (hx : x.waits = s.bks[i].waits) :
   WI bx0 ad (s.setB i x) (upd bx pb (some (.row tyIB 6 ((s.bks.mapIdx (ibW ad)).set i (ibW ad i x))))) :=
 h.setB hn i x fun b hb => by rw [List.getElem?_eq_getElem hi] at hb; injection hb with hb; rw [← hb]; exact hx
theorem WI.setR' {bx0 bx : Boxes} {ad : Adr} {s : IW} (h : WI bx0 ad s bx) {i b : Nat} (hi : i < s.rqs.length) (hb : ad (.rq i) = some b) (r : IR) : WI bx0 ad (s.setR i r) (upd bx b (some (.row tyIR 5 [irV r]))) := by
 have := h.setR hi hb r
 have e : s.rqs.getD i (0, ir0) = s.rqs[i] := by simp [hi]
 unfold IW.setR
 rw [e]
 exact this
def markI (s : IW) (x : Ev) : IW × Bool := (s.setB x.bk { s.bks.getD x.bk ib0 with down := !x.yes }, true)
theorem Tryz.mark_i {bx0 bx : Boxes} {ad : Adr} {s : IW} (h : WI bx0 ad s bx) {p : Nat} (hp : ad .w = some p) (x : Ev) (hx : x.bk < s.bks.length) :
   AbsCall Tryz.prog 82 [.ptr p 13 0 0, evV x] bx (StepI bx0 ad (markI s x)) := by
 refine Tryz.ctr82 fun hf => ?_
 obtain ⟨pb, pc, pr, pm, pw, hn⟩ := h.names hp
 have hrow := h.row hn
 unfold stV at hrow
 have hbk := h.bksR hn
 have e2 : s.bks.getD x.bk ib0 = s.bks[x.bk] := by simp [hx]
 unfold markI
 rw [e2]
 simp [go_sem, Tryz.C82, hf, hrow, evV, iI, hbk, hx, ibW, ibV]
 exact ret_keep (by simp [go_sem]) ⟨by simp [go_sem], ad, Keep.refl _, h.setB' hn hx { s.bks[x.bk] with down := !x.yes } rfl⟩
def tripI (s : IW) (x : Ev) : IW × Bool := (s.setB x.bk { s.bks.getD x.bk ib0 with brk := x.n, probe := 0 }, true)
theorem Tryz.trip_i {bx0 bx : Boxes} {ad : Adr} {s : IW} (h : WI bx0 ad s bx) {p : Nat} (hp : ad .w = some p) (x : Ev) (hx : x.bk < s.bks.length) :
   AbsCall Tryz.prog 83 [.ptr p 13 0 0, evV x] bx (StepI bx0 ad (tripI s x)) := by
 refine Tryz.ctr83 fun hf => ?_
 obtain ⟨pb, pc, pr, pm, pw, hn⟩ := h.names hp
 have hrow := h.row hn
 unfold stV at hrow
 have hbk := h.bksR hn
 have e2 : s.bks.getD x.bk ib0 = s.bks[x.bk] := by simp [hx]
 unfold tripI
 rw [e2]
 simp [go_sem, Tryz.C83, hf, hrow, evV, iI, hbk, hx, ibW, ibV]
 exact ret_keep (by simp [go_sem]) ⟨by simp [go_sem], ad, Keep.refl _, h.setB' hn hx { s.bks[x.bk] with brk := x.n, probe := 0 } rfl⟩
def stopI (s : IW) : IW × Bool := ({ s with stop := true }, !s.stop)
theorem Tryz.stop_i {bx0 bx : Boxes} {ad : Adr} {s : IW} (h : WI bx0 ad s bx) {p : Nat} (hp : ad .w = some p) (x : Ev) (bi : Int) :
   AbsCall Tryz.prog 86 [.ptr p 13 0 0, evW x bi] bx (StepI bx0 ad (stopI s)) := by
 refine Tryz.ctr86 fun hf => ?_
 obtain ⟨pb, pc, pr, pm, pw, hn⟩ := h.names hp
 have hrow := h.row hn
 unfold stV at hrow
 have h2 := h.world hn s.now s.at_ true
 unfold stopI
 simp [go_sem, Tryz.C86, hf, hrow, evW, iI]
 exact ret_keep (by simp [go_sem]) ⟨by simp [go_sem], ad, Keep.refl _, h2⟩
theorem ready_at {s : IW} {call : Int} {i : Nat} (h : readyI s call = some i) : i < s.rqs.length ∧ lkI s.rqs call = some i := by
 unfold readyI at h
 split at h
 · rename_i j hj
   split at h
   · cases h
   · injection h with h
     subst h
     exact ⟨(lkI_lt hj).1, hj⟩
 · cases h
def endI (s : IW) (x : Ev) : IW × Bool := match readyI s x.call with
 | some i => (s.setR i { (s.rqs.getD i (0, ir0)).2 with ended := true }, true)
 | none => (s, false)
theorem Tryz.end_i {bx0 bx : Boxes} {ad : Adr} {s : IW} (h : WI bx0 ad s bx) {p : Nat} (hp : ad .w = some p) (x : Ev) (bi : Int) :
   AbsCall Tryz.prog 85 [.ptr p 13 0 0, evW x bi] bx (StepI bx0 ad (endI s x)) := by
 refine Tryz.ctr85 fun hf => ?_
 have cR := Tryz.ready_i h hp x.call
 obtain ⟨z, hz⟩ : ∃ z, endI s x = z := ⟨_, rfl⟩
 rw [hz]
 unfold endI at hz
 simp [go_sem, Tryz.C85, hf, evW, iI]
 cases hr : readyI s x.call with
 | none =>
   rw [hr] at cR hz
   unfold ptrR at cR
   refine callK_pure cR ?_
   simp [go_sem, hf]
   exact ret_keep (by simp [go_sem]) (.of hz.symm ⟨by simp [go_sem], ad, Keep.refl _, h⟩)
 | some i =>
   rw [hr] at cR hz
   unfold ptrR at cR
   obtain ⟨hi, _⟩ := ready_at hr
   obtain ⟨b0, hb0, hr0⟩ := h.rqR hi
   have e1 : s.rqs.getD i (0, ir0) = s.rqs[i] := by simp [hi]
   simp only [adr_of hb0] at cR
   refine callK_pure cR ?_
   simp only [e1] at hz
   simp [go_sem, hf, hr0, irV, iI]
   exact ret_keep (by simp [go_sem]) (.of hz.symm ⟨by simp [go_sem], ad, Keep.refl _, h.setR' hi hb0 { s.rqs[i].2 with ended := true }⟩)
def beginI (s : IW) (x : Ev) : IW × Bool := if (lkI s.rqs x.call).isSome || s.stop then (s, false) else ({ s with rqs := s.rqs ++ [(x.call, ⟨x.yes, false, 0, -1, 0⟩)] }, true)
theorem Tryz.begin_i {bx0 bx : Boxes} {ad : Adr} {s : IW} (h : WI bx0 ad s bx) {p : Nat} (hp : ad .w = some p) (x : Ev) (bi : Int) :
   AbsCall Tryz.prog 69 [.ptr p 13 0 0, evW x bi] bx (StepI bx0 ad (beginI s x)) := by
 refine Tryz.ctr69 fun hf => ?_
 obtain ⟨pb, pc, pr, pm, pw, hn⟩ := h.names hp
 have hrow := h.row hn
 unfold stV at hrow
 have hmr := h.mrR hn
 have f1 := rq_find s x.call ad
 unfold beginI
 cases h1 : lkI s.rqs x.call with
 | some i =>
   rw [h1] at f1
   simp only [Option.map_some] at f1
   simp [go_sem, Tryz.C69, hf, hrow, evW, iI, hmr, f1]
   exact ret_keep (by simp [go_sem]) ⟨by simp [go_sem], ad, Keep.refl _, h⟩
 | none =>
   rw [h1] at f1
   simp only [Option.map_none] at f1
   cases hst : s.stop
   · rw [hst] at hrow
     simp [go_sem, Tryz.C69, hf, hrow, evW, iI, hmr, f1]
     intro b hb
     have hne : pr ≠ b := by rintro rfl; rw [hmr] at hb; cases hb
     obtain ⟨h2, hk2⟩ := h.addR hn x.call ⟨x.yes, false, 0, -1, 0⟩ hb
     have hst2 : ({ s with rqs := s.rqs ++ [(x.call, ⟨x.yes, false, 0, -1, 0⟩)] } : IW) = { s with rqs := s.rqs ++ [(x.call, ⟨x.yes, false, 0, -1, 0⟩)], stop := false } := by rw [← hst]
     rw [hst2] at h2
     simp [go_sem, upd_ne, hne, hmr, f1]
     exact ret_keep (by simp [go_sem]) ⟨by simp [go_sem], _, hk2, h2⟩
   · rw [hst] at hrow
     simp [go_sem, Tryz.C69, hf, hrow, evW, iI, hmr, f1]
     exact ret_keep (by simp [go_sem]) ⟨by simp [go_sem], ad, Keep.refl _, h⟩
def reportI (s : IW) (x : Ev) : IW × Bool := match lkI s.rqs x.call with
 | none => (s, false)
 | some i =>
   let r := (s.rqs.getD i (0, ir0)).2
   let b := s.bks.getD x.bk ib0
   if r.at_ ≠ x.bk then (s, false)
   else if b.probe = x.call then (s.setB x.bk { b with probe := 0, brk := if x.yes then 0 else 1 }, true)
   else (s, true)
theorem Tryz.report_i {bx0 bx : Boxes} {ad : Adr} {s : IW} (h : WI bx0 ad s bx) {p : Nat} (hp : ad .w = some p) (x : Ev) (hx : x.bk < s.bks.length) :
   AbsCall Tryz.prog 84 [.ptr p 13 0 0, evV x] bx (StepI bx0 ad (reportI s x)) := by
 refine Tryz.ctr84 fun hf => ?_
 obtain ⟨pb, pc, pr, pm, pw, hn⟩ := h.names hp
 have hrow := h.row hn
 unfold stV at hrow
 have hmr := h.mrR hn
 have hbk := h.bksR hn
 have f1 := rq_find s x.call ad
 have e2 : s.bks.getD x.bk ib0 = s.bks[x.bk] := by simp [hx]
 obtain ⟨z, hz⟩ : ∃ z, reportI s x = z := ⟨_, rfl⟩
 rw [hz]
 unfold reportI at hz
 rw [e2] at hz
 cases h1 : lkI s.rqs x.call with
 | none =>
   rw [h1] at f1 hz
   simp only [Option.map_none] at f1
   simp [go_sem, Tryz.C84, hf, hrow, evV, iI, hmr, f1, hbk, hx]
   exact ret_keep (by simp [go_sem]) (.of hz.symm ⟨by simp [go_sem], ad, Keep.refl _, h⟩)
 | some i =>
   rw [h1] at f1 hz
   simp only [Option.map_some] at f1
   obtain ⟨hi, _⟩ := lkI_lt h1
   obtain ⟨b0, hb0, hr0⟩ := h.rqR hi
   rw [adr_of hb0] at f1
   have e1 : s.rqs.getD i (0, ir0) = s.rqs[i] := by simp [hi]
   simp only [e1] at hz
   by_cases c2 : s.rqs[i].2.at_ = x.bk
   · rw [if_neg (by simpa using c2)] at hz
     by_cases c3 : s.bks[x.bk].probe = x.call
     · rw [if_pos c3] at hz
       cases c4 : x.yes <;> rw [c4] at hz
       · simp [go_sem, Tryz.C84, hf, hrow, evV, iI, hmr, f1, hbk, hx, hr0, irV, c2, ibW, ibV, c3, c4]
         exact ret_keep (by simp [go_sem]) (.of hz.symm ⟨by simp [go_sem], ad, Keep.refl _, h.setB' hn hx { s.bks[x.bk] with probe := 0, brk := 1 } rfl⟩)
       · simp [go_sem, Tryz.C84, hf, hrow, evV, iI, hmr, f1, hbk, hx, hr0, irV, c2, ibW, ibV, c3, c4]
         exact ret_keep (by simp [go_sem]) (.of hz.symm ⟨by simp [go_sem], ad, Keep.refl _, h.setB' hn hx { s.bks[x.bk] with probe := 0, brk := 0 } rfl⟩)
     · rw [if_neg c3] at hz
       simp [go_sem, Tryz.C84, hf, hrow, evV, iI, hmr, f1, hbk, hx, hr0, irV, c2, ibW, ibV, c3]
       exact ret_keep (by simp [go_sem]) (.of hz.symm ⟨by simp [go_sem], ad, Keep.refl _, h⟩)
   · rw [if_pos c2] at hz
     simp [go_sem, Tryz.C84, hf, hrow, evV, iI, hmr, f1, hbk, hx, hr0, irV, c2]
     exact ret_keep (by simp [go_sem]) (.of hz.symm ⟨by simp [go_sem], ad, Keep.refl _, h⟩)
end Go.Proofs

set_option linter.unusedSimpArgs false
set_option linter.unusedVariables false
set_option maxRecDepth 100000
namespace Go.Proofs
open Go Go.Pl
theorem evg_ (x : Ev) : V.agg [V.int .i64 x.kind, V.int .i64 x.bk, V.int .i64 x.t, V.int .i64 x.call, V.int .i64 x.conn, V.int .i64 x.of_, V.int .i64 x.n, V.bool x.yes] = evV x := by simp [evV, iI]
theorem ipg0 : V.agg [V.bool false, V.bool false, V.bool false] = ipV ip0 := rfl
theorem ipg1 : V.agg [V.bool true, V.bool false, V.bool false] = ipV ⟨true, false, false⟩ := rfl
theorem ipg2 : V.agg [V.bool false, V.bool true, V.bool false] = ipV ⟨false, true, false⟩ := rfl
def leaveI (s : IW) (x : Ev) : IW × Bool := if waitsI s x then (becomesI (servedI s x) x ip0, true) else (s, false)
theorem Tryz.leave_i {bx0 bx : Boxes} {ad : Adr} {s : IW} (h : WI bx0 ad s bx) {p : Nat} (hp : ad .w = some p) (x : Ev) (hx : x.bk < s.bks.length) (hl : s.bks[x.bk].waits.length ≤ 100000) :
   AbsCall Tryz.prog 72 [.ptr p 13 0 0, evV x] bx (StepI bx0 ad (leaveI s x)) := by
 refine Tryz.ctr72 fun hf => ?_
 have cW := Tryz.waits_i h hp x
 have cS := Tryz.served_i h hp x hx hl
 simp [go_sem, Tryz.C72, hf, evV, iI]
 rw [evg_]
 unfold leaveI
 cases hw : waitsI s x
 · rw [hw] at cW
   refine callK_pure cW ?_
   simp [go_sem, hf]
   exact ret_keep (by simp [go_sem]) ⟨by simp [go_sem], ad, Keep.refl _, h⟩
 · rw [hw] at cW
   refine callK_pure cW ?_
   simp [go_sem, hf, evV, iI]
   rw [evg_]
   refine callK_abs cS ?_
   rintro r bx1 ⟨rfl, ad1, hk1, h1⟩
   have hf1 := h1.fin
   simp [go_sem, hf1, evV, iI]
   rw [evg_, ipg0]
   refine callK_abs (Tryz.becomes0_i h1 (hk1 _ _ hp rfl) x) ?_
   rintro r bx2 ⟨rfl, ad2, hk2, h2⟩
   have hf2 := h2.fin
   simp [go_sem, hf2]
   exact ret_keep (by simp [go_sem]) ⟨by simp [go_sem], ad2, hk1.trans hk2, h2⟩
theorem Tryz.refused_i {bx0 bx : Boxes} {ad : Adr} {s : IW} (h : WI bx0 ad s bx) {p : Nat} (hp : ad .w = some p) (x : Ev) (hx : x.bk < s.bks.length) :
   AbsCall Tryz.prog 74 [.ptr p 13 0 0, evV x] bx (StepI bx0 ad (dialledI s x)) := by
 refine Tryz.ctr74 fun hf => ?_
 simp [go_sem, Tryz.C74, hf, evV, iI]
 rw [evg_]
 refine callK_abs (Tryz.dialled_i h hp x hx) ?_
 rintro r bx1 ⟨rfl, ad1, hk1, h1⟩
 have hf1 := h1.fin
 simp [go_sem, hf1]
 exact ret_keep (by simp [go_sem]) ⟨by simp [go_sem], ad1, hk1, h1⟩
theorem own_atI {s : IW} {x : Ev} {i : Nat} (h : ownI s x = some i) : i < s.cns.length := by
 unfold ownI at h
 split at h
 · rename_i j hj
   split at h
   · injection h with h; subst h; exact (there_at hj).1
   · cases h
 · cases h
def freeI (s : IW) (x : Ev) : IW × Bool := match ownI s x with
 | none => (s, false)
 | some i => (becomesI (s.setC i { s.cns.getD i ic0 with st := if x.yes then 3 else 4, call := 0 }) x ip0, true)
theorem Tryz.free_i {bx0 bx : Boxes} {ad : Adr} {s : IW} (h : WI bx0 ad s bx) {p : Nat} (hp : ad .w = some p) (x : Ev) :
   AbsCall Tryz.prog 79 [.ptr p 13 0 0, evV x] bx (StepI bx0 ad (freeI s x)) := by
 refine Tryz.ctr79 fun hf => ?_
 have cO := Tryz.own_i h hp x
 obtain ⟨z, hz⟩ : ∃ z, freeI s x = z := ⟨_, rfl⟩
 rw [hz]
 unfold freeI at hz
 simp [go_sem, Tryz.C79, hf, evV, iI]
 rw [evg_]
 cases ho : ownI s x with
 | none =>
   rw [ho] at cO hz
   unfold ptrC at cO
   refine callK_pure cO ?_
   simp [go_sem, hf]
   exact ret_keep (by simp [go_sem]) (.of hz.symm ⟨by simp [go_sem], ad, Keep.refl _, h⟩)
 | some i =>
   rw [ho] at cO hz
   unfold ptrC at cO
   have hi := own_atI ho
   obtain ⟨b0, hb0, hr0⟩ := h.cnR hi
   have e1 : s.cns.getD i ic0 = s.cns[i] := by simp [hi]
   simp only [adr_of hb0] at cO
   simp only [e1] at hz
   refine callK_pure cO ?_
   cases hy : x.yes
   all_goals (
     rw [hy] at hz
     simp [go_sem, hf, hr0, icV, iI, evV, hy]
     have h1 := h.setC hi hb0 { s.cns[i] with st := if x.yes then 3 else 4, call := 0 } rfl
     rw [hy] at h1
     have evh : V.agg [V.int .i64 x.kind, V.int .i64 x.bk, V.int .i64 x.t, V.int .i64 x.call, V.int .i64 x.conn, V.int .i64 x.of_, V.int .i64 x.n, V.bool _] = evV x := (by rw [← evg_ x, hy])
     rw [evh, ipg0]
     refine callK_abs (Tryz.becomes0_i h1 hp x) ?_
     rintro r bx2 ⟨rfl, ad2, hk2, h2⟩
     have hf2 := h2.fin
     simp [go_sem, hf2]
     exact ret_keep (by simp [go_sem]) (.of hz.symm ⟨by simp [go_sem], ad2, hk2, h2⟩))
def idleI (s : IW) (x : Ev) : IW × Bool := match thereI s x with
 | none => (s.fault 4, true)
 | some i =>
   let c := s.cns.getD i ic0
   if c.st = 4 then (s.fault 4, true) else if c.st = 1 then (s.fault 1, true) else if c.st = 2 then (s, false)
   else (s.setC i { c with st := 2, since := s.now }, true)
theorem Tryz.idle_i {bx0 bx : Boxes} {ad : Adr} {s : IW} (h : WI bx0 ad s bx) {p : Nat} (hp : ad .w = some p) (x : Ev) (hl : s.flt.length ≤ 90000) :
   AbsCall Tryz.prog 80 [.ptr p 13 0 0, evV x] bx (StepI bx0 ad (idleI s x)) := by
 refine Tryz.ctr80 fun hf => ?_
 obtain ⟨pb, pc, pr, pm, pw, hn⟩ := h.names hp
 have hrow := h.row hn
 unfold stV at hrow
 have cT := Tryz.there_i h hp x
 have c4 := Tryz.fault_i h hp 4 (by omega)
 have c1 := Tryz.fault_i h hp 1 (by omega)
 obtain ⟨z, hz⟩ : ∃ z, idleI s x = z := ⟨_, rfl⟩
 rw [hz]
 unfold idleI at hz
 simp [go_sem, Tryz.C80, hf, evV, iI]
 rw [evg_]
 cases ho : thereI s x with
 | none =>
   rw [ho] at cT hz
   unfold ptrC at cT
   refine callK_pure cT ?_
   simp [go_sem, hf]
   refine callK_abs c4 ?_
   rintro r bx1 ⟨rfl, ad1, hk1, h1⟩
   have hf1 := h1.fin
   simp [go_sem, hf1]
   exact ret_keep (by simp [go_sem]) (.of hz.symm ⟨by simp [go_sem], ad1, hk1, h1⟩)
 | some i =>
   rw [ho] at cT hz
   unfold ptrC at cT
   have hi := (there_at ho).1
   obtain ⟨b0, hb0, hr0⟩ := h.cnR hi
   have e1 : s.cns.getD i ic0 = s.cns[i] := by simp [hi]
   simp only [adr_of hb0] at cT
   simp only [e1] at hz
   refine callK_pure cT ?_
   by_cases s4 : s.cns[i].st = 4
   · rw [if_pos s4] at hz
     simp [go_sem, hf, hr0, icV, iI, s4]
     refine callK_abs c4 ?_
     rintro r bx1 ⟨rfl, ad1, hk1, h1⟩
     have hf1 := h1.fin
     simp [go_sem, hf1]
     exact ret_keep (by simp [go_sem]) (.of hz.symm ⟨by simp [go_sem], ad1, hk1, h1⟩)
   rw [if_neg s4] at hz
   by_cases s1 : s.cns[i].st = 1
   · rw [if_pos s1] at hz
     simp [go_sem, hf, hr0, icV, iI, s1]
     refine callK_abs c1 ?_
     rintro r bx1 ⟨rfl, ad1, hk1, h1⟩
     have hf1 := h1.fin
     simp [go_sem, hf1]
     exact ret_keep (by simp [go_sem]) (.of hz.symm ⟨by simp [go_sem], ad1, hk1, h1⟩)
   rw [if_neg s1] at hz
   by_cases s2 : s.cns[i].st = 2
   · rw [if_pos s2] at hz
     simp [go_sem, hf, hr0, icV, iI, s2]
     exact ret_keep (by simp [go_sem]) (.of hz.symm ⟨by simp [go_sem], ad, Keep.refl _, h⟩)
   · rw [if_neg s2] at hz
     simp [go_sem, hf, hr0, icV, iI, s4, s1, s2, hrow]
     exact ret_keep (by simp [go_sem]) (.of hz.symm ⟨by simp [go_sem], ad, Keep.refl _, h.setC hi hb0 { s.cns[i] with st := 2, since := s.now } rfl⟩)
def closeI (s : IW) (x : Ev) : IW × Bool := match thereI s x with
 | none => (s.fault 4, true)
 | some i =>
   let c := s.cns.getD i ic0
   let b := s.bks.getD x.bk ib0
   if c.st = 1 then (s, false) else ((s.setC i { c with st := 5, gone := s.now }).setB x.bk { b with conns := w64 (b.conns - 1) }, true)
theorem Tryz.close_i {bx0 bx : Boxes} {ad : Adr} {s : IW} (h : WI bx0 ad s bx) {p : Nat} (hp : ad .w = some p) (x : Ev) (hx : x.bk < s.bks.length) (hl : s.flt.length ≤ 90000) :
   AbsCall Tryz.prog 81 [.ptr p 13 0 0, evV x] bx (StepI bx0 ad (closeI s x)) := by
 refine Tryz.ctr81 fun hf => ?_
 obtain ⟨pb, pc, pr, pm, pw, hn⟩ := h.names hp
 have hrow := h.row hn
 unfold stV at hrow
 have hbk := h.bksR hn
 have cT := Tryz.there_i h hp x
 have c4 := Tryz.fault_i h hp 4 (by omega)
 have e2 : s.bks.getD x.bk ib0 = s.bks[x.bk] := by simp [hx]
 obtain ⟨z, hz⟩ : ∃ z, closeI s x = z := ⟨_, rfl⟩
 rw [hz]
 unfold closeI at hz
 rw [e2] at hz
 simp [go_sem, Tryz.C81, hf, evV, iI]
 rw [evg_]
 cases ho : thereI s x with
 | none =>
   rw [ho] at cT hz
   unfold ptrC at cT
   refine callK_pure cT ?_
   simp [go_sem, hf]
   refine callK_abs c4 ?_
   rintro r bx1 ⟨rfl, ad1, hk1, h1⟩
   have hf1 := h1.fin
   simp [go_sem, hf1]
   exact ret_keep (by simp [go_sem]) (.of hz.symm ⟨by simp [go_sem], ad1, hk1, h1⟩)
 | some i =>
   rw [ho] at cT hz
   unfold ptrC at cT
   have hi := (there_at ho).1
   obtain ⟨b0, hb0, hr0⟩ := h.cnR hi
   have e1 : s.cns.getD i ic0 = s.cns[i] := by simp [hi]
   simp only [adr_of hb0] at cT
   simp only [e1] at hz
   refine callK_pure cT ?_
   by_cases s1 : s.cns[i].st = 1
   · rw [if_pos s1] at hz
     simp [go_sem, hf, hr0, icV, iI, s1]
     exact ret_keep (by simp [go_sem]) (.of hz.symm ⟨by simp [go_sem], ad, Keep.refl _, h⟩)
   · rw [if_neg s1] at hz
     have h1 := h.setC hi hb0 { s.cns[i] with st := 5, gone := s.now } rfl
     have hrow1 := h1.row hn
     have hbk1 := h1.bksR hn
     unfold stV at hrow1
     simp only [icV, iI] at h1 hrow1 hbk1
     have hf1 := h1.fin
     simp [go_sem, hf, hr0, icV, iI, s1, hrow]
     generalize upd bx b0 (some (Box.row tyIC 10 [V.agg [V.int .i64 s.cns[i].num, V.int .i64 s.cns[i].bk, V.int .i64 s.cns[i].leases, V.int .i64 s.cns[i].born, V.int .i64 s.now, V.int .i64 s.cns[i].sent, V.int .i64 s.cns[i].read, V.int .i64 5, V.int .i64 s.cns[i].call, V.int .i64 s.cns[i].since]])) = bx1 at *
     simp [go_sem, hf1, hrow1, hbk1, hx, evV, iI, ibW, ibV]
     exact ret_keep (by simp [go_sem]) (.of hz.symm ⟨by simp [go_sem], ad, Keep.refl _, h1.setB' hn hx { s.bks[x.bk] with conns := w64 (s.bks[x.bk].conns - 1) } rfl⟩)
def readI (s : IW) (x : Ev) : IW × Bool := match ownI s x with
 | none => (s.fault 4, true)
 | some i =>
   let c := s.cns.getD i ic0
   ((s.faultIf (decide (x.of_ ≠ x.call)) 6).setC i { c with read := w64 (c.read + x.n) }, true)
theorem Tryz.read_t {bx0 bx : Boxes} {ad0 ad : Adr} (hk : Keep ad0 ad) {s : IW} (h : WI bx0 ad s bx) (x : Ev) {i b0 : Nat} (hi : i < s.cns.length) (hb0 : ad (.cn i) = some b0) {z : IW × Bool} (hz : z = (s.setC i { s.cns[i] with read := w64 (s.cns[i].read + x.n) }, true)) (st : St) (hs : Cov st ⟨31, slk [(3, .ep (evV x) 0), (5, .ptr b0 10 0 0)], bx⟩) :
   pw Tryz.prog Tryz.L78_t4 (retQ Tryz.prog [.tmp 4] (StepI bx0 ad0 z)) st := by
 have hf := h.fin
 have hr0 : bx b0 = some (.row tyIC 10 [icV s.cns[i]]) := by
   obtain ⟨b', h1, h2⟩ := h.cnR hi
   rw [hb0] at h1; injection h1 with h1; rw [h1]; exact h2
 refine pw_wk hs ?_
 simp [go_sem, hf, hr0, icV, iI, evV]
 exact ret_keep (by simp [go_sem]) (.of hz ⟨by simp [go_sem], ad, hk, h.setC hi hb0 { s.cns[i] with read := w64 (s.cns[i].read + x.n) } rfl⟩)
theorem Tryz.read_i {bx0 bx : Boxes} {ad : Adr} {s : IW} (h : WI bx0 ad s bx) {p : Nat} (hp : ad .w = some p) (x : Ev) (hl : s.flt.length ≤ 90000) :
   AbsCall Tryz.prog 78 [.ptr p 13 0 0, evV x] bx (StepI bx0 ad (readI s x)) := by
 refine Tryz.ctr78 fun hf => ?_
 have cO := Tryz.own_i h hp x
 have c4 := Tryz.fault_i h hp 4 (by omega)
 have c6 := Tryz.fault_i h hp 6 (by omega)
 obtain ⟨z, hz⟩ : ∃ z, readI s x = z := ⟨_, rfl⟩
 rw [hz]
 unfold readI at hz
 simp [go_sem, Tryz.C78, hf, evV, iI]
 rw [evg_]
 cases ho : ownI s x with
 | none =>
   rw [ho] at cO hz
   unfold ptrC at cO
   refine callK_pure cO ?_
   simp [go_sem, hf]
   refine callK_abs c4 ?_
   rintro r bx1 ⟨rfl, ad1, hk1, h1⟩
   have hf1 := h1.fin
   simp [go_sem, hf1]
   exact ret_keep (by simp [go_sem]) (.of hz.symm ⟨by simp [go_sem], ad1, hk1, h1⟩)
 | some i =>
   rw [ho] at cO hz
   unfold ptrC at cO
   have hi := own_atI ho
   obtain ⟨b0, hb0, hr0⟩ := h.cnR hi
   have e1 : s.cns.getD i ic0 = s.cns[i] := by simp [hi]
   simp only [adr_of hb0] at cO
   simp only [e1] at hz
   refine callK_pure cO ?_
   by_cases c1 : x.of_ = x.call
   · simp [go_sem, hf, evV, iI, c1]
     exact Tryz.read_t (Keep.refl _) h x hi hb0 (by rw [← hz]; simp [c1, IW.faultIf]) _ (cov_look (by simp [go_sem, evV, iI, c1]))
   · simp [go_sem, hf, evV, iI, c1]
     refine callK_abs c6 ?_
     rintro r bx1 ⟨rfl, ad1, hk1, h1⟩
     have hf1 := h1.fin
     simp [go_sem, hf1]
     exact Tryz.read_t hk1 h1 x hi (hk1 _ _ hb0 rfl) (by rw [← hz]; simp [c1, IW.faultIf, IW.fault]) _ (cov_look (by simp [go_sem, evV, iI, c1]))
end Go.Proofs

set_option linter.unusedSimpArgs false
set_option linter.unusedVariables false
set_option maxRecDepth 100000
namespace Go.Proofs
open Go Go.Pl
theorem WI.cnB {bx0 bx : Boxes} {ad : Adr} {s : IW} (h : WI bx0 ad s bx) {i b : Nat} (hi : i < s.cns.length) (hb : ad (.cn i) = some b) : bx b = some (.row tyIC 10 [icV s.cns[i]]) := by
 obtain ⟨b', h1, h2⟩ := h.cnR hi
 rw [hb] at h1; injection h1 with h1; rw [h1]; exact h2
theorem WI.rqB {bx0 bx : Boxes} {ad : Adr} {s : IW} (h : WI bx0 ad s bx) {i b : Nat} (hi : i < s.rqs.length) (hb : ad (.rq i) = some b) : bx b = some (.row tyIR 5 [irV s.rqs[i].2]) := by
 obtain ⟨b', h1, h2⟩ := h.rqR hi
 rw [hb] at h1; injection h1 with h1; rw [h1]; exact h2
def sendI (s : IW) (x : Ev) : IW × Bool := match ownI s x with
 | none => (s.fault 4, true)
 | some i => match lkI s.rqs x.call with
   | none => (s, true)
   | some j =>
     let c := s.cns.getD i ic0
     let r := (s.rqs.getD j (0, ir0)).2
     (((s.faultIf (!r.idem && decide (0 < r.sent) && decide (r.sent < r.picks)) 10).setR j { r with sent := r.picks }).setC i { c with sent := w64 (c.sent + x.n) }, true)
theorem Tryz.send_t {bx0 bx : Boxes} {ad0 ad : Adr} (hk : Keep ad0 ad) {s : IW} (h : WI bx0 ad s bx) (x : Ev) {i b0 : Nat} (hi : i < s.cns.length) (hb0 : ad (.cn i) = some b0) {j b1 : Nat} (hj : j < s.rqs.length) (hb1 : ad (.rq j) = some b1)
   {z : IW × Bool} (hz : z = ((s.setR j { s.rqs[j].2 with sent := s.rqs[j].2.picks }).setC i { s.cns[i] with sent := w64 (s.cns[i].sent + x.n) }, true)) (st : St) (hs : Cov st ⟨64, slk [(3, .ep (evV x) 0), (5, .ptr b0 10 0 0), (6, .ptr b1 5 0 0)], bx⟩) :
   pw Tryz.prog Tryz.L77_t4 (retQ Tryz.prog [.tmp 4] (StepI bx0 ad0 z)) st := by
 have hf := h.fin
 have hr1 := h.rqB hj hb1
 have h1 := h.setR' hj hb1 { s.rqs[j].2 with sent := s.rqs[j].2.picks }
 have hr0 := h1.cnB (i := i) hi hb0
 have hf1 := h1.fin
 simp only [irV, iI] at h1 hr0 hf1
 refine pw_wk hs ?_
 simp [go_sem, hf, hr1, irV, iI]
 generalize upd bx b1 (some (Box.row tyIR 5 [V.agg [V.bool s.rqs[j].2.idem, V.bool s.rqs[j].2.ended, V.int .i64 s.rqs[j].2.picks, V.int .i64 s.rqs[j].2.at_, V.int .i64 s.rqs[j].2.picks]])) = bx1 at *
 simp [go_sem, hf1, hr0, icV, iI, evV]
 exact ret_keep (by simp [go_sem]) (.of hz ⟨by simp [go_sem], ad, hk, h1.setC (i := i) hi hb0 { s.cns[i] with sent := w64 (s.cns[i].sent + x.n) } rfl⟩)
theorem Tryz.send_i {bx0 bx : Boxes} {ad : Adr} {s : IW} (h : WI bx0 ad s bx) {p : Nat} (hp : ad .w = some p) (x : Ev) (hl : s.flt.length ≤ 90000) (hfd : ∀ i, ownI s x = some i → ∃ j, lkI s.rqs x.call = some j) :
   AbsCall Tryz.prog 77 [.ptr p 13 0 0, evV x] bx (StepI bx0 ad (sendI s x)) := by
 refine Tryz.ctr77 fun hf => ?_
 obtain ⟨pb, pc, pr, pm, pw, hn⟩ := h.names hp
 have hrow := h.row hn
 unfold stV at hrow
 have hmr := h.mrR hn
 have f1 := rq_find s x.call ad
 have cO := Tryz.own_i h hp x
 have c4 := Tryz.fault_i h hp 4 (by omega)
 have c10 := Tryz.fault_i h hp 10 (by omega)
 obtain ⟨z, hz⟩ : ∃ z, sendI s x = z := ⟨_, rfl⟩
 rw [hz]
 unfold sendI at hz
 simp [go_sem, Tryz.C77, hf, evV, iI]
 rw [evg_]
 cases ho : ownI s x with
 | none =>
   rw [ho] at cO hz
   unfold ptrC at cO
   refine callK_pure cO ?_
   cases h1 : lkI s.rqs x.call <;> rw [h1] at f1 <;> simp only [Option.map_none, Option.map_some] at f1
   all_goals (
     simp [go_sem, hf, hrow, hmr, f1, evV, iI]
     refine callK_abs c4 ?_
     rintro r bx1 ⟨rfl, ad1, hk1, h1⟩
     have hf1 := h1.fin
     simp [go_sem, hf1]
     exact ret_keep (by simp [go_sem]) (.of hz.symm ⟨by simp [go_sem], ad1, hk1, h1⟩))
 | some i =>
   obtain ⟨j, hj⟩ := hfd i ho
   rw [ho] at cO hz
   rw [hj] at f1 hz
   simp only [Option.map_some] at f1
   unfold ptrC at cO
   have hi := own_atI ho
   obtain ⟨hjl, _⟩ := lkI_lt hj
   obtain ⟨b0, hb0, hr0⟩ := h.cnR hi
   obtain ⟨b1, hb1, hr1⟩ := h.rqR hjl
   rw [adr_of hb1] at f1
   have e1 : s.cns.getD i ic0 = s.cns[i] := by simp [hi]
   have e2 : s.rqs.getD j (0, ir0) = s.rqs[j] := by simp [hjl]
   simp only [adr_of hb0] at cO
   simp only [e1, e2] at hz
   refine callK_pure cO ?_
   cases s1 : s.rqs[j].2.idem <;> by_cases s2 : 0 < s.rqs[j].2.sent <;> by_cases s3 : s.rqs[j].2.sent < s.rqs[j].2.picks <;> simp [go_sem, hf, hrow, hmr, f1, evV, iI, hr1, irV, s1, s2, s3]
   all_goals first
     | exact Tryz.send_t (Keep.refl _) h x hi hb0 hjl hb1 (by rw [← hz]; simp [s1, s2, s3, IW.faultIf]) _ (cov_look (by simp [go_sem, evV, iI]))
     | (refine callK_abs c10 ?_
        rintro r bx1 ⟨rfl, ad1, hk1, h1⟩
        have hf1 := h1.fin
        simp [go_sem, hf1]
        exact Tryz.send_t hk1 h1 x hi (hk1 _ _ hb0 rfl) hjl (hk1 _ _ hb1 rfl) (by rw [← hz]; simp [s1, s2, s3, IW.faultIf, IW.fault]) _ (cov_look (by simp [go_sem, evV, iI])))
def waitI (s : IW) (x : Ev) : IW × Bool :=
 if waitsI s x || !mayI s x then (s, false)
 else
   let b := s.bks.getD x.bk ib0
   let s1 := s.setB x.bk { b with waits := b.waits ++ [x.call] }
   ((becomesI s1 x ⟨false, true, false⟩).faultIf (decide ((s.lims.getD x.bk ⟨0, 0, 0, 0⟩).queue < (b.waits.length + 1 : Nat))) 3, true)
theorem becomes_bks (s : IW) (x : Ev) (q : IP) : (becomesI s x q).bks = s.bks ∧ (becomesI s x q).lims = s.lims ∧ (becomesI s x q).flt = s.flt ∧ (becomesI s x q).at_ = s.at_ ∧ (becomesI s x q).cns = s.cns := by
 unfold becomesI
 split <;> exact ⟨rfl, rfl, rfl, rfl, rfl⟩
theorem Tryz.wait_i {bx0 bx : Boxes} {ad : Adr} {s : IW} (h : WI bx0 ad s bx) {p : Nat} (hp : ad .w = some p) (x : Ev) (hx : x.bk < s.bks.length) (hx2 : x.bk < s.lims.length) (hl : s.flt.length ≤ 90000) (hwl : s.bks[x.bk].waits.length ≤ 90000) :
   AbsCall Tryz.prog 71 [.ptr p 13 0 0, evV x] bx (StepI bx0 ad (waitI s x)) := by
 refine Tryz.ctr71 fun hf => ?_
 obtain ⟨pb, pc, pr, pm, pw, hn⟩ := h.names hp
 have hrow := h.row hn
 unfold stV at hrow
 have hbk := h.bksR hn
 have hw := h.waiO hx
 have cW := Tryz.waits_i h hp x
 have cM := Tryz.may_i h hp x
 have e2 : s.bks.getD x.bk ib0 = s.bks[x.bk] := by simp [hx]
 have e3 : s.lims.getD x.bk ⟨0, 0, 0, 0⟩ = s.lims[x.bk] := by simp [hx2]
 obtain ⟨z, hz⟩ : ∃ z, waitI s x = z := ⟨_, rfl⟩
 rw [hz]
 unfold waitI at hz
 rw [e2, e3] at hz
 dsimp only at hz
 simp [go_sem, Tryz.C71, hf, evV, iI]
 rw [evg_]
 cases hwt : waitsI s x
 · rw [hwt] at cW hz
   refine callK_pure cW ?_
   simp [go_sem, hf, evV, iI]
   rw [evg_]
   cases hmy : mayI s x
   · rw [hmy] at cM hz
     refine gK_pure cM (by simp) (by simp [go_sem]) ?_
     simp [go_sem, hf]
     exact ret_keep (by simp [go_sem]) (.of hz.symm ⟨by simp [go_sem], ad, Keep.refl _, h⟩)
   · rw [hmy] at cM hz
     refine gK_pure cM (by simp) (by simp [go_sem]) ?_
     simp [go_sem, hf, hrow, hbk, hx, evV, iI, ibW, ibV, hw.strip, hw.live]
     refine own_app (.int .i64 0) hw hf (news := [iI x.call]) Tryz.knd60 Tryz.tsz2 (by simp [go_sem, srcEls, iI]) Tryz.tzero2 (by simp [go_sem]) (by decide) (by simp [Tryz.tby2]; omega) (by simp; omega) (by simp [go_sem]) fun v' bx' ha hm _ => ?_
     have ha' : OwnV bx' 2 1 ((s.bks[x.bk].waits ++ [x.call]).map iI) v' := by simpa using ha
     have h1 := h.setW hn hx (s.bks[x.bk].waits ++ [x.call]) hm ha'
     have hb1 : bx' pb = some (.row tyIB 6 (s.bks.mapIdx (ibW ad))) := by rw [hm.other (by rw [hbk]; simp) (hw.ne hbk (by decide)), hbk]
     have hf1 := hm.fin
     simp only [ibV, iI] at h1
     simp [go_sem, hb1, hx, ibW, ibV, iI, ha.strip, ha.live, ha.cells, ha.okV, hf1]
     have hf2 := h1.fin
     generalize (upd bx' pb (some (Box.row tyIB 6 ((s.bks.mapIdx (ibW ad)).set x.bk (V.agg [V.bool s.bks[x.bk].down, V.int .i64 s.bks[x.bk].brk, V.int .i64 s.bks[x.bk].probe, V.int .i64 s.bks[x.bk].dials, V.int .i64 s.bks[x.bk].conns, v']))))) = bx2 at *
     obtain ⟨ad1, had1⟩ : ∃ ad1, updC ad (.wai x.bk) (adrV v') = ad1 := ⟨_, rfl⟩
     have hk1 : Keep ad ad1 := by rw [← had1]; exact WI.keep rfl _
     rw [had1] at h1
     rw [evg_, ipg2]
     refine callK_abs (Tryz.becomes1_i h1 (hk1 _ _ hp rfl) x _ (by simp)) ?_
     have hbe := becomes_bks { s with bks := s.bks.set x.bk { s.bks[x.bk] with waits := s.bks[x.bk].waits ++ [x.call] } } x ⟨false, true, false⟩
     have hz2 : z = ((becomesI { s with bks := s.bks.set x.bk { s.bks[x.bk] with waits := s.bks[x.bk].waits ++ [x.call] } } x ⟨false, true, false⟩).faultIf (decide (s.lims[x.bk].queue < (s.bks[x.bk].waits.length + 1 : Nat))) 3, true) := by rw [← hz]; rfl
     generalize becomesI { s with bks := s.bks.set x.bk { s.bks[x.bk] with waits := s.bks[x.bk].waits ++ [x.call] } } x ⟨false, true, false⟩ = s2 at *
     obtain ⟨e4, e5, e6, e7, e8⟩ := hbe
     dsimp only at e4 e5 e6
     rintro r bx3 ⟨rfl, ad3, hk3, h3⟩
     have hf3 := h3.fin
     have hn3 := (hn.keep hk1).keep hk3
     have hrow3 := h3.row hn3
     unfold stV at hrow3
     rw [e5] at hrow3
     have hbk3 := h3.bksR hn3
     have hx3 : x.bk < s2.bks.length := by rw [e4]; simpa using hx
     have hwl3 : s2.bks[x.bk].waits = s.bks[x.bk].waits ++ [x.call] := by simp [e4]
     have hq3 := h3.waiO hx3
     simp only [hwl3, List.length_append, List.length_singleton] at hq3
     have hlen := fun bx2 => own_len (bx2 := bx2) (t := 60) hq3 Tryz.knd60
     simp [go_sem, hq3.strip, hq3.live] at hlen
     by_cases c1 : s.lims[x.bk].queue < (s.bks[x.bk].waits.length : Int) + 1
     · simp [go_sem, hf3, hrow3, hbk3, hx3, ibW, ibV, iI, hx2, limV, hlen, hq3.strip, hq3.live, hwl3, c1, evV]
       refine callK_abs (Tryz.fault_i h3 hn3.w 3 (by rw [e6]; omega)) ?_
       rintro r bx4 ⟨rfl, ad4, hk4, h4⟩
       have hf4 := h4.fin
       simp [go_sem, hf4]
       exact ret_keep (by simp [go_sem]) (.of (z' := (s2.fault 3, true)) (by rw [hz2]; simp [IW.faultIf, c1]) ⟨by simp [go_sem], ad4, (hk1.trans hk3).trans hk4, h4⟩)
     · simp [go_sem, hf3, hrow3, hbk3, hx3, ibW, ibV, iI, hx2, limV, hlen, hq3.strip, hq3.live, hwl3, c1, evV]
       exact ret_keep (by simp [go_sem]) (.of (z' := (s2, true)) (by rw [hz2]; simp [IW.faultIf, c1]) ⟨by simp [go_sem], ad3, hk1.trans hk3, h3⟩)
 · rw [hwt] at cW hz
   refine callK_pure cW ?_
   simp [go_sem, hf]
   refine gK_off (.bool false) (by simp [go_sem]) ?_
   simp [go_sem, hf]
   exact ret_keep (by simp [go_sem]) (.of hz.symm ⟨by simp [go_sem], ad, Keep.refl _, h⟩)
end Go.Proofs

set_option linter.unusedSimpArgs false
set_option linter.unusedVariables false
set_option maxRecDepth 100000
namespace Go.Proofs
open Go Go.Pl
theorem fIf_s (s : IW) (c : Bool) (k : Int) : (s.faultIf c k).bks = s.bks ∧ (s.faultIf c k).lims = s.lims ∧ (s.faultIf c k).at_ = s.at_ ∧ (s.faultIf c k).cns = s.cns ∧ (s.faultIf c k).rqs = s.rqs ∧ (s.faultIf c k).most = s.most ∧ (s.faultIf c k).now = s.now ∧ (s.faultIf c k).flt.length ≤ s.flt.length + 1 := by
 unfold IW.faultIf
 split
 · exact ⟨rfl, rfl, rfl, rfl, rfl, rfl, rfl, by simp [IW.fault]⟩
 · exact ⟨rfl, rfl, rfl, rfl, rfl, rfl, rfl, by omega⟩
theorem served_s (s : IW) (x : Ev) : (servedI s x).bks.length = s.bks.length ∧ (servedI s x).lims = s.lims ∧ (servedI s x).flt = s.flt ∧ (servedI s x).at_ = s.at_ ∧ (servedI s x).cns = s.cns ∧ (servedI s x).now = s.now := by
 unfold servedI
 exact ⟨by simp, rfl, rfl, rfl, rfl, rfl⟩
def dialI (s : IW) (x : Ev) : IW × Bool :=
 if mayI s x then
   let s3 := becomesI (servedI (s.faultIf (firstI s x) 9) x) x ⟨true, false, false⟩
   let b := s3.bks.getD x.bk ib0
   ((s3.setB x.bk { b with dials := w64 (b.dials + 1) }).faultIf (decide ((s.lims.getD x.bk ⟨0, 0, 0, 0⟩).max < w64 (w64 (b.dials + 1) + b.conns))) 2, true)
 else (s, false)
theorem Tryz.dial_i {bx0 bx : Boxes} {ad : Adr} {s : IW} (h : WI bx0 ad s bx) {p : Nat} (hp : ad .w = some p) (x : Ev) (hx : x.bk < s.bks.length) (hx2 : x.bk < s.lims.length) (hl : s.flt.length ≤ 80000) (hwl : s.bks[x.bk].waits.length ≤ 90000) :
   AbsCall Tryz.prog 73 [.ptr p 13 0 0, evV x] bx (StepI bx0 ad (dialI s x)) := by
 refine Tryz.ctr73 fun hf => ?_
 obtain ⟨pb, pc, pr, pm, pw, hn⟩ := h.names hp
 have cM := Tryz.may_i h hp x
 have e3 : s.lims.getD x.bk ⟨0, 0, 0, 0⟩ = s.lims[x.bk] := by simp [hx2]
 obtain ⟨z, hz⟩ : ∃ z, dialI s x = z := ⟨_, rfl⟩
 rw [hz]
 unfold dialI at hz
 rw [e3] at hz
 simp [go_sem, Tryz.C73, hf, evV, iI]
 rw [evg_]
 cases hmy : mayI s x
 · rw [hmy] at cM hz
   refine callK_pure cM ?_
   simp [go_sem, hf]
   exact ret_keep (by simp [go_sem]) (.of hz.symm ⟨by simp [go_sem], ad, Keep.refl _, h⟩)
 · rw [hmy] at cM hz
   simp only [if_true] at hz
   refine callK_pure cM ?_
   simp [go_sem, hf, evV, iI]
   rw [evg_]
   refine callK_abs (Tryz.first_i h hp x hx (by omega)) ?_
   have q1 := fIf_s s (firstI s x) 9
   generalize s.faultIf (firstI s x) 9 = s1 at *
   obtain ⟨a1, a2, a3, a4, a5, a6, a7, a8⟩ := q1
   rintro r bx1 ⟨rfl, ad1, hk1, h1⟩
   have hf1 := h1.fin
   have hx1 : x.bk < s1.bks.length := by rw [a1]; exact hx
   simp [go_sem, hf1, evV, iI]
   rw [evg_]
   refine callK_abs (Tryz.served_i h1 (hk1 _ _ hp rfl) x hx1 (by simp only [a1]; omega)) ?_
   have q2 := served_s s1 x
   generalize servedI s1 x = s2 at *
   obtain ⟨b1, b2, b3, b4, b5, b6⟩ := q2
   rintro r bx2 ⟨rfl, ad2, hk2, h2⟩
   have hf2 := h2.fin
   simp [go_sem, hf2, evV, iI]
   rw [evg_, ipg1]
   refine callK_abs (Tryz.becomes1_i h2 (hk2 _ _ (hk1 _ _ hp rfl) rfl) x _ (by simp)) ?_
   have q3 := becomes_bks s2 x ⟨true, false, false⟩
   generalize becomesI s2 x ⟨true, false, false⟩ = s3 at *
   obtain ⟨c1, c2, c3, c4, c5⟩ := q3
   rintro r bx3 ⟨rfl, ad3, hk3, h3⟩
   have hf3 := h3.fin
   have hn3 := ((hn.keep hk1).keep hk2).keep hk3
   have hrow3 := h3.row hn3
   unfold stV at hrow3
   rw [c2, b2, a2] at hrow3
   have hbk3 := h3.bksR hn3
   have hx3 : x.bk < s3.bks.length := by rw [c1, b1]; exact hx1
   have e2 : s3.bks.getD x.bk ib0 = s3.bks[x.bk] := by simp [hx3]
   rw [e2] at hz
   have h4 := h3.setB' hn3 hx3 { s3.bks[x.bk] with dials := w64 (s3.bks[x.bk].dials + 1) } rfl
   have hrow4 := h4.row hn3
   unfold stV at hrow4
   have el : (s3.setB x.bk { s3.bks[x.bk] with dials := w64 (s3.bks[x.bk].dials + 1) }).lims = s.lims := by rw [← a2, ← b2, ← c2]; rfl
   rw [el] at hrow4
   have hbk4 := h4.bksR hn3
   have hf4 := h4.fin
   have ef : (s3.setB x.bk { s3.bks[x.bk] with dials := w64 (s3.bks[x.bk].dials + 1) }).flt.length ≤ 80001 := by show s3.flt.length ≤ _; rw [c3, b3]; omega
   simp only [ibW, ibV, iI] at h4 hrow4 hbk4 hf4
   simp [go_sem, hf3, hrow3, hbk3, hx3, ibW, ibV, iI, evV]
   have hw1 : ∀ a : Int, IntKind.i64.wrap a = w64 a := fun a => rfl
   simp only [hw1] at *
   generalize (upd bx3 pb (some (Box.row tyIB 6 ((s3.bks.mapIdx (ibW ad3)).set x.bk (V.agg [V.bool s3.bks[x.bk].down, V.int .i64 s3.bks[x.bk].brk, V.int .i64 s3.bks[x.bk].probe, V.int .i64 (w64 (s3.bks[x.bk].dials + 1)), V.int .i64 s3.bks[x.bk].conns, slV (ad3 (.wai x.bk)) 1 s3.bks[x.bk].waits.length]))))) = bx4 at *
   have hx4 : x.bk < (s3.setB x.bk { s3.bks[x.bk] with dials := w64 (s3.bks[x.bk].dials + 1) }).bks.length := by simpa [IW.setB] using hx3
   have eb : (s3.setB x.bk { s3.bks[x.bk] with dials := w64 (s3.bks[x.bk].dials + 1) }).bks[x.bk] = { s3.bks[x.bk] with dials := w64 (s3.bks[x.bk].dials + 1) } := by simp [IW.setB]
   by_cases g1 : s.lims[x.bk].max < w64 (w64 (s3.bks[x.bk].dials + 1) + s3.bks[x.bk].conns)
   · simp [go_sem, hf4, hrow4, hbk4, hx4, eb, ibW, ibV, iI, evV, hx2, limV, hw1, g1]
     refine callK_abs (Tryz.fault_i h4 hn3.w 2 (by omega)) ?_
     rintro r bx5 ⟨rfl, ad5, hk5, h5⟩
     have hf5 := h5.fin
     simp [go_sem, hf5]
     exact ret_keep (by simp [go_sem]) (.of (z' := ((s3.setB x.bk { s3.bks[x.bk] with dials := w64 (s3.bks[x.bk].dials + 1) }).fault 2, true)) (by rw [← hz]; simp [IW.faultIf, g1]) ⟨by simp [go_sem], ad5, ((hk1.trans hk2).trans hk3).trans hk5, h5⟩)
   · simp [go_sem, hf4, hrow4, hbk4, hx4, eb, ibW, ibV, iI, evV, hx2, limV, hw1, g1]
     exact ret_keep (by simp [go_sem]) (.of (z' := (s3.setB x.bk { s3.bks[x.bk] with dials := w64 (s3.bks[x.bk].dials + 1) }, true)) (by rw [← hz]; simp [IW.faultIf, g1]) ⟨by simp [go_sem], ad3, (hk1.trans hk2).trans hk3, h4⟩)
def pickI (s : IW) (x : Ev) : IW × Bool := match readyI s x.call with
 | none => (s, false)
 | some i =>
   let r := (s.rqs.getD i (0, ir0)).2
   let b := s.bks.getD x.bk ib0
   let s1 := s.faultIf (b.down || decide (b.brk = 1)) 7
   let s2 := if b.brk = 2 then (s1.faultIf (decide (0 < b.probe) && decide (b.probe ≠ x.call)) 8).setB x.bk { b with probe := x.call } else s1
   let s3 := s2.faultIf (decide (s.most < r.picks)) 10
   (s3.setR i { r with picks := w64 (r.picks + 1), at_ := x.bk }, true)
theorem Tryz.pick_t6i {bx0 bx : Boxes} {ad0 ad : Adr} (hk : Keep ad0 ad) {s : IW} (h : WI bx0 ad s bx) (x : Ev) {i b : Nat} (hi : i < s.rqs.length) (hb : ad (.rq i) = some b)
   {z : IW × Bool} (hz : z = (s.setR i { s.rqs[i].2 with picks := w64 (s.rqs[i].2.picks + 1), at_ := x.bk }, true)) (st : St) (hs : Cov st ⟨83, slk [(3, .ep (evV x) 0), (5, .ptr b 5 0 0)], bx⟩) :
   pw Tryz.prog Tryz.L70_t6 (retQ Tryz.prog [.tmp 4] (StepI bx0 ad0 z)) st := by
 have hf := h.fin
 have hr := h.rqB hi hb
 refine pw_wk hs ?_
 simp [go_sem, hf, hr, irV, iI, evV]
 exact ret_keep (by simp [go_sem]) (.of hz ⟨by simp [go_sem], ad, hk, h.setR' hi hb { s.rqs[i].2 with picks := w64 (s.rqs[i].2.picks + 1), at_ := x.bk }⟩)
theorem Tryz.pick_t5i {bx0 bx : Boxes} {ad0 ad : Adr} (hk : Keep ad0 ad) {s : IW} (h : WI bx0 ad s bx) {p : Nat} (hp : ad .w = some p) (x : Ev) (hl : s.flt.length ≤ 90000) {i b : Nat} (hi : i < s.rqs.length) (hb : ad (.rq i) = some b)
   {z : IW × Bool} (hz : z = ((s.faultIf (decide (s.most < s.rqs[i].2.picks)) 10).setR i { s.rqs[i].2 with picks := w64 (s.rqs[i].2.picks + 1), at_ := x.bk }, true)) (st : St) (hs : Cov st ⟨83, slk [(0, .ptr p 13 0 0), (3, .ep (evV x) 0), (5, .ptr b 5 0 0)], bx⟩) :
   pw Tryz.prog Tryz.L70_t5 (retQ Tryz.prog [.tmp 4] (StepI bx0 ad0 z)) st := by
 have hf := h.fin
 obtain ⟨pb, pc, pr, pm, pw, hn⟩ := h.names hp
 have hrow := h.row hn
 unfold stV at hrow
 have hr := h.rqB hi hb
 refine pw_wk hs ?_
 by_cases c1 : s.most < s.rqs[i].2.picks
 · simp [go_sem, hf, hr, irV, iI, evV, hrow, c1]
   refine callK_abs (Tryz.fault_i h hp 10 (by omega)) ?_
   rintro r bx1 ⟨rfl, ad1, hk1, h1⟩
   have hf1 := h1.fin
   simp [go_sem, hf1]
   exact Tryz.pick_t6i (hk.trans hk1) h1 x (i := i) hi (hk1 _ _ hb rfl) (by rw [hz]; simp [IW.faultIf, c1, IW.fault]) _ (cov_look (by simp [go_sem, evV, iI]))
 · simp [go_sem, hf, hr, irV, iI, evV, hrow, c1]
   exact Tryz.pick_t6i hk h x (i := i) hi hb (by rw [hz]; simp [IW.faultIf, c1]) _ (cov_look (by simp [go_sem, evV, iI]))
set_option maxHeartbeats 1000000 in
theorem Tryz.pick_t4i {bx0 bx : Boxes} {ad0 ad : Adr} (hk : Keep ad0 ad) {s : IW} (h : WI bx0 ad s bx) {p pb : Nat} (hp : ad .w = some p) (hpb : ad .bks = some pb) (x : Ev) (hl : s.flt.length ≤ 80000) (hx : x.bk < s.bks.length) {i b : Nat} (hi : i < s.rqs.length) (hb : ad (.rq i) = some b)
   {z : IW × Bool} (hz : z = (((if s.bks[x.bk].brk = 2 then (s.faultIf (decide (0 < s.bks[x.bk].probe) && decide (s.bks[x.bk].probe ≠ x.call)) 8).setB x.bk { s.bks[x.bk] with probe := x.call } else s).faultIf (decide (s.most < s.rqs[i].2.picks)) 10).setR i { s.rqs[i].2 with picks := w64 (s.rqs[i].2.picks + 1), at_ := x.bk }, true)) (st : St) (hs : Cov st ⟨83, slk [(0, .ptr p 13 0 0), (3, .ep (evV x) 0), (5, .ptr b 5 0 0), (6, .ptr pb 6 x.bk 0)], bx⟩) :
   pw Tryz.prog Tryz.L70_t4 (retQ Tryz.prog [.tmp 4] (StepI bx0 ad0 z)) st := by
 have hf := h.fin
 obtain ⟨pb', pc, pr, pm, pw, hn⟩ := h.names hp
 have : pb' = pb := by have := hn.b; rw [hpb] at this; injection this with this; exact this.symm
 subst this
 have hrow := h.row hn
 unfold stV at hrow
 have hbk := h.bksR hn
 refine pw_wk hs ?_
 by_cases c1 : s.bks[x.bk].brk = 2
 · rw [if_pos c1] at hz
   have hset := h.setB' hn hx ⟨s.bks[x.bk].down, 2, x.call, s.bks[x.bk].dials, s.bks[x.bk].conns, s.bks[x.bk].waits⟩ rfl
   have hz0 (hc : (decide (0 < s.bks[x.bk].probe) && decide (s.bks[x.bk].probe ≠ x.call)) = false) : z = (((s.setB x.bk ⟨s.bks[x.bk].down, 2, x.call, s.bks[x.bk].dials, s.bks[x.bk].conns, s.bks[x.bk].waits⟩).faultIf (decide (s.most < s.rqs[i].2.picks)) 10).setR i { s.rqs[i].2 with picks := w64 (s.rqs[i].2.picks + 1), at_ := x.bk }, true) := by
     rw [hz, hc, ← c1]; rfl
   by_cases c2 : 0 < s.bks[x.bk].probe
   · by_cases c3 : s.bks[x.bk].probe = x.call
     · simp [go_sem, hf, hbk, hx, evV, ibW, ibV, iI, hrow, c1, c2, c3]
       exact Tryz.pick_t5i hk hset hp x (by show s.flt.length ≤ _; omega) (i := i) hi hb (hz0 (by simp [c3])) _ (cov_look (by simp [go_sem, evV, iI]))
     · simp [go_sem, hf, hbk, hx, evV, ibW, ibV, iI, hrow, c1, c2, c3]
       refine callK_abs (Tryz.fault_i h hp 8 (by omega)) ?_
       rintro r bx1 ⟨rfl, ad1, hk1, h1⟩
       have hf1 := h1.fin
       have hn1 := hn.keep hk1
       have hbk1 := h1.bksR hn1
       have hset1 := h1.setB' hn1 (i := x.bk) hx ⟨s.bks[x.bk].down, 2, x.call, s.bks[x.bk].dials, s.bks[x.bk].conns, s.bks[x.bk].waits⟩ rfl
       have eb : (s.fault 8).bks = s.bks := rfl
       rw [eb] at hbk1
       simp [go_sem, hf1, hbk1, hx, evV, ibW, ibV, iI, c1]
       exact Tryz.pick_t5i (hk.trans hk1) hset1 hn1.w x (by show (s.flt ++ [_]).length ≤ _; simp; omega) (i := i) hi (hk1 _ _ hb rfl) (by rw [hz]; simp [c2, c3, IW.faultIf, ← c1]; rfl) _ (cov_look (by simp [go_sem, evV, iI]))
   · simp [go_sem, hf, hbk, hx, evV, ibW, ibV, iI, hrow, c1, c2]
     exact Tryz.pick_t5i hk hset hp x (by show s.flt.length ≤ _; omega) (i := i) hi hb (hz0 (by simp [c2])) _ (cov_look (by simp [go_sem, evV, iI]))
 · rw [if_neg c1] at hz
   simp [go_sem, hf, hbk, hx, evV, ibW, ibV, iI, hrow, c1]
   exact Tryz.pick_t5i hk h hp x (by omega) (i := i) hi hb hz _ (cov_look (by simp [go_sem, evV, iI]))
set_option maxHeartbeats 1000000 in
theorem Tryz.pick_i {bx0 bx : Boxes} {ad : Adr} {s : IW} (h : WI bx0 ad s bx) {p : Nat} (hp : ad .w = some p) (x : Ev) (hx : x.bk < s.bks.length) (hl : s.flt.length ≤ 70000) :
   AbsCall Tryz.prog 70 [.ptr p 13 0 0, evV x] bx (StepI bx0 ad (pickI s x)) := by
 refine Tryz.ctr70 fun hf => ?_
 obtain ⟨pb, pc, pr, pm, pw, hn⟩ := h.names hp
 have hrow := h.row hn
 unfold stV at hrow
 have hbk := h.bksR hn
 have cR := Tryz.ready_i h hp x.call
 have e2 : s.bks.getD x.bk ib0 = s.bks[x.bk] := by simp [hx]
 obtain ⟨z, hz⟩ : ∃ z, pickI s x = z := ⟨_, rfl⟩
 rw [hz]
 unfold pickI at hz
 rw [e2] at hz
 simp [go_sem, Tryz.C70, hf, evV, iI]
 cases hr : readyI s x.call with
 | none =>
   rw [hr] at cR hz
   unfold ptrR at cR
   refine callK_pure cR ?_
   simp [go_sem, hf, hrow, hbk, hx]
   exact ret_keep (by simp [go_sem]) (.of hz.symm ⟨by simp [go_sem], ad, Keep.refl _, h⟩)
 | some i =>
   rw [hr] at cR hz
   unfold ptrR at cR
   obtain ⟨hi, _⟩ := ready_at hr
   obtain ⟨b0, hb0, hr0⟩ := h.rqR hi
   have e1 : s.rqs.getD i (0, ir0) = s.rqs[i] := by simp [hi]
   simp only [adr_of hb0] at cR
   simp only [e1] at hz
   refine callK_pure cR ?_
   have c7 := Tryz.fault_i h hp 7 (by omega)
   by_cases d1 : s.bks[x.bk].down = true
   · simp [go_sem, hf, hrow, hbk, hx, ibW, ibV, iI, d1]
     refine callK_abs c7 ?_
     rintro r bx1 ⟨rfl, ad1, hk1, h1⟩
     have hf1 := h1.fin
     simp [go_sem, hf1]
     exact Tryz.pick_t4i hk1 h1 (hk1 _ _ hp rfl) (hk1 _ _ hn.b rfl) x (by simp [IW.fault]; omega) hx (i := i) hi (hk1 _ _ hb0 rfl) (by rw [show (s.bks[x.bk].down || decide (s.bks[x.bk].brk = 1)) = true by simp [d1]] at hz; exact hz.symm) _ (cov_look (by simp [go_sem, evV, iI]))
   · by_cases d2 : s.bks[x.bk].brk = 1
     · simp [go_sem, hf, hrow, hbk, hx, ibW, ibV, iI, d1, d2]
       refine callK_abs c7 ?_
       rintro r bx1 ⟨rfl, ad1, hk1, h1⟩
       have hf1 := h1.fin
       simp [go_sem, hf1]
       exact Tryz.pick_t4i hk1 h1 (hk1 _ _ hp rfl) (hk1 _ _ hn.b rfl) x (by simp [IW.fault]; omega) hx (i := i) hi (hk1 _ _ hb0 rfl) (by rw [show (s.bks[x.bk].down || decide (s.bks[x.bk].brk = 1)) = true by simp [d2]] at hz; exact hz.symm) _ (cov_look (by simp [go_sem, evV, iI]))
     · simp [go_sem, hf, hrow, hbk, hx, ibW, ibV, iI, d1, d2]
       exact Tryz.pick_t4i (Keep.refl _) h hp hn.b x (by omega) hx (i := i) hi hb0 (by rw [show (s.bks[x.bk].down || decide (s.bks[x.bk].brk = 1)) = false by simp [d1, d2]] at hz; exact hz.symm) _ (cov_look (by simp [go_sem, evV, iI]))
end Go.Proofs

set_option linter.unusedSimpArgs false
set_option linter.unusedVariables false
set_option maxRecDepth 100000
namespace Go.Proofs
open Go Go.Pl
theorem WI.mono {bx0 bx bx' : Boxes} {ad : Adr} {s : IW} (h : WI bx0 ad s bx) (he : Ext bx bx') (hf : FinB bx') : WI bx0 ad s bx' :=
 ⟨hf, fun b hb => by rw [he b (by rw [h.ext b hb]; exact hb), h.ext b hb], fun c b e => by
   obtain ⟨h1, h2, h3⟩ := h.at_ c b e
   exact ⟨h1, by rw [he b (by rw [h2]; simp), h2], h3⟩, h.none_, h.inj⟩
def leaseI (s : IW) (x : Ev) : IW × Bool :=
 if mayI s x then match thereI s x with
   | none => (s.fault 4, true)
   | some i =>
     let c := s.cns.getD i ic0
     if c.st = 4 then (s.fault 4, true) else if c.st = 1 then (s.fault 1, true)
     else
       let m := s.lims.getD x.bk ⟨0, 0, 0, 0⟩
       let s1 := s.faultIf (firstI s x) 9
       let s2 := s1.faultIf (decide (m.age ≤ w64 (s.now - c.born)) || (decide (c.st = 2) && decide (m.idle ≤ w64 (s.now - c.since)))) 5
       (takeI (servedI s2 x) i x, true)
 else (s, false)
theorem Tryz.lease_t6i {bx0 bx : Boxes} {ad0 ad : Adr} (hk : Keep ad0 ad) {s : IW} (h : WI bx0 ad s bx) {p : Nat} (hp : ad .w = some p) (x : Ev) (hx : x.bk < s.bks.length) (hwl : s.bks[x.bk].waits.length ≤ 90000) {i b : Nat} (hi : i < s.cns.length) (hb : ad (.cn i) = some b)
   {z : IW × Bool} (hz : z = (takeI (servedI s x) i x, true)) (st : St) (hs : Cov st ⟨89, slk [(0, .ptr p 13 0 0), (3, .ep (evV x) 0), (5, .ptr b 10 0 0)], bx⟩) :
   pw Tryz.prog Tryz.L76_t6 (retQ Tryz.prog [.tmp 4] (StepI bx0 ad0 z)) st := by
 have hf := h.fin
 refine pw_wk hs ?_
 simp [go_sem, hf, evV, iI]
 rw [evg_]
 refine callK_abs (Tryz.served_i h hp x hx (by omega)) ?_
 have q2 := served_s s x
 generalize servedI s x = s2 at *
 obtain ⟨b1, b2, b3, b4, b5, b6⟩ := q2
 rintro r bx1 ⟨rfl, ad1, hk1, h1⟩
 have hf1 := h1.fin
 simp [go_sem, hf1, evV, iI]
 rw [evg_]
 refine callK_abs (Tryz.take_i h1 (hk1 _ _ hp rfl) x (i := i) (by rw [b5]; exact hi) (hk1 _ _ hb rfl)) ?_
 rintro r bx2 ⟨rfl, ad2, hk2, h2⟩
 have hf2 := h2.fin
 simp [go_sem, hf2]
 exact ret_keep (by simp [go_sem]) (.of hz ⟨by simp [go_sem], ad2, (hk.trans hk1).trans hk2, h2⟩)
set_option maxHeartbeats 1000000 in
theorem Tryz.lease_t5i {bx0 bx : Boxes} {ad0 ad : Adr} (hk : Keep ad0 ad) {s : IW} (h : WI bx0 ad s bx) {p : Nat} (hp : ad .w = some p) (x : Ev) (hx : x.bk < s.bks.length) (hx2 : x.bk < s.lims.length) (hl : s.flt.length ≤ 90000) (hwl : s.bks[x.bk].waits.length ≤ 90000) {i b : Nat} (hi : i < s.cns.length) (hb : ad (.cn i) = some b)
   {z : IW × Bool} (hz : z = (takeI (servedI (s.faultIf (decide (s.lims[x.bk].age ≤ w64 (s.now - s.cns[i].born)) || (decide (s.cns[i].st = 2) && decide (s.lims[x.bk].idle ≤ w64 (s.now - s.cns[i].since)))) 5) x) i x, true)) (st : St) (hs : Cov st ⟨89, slk [(0, .ptr p 13 0 0), (3, .ep (evV x) 0), (5, .ptr b 10 0 0)], bx⟩) :
   pw Tryz.prog Tryz.L76_t5 (retQ Tryz.prog [.tmp 4] (StepI bx0 ad0 z)) st := by
 have hf := h.fin
 obtain ⟨pb, pc, pr, pm, pw', hn⟩ := h.names hp
 have hrow := h.row hn
 unfold stV at hrow
 refine pw_wk hs ?_
 simp [go_sem, hf, hrow, hx2, limV, evV, iI]
 intro b2 hb2
 have h1 : WI bx0 ad s (upd bx b2 (some (.row 111 4 [limV s.lims[x.bk]]))) := h.mono (ext_newI hb2 _) ((finB_upd _ _ _).2 hf)
 have hl1 := upd_eq bx b2 (some (Box.row 111 4 [limV s.lims[x.bk]]))
 simp only [limV, iI] at h1 hl1
 generalize upd bx b2 (some (Box.row 111 4 [V.agg [V.int .i64 s.lims[x.bk].max, V.int .i64 s.lims[x.bk].queue, V.int .i64 s.lims[x.bk].idle, V.int .i64 s.lims[x.bk].age]])) = bx1 at *
 have hf1 := h1.fin
 have hrow1 := h1.row hn
 unfold stV at hrow1
 have hb1 := h1.cnB hi hb
 have hw1 : ∀ a : Int, IntKind.i64.wrap a = w64 a := fun a => rfl
 by_cases c1 : s.lims[x.bk].age ≤ w64 (s.now - s.cns[i].born) <;> by_cases c2 : s.cns[i].st = 2 <;> by_cases c3 : s.lims[x.bk].idle ≤ w64 (s.now - s.cns[i].since) <;> simp [go_sem, hf1, hrow1, hb1, hl1, icV, iI, hw1, c1, c2, c3]
 all_goals first
   | (refine callK_abs (Tryz.fault_i h1 hp 5 (by omega)) ?_
      rintro r bx2 ⟨rfl, ad2, hk2, h2⟩
      have hf2 := h2.fin
      simp [go_sem, hf2]
      refine Tryz.lease_t6i (hk.trans hk2) h2 (hk2 _ _ hp rfl) x hx hwl (i := i) hi (hk2 _ _ hb rfl) ?_ _ (cov_look (by simp [go_sem, evV, iI]))
      rw [hz]
      simp only [c1, c2, c3, decide_true, decide_false, Bool.true_or, Bool.or_true, Bool.and_true, Bool.true_and, Bool.or_self, IW.faultIf, if_true, Bool.false_or])
   | (refine Tryz.lease_t6i hk h1 hp x hx hwl (i := i) hi hb ?_ _ (cov_look (by simp [go_sem, evV, iI]))
      rw [hz]
      simp only [c1, c2, c3, decide_true, decide_false, Bool.false_or, Bool.and_false, Bool.false_and, Bool.or_self, IW.faultIf, Bool.false_eq_true, if_false])
theorem Tryz.lease_i {bx0 bx : Boxes} {ad : Adr} {s : IW} (h : WI bx0 ad s bx) {p : Nat} (hp : ad .w = some p) (x : Ev) (hx : x.bk < s.bks.length) (hx2 : x.bk < s.lims.length) (hl : s.flt.length ≤ 80000) (hwl : s.bks[x.bk].waits.length ≤ 90000) :
   AbsCall Tryz.prog 76 [.ptr p 13 0 0, evV x] bx (StepI bx0 ad (leaseI s x)) := by
 refine Tryz.ctr76 fun hf => ?_
 have cM := Tryz.may_i h hp x
 have cT := Tryz.there_i h hp x
 have c4 := Tryz.fault_i h hp 4 (by omega)
 have c1 := Tryz.fault_i h hp 1 (by omega)
 have e3 : s.lims.getD x.bk ⟨0, 0, 0, 0⟩ = s.lims[x.bk] := by simp [hx2]
 obtain ⟨z, hz⟩ : ∃ z, leaseI s x = z := ⟨_, rfl⟩
 rw [hz]
 unfold leaseI at hz
 rw [e3] at hz
 simp [go_sem, Tryz.C76, hf, evV, iI]
 rw [evg_]
 cases hmy : mayI s x
 · rw [hmy] at cM hz
   refine callK_pure cM ?_
   simp [go_sem, hf]
   exact ret_keep (by simp [go_sem]) (.of hz.symm ⟨by simp [go_sem], ad, Keep.refl _, h⟩)
 rw [hmy] at cM hz
 simp only [if_true] at hz
 refine callK_pure cM ?_
 simp [go_sem, hf, evV, iI]
 rw [evg_]
 cases ho : thereI s x with
 | none =>
   rw [ho] at cT hz
   unfold ptrC at cT
   refine callK_pure cT ?_
   simp [go_sem, hf]
   refine callK_abs c4 ?_
   rintro r bx1 ⟨rfl, ad1, hk1, h1⟩
   have hf1 := h1.fin
   simp [go_sem, hf1]
   exact ret_keep (by simp [go_sem]) (.of hz.symm ⟨by simp [go_sem], ad1, hk1, h1⟩)
 | some i =>
   rw [ho] at cT hz
   unfold ptrC at cT
   have hi := (there_at ho).1
   obtain ⟨b0, hb0, hr0⟩ := h.cnR hi
   have e1 : s.cns.getD i ic0 = s.cns[i] := by simp [hi]
   simp only [adr_of hb0] at cT
   simp only [e1] at hz
   refine callK_pure cT ?_
   by_cases s4 : s.cns[i].st = 4
   · rw [if_pos s4] at hz
     simp [go_sem, hf, hr0, icV, iI, s4]
     refine callK_abs c4 ?_
     rintro r bx1 ⟨rfl, ad1, hk1, h1⟩
     have hf1 := h1.fin
     simp [go_sem, hf1]
     exact ret_keep (by simp [go_sem]) (.of hz.symm ⟨by simp [go_sem], ad1, hk1, h1⟩)
   rw [if_neg s4] at hz
   by_cases s1 : s.cns[i].st = 1
   · rw [if_pos s1] at hz
     simp [go_sem, hf, hr0, icV, iI, s1]
     refine callK_abs c1 ?_
     rintro r bx1 ⟨rfl, ad1, hk1, h1⟩
     have hf1 := h1.fin
     simp [go_sem, hf1]
     exact ret_keep (by simp [go_sem]) (.of hz.symm ⟨by simp [go_sem], ad1, hk1, h1⟩)
   rw [if_neg s1] at hz
   simp [go_sem, hf, hr0, icV, iI, s4, s1, evV]
   rw [evg_]
   refine callK_abs (Tryz.first_i h hp x hx (by omega)) ?_
   have q1 := fIf_s s (firstI s x) 9
   generalize s.faultIf (firstI s x) 9 = s1' at *
   obtain ⟨a1, a2, a3, a4, a5, a6, a7, a8⟩ := q1
   rintro r bx1 ⟨rfl, ad1, hk1, h1⟩
   have hf1 := h1.fin
   simp [go_sem, hf1]
   refine Tryz.lease_t5i hk1 h1 (hk1 _ _ hp rfl) x (by rw [a1]; exact hx) (by rw [a2]; exact hx2) (by omega) (by simp only [a1]; omega) (i := i) (by rw [a4]; exact hi) (hk1 _ _ hb0 rfl) ?_ _ (cov_look (by simp [go_sem, evV, iI]))
   rw [← hz]
   simp only [a2, a4, a7]
end Go.Proofs

set_option linter.unusedSimpArgs false
set_option linter.unusedVariables false
set_option maxRecDepth 100000
namespace Go.Proofs
open Go Go.Pl
theorem Tryz.open_rk : rawOkC (rawAt Tryz.f75 1) (Tryz.R75_1.take 11) (⟨some 17, .call { callee := .value (.func 118), args := #[.tmp 15, .tmp 16], argTypes := #[95, 69] }, some (14, false), false⟩ : POp) (Tryz.R75_1.drop 12) := by
 have e : rawAt Tryz.f75 1 = .region 1 (rawOps (rawAt Tryz.f75 1)) true := by kernel_rfl
 rw [e]
 exact ⟨by kernel_rfl, by kernel_rfl, by kernel_rfl, by kernel_rfl, by kernel_rfl⟩
def openI (s : IW) (x : Ev) : IW × Bool :=
 match (s.cns.map (·.num)).findIdx? (· == x.conn) with
 | some _ => (s, false)
 | none =>
   let d := dialledI s x
   if d.2 then
     let s1 : IW := d.1
     let s2 : IW := { s1 with cns := s1.cns ++ [(⟨x.conn, x.bk, 0, s1.now, -1, 0, 0, 3, 0, 0⟩ : IC)], ord := s1.ord ++ [x.conn] }
     let b := s2.bks.getD x.bk ib0
     let s3 := s2.setB x.bk { b with conns := w64 (b.conns + 1) }
     (if x.yes then takeI s3 s1.cns.length x else s3, true)
   else (d.1, false)
theorem dialled_ex {bx0 bx : Boxes} {ad : Adr} {s : IW} (h : WI bx0 ad s bx) {p : Nat} (hp : ad .w = some p) (x : Ev) : ∃ r bx', StepI bx0 ad (dialledI s x) r bx' := by
 obtain ⟨pb, pc, pr, pm, pw', hn⟩ := h.names hp
 unfold dialledI
 split
 · dsimp only
   have h2 := h.setB hn x.bk { s.bks.getD x.bk ib0 with dials := w64 ((s.bks.getD x.bk ib0).dials - 1) } (fun b hb => by rw [List.getD_eq_getElem?_getD, hb]; rfl)
   have h3 := h2.setBusy hn (delK s.busy x.call)
   unfold becomesI
   rw [if_pos rfl]
   exact ⟨_, _, rfl, ad, Keep.refl _, h3⟩
 · exact ⟨_, _, rfl, ad, Keep.refl _, h⟩
theorem Tryz.open_i {bx0 bx : Boxes} {ad : Adr} {s : IW} (h : WI bx0 ad s bx) {p : Nat} (hp : ad .w = some p) (x : Ev) (hx : x.bk < s.bks.length) (hol : s.ord.length ≤ 90000) :
   AbsCall Tryz.prog 75 [.ptr p 13 0 0, evV x] bx (StepI bx0 ad (openI s x)) := by
 refine Tryz.ctr75 fun hf => ?_
 obtain ⟨pb, pc, pr, pm, pw', hn⟩ := h.names hp
 have hrow := h.row hn
 unfold stV at hrow
 have hmc := h.mcR hn
 have f1 := cn_find s x.conn ad
 obtain ⟨z, hz⟩ : ∃ z, openI s x = z := ⟨_, rfl⟩
 rw [hz]
 unfold openI at hz
 simp [go_sem, Tryz.C75, hf, evV, iI]
 cases h1 : (s.cns.map (·.num)).findIdx? (· == x.conn) with
 | some i =>
   rw [h1] at f1 hz
   simp only [Option.map_some] at f1
   refine Tryz.pwr75_1 ?_
   simp [go_sem, Tryz.R75_1, hf, hrow, hmc, f1, evV, iI]
   refine gK_off (.bool false) (by simp [go_sem]) ?_
   simp [go_sem, hf]
   exact ret_keep (by simp [go_sem]) (.of hz.symm ⟨by simp [go_sem], ad, Keep.refl _, h⟩)
 | none =>
   have h1x := h1
   rw [h1] at f1 hz
   simp only [Option.map_none] at f1
   refine pw_rawC (by kernel_rfl) [0, 3, 19] Tryz.open_rk ?_
   simp [go_sem, Tryz.R75_1, hf, hrow, hmc, f1, evV, iI]
   rw [evg_]
   refine callKx_abs (Tryz.dialled_i h hp x hx) (dialled_ex h hp x) ?_
   dsimp only at hz
   have hlen : (dialledI s x).1.bks.length = s.bks.length ∧ (dialledI s x).1.cns = s.cns ∧ (dialledI s x).1.ord = s.ord := by
     unfold dialledI
     split
     · obtain ⟨b1, _, _, _, b5⟩ := becomes_bks { s with bks := s.bks.set x.bk { s.bks.getD x.bk ib0 with dials := w64 ((s.bks.getD x.bk ib0).dials - 1) } } x ip0
       exact ⟨by dsimp only; rw [b1]; simp, by dsimp only; rw [b5], by dsimp only; unfold becomesI; split <;> rfl⟩
     · exact ⟨rfl, rfl, rfl⟩
   generalize dialledI s x = d at *
   rintro r bx1 ⟨rfl, ad1, hk1, h1⟩
   have hf1 := h1.fin
   cases hd : d.2
   · rw [hd] at hz
     simp [go_sem, hf1]
     exact ret_keep (by simp [go_sem]) (.of hz.symm ⟨by simp [go_sem], ad1, hk1, h1⟩)
   · rw [hd] at hz
     simp only [if_true] at hz
     generalize d.1 = s1 at *
     have hn1 := hn.keep hk1
     have hrow1 := h1.row hn1
     unfold stV at hrow1
     simp [go_sem, hf1, hrow1, evV, iI]
     intro b hb
     have hmc1 := h1.mcR hn1
     have f2 := cn_find s1 x.conn ad1
     rw [hlen.2.1, h1x] at f2
     simp only [Option.map_none] at f2
     have hnp : p ≠ b := by rintro rfl; rw [hrow1] at hb; cases hb
     have hnc : pc ≠ b := by rintro rfl; rw [hmc1] at hb; cases hb
     rw [← hlen.2.1] at f2
     obtain ⟨h2, hk2⟩ := h1.addC hn1 ⟨x.conn, x.bk, 0, s1.now, -1, 0, 0, 3, 0, 0⟩ hb
     simp only [icV, iI] at h2
     simp [go_sem, hf1, upd_ne, hnp, hnc, hrow1, hmc1, f2]
     generalize (upd (upd bx1 b (some (Box.row tyIC 10 [V.agg [V.int .i64 x.conn, V.int .i64 x.bk, V.int .i64 0, V.int .i64 s1.now, V.int .i64 (-1), V.int .i64 0, V.int .i64 0, V.int .i64 3, V.int .i64 0, V.int .i64 0]]))) pc (some (Box.map ((mapE (s1.cns.map (fun x => x.num)) fun i => V.ptr (adr ad1 (.cn i)) 10 0 0) ++ [(V.int .i64 x.conn, V.ptr b 10 0 0)])))) = bx2 at *
     obtain ⟨ad2, had2⟩ : ∃ ad2, updC ad1 (.cn s1.cns.length) (some b) = ad2 := ⟨_, rfl⟩
     have hcb : ad2 (.cn s1.cns.length) = some b := by rw [← had2]; exact updC_eq _ _ _
     rw [had2] at h2 hk2
     obtain ⟨s2, hs2⟩ : ∃ s2 : IW, ({ s1 with cns := s1.cns ++ [(⟨x.conn, x.bk, 0, s1.now, -1, 0, 0, 3, 0, 0⟩ : IC)] } : IW) = s2 := ⟨_, rfl⟩
     have h2 : WI bx0 ad2 s2 bx2 := by rw [← hs2]; exact h2
     have hn2 := hn1.keep hk2
     have hrow2 := h2.row hn2
     unfold stV at hrow2
     have hf2 := h2.fin
     have ho2 := h2.ordO
     simp [go_sem, hf2, hrow2, evV, iI]
     refine own_app (.int .i64 0) ho2 hf2 (news := [iI x.conn]) Tryz.knd60 Tryz.tsz2 (by simp [go_sem, srcEls, iI]) Tryz.tzero2 (by simp [go_sem]) (by decide) (by have := hlen.2.2; simp [Tryz.tby2, ← hs2, this]; omega) (by have := hlen.2.2; simp [← hs2, this]; omega) (by simp [go_sem]) fun v' bx' ha hm _ => ?_
     have ha' : OwnV bx' 2 1 ((s2.ord ++ [x.conn]).map iI) v' := by simpa using ha
     have h3 := h2.addOrd hn2 x.conn hm ha'
     have hp3 : bx' p = _ := (hm.other (by rw [hrow2]; simp) (ho2.ne hrow2 (by decide))).trans hrow2
     have hf3 := hm.fin
     unfold stV at h3
     simp only [iI] at h3
     simp [go_sem, hp3, ha.strip, ha.live, ha.cells, ha.okV, hf3, iI]
     generalize (upd bx' p (some (Box.row tyS 13 [V.agg [V.sl 4 (s2.lims.map limV), V.int .i64 s2.most, V.sl 8 (s2.evs.map exV), V.int .i64 s2.now, V.int .i64 s2.at_, V.own pb 6 0 s2.bks.length, V.mp pc, v', V.mp pr, V.mp pm, V.mp pw', V.bool s2.stop, slV (ad2 .flt) 2 s2.flt.length]]))) = bx3 at *
     obtain ⟨ad3, had3⟩ : ∃ ad3, updC ad2 .ord (adrV v') = ad3 := ⟨_, rfl⟩
     have hk3 : Keep ad2 ad3 := by rw [← had3]; exact WI.keep rfl _
     rw [had3] at h3
     have hn3 := hn2.keep hk3
     have hf3 := h3.fin
     have hbk3 := h3.bksR hn3
     have hx2 : x.bk < s2.bks.length := by rw [← hs2]; show x.bk < s1.bks.length; rw [hlen.1]; exact hx
     have h4 := h3.setB' hn3 (i := x.bk) hx2 { s2.bks[x.bk] with conns := w64 (s2.bks[x.bk].conns + 1) } rfl
     have hb2 : s2.bks.getD x.bk ib0 = s2.bks[x.bk] := by simp [hx2]
     have hcl : s2.cns.length = s1.cns.length + 1 := by rw [← hs2]; simp
     have hz2 : z = (if x.yes then takeI (IW.setB { s2 with ord := s2.ord ++ [x.conn] } x.bk { s2.bks[x.bk] with conns := w64 (s2.bks[x.bk].conns + 1) }) s1.cns.length x else IW.setB { s2 with ord := s2.ord ++ [x.conn] } x.bk { s2.bks[x.bk] with conns := w64 (s2.bks[x.bk].conns + 1) }, true) := by
       rw [← hz, ← hb2, ← hs2]
     have hw1 : ∀ a : Int, IntKind.i64.wrap a = w64 a := fun a => rfl
     simp only [ibW, ibV, iI] at h4
     have hf4 := h4.fin
     cases hy : x.yes
     · simp [go_sem, hf3, hbk3, hx2, ibW, ibV, iI, hw1, hy]
       exact ret_keep (by simp [go_sem]) (.of (z' := (IW.setB { s2 with ord := s2.ord ++ [x.conn] } x.bk { s2.bks[x.bk] with conns := w64 (s2.bks[x.bk].conns + 1) }, true)) (by rw [hz2, hy]; rfl) ⟨by simp [go_sem], ad3, (hk1.trans hk2).trans hk3, h4⟩)
     · simp [go_sem, hf3, hbk3, hx2, ibW, ibV, iI, hw1, hy]
       have evh : V.agg [V.int .i64 x.kind, V.int .i64 x.bk, V.int .i64 x.t, V.int .i64 x.call, V.int .i64 x.conn, V.int .i64 x.of_, V.int .i64 x.n, V.bool true] = evV x := by rw [← evg_ x, hy]
       rw [evh]
       refine callK_abs (Tryz.take_i h4 hn3.w x (i := s1.cns.length) (by show s1.cns.length < s2.cns.length; omega) (hk3 _ _ hcb rfl)) ?_
       rintro r bx5 ⟨rfl, ad5, hk5, h5⟩
       have hf5 := h5.fin
       simp [go_sem, hf5]
       exact ret_keep (by simp [go_sem]) (.of (z' := (takeI (IW.setB { s2 with ord := s2.ord ++ [x.conn] } x.bk { s2.bks[x.bk] with conns := w64 (s2.bks[x.bk].conns + 1) }) s1.cns.length x, true)) (by rw [hz2, hy]; rfl) ⟨by simp [go_sem], ad5, ((hk1.trans hk2).trans hk3).trans hk5, h5⟩)
end Go.Proofs
