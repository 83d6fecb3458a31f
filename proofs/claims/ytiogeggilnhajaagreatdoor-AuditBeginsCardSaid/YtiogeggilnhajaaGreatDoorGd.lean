/- Texts of the proof, put together: PlU, PlV, PlW, PlAa, PlUn, PlUm, PlRw, PlIt. -/
import Derived.Test.YtiogeggilnhajaaGreatDoorGc
import Derived.Shelf.Abstract
import Derived.IntWalk
import Derived.Test.YtiogeggilnhajaaGreatDoorGb

set_option linter.unusedSimpArgs false
set_option linter.unusedVariables false
namespace Go.Pl
open Go
section
variable {P : Program}
def regK (Q : Exit → St → Prop) (ks : List Nat) (s : St) : Prop := Q .normal (s.keep ks)
def condK (P : Program) (a b : PC) (Q : Exit → St → Prop) (g : V) (st : St) : Prop :=
 match g.strip with
 | .bool x => g.liveB = true ∧ (x = true → pw P a Q st) ∧ (x = false → pw P b Q st)
 | _ => False
def retQ (P : Program) (rs : List ResultVar) (Kc : V → Boxes → Prop) (e : Exit) (st : St) : Prop := (e = .normal ∨ e = .ret) ∧ Ret P rs Kc st
def blkK (i j : Nat) (Q : Exit → St → Prop) (st : St) : Prop := if j = i then Q .normal st else Q (.exit j) st
@[go_sem ↓] theorem pw_skip {Q : Exit → St → Prop} {st : St} : pw P .skip Q st = Q .normal st := rfl
@[go_sem ↓] theorem pw_ret {Q : Exit → St → Prop} {st : St} : pw P .ret Q st = Q .ret st := rfl
@[go_sem ↓] theorem pw_exit {i : Nat} {Q : Exit → St → Prop} {st : St} : pw P (.exit i) Q st = Q (.exit i) st := rfl
@[go_sem ↓] theorem pw_seq {a b : PC} {Q : Exit → St → Prop} {st : St} : pw P (.seq a b) Q st = pw P a (thenQ (pw P b Q) Q) st := rfl
@[go_sem ↓] theorem pw_block {i : Nat} {c : PC} {Q : Exit → St → Prop} {st : St} : pw P (.block i c) Q st = pw P c (blockQ i Q) st := rfl
@[go_sem ↓] theorem pw_reg {d : Bool} {l : List POp} {ks : List Nat} {Q : Exit → St → Prop} {st : St} : pw P (.reg d l ks) Q st = opsP P d (regK Q ks) l st := rfl
@[go_sem ↓] theorem opsP_nil {d : Bool} {K : St → Prop} {st : St} : opsP P d K [] st = K st := rfl
@[go_sem ↓] theorem opsP_cons {d : Bool} {K : St → Prop} {o : POp} {l : List POp} {st : St} : opsP P d K (o :: l) st = opP P d o (opsP P d K l) st := rfl
@[go_sem ↓] theorem pw_cond {c : Operand} {a b : PC} {Q : Exit → St → Prop} {st : St} : pw P (.cond c a b) Q st = condK P a b Q (st.get c) st := rfl
def fzR (P : Program) (t : Nat) (c : PC) (Q : Exit → St → Prop) (st : St) (b sz i o : Nat) (r : Option Box) : Prop :=
 match r with
 | some (.row _ sz' es) => sz = sz' ∧ i < es.length ∧ pw P c Q ⟨st.n, upd st.sl t (.ep (es.getD i .unk) o), upd st.bx b none⟩
 | _ => False
def fzV (P : Program) (t : Nat) (c : PC) (Q : Exit → St → Prop) (st : St) (v : V) : Prop :=
 match v with
 | .ptr b sz i o => fzR P t c Q st b sz i o (st.bx b)
 | _ => False
@[go_sem ↓] theorem pw_fz {t : Nat} {c : PC} {Q : Exit → St → Prop} {st : St} : pw P (.fz t c) Q st = fzV P t c Q st (st.sl t) := rfl
@[go_sem] theorem fzV_ptr {t : Nat} {c : PC} {Q : Exit → St → Prop} {st : St} {b sz i o : Nat} : fzV P t c Q st (.ptr b sz i o) = fzR P t c Q st b sz i o (st.bx b) := rfl
@[go_sem] theorem condK_bool {a b : PC} {Q : Exit → St → Prop} {x : Bool} {st : St} : condK P a b Q (.bool x) st = ((x = true → pw P a Q st) ∧ (x = false → pw P b Q st)) := by simp [condK, V.strip, V.liveB]
@[go_sem ↓] theorem thenQ_normal {n : St → Prop} {Q : Exit → St → Prop} {st : St} : thenQ n Q .normal st = n st := rfl
@[go_sem ↓] theorem thenQ_ret {n : St → Prop} {Q : Exit → St → Prop} {st : St} : thenQ n Q .ret st = Q .ret st := rfl
@[go_sem ↓] theorem thenQ_exit {i : Nat} {n : St → Prop} {Q : Exit → St → Prop} {st : St} : thenQ n Q (.exit i) st = Q (.exit i) st := rfl
@[go_sem ↓] theorem blockQ_normal {i : Nat} {Q : Exit → St → Prop} {st : St} : blockQ i Q .normal st = Q .normal st := rfl
@[go_sem ↓] theorem blockQ_ret {i : Nat} {Q : Exit → St → Prop} {st : St} : blockQ i Q .ret st = Q .ret st := rfl
@[go_sem ↓] theorem blockQ_exit {i j : Nat} {Q : Exit → St → Prop} {st : St} : blockQ i Q (.exit j) st = blkK i j Q st := rfl
@[go_sem ↓ high] theorem blkK_hit {i : Nat} {Q : Exit → St → Prop} {st : St} : blkK i i Q st = Q .normal st := if_pos rfl
@[go_sem] theorem retQ_normal {rs : List ResultVar} {Kc : V → Boxes → Prop} {st : St} : retQ P rs Kc .normal st = Ret P rs Kc st := by simp [retQ]
@[go_sem] theorem retQ_ret {rs : List ResultVar} {Kc : V → Boxes → Prop} {st : St} : retQ P rs Kc .ret st = Ret P rs Kc st := by simp [retQ]
def slks (l : List (Nat × V)) : List Nat → List (Nat × V)
 | [] => []
 | k :: ks => (k, slk l k) :: slks l ks
def kpK (Q : Exit → St → Prop) (n : Nat) (bx : Boxes) (l : List (Nat × V)) : Prop := Q .normal ⟨n, slk l, bx⟩
theorem slks_map (l : List (Nat × V)) : ∀ ks, slks l ks = ks.map fun k => (k, slk l k)
 | [] => rfl
 | k :: ks => by simp [slks, slks_map l ks]
@[go_sem] theorem slks_nil (l : List (Nat × V)) : slks l [] = [] := rfl
@[go_sem] theorem slks_cons (l : List (Nat × V)) (k : Nat) (ks : List Nat) : slks l (k :: ks) = (k, slk l k) :: slks l ks := rfl
@[go_sem] theorem regK_mk {Q : Exit → St → Prop} {ks : List Nat} {n : Nat} {l : List (Nat × V)} {bx : Boxes} : regK Q ks ⟨n, slk l, bx⟩ = kpK Q n bx (slks l ks) := by
 simp only [regK, kpK, St.keep, slks_map]
@[go_sem] theorem kpK_def {Q : Exit → St → Prop} {n : Nat} {bx : Boxes} {l : List (Nat × V)} : kpK Q n bx l = Q .normal ⟨n, slk l, bx⟩ := rfl
@[go_sem] theorem strip_unk : V.unk.strip = .unk := rfl
@[go_sem] theorem strip_int (k : IntKind) (n : Int) : (V.int k n).strip = .int k n := rfl
@[go_sem] theorem strip_bool (n : Bool) : (V.bool n).strip = .bool n := rfl
@[go_sem] theorem strip_str (n : List UInt8) : (V.str n).strip = .str n := rfl
@[go_sem] theorem strip_nils : V.nils.strip = .nils := rfl
@[go_sem] theorem strip_sl (n : Nat) (es : List V) : (V.sl n es).strip = .sl n es := rfl
@[go_sem] theorem strip_own (b n i o : Nat) : (V.own b n i o).strip = .own b n i o := rfl
@[go_sem] theorem strip_ptr (b n i o : Nat) : (V.ptr b n i o).strip = .ptr b n i o := rfl
@[go_sem] theorem strip_ep (e : V) (o : Nat) : (V.ep e o).strip = .ep e o := rfl
@[go_sem] theorem strip_nilp : V.nilp.strip = .nilp := rfl
@[go_sem] theorem strip_fn (f : Fn) (l : List V) : (V.fn f l).strip = .fn f l := rfl
@[go_sem] theorem strip_nilf : V.nilf.strip = .nilf := rfl
@[go_sem] theorem strip_iface (t : TypeId) (v : V) : (V.iface t v).strip = .iface t v := rfl
@[go_sem] theorem strip_nili : V.nili.strip = .nili := rfl
@[go_sem] theorem strip_mp (b : Nat) : (V.mp b).strip = .mp b := rfl
@[go_sem] theorem strip_nilm : V.nilm.strip = .nilm := rfl
@[go_sem] theorem strip_agg (l : List V) : (V.agg l).strip = .agg l := rfl
@[go_sem] theorem strip_tup (l : List V) : (V.tup l).strip = .tup l := rfl
@[go_sem] theorem strip_dead (v : V) : (V.dead v).strip = v.strip := rfl
@[go_sem] theorem live_unk : V.unk.liveB = true := rfl
@[go_sem] theorem live_int (k : IntKind) (n : Int) : (V.int k n).liveB = true := rfl
@[go_sem] theorem live_bool (n : Bool) : (V.bool n).liveB = true := rfl
@[go_sem] theorem live_str (n : List UInt8) : (V.str n).liveB = true := rfl
@[go_sem] theorem live_nils : V.nils.liveB = true := rfl
@[go_sem] theorem live_sl (n : Nat) (es : List V) : (V.sl n es).liveB = true := rfl
@[go_sem] theorem live_own (b n i o : Nat) : (V.own b n i o).liveB = true := rfl
@[go_sem] theorem live_ptr (b n i o : Nat) : (V.ptr b n i o).liveB = true := rfl
@[go_sem] theorem live_ep (e : V) (o : Nat) : (V.ep e o).liveB = true := rfl
@[go_sem] theorem live_nilp : V.nilp.liveB = true := rfl
@[go_sem] theorem live_fn (f : Fn) (l : List V) : (V.fn f l).liveB = true := rfl
@[go_sem] theorem live_nilf : V.nilf.liveB = true := rfl
@[go_sem] theorem live_iface (t : TypeId) (v : V) : (V.iface t v).liveB = true := rfl
@[go_sem] theorem live_nili : V.nili.liveB = true := rfl
@[go_sem] theorem live_mp (b : Nat) : (V.mp b).liveB = true := rfl
@[go_sem] theorem live_nilm : V.nilm.liveB = true := rfl
@[go_sem] theorem live_agg (l : List V) : (V.agg l).liveB = true := rfl
@[go_sem] theorem live_tup (l : List V) : (V.tup l).liveB = true := rfl
@[go_sem] theorem live_dead (v : V) : (V.dead v).liveB = false := rfl
@[go_sem] theorem mkOpt_t (v : V) : mkOpt true v = v := rfl
@[go_sem] theorem mkOpt_f (v : V) : mkOpt false v = .dead v.strip := rfl
@[go_sem high] theorem slk_hit (k : Nat) (v : V) (l : List (Nat × V)) : slk ((k, v) :: l) k = v := by simp [slk]
@[go_sem] theorem slk_miss {k t : Nat} (v : V) (l : List (Nat × V)) (h : (t == k) = false) : slk ((k, v) :: l) t = slk l t := by
 have : t ≠ k := by rintro rfl; simp at h
 simp [slk, this]
@[go_sem] theorem look_nil (t : Nat) : slk [] t = .unk := rfl
theorem upd_look (l : List (Nat × V)) (t : Nat) (v : V) : upd (slk l) t v = slk ((t, v) :: l) := by
 funext x; rfl
@[go_sem] theorem fzR_row {t : Nat} {c : PC} {Q : Exit → St → Prop} {n : Nat} {l : List (Nat × V)} {bx : Boxes} {b sz i o : Nat} {ty : TypeId} {sz' : Nat} {es : List V} :
   fzR P t c Q ⟨n, slk l, bx⟩ b sz i o (some (.row ty sz' es)) = (sz = sz' ∧ i < es.length ∧ pw P c Q ⟨n, slk ((t, .ep (es.getD i .unk) o) :: l), upd bx b none⟩) := by
 simp only [fzR, upd_look]
@[go_sem] theorem put_look (n d : Nat) (l : List (Nat × V)) (bx : Boxes) (v : V) : St.put ⟨n, slk l, bx⟩ (some d) v = ⟨n, slk ((d, v) :: l), bx⟩ := by
 simp only [St.put, upd_look]
@[go_sem] theorem put_none (st : St) (v : V) : st.put none v = st := rfl
@[go_sem] theorem keep_look (n : Nat) (sl : Nat → V) (bx : Boxes) (ks : List Nat) : St.keep ⟨n, sl, bx⟩ ks = ⟨n, slk (ks.map fun k => (k, sl k)), bx⟩ := rfl
@[go_sem] theorem get_tmp (n t : Nat) (sl : Nat → V) (bx : Boxes) : St.get ⟨n, sl, bx⟩ (.tmp t) = sl t := rfl
@[go_sem] theorem gv_tmp (n t : Nat) (sl : Nat → V) (bx : Boxes) : gv P ⟨n, sl, bx⟩ (.tmp t) = sl t := rfl
@[go_sem] theorem gv_const (v : Value) (st : St) : gv P st (.const v) = ofValue v := rfl
@[go_sem] theorem gv_global (g : Nat) (st : St) : gv P st (.global g) = glV P g := rfl
@[go_sem] theorem gv_func (f : FuncId) (st : St) : gv P st (.func f) = .fn (.func f) [] := rfl
@[go_sem] theorem get_const (v : Value) (st : St) : st.get (.const v) = ofValue v := rfl
@[go_sem] theorem get_func (f : FuncId) (st : St) : st.get (.func f) = .fn (.func f) [] := rfl
@[go_sem] theorem get_global (g : Nat) (st : St) : st.get (.global g) = .unk := rfl
@[go_sem] theorem box_look (n : Nat) (sl : Nat → V) (bx : Boxes) (b : Nat) (x : Option Box) : St.box ⟨n, sl, bx⟩ b x = ⟨n, sl, upd bx b x⟩ := rfl
theorem initSl_nil (k : Nat) : initSl k [] = slk [] := rfl
@[go_sem] theorem initSt_0 (n : Nat) (bx : Boxes) : initSt n [] bx = ⟨n, slk [], bx⟩ := rfl
@[go_sem] theorem initSt_1 (n : Nat) (bx : Boxes) (a : V) : initSt n [a] bx = ⟨n, slk [(0, a)], bx⟩ := by
 simp only [initSt, initSl, initSl_nil]; rw [show (fun _ : Nat => V.unk) = slk [] from rfl]; simp only [upd_look]
@[go_sem] theorem initSt_2 (n : Nat) (bx : Boxes) (a b : V) : initSt n [a, b] bx = ⟨n, slk [(0, a), (1, b)], bx⟩ := by
 simp only [initSt, initSl, initSl_nil]; rw [show (fun _ : Nat => V.unk) = slk [] from rfl]; simp only [upd_look, Nat.zero_add]
@[go_sem] theorem initSt_3 (n : Nat) (bx : Boxes) (a b c : V) : initSt n [a, b, c] bx = ⟨n, slk [(0, a), (1, b), (2, c)], bx⟩ := by
 simp only [initSt, initSl, initSl_nil]; rw [show (fun _ : Nat => V.unk) = slk [] from rfl]; simp only [upd_look, Nat.zero_add, Nat.reduceAdd]
@[go_sem] theorem initSt_4 (n : Nat) (bx : Boxes) (a b c d : V) : initSt n [a, b, c, d] bx = ⟨n, slk [(0, a), (1, b), (2, c), (3, d)], bx⟩ := by
 simp only [initSt, initSl, initSl_nil]; rw [show (fun _ : Nat => V.unk) = slk [] from rfl]; simp only [upd_look, Nat.zero_add, Nat.reduceAdd]
@[go_sem] theorem initSt_5 (n : Nat) (bx : Boxes) (a b c d e : V) : initSt n [a, b, c, d, e] bx = ⟨n, slk [(0, a), (1, b), (2, c), (3, d), (4, e)], bx⟩ := by
 simp only [initSt, initSl, initSl_nil]; rw [show (fun _ : Nat => V.unk) = slk [] from rfl]; simp only [upd_look, Nat.zero_add, Nat.reduceAdd]
@[go_sem] theorem initSt_6 (n : Nat) (bx : Boxes) (a b c d e f : V) : initSt n [a, b, c, d, e, f] bx = ⟨n, slk [(0, a), (1, b), (2, c), (3, d), (4, e), (5, f)], bx⟩ := by
 simp only [initSt, initSl, initSl_nil]; rw [show (fun _ : Nat => V.unk) = slk [] from rfl]; simp only [upd_look, Nat.zero_add, Nat.reduceAdd]
theorem cov_look {n : Nat} {sl : Nat → V} {bx : Boxes} {l : List (Nat × V)} (h : ∀ p, p ∈ l → sl p.1 = p.2) : Cov ⟨n, sl, bx⟩ ⟨n, slk l, bx⟩ := by
 refine ⟨Nat.le_refl _, fun t => ?_, SubBx.refl _⟩
 induction l with
 | nil => exact .inl rfl
 | cons p l ih =>
   obtain ⟨k, v⟩ := p
   simp only [slk]
   by_cases ht : t = k
   · subst ht; rw [if_pos rfl]; exact .inr (.inl (h (t, v) (by simp)).symm)
   · rw [if_neg ht]; exact ih (fun q hq => h q (by simp [hq]))
def evK (e : Ev) (o : Option Tmp) (K : St → Prop) (st : St) : Prop := e.1 ∧ dstOk st o ∧ K (st.put o e.2)
def evG (wb : Bool) (e : Ev) (o : Option Tmp) (K : St → Prop) (st : St) : Prop := (wb = true → e.1) ∧ dstOk st o ∧ K (st.put o (mkOpt wb e.2))
def evW (g : V) (w : Bool) (e : Ev) (o : Option Tmp) (K : St → Prop) (st : St) : Prop :=
 match g.strip with
 | .bool c => evG (g.liveB && (c == w)) e o K st
 | _ => False
@[go_sem] theorem evK_some (c : Prop) (v : V) (d : Nat) (K : St → Prop) (n : Nat) (l : List (Nat × V)) (bx : Boxes) : evK (c, v) (some d) K ⟨n, slk l, bx⟩ = (c ∧ d < n ∧ K ⟨n, slk ((d, v) :: l), bx⟩) := by
 simp only [evK, dstOk, put_look]
@[go_sem] theorem evG_some (wb : Bool) (c : Prop) (v : V) (d : Nat) (K : St → Prop) (n : Nat) (l : List (Nat × V)) (bx : Boxes) : evG wb (c, v) (some d) K ⟨n, slk l, bx⟩ = ((wb = true → c) ∧ d < n ∧ K ⟨n, slk ((d, mkOpt wb v) :: l), bx⟩) := by
 simp only [evG, dstOk, put_look]
@[go_sem] theorem evW_true (c : Bool) (e : Ev) (o : Option Tmp) (K : St → Prop) (st : St) : evW (.bool c) true e o K st = evG c e o K st := by
 simp [evW, V.strip, V.liveB]
@[go_sem] theorem evW_false (c : Bool) (e : Ev) (o : Option Tmp) (K : St → Prop) (st : St) : evW (.bool c) false e o K st = evG (!c) e o K st := by
 simp [evW, V.strip, V.liveB]
@[go_sem] theorem evW_mkOpt (b c w : Bool) (e : Ev) (o : Option Tmp) (K : St → Prop) (st : St) : evW (mkOpt b (.bool c)) w e o K st = evG (b && (c == w)) e o K st := by
 simp only [evW, strip_mkOpt, liveB_mkOpt, strip_bool, live_bool, Bool.and_true]
@[go_sem ↓] theorem opP_move (d z : Bool) (o : Option Tmp) (x : Operand) (K : St → Prop) (st : St) : opP P d ⟨o, .move x, none, z⟩ K st = evK ((True, st.get x)) o K st := by cases z <;> rfl
@[go_sem ↓] theorem opG_move (d z : Bool) (o : Option Tmp) (x : Operand) (s : Nat) (w : Bool) (K : St → Prop) (st : St) : opP P d ⟨o, .move x, some (s, w), z⟩ K st = evW (st.sl s) w ((True, st.get x)) o K st := by cases z <;> rfl
@[go_sem ↓] theorem opP_assign (d z : Bool) (o : Option Tmp) (x : Operand) (K : St → Prop) (st : St) : opP P d ⟨o, .assign x, none, z⟩ K st = evK ((True, st.get x)) o K st := by cases z <;> rfl
@[go_sem ↓] theorem opG_assign (d z : Bool) (o : Option Tmp) (x : Operand) (s : Nat) (w : Bool) (K : St → Prop) (st : St) : opP P d ⟨o, .assign x, some (s, w), z⟩ K st = evW (st.sl s) w ((True, st.get x)) o K st := by cases z <;> rfl
@[go_sem ↓] theorem opP_pick (d z : Bool) (o : Option Tmp) (c a b : Operand) (K : St → Prop) (st : St) : opP P d ⟨o, .pick c a b, none, z⟩ K st = evK (pickV (st.get c) (st.get a) (st.get b)) o K st := by cases z <;> rfl
@[go_sem ↓] theorem opG_pick (d z : Bool) (o : Option Tmp) (c a b : Operand) (s : Nat) (w : Bool) (K : St → Prop) (st : St) : opP P d ⟨o, .pick c a b, some (s, w), z⟩ K st = evW (st.sl s) w (pickV (st.get c) (st.get a) (st.get b)) o K st := by cases z <;> rfl
@[go_sem ↓] theorem opP_load (d z : Bool) (o : Option Tmp) (t : TypeId) (a : Operand) (K : St → Prop) (st : St) : opP P d ⟨o, .load t a, none, z⟩ K st = evK (loadV P st.bx t (gv P st a)) o K st := by cases z <;> rfl
@[go_sem ↓] theorem opG_load (d z : Bool) (o : Option Tmp) (t : TypeId) (a : Operand) (s : Nat) (w : Bool) (K : St → Prop) (st : St) : opP P d ⟨o, .load t a, some (s, w), z⟩ K st = evW (st.sl s) w (loadV P st.bx t (gv P st a)) o K st := by cases z <;> rfl
@[go_sem ↓] theorem opP_fieldAddr (d z : Bool) (o : Option Tmp) (t : TypeId) (a : Operand) (f : Nat) (K : St → Prop) (st : St) : opP P d ⟨o, .fieldAddr t a f, none, z⟩ K st = evK (fieldAddrV P t f (st.get a)) o K st := by cases z <;> rfl
@[go_sem ↓] theorem opG_fieldAddr (d z : Bool) (o : Option Tmp) (t : TypeId) (a : Operand) (f : Nat) (s : Nat) (w : Bool) (K : St → Prop) (st : St) : opP P d ⟨o, .fieldAddr t a f, some (s, w), z⟩ K st = evW (st.sl s) w (fieldAddrV P t f (st.get a)) o K st := by cases z <;> rfl
@[go_sem ↓] theorem opP_indexAddr (d z : Bool) (o : Option Tmp) (t : TypeId) (a i : Operand) (K : St → Prop) (st : St) : opP P d ⟨o, .indexAddr t a i, none, z⟩ K st = evK (indexAddrV P t (gv P st a) (st.get i)) o K st := by cases z <;> rfl
@[go_sem ↓] theorem opG_indexAddr (d z : Bool) (o : Option Tmp) (t : TypeId) (a i : Operand) (s : Nat) (w : Bool) (K : St → Prop) (st : St) : opP P d ⟨o, .indexAddr t a i, some (s, w), z⟩ K st = evW (st.sl s) w (indexAddrV P t (gv P st a) (st.get i)) o K st := by cases z <;> rfl
@[go_sem ↓] theorem opP_field (d z : Bool) (o : Option Tmp) (t : TypeId) (a : Operand) (f : Nat) (K : St → Prop) (st : St) : opP P d ⟨o, .field t a f, none, z⟩ K st = evK (fieldV P t f (st.get a)) o K st := by cases z <;> rfl
@[go_sem ↓] theorem opG_field (d z : Bool) (o : Option Tmp) (t : TypeId) (a : Operand) (f : Nat) (s : Nat) (w : Bool) (K : St → Prop) (st : St) : opP P d ⟨o, .field t a f, some (s, w), z⟩ K st = evW (st.sl s) w (fieldV P t f (st.get a)) o K st := by cases z <;> rfl
@[go_sem ↓] theorem opP_index (d z : Bool) (o : Option Tmp) (t : TypeId) (a i : Operand) (K : St → Prop) (st : St) : opP P d ⟨o, .index t a i, none, z⟩ K st = evK (indexV P t (st.get a) (st.get i)) o K st := by cases z <;> rfl
@[go_sem ↓] theorem opG_index (d z : Bool) (o : Option Tmp) (t : TypeId) (a i : Operand) (s : Nat) (w : Bool) (K : St → Prop) (st : St) : opP P d ⟨o, .index t a i, some (s, w), z⟩ K st = evW (st.sl s) w (indexV P t (st.get a) (st.get i)) o K st := by cases z <;> rfl
@[go_sem ↓] theorem opP_extract (d z : Bool) (o : Option Tmp) (a : Operand) (i : Nat) (K : St → Prop) (st : St) : opP P d ⟨o, .extract a i, none, z⟩ K st = evK (extractV i (st.get a)) o K st := by cases z <;> rfl
@[go_sem ↓] theorem opG_extract (d z : Bool) (o : Option Tmp) (a : Operand) (i : Nat) (s : Nat) (w : Bool) (K : St → Prop) (st : St) : opP P d ⟨o, .extract a i, some (s, w), z⟩ K st = evW (st.sl s) w (extractV i (st.get a)) o K st := by cases z <;> rfl
@[go_sem ↓] theorem opP_binOp (d : Bool) (o : Option Tmp) (b : BinOp) (t : TypeId) (x y : Operand) (t' : TypeId) (K : St → Prop) (st : St) : opP P d ⟨o, .binOp b t x y t', none, false⟩ K st = evK (binV P b t (st.get x) (st.get y)) o K st := rfl
@[go_sem ↓] theorem opP_nilc (o : Option Tmp) (b : BinOp) (t : TypeId) (x y : Operand) (t' : TypeId) (K : St → Prop) (st : St) : opP P false ⟨o, .binOp b t x y t', none, true⟩ K st = nilcK (knd P t) b (st.get x) (st.get y) o K st := by
 show (false = false ∧ (none : Option (Tmp × Bool)) = none ∧ _) = _
 simp only [true_and]
@[go_sem ↓] theorem opG_binOp (d : Bool) (o : Option Tmp) (b : BinOp) (t : TypeId) (x y : Operand) (t' : TypeId) (s : Nat) (w : Bool) (K : St → Prop) (st : St) : opP P d ⟨o, .binOp b t x y t', some (s, w), false⟩ K st = evW (st.sl s) w (binV P b t (st.get x) (st.get y)) o K st := rfl
@[go_sem ↓] theorem opP_unOp (d z : Bool) (o : Option Tmp) (u : UnOp) (t : TypeId) (x : Operand) (K : St → Prop) (st : St) : opP P d ⟨o, .unOp u t x, none, z⟩ K st = evK (unV u (st.get x)) o K st := by cases z <;> rfl
@[go_sem ↓] theorem opG_unOp (d z : Bool) (o : Option Tmp) (u : UnOp) (t : TypeId) (x : Operand) (s : Nat) (w : Bool) (K : St → Prop) (st : St) : opP P d ⟨o, .unOp u t x, some (s, w), z⟩ K st = evW (st.sl s) w (unV u (st.get x)) o K st := by cases z <;> rfl
def cvtR (P : Program) (e : TypeId) (b sz n : Nat) (r : Option Box) (o : Option Tmp) (K : St → Prop) (st : St) : Prop :=
 match r with
 | some (.row _ sz' es) => knd P e = .int .u8 ∧ sz = 1 ∧ sz' = 1 ∧ n = es.length ∧ 0 < n ∧ es.all isU8 = true ∧ dstOk st o ∧ K ((st.box b none).put o (.sl 1 es))
 | _ => False
def cvtK (P : Program) (k : Knd) (x : V) (o : Option Tmp) (K : St → Prop) (st : St) : Prop :=
 match k, x with
 | .slice e, .own b sz 0 n => cvtR P e b sz n (st.bx b) o K st
 | _, _ => False
def cvtG (P : Program) (g : V) (w : Bool) (k : Knd) (x : V) (o : Option Tmp) (K : St → Prop) (st : St) : Prop :=
 match g.strip with
 | .bool c => ((g.liveB && (c == w)) = true → cvtK P k x o K st) ∧ ((g.liveB && (c == w)) = false → dstOk st o ∧ K (st.put o (.dead .unk)))
 | _ => False
theorem cvt_abs (d : Bool) (o : Option Tmp) (s : TypeId) (x : Operand) (K : St → Prop) (st : St) : absOp P d (POp.oper ⟨o, .convert s s x, none, false⟩) K st = cvtK P (knd P s) (st.get x) o K st := by
 unfold absOp
 have hne : ¬ isEv (POp.oper ⟨o, .convert s s x, none, false⟩).op = true := by simp [POp.oper, isEv]
 rw [if_neg hne]
 unfold cvtK cvtR
 simp only [POp.oper]
 cases knd P s <;> cases st.get x <;> rfl
@[go_sem] theorem cvtQ_str (s t : TypeId) (x : V) (dst : Option Tmp) (K : St → Prop) (st : St) : cvtQ P .str s t x dst K st = cvtP P s t x dst K st := rfl
@[go_sem ↓] theorem opP_convert (d : Bool) (o : Option Tmp) (s t : TypeId) (x : Operand) (K : St → Prop) (st : St) : opP P d ⟨o, .convert s t x, none, false⟩ K st = if s = t then cvtK P (knd P s) (st.get x) o K st else evK (convV P s t (st.get x)) o K st := by
 have e0 : opP P d ⟨o, .convert s t x, none, false⟩ K st = absOp P d (POp.oper ⟨o, .convert s t x, none, false⟩) K st := rfl
 rw [e0]
 by_cases h : s = t
 · subst h; rw [if_pos rfl, cvt_abs]
 · rw [if_neg h]
   unfold absOp
   have hne : isEv (POp.oper ⟨o, .convert s t x, none, false⟩).op = true := by simp [POp.oper, isEv, h]
   rw [if_pos hne]; rfl
@[go_sem ↓] theorem opG_convert (d : Bool) (o : Option Tmp) (s t : TypeId) (x : Operand) (g : Nat) (w : Bool) (K : St → Prop) (st : St) : opP P d ⟨o, .convert s t x, some (g, w), false⟩ K st = if s = t then cvtG P (st.sl g) w (knd P s) (st.get x) o K st else evW (st.sl g) w (convV P s t (st.get x)) o K st := by
 have e0 : opP P d ⟨o, .convert s t x, some (g, w), false⟩ K st = opP0 P d ⟨o, .convert s t x, some (g, w), false⟩ K st := rfl
 rw [e0]
 by_cases h : s = t
 · subst h
   rw [if_pos rfl]
   unfold opP0 cvtG
   simp only [yieldOf]
   generalize (st.sl g).strip = v
   cases v <;> try rfl
   rename_i c
   have hne : isEv (Op.convert s s x) = false := by simp [isEv]
   simp only [hne, Bool.false_eq_true, if_false]
   unfold guardedP branchP
   simp only [hne, Bool.false_eq_true, if_false]
   have e1 : absOp P d (POp.oper ⟨o, .convert s s x, some (g, w), false⟩) K st = cvtK P (knd P s) (st.get x) o K st := cvt_abs d o s x K st
   rw [e1]
   exact propext ⟨fun h => h.elim id (fun h => h.2), fun h => .inl h⟩
 · rw [if_neg h]
   unfold opP0 evW
   simp only [yieldOf]
   have hne : isEv (Op.convert s t x) = true := by simp [isEv, h]
   generalize (st.sl g).strip = v
   cases v <;> try rfl
   simp only [hne, if_true]
   unfold guardedP
   simp only [hne, if_true]
   rfl
@[go_sem] theorem cvtK_own {e b sz n : Nat} {o : Option Tmp} {K : St → Prop} {st : St} : cvtK P (.slice e) (.own b sz 0 n) o K st = cvtR P e b sz n (st.bx b) o K st := rfl
@[go_sem] theorem cvtR_row {e b sz n sz' : Nat} {ty : TypeId} {es : List V} {o : Option Tmp} {K : St → Prop} {st : St} : cvtR P e b sz n (some (.row ty sz' es)) o K st = (knd P e = .int .u8 ∧ sz = 1 ∧ sz' = 1 ∧ n = es.length ∧ 0 < n ∧ es.all isU8 = true ∧ dstOk st o ∧ K ((st.box b none).put o (.sl 1 es))) := rfl
@[go_sem] theorem isU8_int (n : Int) : isU8 (.int .u8 n) = true := rfl
@[go_sem ↓] theorem opP_slice (d : Bool) (o : Option Tmp) (t : TypeId) (x : Operand) (lo hi : Option Operand) (K : St → Prop) (st : St) : opP P d ⟨o, .slice t x lo hi none, none, false⟩ K st = evK (sliceV P t (st.get x) (lo.map st.get) (hi.map st.get)) o K st := rfl
@[go_sem ↓] theorem opG_slice (d : Bool) (o : Option Tmp) (t : TypeId) (x : Operand) (lo hi : Option Operand) (s : Nat) (w : Bool) (K : St → Prop) (st : St) : opP P d ⟨o, .slice t x lo hi none, some (s, w), false⟩ K st = evW (st.sl s) w (sliceV P t (st.get x) (lo.map st.get) (hi.map st.get)) o K st := rfl
@[go_sem ↓] theorem opP_slice3 (d z : Bool) (o : Option Tmp) (t : TypeId) (x : Operand) (lo : Option Operand) (hi mx : Operand) (K : St → Prop) (st : St) : opP P d ⟨o, .slice t x lo (some hi) (some mx), none, z⟩ K st = evK (slice3V P t (st.get x) (lo.map st.get) (st.get hi) (st.get mx)) o K st := by cases z <;> rfl
@[go_sem ↓] theorem opG_slice3 (d z : Bool) (o : Option Tmp) (t : TypeId) (x : Operand) (lo : Option Operand) (hi mx : Operand) (s : Nat) (w : Bool) (K : St → Prop) (st : St) : opP P d ⟨o, .slice t x lo (some hi) (some mx), some (s, w), z⟩ K st = evW (st.sl s) w (slice3V P t (st.get x) (lo.map st.get) (st.get hi) (st.get mx)) o K st := by cases z <;> rfl
@[go_sem ↓] theorem opP_len (d z : Bool) (o : Option Tmp) (x : Operand) (t : TypeId) (K : St → Prop) (st : St) : opP P d ⟨o, .call { callee := .builtin .len, args := #[x], argTypes := #[t] }, none, z⟩ K st = evK (lenV P st.bx t (st.get x)) o K st := by cases z <;> rfl
@[go_sem ↓] theorem opG_len (d z : Bool) (o : Option Tmp) (x : Operand) (t : TypeId) (s : Nat) (w : Bool) (K : St → Prop) (st : St) : opP P d ⟨o, .call { callee := .builtin .len, args := #[x], argTypes := #[t] }, some (s, w), z⟩ K st = evW (st.sl s) w (lenV P st.bx t (st.get x)) o K st := by cases z <;> rfl
@[go_sem ↓] theorem opP_min (d z : Bool) (o : Option Tmp) (x y : Operand) (t t' : TypeId) (K : St → Prop) (st : St) : opP P d ⟨o, .call { callee := .builtin .min, args := #[x, y], argTypes := #[t, t'] }, none, z⟩ K st = evK (minV (st.get x) (st.get y)) o K st := by cases z <;> rfl
@[go_sem ↓] theorem opG_min (d z : Bool) (o : Option Tmp) (x y : Operand) (t t' : TypeId) (s : Nat) (w : Bool) (K : St → Prop) (st : St) : opP P d ⟨o, .call { callee := .builtin .min, args := #[x, y], argTypes := #[t, t'] }, some (s, w), z⟩ K st = evW (st.sl s) w (minV (st.get x) (st.get y)) o K st := by cases z <;> rfl
@[go_sem ↓] theorem opP_max (d z : Bool) (o : Option Tmp) (x y : Operand) (t t' : TypeId) (K : St → Prop) (st : St) : opP P d ⟨o, .call { callee := .builtin .max, args := #[x, y], argTypes := #[t, t'] }, none, z⟩ K st = evK (maxV (st.get x) (st.get y)) o K st := by cases z <;> rfl
@[go_sem ↓] theorem opG_max (d z : Bool) (o : Option Tmp) (x y : Operand) (t t' : TypeId) (s : Nat) (w : Bool) (K : St → Prop) (st : St) : opP P d ⟨o, .call { callee := .builtin .max, args := #[x, y], argTypes := #[t, t'] }, some (s, w), z⟩ K st = evW (st.sl s) w (maxV (st.get x) (st.get y)) o K st := by cases z <;> rfl
@[go_sem ↓] theorem opP_makeFunc (d z : Bool) (o : Option Tmp) (f : Fn) (caps : Array Operand) (K : St → Prop) (st : St) : opP P d ⟨o, .makeFunc f #[] caps, none, z⟩ K st = evK (funcV f (caps.toList.map st.get)) o K st := by cases z <;> rfl
@[go_sem ↓] theorem opP_makeFunc1 (d z : Bool) (o : Option Tmp) (f : Fn) (x : Operand) (caps : Array Operand) (K : St → Prop) (st : St) : opP P d ⟨o, .makeFunc f #[x] caps, none, z⟩ K st = evK (boundV f (st.get x) caps.size) o K st := by cases z <;> rfl
@[go_sem ↓] theorem opG_makeFunc (d z : Bool) (o : Option Tmp) (f : Fn) (caps : Array Operand) (s : Nat) (w : Bool) (K : St → Prop) (st : St) : opP P d ⟨o, .makeFunc f #[] caps, some (s, w), z⟩ K st = evW (st.sl s) w (funcV f (caps.toList.map st.get)) o K st := by cases z <;> rfl
@[go_sem] theorem sl_mk (n : Nat) (sl : Nat → V) (bx : Boxes) : (St.mk n sl bx).sl = sl := rfl
@[go_sem] theorem bx_mk (n : Nat) (sl : Nat → V) (bx : Boxes) : (St.mk n sl bx).bx = bx := rfl
@[go_sem] theorem fst_mk (a : Prop) (b : V) : (Prod.mk a b).1 = a := rfl
@[go_sem] theorem snd_mk (a : Prop) (b : V) : (Prod.mk a b).2 = b := rfl
@[go_sem ↓] theorem opP_clear (d z : Bool) (o : Option Tmp) (x : Operand) (t : TypeId) (K : St → Prop) (st : St) : opP P d ⟨o, .call { callee := .builtin .clear, args := #[x], argTypes := #[t] }, none, z⟩ K st = (d = false ∧ o = none ∧ clearA P st t (st.get x) K) := by cases z <;> rfl
@[go_sem ↓] theorem opP_append (d z : Bool) (o : Option Tmp) (s x : Operand) (t t' : TypeId) (K : St → Prop) (st : St) : opP P d ⟨o, .call { callee := .builtin .append, args := #[s, x], argTypes := #[t, t'] }, none, z⟩ K st = ((t = t' ∨ knd P t' = .str) ∧ appendA P st o t (st.get s) (st.get x) K) := by cases z <;> rfl
def stripL : List V → List V
 | [] => []
 | v :: vs => v.strip :: stripL vs
def liveL : List V → Prop
 | [] => True
 | v :: vs => v.liveB = true ∧ liveL vs
theorem stripL_map : ∀ l, stripL l = l.map V.strip
 | [] => rfl
 | v :: vs => by simp [stripL, stripL_map vs]
theorem liveL_iff : ∀ l, liveL l ↔ ∀ v, v ∈ l → v.liveB = true
 | [] => by simp [liveL]
 | v :: vs => by simp [liveL, liveL_iff vs]
@[go_sem] theorem stripL_nil : stripL [] = [] := rfl
@[go_sem] theorem stripL_cons (v : V) (vs : List V) : stripL (v :: vs) = v.strip :: stripL vs := rfl
@[go_sem] theorem liveL_nil : liveL [] = True := rfl
@[go_sem] theorem liveL_cons (v : V) (vs : List V) : liveL (v :: vs) = (v.liveB = true ∧ liveL vs) := rfl
def getL (st : St) : List Operand → List V
 | [] => []
 | x :: xs => st.get x :: getL st xs
theorem getL_map (st : St) : ∀ l, getL st l = l.map st.get
 | [] => rfl
 | v :: vs => by simp [getL, getL_map st vs]
@[go_sem] theorem getL_nil (st : St) : getL st [] = [] := rfl
@[go_sem] theorem getL_cons (st : St) (v : Operand) (vs : List Operand) : getL st (v :: vs) = st.get v :: getL st vs := rfl
def callK (P : Program) (d : Bool) (q : FuncId) (args : List V) (o : Option Tmp) (K : St → Prop) (st : St) : Prop :=
 if d = true then ∃ r, PureCall P q args st.bx r ∧ K (st.put o r)
 else AbsCall P q args st.bx fun r bx' => K ({ st with bx := bx' }.put o r)
def yldK (P : Program) (b : Nat) (args : List V) (o : Option Tmp) (K : St → Prop) (st : St) : Prop :=
 AbsYield P b args st.bx fun r bx' => K ({ st with bx := bx' }.put o r)
def callS (P : Program) (d : Bool) (f : V) (args : List V) (o : Option Tmp) (K : St → Prop) (st : St) : Prop :=
 match f.strip with
 | .fn (.func g) caps => f.liveB = true ∧ liveL args ∧ dstOk st o ∧ callK P d g (stripL args ++ caps) o K st
 | .fn (.yield g) [r] => f.liveB = true ∧ liveL args ∧ dstOk st o ∧ callK P d g (r :: stripL args) o K st
 | .yl b => d = false ∧ f.liveB = true ∧ liveL args ∧ dstOk st o ∧ yldK P b (stripL args) o K st
 | _ => False
theorem callS_fn_iff {d : Bool} {st : St} {f : Operand} {args : Array Operand} {o : Option Tmp} {K : St → Prop} {tys : Array TypeId} (hy : ∀ b, (st.get f).strip ≠ .yl b) :
   absOp P d (POp.oper ⟨o, .call { callee := .value f, args := args, argTypes := tys }, none, false⟩) K st = callS P d (st.get f) (getL st args.toList) o K st := by
 unfold absOp callS callK
 simp only [isEv, Bool.false_eq_true, if_false, POp.oper, callee, calleeLive, getL_map, liveL_iff, stripL_map]
 split
 · rename_i q vs hq
   split at hq
   · rename_i g caps hf
     simp only [Option.some.injEq, Prod.mk.injEq] at hq
     obtain ⟨rfl, rfl⟩ := hq
     simp only [hf, List.map_map, Function.comp_def]
     apply propext
     constructor
     · rintro ⟨⟨h1, h2⟩, h3, h4⟩
       refine ⟨h1, fun v hv => ?_, h3, h4⟩
       obtain ⟨x, hx, rfl⟩ := List.mem_map.1 hv
       exact h2 x hx
     · rintro ⟨h1, h2, h3, h4⟩
       exact ⟨⟨h1, fun x hx => h2 _ (List.mem_map.2 ⟨x, hx, rfl⟩)⟩, h3, h4⟩
   · rename_i g r hf
     simp only [Option.some.injEq, Prod.mk.injEq] at hq
     obtain ⟨rfl, rfl⟩ := hq
     simp only [hf, List.map_map, Function.comp_def]
     apply propext
     constructor
     · rintro ⟨⟨h1, h2⟩, h3, h4⟩
       refine ⟨h1, fun v hv => ?_, h3, h4⟩
       obtain ⟨x, hx, rfl⟩ := List.mem_map.1 hv
       exact h2 x hx
     · rintro ⟨h1, h2, h3, h4⟩
       exact ⟨⟨h1, fun x hx => h2 _ (List.mem_map.2 ⟨x, hx, rfl⟩)⟩, h3, h4⟩
   · cases hq
 · rename_i hq
   split at hq
   · cases hq
   · cases hq
   · rename_i hne hne2
     split
     · rename_i g caps hf; exact absurd hf (hne _ _)
     · rename_i g r hf; exact absurd hf (hne2 _ _)
     · rename_i b hf; exact absurd hf (hy b)
     · rfl
def wkO (P : Program) (q : POp) (K : St → Prop) (st : St) : Prop := ∃ st', Cov st st' ∧ opP P false q K st'
@[go_sem ↓] theorem opP_callW (o : Option Tmp) (f : Operand) (args : Array Operand) (tys : Array TypeId) (g : Option (Tmp × Bool)) (K : St → Prop) (st : St) : opP P false ⟨o, .call { callee := .value f, args := args, argTypes := tys }, g, true⟩ K st = wkO P ⟨o, .call { callee := .value f, args := args, argTypes := tys }, g, false⟩ K st := rfl
@[go_sem ↓] theorem opP_call (d : Bool) (o : Option Tmp) (f : Operand) (args : Array Operand) (tys : Array TypeId) (K : St → Prop) (st : St) : opP P d ⟨o, .call { callee := .value f, args := args, argTypes := tys }, none, false⟩ K st = callS P d (st.get f) (getL st args.toList) o K st := by
 have ez : opP P d ⟨o, .call { callee := .value f, args := args, argTypes := tys }, none, false⟩ K st = opP0 P d ⟨o, .call { callee := .value f, args := args, argTypes := tys }, none, false⟩ K st := rfl
 rw [ez]
 by_cases hy : ∃ b, (st.get f).strip = .yl b
 · obtain ⟨b, hb⟩ := hy
   unfold opP0 callS
   cases d with
   | true =>
     simp only [yieldOf, if_true, hb]
     simp [absOp, isEv, POp.oper, callee, hb]
   | false =>
     simp only [yieldOf, Bool.false_eq_true, if_false, hb, yieldP, yldK, yieldLive, calleeLive, getL_map, liveL_iff, stripL_map, List.map_map, Function.comp_def, true_and]
     apply propext
     constructor
     · rintro ⟨⟨h1, h2⟩, h3, h4⟩
       refine ⟨h1, fun v hv => ?_, h3, h4⟩
       obtain ⟨x, hx, rfl⟩ := List.mem_map.1 hv
       exact h2 x hx
     · rintro ⟨h1, h2, h3, h4⟩
       exact ⟨⟨h1, fun x hx => h2 _ (List.mem_map.2 ⟨x, hx, rfl⟩)⟩, h3, h4⟩
 · have hy' : ∀ b, (st.get f).strip ≠ .yl b := fun b hb => hy ⟨b, hb⟩
   rw [← callS_fn_iff (tys := tys) hy']
   unfold opP0
   have : yieldOf st d (POp.mk o (.call { callee := .value f, args := args, argTypes := tys }) none false).op = none := by
     simp only [yieldOf]
     split <;> rfl
   simp only [this]
@[go_sem] theorem callS_fn (d : Bool) (g : FuncId) (caps args : List V) (o : Option Tmp) (K : St → Prop) (st : St) : callS P d (.fn (.func g) caps) args o K st = (liveL args ∧ dstOk st o ∧ callK P d g (stripL args ++ caps) o K st) := by
 simp [callS, V.strip, V.liveB]
@[go_sem] theorem strip_yl (b : Nat) : (V.yl b).strip = .yl b := rfl
@[go_sem] theorem live_yl (b : Nat) : (V.yl b).liveB = true := rfl
def callB (P : Program) (wb : Bool) (f : V) (args : List V) (o : Option Tmp) (K : St → Prop) (st : St) : Prop :=
 (wb = true → callS P false f args o K st) ∧ (wb = false → dstOk st o ∧ K (st.put o (.dead .unk)))
def callP (P : Program) (wb : Bool) (f : V) (args : List V) (o : Option Tmp) (K : St → Prop) (st : St) : Prop :=
 match f.strip with
 | .fn (.func g) caps => dstOk st o ∧ ∃ r, (wb = true → f.liveB = true ∧ liveL args ∧ PureCall P g (stripL args ++ caps) st.bx r) ∧ K (st.put o (mkOpt wb r))
 | .fn (.yield g) [r0] => dstOk st o ∧ ∃ r, (wb = true → f.liveB = true ∧ liveL args ∧ PureCall P g (r0 :: stripL args) st.bx r) ∧ K (st.put o (mkOpt wb r))
 | _ => False
def callG (P : Program) (d : Bool) (g : V) (w : Bool) (f : V) (args : List V) (o : Option Tmp) (K : St → Prop) (st : St) : Prop :=
 match g.strip with
 | .bool c => callP P (g.liveB && (c == w)) f args o K st ∨ (d = false ∧ callB P (g.liveB && (c == w)) f args o K st)
 | _ => False
theorem opG_call (d : Bool) (o : Option Tmp) (f : Operand) (args : Array Operand) (tys : Array TypeId) (s : Nat) (w : Bool) (K : St → Prop) (st : St) (h : callG P d (st.sl s) w (st.get f) (getL st args.toList) o K st) : opP P d ⟨o, .call { callee := .value f, args := args, argTypes := tys }, some (s, w), false⟩ K st := by
 have ez : opP P d ⟨o, .call { callee := .value f, args := args, argTypes := tys }, some (s, w), false⟩ K st = opP0 P d ⟨o, .call { callee := .value f, args := args, argTypes := tys }, some (s, w), false⟩ K st := rfl
 rw [ez]
 unfold callG at h
 split at h
 · rename_i c hs
   by_cases hy : ∃ b, (st.get f).strip = .yl b
   · obtain ⟨b, hb⟩ := hy
     rcases h with h | ⟨rfl, h1, h2⟩
     · simp [callP, hb] at h
     · unfold opP0
       simp only [yieldOf, Bool.false_eq_true, if_false, hb, hs]
       refine ⟨fun hw => ?_, h2⟩
       have h3 := h1 hw
       simp only [callS, hb, true_and] at h3
       obtain ⟨h4, h5, h6, h7⟩ := h3
       rw [getL_map, liveL_iff] at h5
       refine ⟨⟨h4, fun x hx => h5 _ (List.mem_map.2 ⟨x, hx, rfl⟩)⟩, h6, ?_⟩
       rw [getL_map, stripL_map, List.map_map] at h7
       exact h7
   · have hy' : ∀ b, (st.get f).strip ≠ .yl b := fun b hb => hy ⟨b, hb⟩
     unfold opP0
     have : yieldOf st d (POp.mk o (.call { callee := .value f, args := args, argTypes := tys }) (some (s, w)) false).op = none := by
       simp only [yieldOf]
       split <;> rfl
     simp only [this, hs, isEv, Bool.false_eq_true, if_false]
     rcases h with h | ⟨rfl, h1, h2⟩
     · refine .inl ?_
       unfold callP at h
       split at h
       · rename_i g caps hf
         obtain ⟨h3, r, h4, h5⟩ := h
         unfold guardedP
         simp only [isEv, Bool.false_eq_true, if_false, callee, hf]
         refine ⟨h3, r, fun hw => ?_, h5⟩
         obtain ⟨h6, h7, h8⟩ := h4 hw
         rw [getL_map, liveL_iff] at h7
         rw [getL_map, stripL_map, List.map_map] at h8
         exact ⟨⟨h6, fun x hx => h7 _ (List.mem_map.2 ⟨x, hx, rfl⟩)⟩, h8⟩
       · rename_i g r0 hf
         obtain ⟨h3, r, h4, h5⟩ := h
         unfold guardedP
         simp only [isEv, Bool.false_eq_true, if_false, callee, hf]
         refine ⟨h3, r, fun hw => ?_, h5⟩
         obtain ⟨h6, h7, h8⟩ := h4 hw
         rw [getL_map, liveL_iff] at h7
         rw [getL_map, stripL_map, List.map_map] at h8
         exact ⟨⟨h6, fun x hx => h7 _ (List.mem_map.2 ⟨x, hx, rfl⟩)⟩, h8⟩
       · exact h.elim
     · refine .inr ⟨rfl, fun hw => ?_, h2⟩
       have h3 := h1 hw
       rw [← callS_fn_iff (tys := tys) hy'] at h3
       exact h3
 · exact h.elim
theorem callK_pure {d : Bool} {q : FuncId} {args : List V} {o : Option Tmp} {K : St → Prop} {st : St} {r : V} (h : PureCall P q args st.bx r) (hk : K (st.put o r)) : callK P d q args o K st := by
 unfold callK
 split
 · exact ⟨r, h, hk⟩
 · refine ⟨h.1, fun β M w vs hok hgl hsz hargs => (h.2 β M w vs hok hgl hsz hargs).mono ?_⟩
   rintro e w' ⟨v, r', bx', β', h1, ⟨rfl, rfl⟩, h3⟩
   exact ⟨v, _, _, β', h1, hk, h3⟩
theorem callK_abs {q : FuncId} {args : List V} {o : Option Tmp} {K : St → Prop} {st : St} {Kc : V → Boxes → Prop} (h : AbsCall P q args st.bx Kc) (hk : ∀ r bx', Kc r bx' → K ({ st with bx := bx' }.put o r)) : callK P false q args o K st := by
 unfold callK
 rw [if_neg (by simp)]
 refine ⟨h.1, fun β M w vs hok hgl hsz hargs => (h.2 β M w vs hok hgl hsz hargs).mono ?_⟩
 rintro e w' ⟨v, r', bx', β', h1, h2, h3⟩
 exact ⟨v, _, _, β', h1, hk _ _ h2, h3⟩
theorem opG_call_conv (d : Bool) (o : Option Tmp) (f : Operand) (args : Array Operand) (tys : Array TypeId) (s : Nat) (w : Bool) (K : St → Prop) (st : St) (h : opP P d ⟨o, .call { callee := .value f, args := args, argTypes := tys }, some (s, w), false⟩ K st) : callG P d (st.sl s) w (st.get f) (getL st args.toList) o K st := by
 have ez : opP P d ⟨o, .call { callee := .value f, args := args, argTypes := tys }, some (s, w), false⟩ K st = opP0 P d ⟨o, .call { callee := .value f, args := args, argTypes := tys }, some (s, w), false⟩ K st := rfl
 rw [ez] at h
 unfold callG
 by_cases hy : ∃ b, (st.get f).strip = .yl b
 · obtain ⟨b, hb⟩ := hy
   unfold opP0 at h
   cases d with
   | true =>
     simp only [yieldOf, if_true] at h
     split at h
     · rename_i c hs
       simp only [isEv, Bool.false_eq_true, if_false] at h
       rcases h with h | h
       · unfold guardedP at h
         simp [isEv, callee, hb] at h
       · exact absurd h.1 (by simp)
     · exact h.elim
   | false =>
     simp only [yieldOf, Bool.false_eq_true, if_false, hb] at h
     split at h
     · rename_i c hs
       simp only [hs]
       refine .inr ⟨trivial, fun hw => ?_, h.2⟩
       obtain ⟨⟨h4, h5⟩, h6, h7⟩ := h.1 hw
       simp only [callS, hb]
       refine ⟨trivial, h4, ?_, h6, ?_⟩
       · rw [getL_map, liveL_iff]
         intro v hv
         obtain ⟨x, hx, rfl⟩ := List.mem_map.1 hv
         exact h5 x hx
       · rw [getL_map, stripL_map, List.map_map]
         exact h7
     · exact h.elim
 · have hy' : ∀ b, (st.get f).strip ≠ .yl b := fun b hb => hy ⟨b, hb⟩
   unfold opP0 at h
   have : yieldOf st d (POp.mk o (.call { callee := .value f, args := args, argTypes := tys }) (some (s, w)) false).op = none := by
     simp only [yieldOf]
     split <;> rfl
   simp only [this] at h
   split at h
   · rename_i c hs
     simp only [hs]
     simp only [isEv, Bool.false_eq_true, if_false] at h
     rcases h with h | ⟨rfl, h1, h2⟩
     · refine .inl ?_
       unfold guardedP at h
       simp only [isEv, Bool.false_eq_true, if_false, callee] at h
       unfold callP
       cases hf : (st.get f).strip with
       | fn fk caps =>
         cases fk with
         | func g =>
           simp only [hf] at h
           obtain ⟨h3, r, h4, h5⟩ := h
           refine ⟨h3, r, fun hw => ?_, h5⟩
           obtain ⟨⟨h6, h7⟩, h8⟩ := h4 hw
           refine ⟨h6, ?_, ?_⟩
           · rw [getL_map, liveL_iff]
             intro v hv
             obtain ⟨x, hx, rfl⟩ := List.mem_map.1 hv
             exact h7 x hx
           · rw [getL_map, stripL_map, List.map_map]
             exact h8
         | yield g =>
           rcases caps with _ | ⟨r0, _ | ⟨r1, cs⟩⟩
           · simp [hf] at h
           · simp only [hf] at h
             obtain ⟨h3, r, h4, h5⟩ := h
             refine ⟨h3, r, fun hw => ?_, h5⟩
             obtain ⟨⟨h6, h7⟩, h8⟩ := h4 hw
             refine ⟨h6, ?_, ?_⟩
             · rw [getL_map, liveL_iff]
               intro v hv
               obtain ⟨x, hx, rfl⟩ := List.mem_map.1 hv
               exact h7 x hx
             · rw [getL_map, stripL_map, List.map_map]
               exact h8
           · simp [hf] at h
         | _ => simp [hf] at h
       | _ => simp [hf] at h
     · refine .inr ⟨rfl, fun hw => ?_, h2⟩
       rw [← callS_fn_iff (tys := tys) hy']
       exact h1 hw
   · exact h.elim
@[go_sem ↓] theorem opG_call_eq (d : Bool) (o : Option Tmp) (f : Operand) (args : Array Operand) (tys : Array TypeId) (s : Nat) (w : Bool) (K : St → Prop) (st : St) : opP P d ⟨o, .call { callee := .value f, args := args, argTypes := tys }, some (s, w), false⟩ K st = callG P d (st.sl s) w (st.get f) (getL st args.toList) o K st :=
 propext ⟨opG_call_conv d o f args tys s w K st, opG_call d o f args tys s w K st⟩
def callG1 (P : Program) (d wb : Bool) (f : V) (args : List V) (o : Option Tmp) (K : St → Prop) (st : St) : Prop :=
 callP P wb f args o K st ∨ (d = false ∧ callB P wb f args o K st)
@[go_sem] theorem callG_true (d c : Bool) (f : V) (args : List V) (o : Option Tmp) (K : St → Prop) (st : St) : callG P d (.bool c) true f args o K st = callG1 P d c f args o K st := by
 simp [callG, callG1, V.strip, V.liveB]
@[go_sem] theorem callG_false (d c : Bool) (f : V) (args : List V) (o : Option Tmp) (K : St → Prop) (st : St) : callG P d (.bool c) false f args o K st = callG1 P d (!c) f args o K st := by
 simp [callG, callG1, V.strip, V.liveB]
def gK (P : Program) (d wb : Bool) (q : FuncId) (vs : List V) (lv : Prop) (o : Option Tmp) (K : St → Prop) (st : St) : Prop :=
 (dstOk st o ∧ ∃ r, (wb = true → lv ∧ PureCall P q vs st.bx r) ∧ K (st.put o (mkOpt wb r))) ∨
 (d = false ∧ (wb = true → lv ∧ dstOk st o ∧ callK P false q vs o K st) ∧ (wb = false → dstOk st o ∧ K (st.put o (.dead .unk))))
@[go_sem] theorem callG1_fn (d wb : Bool) (q : FuncId) (caps args : List V) (o : Option Tmp) (K : St → Prop) (st : St) : callG1 P d wb (.fn (.func q) caps) args o K st = gK P d wb q (stripL args ++ caps) (liveL args) o K st := by
 simp only [callG1, callP, callB, callS_fn, gK, strip_fn, live_fn, true_and]
theorem gK_pure {d wb : Bool} {q : FuncId} {vs : List V} {lv : Prop} {o : Option Tmp} {K : St → Prop} {st : St} {r : V} (hc : PureCall P q vs st.bx r) (hl : wb = true → lv) (hd : dstOk st o) (hk : K (st.put o (mkOpt wb r))) : gK P d wb q vs lv o K st :=
 .inl ⟨hd, r, fun hw => ⟨hl hw, hc⟩, hk⟩
def newK (P : Program) (c : Prop) (bo : Box) (v : Nat → V) (o : Option Tmp) (K : St → Prop) (st : St) : Prop := c ∧ dstOk st o ∧ FinB st.bx ∧ ∀ b, st.bx b = none → K ((st.box b (some bo)).put o (v b))
@[go_sem] theorem newK_some (c : Prop) (bo : Box) (v : Nat → V) (t : Nat) (K : St → Prop) (n : Nat) (l : List (Nat × V)) (bx : Boxes) : newK P c bo v (some t) K ⟨n, slk l, bx⟩ = (c ∧ t < n ∧ FinB bx ∧ ∀ b, bx b = none → K ⟨n, slk ((t, v b) :: l), upd bx b (some bo)⟩) := by
 simp only [newK, dstOk, box_look, put_look]
def getP (st : St) : List (Nat × Operand) → List (Nat × V)
 | [] => []
 | (i, x) :: ps => (i, st.get x) :: getP st ps
@[go_sem] theorem fillL_nil (es : List V) : fillL es [] = es := rfl
@[go_sem] theorem fillL_cons (es : List V) (i : Nat) (x : V) (ps : List (Nat × V)) : fillL es ((i, x) :: ps) = fillL (es.set i x) ps := rfl
@[go_sem] theorem getP_nil (st : St) : getP st [] = [] := rfl
@[go_sem] theorem getP_cons (st : St) (i : Nat) (x : Operand) (ps : List (Nat × Operand)) : getP st ((i, x) :: ps) = (i, st.get x) :: getP st ps := rfl
theorem fillL_fillV (st : St) : ∀ (ps : List (Nat × Operand)) (es : List V), fillV st es ps = fillL es (getP st ps)
 | [], es => rfl
 | (i, x) :: ps, es => by simp only [fillV, getP, fillL]; exact fillL_fillV st ps _
theorem getP_map (st : St) : ∀ l : List (Nat × Operand), getP st l = l.map fun p => (p.1, st.get p.2)
 | [] => rfl
 | (i, x) :: l => by simp only [getP, List.map_cons, getP_map st l]
@[go_sem ↓] theorem opP_bld (d z : Bool) (o : Option Tmp) (t : TypeId) (parts : Array (Nat × Operand)) (K : St → Prop) (st : St) : opP P d ⟨o, .build t parts, none, z⟩ K st = evK (buildV P t (tzero P t) (getP st parts.toList)) o K st := by rw [getP_map]; cases z <;> rfl
@[go_sem ↓] theorem opG_bld (d z : Bool) (o : Option Tmp) (t : TypeId) (parts : Array (Nat × Operand)) (s : Nat) (w : Bool) (K : St → Prop) (st : St) : opP P d ⟨o, .build t parts, some (s, w), z⟩ K st = evW (st.sl s) w (buildV P t (tzero P t) (getP st parts.toList)) o K st := by rw [getP_map]; cases z <;> rfl
def bldS (P : Program) (t : TypeId) (cs : List V) (x : V) (ps : List (Nat × V)) (p : Option (Nat × Nat)) : Prop × List V := (buildP x cs.length (buildE P t (buildC cs x p) ps).1 p, (buildE P t (buildC cs x p) ps).2)
@[go_sem] theorem buildV_some (t : TypeId) (z : Value) (ps : List (Nat × V)) : buildV P t (some z) ps = (builtOk P t = true ∧ okV (ofValue z) = true ∧ (buildE P t (ofValue z).cells ps).1, .agg (buildE P t (ofValue z).cells ps).2) := rfl
@[go_sem] theorem buildE_nil (t : TypeId) (cs : List V) : buildE P t cs [] = (True, cs) := rfl
@[go_sem] theorem buildE_cons (t : TypeId) (cs : List V) (i : Nat) (x : V) (ps : List (Nat × V)) : buildE P t cs ((i, x) :: ps) = bldS P t cs x ps (placeV P t i) := rfl
@[go_sem] theorem bldS_some (t : TypeId) (cs : List V) (x : V) (ps : List (Nat × V)) (off sz : Nat) : bldS P t cs x ps (some (off, sz)) = (okV x = true ∧ x.cells.length = sz ∧ off + sz ≤ cs.length ∧ (buildE P t (splice cs off x.cells) ps).1, (buildE P t (splice cs off x.cells) ps).2) := rfl
attribute [go_sem] splice
def okPs (P : Program) (e : TypeId) (n : Nat) : List (Nat × V) → Prop
 | [] => True
 | (i, x) :: ps => i < n ∧ storable P e x ∧ okPs P e n ps
@[go_sem] theorem okPs_nil (e : TypeId) (n : Nat) : okPs P e n [] = True := rfl
@[go_sem] theorem okPs_cons (e : TypeId) (n i : Nat) (x : V) (ps : List (Nat × V)) : okPs P e n ((i, x) :: ps) = (i < n ∧ storable P e x ∧ okPs P e n ps) := rfl
theorem okPs_iff (st : St) (e : TypeId) (n : Nat) : ∀ ps : List (Nat × Operand), okPs P e n (getP st ps) ↔ ∀ p, p ∈ ps → p.1 < n ∧ storable P e (st.get p.2)
 | [] => by simp [getP, okPs]
 | (i, x) :: ps => by simp [getP, okPs, okPs_iff st e n ps, and_assoc]
def bldZ (P : Program) (e : TypeId) (z : Option Value) (len : Nat) (ps : List (Nat × V)) (o : Option Tmp) (K : St → Prop) (st : St) : Prop :=
 match z with
 | some z => newK P (storable P e (ofValue z) ∧ 0 < tsz P e ∧ len * tsz P e ≤ 16777216 ∧ okPs P e len ps) (.row e (tsz P e) (fillL (List.replicate len (ofValue z)) ps)) (fun b => .own b (tsz P e) 0 len) o K st
 | none => False
def bldK (P : Program) (k : Knd) (len : Nat) (ps : List (Nat × V)) (o : Option Tmp) (K : St → Prop) (st : St) : Prop :=
 match k with
 | .slice e => bldZ P e (tzero P e) len ps o K st
 | _ => False
@[go_sem ↓] theorem opP_build (d : Bool) (o : Option Tmp) (t : TypeId) (len : Nat) (parts : Array (Nat × Operand)) (K : St → Prop) (st : St) : opP P d ⟨o, .buildSlice t len parts, none, false⟩ K st = bldK P (knd P t) len (getP st parts.toList) o K st := by
 have ez : opP P d ⟨o, .buildSlice t len parts, none, false⟩ K st = absOp P d (POp.oper ⟨o, .buildSlice t len parts, none, false⟩) K st := rfl
 rw [ez]
 unfold absOp bldK bldZ newK
 simp only [isEv, Bool.false_eq_true, if_false, POp.oper, okPs_iff, fillL_fillV]
 split
 · rename_i e hk
   simp only [hk]
   split
   · rename_i z hz
     simp only [hz, and_assoc]
   · rename_i hz
     simp only [hz]
 · rename_i hne
   split
   · rename_i e hk; exact absurd hk (hne e)
   · rfl
@[go_sem] theorem bldK_slice {e : TypeId} {len : Nat} {ps : List (Nat × V)} {o : Option Tmp} {K : St → Prop} {st : St} : bldK P (.slice e) len ps o K st = bldZ P e (tzero P e) len ps o K st := rfl
@[go_sem] theorem bldZ_some {e : TypeId} {z : Value} {len : Nat} {ps : List (Nat × V)} {o : Option Tmp} {K : St → Prop} {st : St} : bldZ P e (some z) len ps o K st = newK P (storable P e (ofValue z) ∧ 0 < tsz P e ∧ len * tsz P e ≤ 16777216 ∧ okPs P e len ps) (.row e (tsz P e) (fillL (List.replicate len (ofValue z)) ps)) (fun b => .own b (tsz P e) 0 len) o K st := rfl
def bldFZ (P : Program) (e : TypeId) (z : Option Value) (len : Nat) (ps : List (Nat × V)) (o : Option Tmp) (K : St → Prop) (st : St) : Prop :=
 match z with
 | some z => (storable P e (ofValue z) ∧ 0 < tsz P e ∧ len * tsz P e ≤ 16777216 ∧ okPs P e len ps) ∧ dstOk st o ∧ FinB st.bx ∧ K (st.put o (.sl (tsz P e) (fillL (List.replicate len (ofValue z)) ps)))
 | none => False
def bldFK (P : Program) (k : Knd) (len : Nat) (ps : List (Nat × V)) (o : Option Tmp) (K : St → Prop) (st : St) : Prop :=
 match k with
 | .slice e => bldFZ P e (tzero P e) len ps o K st
 | _ => False
theorem bldFP_eq {t : TypeId} {len : Nat} {parts : List (Nat × Operand)} {o : Option Tmp} {K : St → Prop} {st : St} : bldFP P t len parts o K st = bldFK P (knd P t) len (getP st parts) o K st := by
 unfold bldFP bldFK bldFZ
 simp only [okPs_iff, fillL_fillV]
 cases knd P t <;> rfl
def bldFG (P : Program) (g : V) (w : Bool) (k : Knd) (len : Nat) (ps : List (Nat × V)) (o : Option Tmp) (K : St → Prop) (st : St) : Prop :=
 match g.strip with
 | .bool c => ((g.liveB && (c == w)) = true → bldFK P k len ps o K st) ∧ ((g.liveB && (c == w)) = false → dstOk st o ∧ K (st.put o (.dead .unk)))
 | _ => False
@[go_sem ↓] theorem opP_buildF (o : Option Tmp) (t : TypeId) (len : Nat) (parts : Array (Nat × Operand)) (K : St → Prop) (st : St) : opP P false ⟨o, .buildSlice t len parts, none, true⟩ K st = bldFK P (knd P t) len (getP st parts.toList) o K st := by
 rw [← bldFP_eq]
 show (false = false ∧ _) = _
 simp only [true_and]; rfl
@[go_sem ↓] theorem opG_buildF (o : Option Tmp) (t : TypeId) (len : Nat) (parts : Array (Nat × Operand)) (s : Nat) (w : Bool) (K : St → Prop) (st : St) : opP P false ⟨o, .buildSlice t len parts, some (s, w), true⟩ K st = bldFG P (st.sl s) w (knd P t) len (getP st parts.toList) o K st := by
 unfold bldFG
 simp only [← bldFP_eq]
 show (false = false ∧ _) = _
 simp only [true_and]; rfl
@[go_sem] theorem bldFK_slice {e : TypeId} {len : Nat} {ps : List (Nat × V)} {o : Option Tmp} {K : St → Prop} {st : St} : bldFK P (.slice e) len ps o K st = bldFZ P e (tzero P e) len ps o K st := rfl
@[go_sem] theorem bldFZ_some {e : TypeId} {z : Value} {len : Nat} {ps : List (Nat × V)} {o : Option Tmp} {K : St → Prop} {st : St} : bldFZ P e (some z) len ps o K st = ((storable P e (ofValue z) ∧ 0 < tsz P e ∧ len * tsz P e ≤ 16777216 ∧ okPs P e len ps) ∧ dstOk st o ∧ FinB st.bx ∧ K (st.put o (.sl (tsz P e) (fillL (List.replicate len (ofValue z)) ps)))) := rfl
def boxF (P : Program) (e : TypeId) (v : V) (o : Option Tmp) (K : St → Prop) (st : St) : Prop := storable P e v ∧ dstOk st o ∧ FinB st.bx ∧ K (st.put o (.ep v 0))
def boxN (P : Program) (e : TypeId) (v : V) (o : Option Tmp) (K : St → Prop) (st : St) : Prop := newK P (storable P e v) (.row e (tsz P e) [v]) (fun b => .ptr b (tsz P e) 0 0) o K st
@[go_sem ↓] theorem opP_boxF (o : Option Tmp) (e : TypeId) (x : Operand) (K : St → Prop) (st : St) : opP P false ⟨o, .box e x, none, true⟩ K st = boxF P e (st.get x) o K st := by
 show (false = false ∧ (none : Option (Tmp × Bool)) = none ∧ boxP P e x o K st) = _
 simp only [true_and]; rfl
@[go_sem ↓] theorem opP_boxN (d : Bool) (o : Option Tmp) (e : TypeId) (x : Operand) (K : St → Prop) (st : St) : opP P d ⟨o, .box e x, none, false⟩ K st = boxN P e (st.get x) o K st := by
 have ez : opP P d ⟨o, .box e x, none, false⟩ K st = absOp P d (POp.oper ⟨o, .box e x, none, false⟩) K st := rfl
 rw [ez]
 rfl
@[go_sem] theorem boxF_some (e : TypeId) (v : V) (t : Nat) (K : St → Prop) (n : Nat) (l : List (Nat × V)) (bx : Boxes) : boxF P e v (some t) K ⟨n, slk l, bx⟩ = (storable P e v ∧ t < n ∧ FinB bx ∧ K ⟨n, slk ((t, .ep v 0) :: l), bx⟩) := by
 simp only [boxF, dstOk, put_look]
@[go_sem] theorem boxN_some (e : TypeId) (v : V) (t : Nat) (K : St → Prop) (n : Nat) (l : List (Nat × V)) (bx : Boxes) : boxN P e v (some t) K ⟨n, slk l, bx⟩ = (storable P e v ∧ t < n ∧ FinB bx ∧ ∀ b, bx b = none → K ⟨n, slk ((t, .ptr b (tsz P e) 0 0) :: l), upd bx b (some (.row e (tsz P e) [v]))⟩) := by
 simp only [boxN, newK, dstOk, box_look, put_look]
def zerK (P : Program) (e : TypeId) (z : Option Value) (o : Option Tmp) (K : St → Prop) (st : St) : Prop :=
 match z with
 | some z => boxN P e (ofValue z) o K st
 | none => False
@[go_sem ↓] theorem opP_alloc (d z : Bool) (o : Option Tmp) (e : TypeId) (K : St → Prop) (st : St) : opP P d ⟨o, .alloc e, none, z⟩ K st = zerK P e (tzero P e) o K st := by
 have ez : opP P d ⟨o, .alloc e, none, z⟩ K st = absOp P d (POp.oper ⟨o, .alloc e, none, false⟩) K st := by cases z <;> rfl
 rw [ez]
 rfl
@[go_sem] theorem zerK_some (e : TypeId) (z : Value) (o : Option Tmp) (K : St → Prop) (st : St) : zerK P e (some z) o K st = boxN P e (ofValue z) o K st := rfl
def stoK (P : Program) (t : TypeId) (a x : V) (o : Option Tmp) (K : St → Prop) (st : St) : Prop :=
 match a with
 | .ptr b sz i o' => match st.bx b with
   | some (.row ty sz' es) => sz = sz' ∧ i < es.length ∧ storable P t x ∧ 0 < x.cells.length ∧ o' + x.cells.length ≤ (es.getD i .unk).cells.length ∧ o = none ∧
       K (st.box b (some (.row ty sz (es.set i (setC (es.getD i .unk) o' x.cells)))))
   | _ => False
 | _ => False
@[go_sem ↓] theorem opP_store (d z : Bool) (o : Option Tmp) (t : TypeId) (a x : Operand) (K : St → Prop) (st : St) : opP P d ⟨o, .store t a x, none, z⟩ K st = stoK P t (st.get a) (st.get x) o K st := by
 have ez : opP P d ⟨o, .store t a x, none, z⟩ K st = absOp P d (POp.oper ⟨o, .store t a x, none, false⟩) K st := by cases z <;> rfl
 rw [ez]
 rfl
def stoR (P : Program) (t : TypeId) (b sz i o' : Nat) (r : Option Box) (x : V) (K : St → Prop) (st : St) : Prop :=
 match r with
 | some (.row ty sz' es) => sz = sz' ∧ i < es.length ∧ storable P t x ∧ 0 < x.cells.length ∧ o' + x.cells.length ≤ (es.getD i .unk).cells.length ∧ K (st.box b (some (.row ty sz (es.set i (setC (es.getD i .unk) o' x.cells)))))
 | _ => False
@[go_sem] theorem stoK_ptr (t : TypeId) (b sz i o' : Nat) (x : V) (K : St → Prop) (st : St) : stoK P t (.ptr b sz i o') x none K st = stoR P t b sz i o' (st.bx b) x K st := by
 unfold stoK stoR
 simp only [true_and]
@[go_sem] theorem stoR_row (t : TypeId) (b sz i o' : Nat) (ty : TypeId) (sz' : Nat) (es : List V) (x : V) (K : St → Prop) (n : Nat) (l : List (Nat × V)) (bx : Boxes) : stoR P t b sz i o' (some (.row ty sz' es)) x K ⟨n, slk l, bx⟩ = (sz = sz' ∧ i < es.length ∧ storable P t x ∧ 0 < x.cells.length ∧ o' + x.cells.length ≤ (es.getD i .unk).cells.length ∧ K ⟨n, slk l, upd bx b (some (.row ty sz (es.set i (setC (es.getD i .unk) o' x.cells))))⟩) := rfl
@[go_sem high] theorem upd_hit (bx : Boxes) (b : Nat) (x : Option Box) : upd bx b x b = x := upd_eq _ _ _
@[go_sem] theorem upd_two (bx : Boxes) (b : Nat) (x y : Option Box) : upd (upd bx b x) b y = upd bx b y := upd_upd _ _ _ _
theorem new_ne {bx : Boxes} {b c : Nat} {x : Box} (h : upd bx b (some x) c = none) : c ≠ b ∧ bx c = none := by
 by_cases e : c = b
 · subst e; rw [upd_eq] at h; cases h
 · exact ⟨e, by rwa [upd_ne _ _ e] at h⟩
def makK (P : Program) (k : Knd) (l c : V) (o : Option Tmp) (K : St → Prop) (st : St) : Prop :=
 match k, l.strip, c.strip with
 | .slice e, .int _ l', .int _ c' => match tzero P e with
   | some z => l.liveB = true ∧ c.liveB = true ∧ storable P e (ofValue z) ∧ 0 < tsz P e ∧ l' = c' ∧ 0 ≤ l' ∧ (tby P e : Int) * c' ≤ 281474976710656 ∧ c' ≤ 9223372036854775807 ∧ dstOk st o ∧ FinB st.bx ∧
       ∀ b, st.bx b = none → K ((st.box b (some (.row e (tsz P e) (List.replicate l'.toNat (ofValue z))))).put o (.own b (tsz P e) 0 l'.toNat))
   | none => False
 | _, _, _ => False
@[go_sem ↓] theorem opP_make (d z : Bool) (o : Option Tmp) (t : TypeId) (l c : Operand) (K : St → Prop) (st : St) : opP P d ⟨o, .makeSlice t l c, none, z⟩ K st = makK P (knd P t) (st.get l) (st.get c) o K st := by
 have ez : opP P d ⟨o, .makeSlice t l c, none, z⟩ K st = absOp P d (POp.oper ⟨o, .makeSlice t l c, none, false⟩) K st := by cases z <;> rfl
 rw [ez]
 rfl
@[go_sem] theorem cells_unk : V.unk.cells = [.unk] := rfl
@[go_sem] theorem cells_int (k : IntKind) (n : Int) : (V.int k n).cells = [.int k n] := rfl
@[go_sem] theorem cells_boolV (n : Bool) : (V.bool n).cells = [.bool n] := rfl
@[go_sem] theorem cells_str (n : List UInt8) : (V.str n).cells = [.str n] := rfl
@[go_sem] theorem cells_nils : V.nils.cells = [.nils] := rfl
@[go_sem] theorem cells_sl (n : Nat) (es : List V) : (V.sl n es).cells = [.sl n es] := rfl
@[go_sem] theorem cells_own (b n i o : Nat) : (V.own b n i o).cells = [.own b n i o] := rfl
@[go_sem] theorem cells_ptr (b n i o : Nat) : (V.ptr b n i o).cells = [.ptr b n i o] := rfl
@[go_sem] theorem cells_ep (e : V) (o : Nat) : (V.ep e o).cells = [.ep e o] := rfl
@[go_sem] theorem cells_nilp : V.nilp.cells = [.nilp] := rfl
@[go_sem] theorem cells_fn (f : Fn) (l : List V) : (V.fn f l).cells = [.fn f l] := rfl
@[go_sem] theorem cells_nilf : V.nilf.cells = [.nilf] := rfl
@[go_sem] theorem cells_iface (t : TypeId) (v : V) : (V.iface t v).cells = [.iface t v] := rfl
@[go_sem] theorem cells_nili : V.nili.cells = [.nili] := rfl
@[go_sem] theorem cells_mp (b : Nat) : (V.mp b).cells = [.mp b] := rfl
@[go_sem] theorem cells_nilm : V.nilm.cells = [.nilm] := rfl
@[go_sem] theorem cells_agg (l : List V) : (V.agg l).cells = l := rfl
@[go_sem] theorem cells_yl (b : Nat) : (V.yl b).cells = [.yl b] := rfl
@[go_sem] theorem okV_int (k : IntKind) (n : Int) : okV (.int k n) = true := rfl
@[go_sem] theorem okV_boolV (n : Bool) : okV (.bool n) = true := rfl
@[go_sem] theorem okV_str (n : List UInt8) : okV (.str n) = true := rfl
@[go_sem] theorem okV_nils : okV .nils = true := rfl
@[go_sem] theorem okV_sl (n : Nat) (es : List V) : okV (.sl n es) = true := rfl
@[go_sem] theorem okV_own (b n i o : Nat) : okV (.own b n i o) = true := rfl
@[go_sem] theorem okV_ptr (b n i o : Nat) : okV (.ptr b n i o) = true := rfl
@[go_sem] theorem okV_ep (e : V) (o : Nat) : okV (.ep e o) = true := rfl
@[go_sem] theorem okV_nilp : okV .nilp = true := rfl
@[go_sem] theorem okV_fn (f : Fn) (l : List V) : okV (.fn f l) = true := rfl
@[go_sem] theorem okV_nilf : okV .nilf = true := rfl
@[go_sem] theorem okV_iface (t : TypeId) (v : V) : okV (.iface t v) = true := rfl
@[go_sem] theorem okV_nili : okV .nili = true := rfl
@[go_sem] theorem okV_mp (b : Nat) : okV (.mp b) = true := rfl
@[go_sem] theorem okV_nilm : okV .nilm = true := rfl
@[go_sem] theorem okV_agg (l : List V) : okV (.agg l) = true := rfl
@[go_sem] theorem okV_yl (b : Nat) : okV (.yl b) = true := rfl
@[go_sem] theorem setC_aggs (cs : List V) (o : Nat) (v : V) : setC (.agg cs) o [v] = .agg (cs.set o v) := rfl
@[go_sem] theorem setC_aggm (cs : List V) (o : Nat) (v w : V) (vs : List V) : setC (.agg cs) o (v :: w :: vs) = .agg (cs.take o ++ (v :: w :: vs) ++ cs.drop (o + (vs.length + 2))) := rfl
@[go_sem] theorem setC_int (k : IntKind) (n : Int) (o : Nat) (v : V) : setC (.int k n) o [v] = v := rfl
@[go_sem] theorem setC_boolV (n : Bool) (o : Nat) (v : V) : setC (.bool n) o [v] = v := rfl
@[go_sem] theorem setC_str (n : List UInt8) (o : Nat) (v : V) : setC (.str n) o [v] = v := rfl
@[go_sem] theorem setC_nils (o : Nat) (v : V) : setC .nils o [v] = v := rfl
@[go_sem] theorem setC_sl (n : Nat) (es : List V) (o : Nat) (v : V) : setC (.sl n es) o [v] = v := rfl
@[go_sem] theorem setC_own (b n i o' o : Nat) (v : V) : setC (.own b n i o') o [v] = v := rfl
@[go_sem] theorem setC_ptr (b n i o' o : Nat) (v : V) : setC (.ptr b n i o') o [v] = v := rfl
@[go_sem] theorem setC_ep (e : V) (o' o : Nat) (v : V) : setC (.ep e o') o [v] = v := rfl
@[go_sem] theorem setC_nilp (o : Nat) (v : V) : setC .nilp o [v] = v := rfl
@[go_sem] theorem setC_fn (f : Fn) (l : List V) (o : Nat) (v : V) : setC (.fn f l) o [v] = v := rfl
@[go_sem] theorem setC_nilf (o : Nat) (v : V) : setC .nilf o [v] = v := rfl
@[go_sem] theorem setC_iface (t : TypeId) (w : V) (o : Nat) (v : V) : setC (.iface t w) o [v] = v := rfl
@[go_sem] theorem setC_nili (o : Nat) (v : V) : setC .nili o [v] = v := rfl
@[go_sem] theorem setC_mp (b : Nat) (o : Nat) (v : V) : setC (.mp b) o [v] = v := rfl
@[go_sem] theorem setC_nilm (o : Nat) (v : V) : setC .nilm o [v] = v := rfl
attribute [go_sem] storable finB_upd Value.oneCell'
@[go_sem] theorem cond_bool (x y z : Bool) : (bif x then V.bool y else V.bool z) = V.bool (bif x then y else z) := by cases x <;> rfl
@[go_sem] theorem nilc_sl (e : TypeId) (op : BinOp) (sz : Nat) (es : List V) (d : Option Tmp) (K : St → Prop) (st : St) : nilcK (.slice e) op (.sl sz es) .nils d K st = ((op = .eql ∨ op = .neq) ∧ dstOk st d ∧ ∀ c : Bool, (es ≠ [] → c = false) → K (st.put d (nilV op c))) := rfl
@[go_sem] theorem nilc_own (e : TypeId) (op : BinOp) (b sz o n : Nat) (d : Option Tmp) (K : St → Prop) (st : St) : nilcK (.slice e) op (.own b sz o n) .nils d K st = ((op = .eql ∨ op = .neq) ∧ dstOk st d ∧ ∀ c : Bool, (0 < n → c = false) → K (st.put d (nilV op c))) := rfl
@[go_sem] theorem nilc_nil (e : TypeId) (op : BinOp) (d : Option Tmp) (K : St → Prop) (st : St) : nilcK (.slice e) op .nils .nils d K st = ((op = .eql ∨ op = .neq) ∧ dstOk st d ∧ K (st.put d (nilV op true))) := rfl
@[go_sem] theorem nilV_eql (c : Bool) : nilV .eql c = .bool c := rfl
@[go_sem] theorem nilV_neq (c : Bool) : nilV .neq c = .bool (!c) := rfl
attribute [go_sem] cellsEq cellEq nilEq
attribute [go_sem] evNo pickV loadV partV lenV fieldAddrV indexAddrV extractV indexV fieldV binV unV convV sliceV slice3V lenS intArg minV maxV funcV boundV notY intV strV ofValue ofCell dstOk
attribute [go_sem] Bool.true_and Bool.and_true Bool.false_and Bool.and_false cond_true cond_false Bool.not_true Bool.not_false true_and and_true
@[go_sem ↓] theorem pw_regB {so : List Bool} {l : List POp} {ks : List Nat} {Q : Exit → St → Prop} {st : St} : pw P (.regB so l ks) Q st = opsB P (regK Q ks) so l st := rfl
@[go_sem ↓] theorem opsB_nil {K : St → Prop} {so : List Bool} {st : St} : opsB P K so [] st = K st := by cases so <;> rfl
@[go_sem ↓] theorem opsB_true {K : St → Prop} {so : List Bool} {o : POp} {l : List POp} {st : St} : opsB P K (true :: so) (o :: l) st = opP P false o (opsB P K so l) st := rfl
@[go_sem ↓] theorem opsB_false {K : St → Prop} {so : List Bool} {o : POp} {l : List POp} {st : St} : opsB P K (false :: so) (o :: l) st = opP P true o (opsB P K so l) st := rfl
@[go_sem ↓] theorem pw_regF {un uv : List (Nat × Nat)} {l : List POp} {ks : List Nat} {Q : Exit → St → Prop} {st : St} : pw P (.regF un uv l ks) Q st = (((un.all fun p => fzAt l p.1 || fzAt l p.2) = true ∧ (uv.all fun p => !(clAt l p.1 || clAt l p.2) || fzAt l p.1 || fzAt l p.2) = true) ∧ opsF P (regK Q ks) l st) := rfl
attribute [go_sem] clAt callQ
def callKx (P : Program) (q : FuncId) (args : List V) (o : Option Tmp) (K : St → Prop) (st : St) : Prop :=
 (∃ bx v, K (st.at bx o v)) ∧ callK P false q args o K st
@[go_sem ↓] theorem opF_call (o : Option Tmp) (f : FuncId) (args : Array Operand) (tys : Array TypeId) (K : St → Prop) (st : St) : opF P ⟨o, .call { callee := .value (.func f), args := args, argTypes := tys }, none, true⟩ K st = (liveL (getL st args.toList) ∧ dstOk st o ∧ callKx P f (stripL (getL st args.toList)) o K st) := by
 unfold opF
 rw [if_neg (by simp [fzb, lenOf]), if_pos (by simp [callQ])]
 have := callS_fn_iff (P := P) (d := false) (st := st) (f := .func f) (args := args) (o := o) (K := K) (tys := tys) (fun b => by simp [St.get, V.strip])
 show (_ ∧ absOp P false (POp.oper ⟨o, .call { callee := .value (.func f), args := args, argTypes := tys }, none, false⟩) K st) = _
 rw [this]
 have h2 : st.get (.func f) = .fn (.func f) [] := rfl
 rw [h2, callS_fn, List.append_nil]
 unfold callKx
 exact propext ⟨fun h => ⟨h.2.1, h.2.2.1, h.1, h.2.2.2⟩, fun h => ⟨h.2.2.1, h.1, h.2.1, h.2.2.2⟩⟩
theorem callKx_abs {q : FuncId} {args : List V} {o : Option Tmp} {K : St → Prop} {st : St} {Kc : V → Boxes → Prop} (h : AbsCall P q args st.bx Kc) (hx : ∃ r bx', Kc r bx') (hk : ∀ r bx', Kc r bx' → K ({ st with bx := bx' }.put o r)) : callKx P q args o K st := by
 obtain ⟨r, bx', h1⟩ := hx
 exact ⟨⟨bx', r, hk r bx' h1⟩, callK_abs h hk⟩
@[go_sem ↓] theorem opsF_nil {K : St → Prop} {st : St} : opsF P K [] st = K st := rfl
@[go_sem ↓] theorem opsF_cons {K : St → Prop} {o : POp} {l : List POp} {st : St} : opsF P K (o :: l) st = opF P o (opsF P K l) st := rfl
@[go_sem ↓] theorem opF_plain (o : Option Tmp) (op : Op) (g : Option (Tmp × Bool)) (K : St → Prop) (st : St) : opF P ⟨o, op, g, false⟩ K st = opP P true ⟨o, op, g, false⟩ K st := rfl
@[go_sem ↓] theorem opF_load (o : Option Tmp) (t : TypeId) (a : Operand) (K : St → Prop) (st : St) : opF P ⟨o, .load t a, none, true⟩ K st = evK (loadV P (fun _ => none) t (gv P st a)) o K st := rfl
@[go_sem ↓] theorem opFG_load (o : Option Tmp) (t : TypeId) (a : Operand) (s : Nat) (w : Bool) (K : St → Prop) (st : St) : opF P ⟨o, .load t a, some (s, w), true⟩ K st = evW (st.sl s) w (loadV P (fun _ => none) t (gv P st a)) o K st := rfl
def bldEZ (P : Program) (e : TypeId) (z : Option Value) (len : Nat) (ps : List (Nat × V)) : Ev :=
 match z with
 | some z => (storable P e (ofValue z) ∧ 0 < tsz P e ∧ len * tsz P e ≤ 16777216 ∧ okPs P e len ps, .sl (tsz P e) (fillL (List.replicate len (ofValue z)) ps))
 | none => evNo
def bldEK (P : Program) (k : Knd) (len : Nat) (ps : List (Nat × V)) : Ev :=
 match k with
 | .slice e => bldEZ P e (tzero P e) len ps
 | _ => evNo
@[go_sem] theorem bldEK_slice {e : TypeId} {len : Nat} {ps : List (Nat × V)} : bldEK P (.slice e) len ps = bldEZ P e (tzero P e) len ps := rfl
@[go_sem] theorem bldEZ_some {e : TypeId} {z : Value} {len : Nat} {ps : List (Nat × V)} : bldEZ P e (some z) len ps = (storable P e (ofValue z) ∧ 0 < tsz P e ∧ len * tsz P e ≤ 16777216 ∧ okPs P e len ps, .sl (tsz P e) (fillL (List.replicate len (ofValue z)) ps)) := rfl
theorem okPs_all (e : TypeId) (n : Nat) : ∀ ps : List (Nat × V), okPs P e n ps ↔ ∀ p, p ∈ ps → p.1 < n ∧ storable P e p.2
 | [] => by simp [okPs]
 | (i, x) :: ps => by simp [okPs, okPs_all e n ps, and_assoc]
theorem bldE_eq (st : St) (t : TypeId) (len : Nat) (parts : List (Nat × Operand)) : bldE P t len (parts.map fun p => (p.1, st.get p.2)) = bldEK P (knd P t) len (getP st parts) := by
 rw [getP_map]
 unfold bldE bldEK
 cases knd P t with
 | slice e => simp only [bldEZ]; cases tzero P e <;> simp only [okPs_all]
 | _ => rfl
@[go_sem ↓] theorem opF_len (o : Option Tmp) (x : Operand) (t : TypeId) (K : St → Prop) (st : St) : opF P ⟨o, .call { callee := .builtin .len, args := #[x], argTypes := #[t] }, none, true⟩ K st = evK (lenV P (fun _ => none) t (st.get x)) o K st := rfl
@[go_sem ↓] theorem opF_build (o : Option Tmp) (t : TypeId) (len : Nat) (parts : Array (Nat × Operand)) (K : St → Prop) (st : St) : opF P ⟨o, .buildSlice t len parts, none, true⟩ K st = evK (bldEK P (knd P t) len (getP st parts.toList)) o K st := by
 rw [← bldE_eq]; rfl
@[go_sem ↓] theorem opFG_build (o : Option Tmp) (t : TypeId) (len : Nat) (parts : Array (Nat × Operand)) (s : Nat) (w : Bool) (K : St → Prop) (st : St) : opF P ⟨o, .buildSlice t len parts, some (s, w), true⟩ K st = evW (st.sl s) w (bldEK P (knd P t) len (getP st parts.toList)) o K st := by
 rw [← bldE_eq]; rfl
theorem ret_pure {rs : List ResultVar} {Kc : V → Boxes → Prop} {st : St} (h : ∀ r, r ∈ rs → (resEv P st r).1) (hk : Kc (resV P st rs) st.bx) : Ret P rs Kc st :=
 ⟨h, st.bx, _, SubBx.refl _, .inl rfl, hk⟩
attribute [go_sem] resEv resV
end
end Go.Pl

set_option linter.unusedSimpArgs false
set_option linter.unusedVariables false
namespace Go.Pl
open Go
section
variable {P : Program}
def nextQ {ι : Type} (I : ι → Prop) (C : ι → St) (μ : ι → Nat) (m : Nat) (s : St) : Prop := ∃ i', I i' ∧ Cov s (C i') ∧ μ i' < m
theorem pw_loop {ι : Type} (I : ι → Prop) (C : ι → St) (μ : ι → Nat) (i : ι) {c : PC} {Q : Exit → St → Prop} {st : St} (hi : I i) (hc : Cov st (C i))
   (round : ∀ i, I i → pw P c (thenQ (nextQ I C μ (μ i)) Q) (C i)) : pw P (.loop c) Q st := by
 refine ⟨{i : ι // I i}, fun i => C i.1, fun i => μ i.1, ⟨i, hi⟩, hc, fun i => ?_⟩
 have h := round i.1 i.2
 have e : (thenQ (nextQ I C μ (μ i.1)) Q) = (thenQ (fun s => ∃ i' : {i : ι // I i}, Cov s (C i'.1) ∧ μ i'.1 < μ i.1) Q) := by
   funext ex s
   cases ex with
   | normal =>
     simp only [thenQ, nextQ]
     apply propext
     constructor
     · rintro ⟨i', h1, h2, h3⟩; exact ⟨⟨i', h1⟩, h2, h3⟩
     · rintro ⟨i', h2, h3⟩; exact ⟨i'.1, i'.2, h2, h3⟩
   | _ => rfl
 exact e ▸ h
def Ext (bx bx' : Boxes) : Prop := ∀ b, bx b ≠ none → bx' b = bx b
theorem Ext.refl (bx : Boxes) : Ext bx bx := fun _ _ => rfl
theorem Ext.trans {a b c : Boxes} (h : Ext a b) (h' : Ext b c) : Ext a c := fun x hx => by rw [h' x (by rw [h x hx]; exact hx), h x hx]
theorem Ext.new {a b : Boxes} {x : Nat} (h : Ext a b) (hx : b x = none) (v : Option Box) : Ext a (upd b x v) := by
 intro y hy
 by_cases e : y = x
 · subst e; exact absurd (h y hy ▸ hx) hy
 · rw [upd_ne _ _ e]; exact h y hy
theorem Ext.sub {a b : Boxes} (h : Ext a b) : SubBx b a := by
 intro x
 by_cases hx : a x = none
 · exact .inl hx
 · exact .inr (.inl (h x hx).symm)
theorem Ext.none {a b : Boxes} (h : Ext a b) {x : Nat} (hx : b x = none) : a x = none := by
 by_cases e : a x = Option.none
 · exact e
 · rw [h x e] at hx; exact hx
structure Acc (bx : Boxes) (e sz : Nat) (es : List V) (v : V) (bx' : Boxes) : Prop where
 ext : Ext bx bx'
 fin : FinB bx'
 is : (es = [] ∧ v = .nils) ∨ ∃ b, bx b = none ∧ v = .own b sz 0 es.length ∧ bx' b = some (.row e sz es)
theorem Acc.cells {bx bx' : Boxes} {e sz : Nat} {es : List V} {v : V} (h : Acc bx e sz es v bx') : v.cells = [v] := by
 rcases h.is with ⟨_, rfl⟩ | ⟨b, _, rfl, _⟩ <;> rfl
theorem Acc.okV {bx bx' : Boxes} {e sz : Nat} {es : List V} {v : V} (h : Acc bx e sz es v bx') : okV v = true := by
 rcases h.is with ⟨_, rfl⟩ | ⟨b, _, rfl, _⟩ <;> rfl
theorem Acc.strip {bx bx' : Boxes} {e sz : Nat} {es : List V} {v : V} (h : Acc bx e sz es v bx') : v.strip = v := by
 rcases h.is with ⟨_, rfl⟩ | ⟨b, _, rfl, _⟩ <;> rfl
theorem Acc.live {bx bx' : Boxes} {e sz : Nat} {es : List V} {v : V} (h : Acc bx e sz es v bx') : v.liveB = true := by
 rcases h.is with ⟨_, rfl⟩ | ⟨b, _, rfl, _⟩ <;> rfl
theorem Acc.setC {bx bx' : Boxes} {e sz : Nat} {es : List V} {v : V} (h : Acc bx e sz es v bx') (o : Nat) (w : V) : setC v o [w] = w := by
 rcases h.is with ⟨_, rfl⟩ | ⟨b, _, rfl, _⟩ <;> rfl
theorem acc_nil {bx : Boxes} (hf : FinB bx) (e sz : Nat) : Acc bx e sz [] .nils bx := ⟨Ext.refl _, hf, .inl ⟨rfl, rfl⟩⟩
theorem Acc.ext' {bx bx' bx'' : Boxes} {e sz : Nat} {es : List V} {v : V} (h : Acc bx e sz es v bx') (he : Ext bx' bx'') (hf : FinB bx'') : Acc bx e sz es v bx'' := by
 refine ⟨h.ext.trans he, hf, ?_⟩
 rcases h.is with h1 | ⟨b, h1, h2, h3⟩
 · exact .inl h1
 · exact .inr ⟨b, h1, h2, by rw [he b (by rw [h3]; simp), h3]⟩
theorem acc_append {bx bx1 : Boxes} {e sz : Nat} {es news : List V} {v x : V} {t : TypeId} {dst : Option Tmp} {n : Nat} {sl : Nat → V} {bx2 : Boxes} {K : St → Prop} (z : Value)
   (ha : Acc bx e sz es v bx1) (h2 : Ext bx1 bx2) (hf : FinB bx2) (hk : knd P t = .slice e) (hsz : tsz P e = sz) (src : srcEls ⟨n, sl, bx2⟩ sz x = some news) (hz : tzero P e = some z) (hst : storable P e (ofValue z)) (hpos : 0 < sz)
   (hby : (es.length + news.length) * tby P e ≤ 140737488355328) (hlen : es.length + news.length ≤ 9223372036854775807) (hd : dstOk ⟨n, sl, bx2⟩ dst)
   (hK : ∀ v' bx3, Acc bx e sz (es ++ news) v' bx3 → K (St.put ⟨n, sl, bx3⟩ dst v')) : appendA P ⟨n, sl, bx2⟩ dst t v x K := by
 subst hsz
 have ha2 := ha.ext' h2 hf
 unfold appendA
 simp only [hk, src, hz]
 refine ⟨hst, hpos, hd, hf, ?_⟩
 rcases ha2.is with ⟨rfl, rfl⟩ | ⟨b, hb, rfl, hb2⟩
 · simp only [List.length_nil, Nat.zero_add] at hby hlen
   refine ⟨hby, hlen, fun b hb => ?_⟩
   refine hK _ _ ⟨ha2.ext.new hb _, (finB_upd _ _ _).2 hf, .inr ⟨b, ha2.ext.none hb, by simp, upd_eq _ _ _⟩⟩
 · simp only [hb2]
   refine ⟨trivial, trivial, trivial, Nat.le_refl _, hby, hlen, fun b' hb' => ?_⟩
   have e1 : Ext bx (upd bx2 b none) := by
     intro y hy
     by_cases e : y = b
     · subst e; exact absurd hb hy
     · rw [upd_ne _ _ e]; exact ha2.ext y hy
   refine hK _ _ ⟨e1.new hb' _, (finB_upd _ _ _).2 ((finB_upd _ _ _).2 hf), .inr ⟨b', e1.none hb', ?_, ?_⟩⟩
   · simp
   · rw [List.take_length]; exact upd_eq _ _ _
def Wk (v v' : V) : Prop := ∀ β w F u, Rep β w F v u → Rep β w F v' u
theorem Wk.refl (v : V) : Wk v v := fun _ _ _ _ h => h
theorem wk_nils (sz : Nat) : Wk .nils (.sl sz []) := by
 intro β w F u h
 cases h
 exact Rep.sl (β := β) (w := w) (F := F) sz [] none 0 (fun _ => undef) (Nat.le_refl _) (by simp) (fun h => absurd rfl h) (fun e he => by cases he) (fun i e j c he => by simp at he) (fun i e j c he => by simp at he)
theorem AbsCall.weak {f : FuncId} {args : List V} {bx : Boxes} {Kc Kc' : V → Boxes → Prop} (h : AbsCall P f args bx Kc) (hk : ∀ r bx', Kc r bx' → ∃ r', Wk r r' ∧ Kc' r' bx') : AbsCall P f args bx Kc' := by
 refine ⟨h.1, fun β M w vs hok hgl hsz hargs => (h.2 β M w vs hok hgl hsz hargs).mono ?_⟩
 rintro e w' ⟨v, r, bx', β', h1, h2, h3, h4, h5⟩
 obtain ⟨r', hw, hk'⟩ := hk r bx' h2
 exact ⟨v, r', bx', β', h1, hk', h3, h4, hw _ _ _ _ h5⟩
theorem AbsCall.args {f : FuncId} {args args' : List V} {bx : Boxes} {Kc : V → Boxes → Prop} (h : AbsCall P f args' bx Kc) (hl : args'.length = args.length) (hw : ∀ (i : Nat) (c c' : V), args[i]? = some c → args'[i]? = some c' → Wk c c') : AbsCall P f args bx Kc := by
 refine ⟨h.1, fun β M w vs hok hgl hsz hargs => h.2 β M w vs hok hgl (hsz.trans hl.symm) fun i c' hc' => ?_⟩
 have hi : i < args'.length := (List.getElem?_eq_some_iff.1 hc').1
 have hc := List.getElem?_eq_getElem (l := args) (i := i) (by omega)
 exact hw i _ c' hc hc' _ _ _ _ (hargs i _ hc)
theorem ret_acc {rs : List ResultVar} {Kc : V → Boxes → Prop} {st : St} {bx : Boxes} {e sz : Nat} {es : List V} (h : ∀ r, r ∈ rs → (resEv P st r).1) (ha : Acc bx e sz es (resV P st rs) st.bx) (hpos : 0 < sz)
   (hk : ∀ r, (r = .nils ∧ es = []) ∨ r = .sl sz es → Kc r bx) : Ret P rs Kc st := by
 rcases ha.is with ⟨h1, h2⟩ | ⟨b, h1, h2, h3⟩
 · exact ⟨h, bx, _, ha.ext.sub, .inl rfl, hk _ (.inl ⟨h2, h1⟩)⟩
 · refine ⟨h, bx, _, ha.ext.sub, .inr ⟨1, rfl⟩, hk _ (.inr ?_)⟩
   rw [h2]
   have e0 : ∀ v, frz st.bx bx 0 v = v := fun v => by cases v <;> rfl
   have : List.map (frz st.bx bx 0) es = es := by rw [List.map_congr_left (g := id) (fun a _ => e0 a)]; simp
   simp [frz, h3, h1, hpos, this]
def flatV : V → Bool
 | .int .. | .bool _ | .str _ | .nils | .nilp | .nilf | .nili | .nilm | .unk => true
 | .agg cs | .tup cs => cs.all fun c => match c with
   | .int .. | .bool _ | .str _ | .nils | .nilp | .nilf | .nili | .nilm | .unk => true
   | _ => false
 | _ => false
theorem flat_rep {β β' : Beta} {w w' : World} {F F' : Nat → Prop} : ∀ {v : V} {u : Value}, flatV v = true → Rep β w F v u → Rep β' w' F' v u := by
 have one : ∀ {v : V} {u : Value}, (match v with
   | .int .. | .bool _ | .str _ | .nils | .nilp | .nilf | .nili | .nilm | .unk => true
   | _ => false) = true → Rep β w F v u → Rep β' w' F' v u := by
   intro v u h1 h
   cases h with
   | unk u => exact .unk u
   | int k n => exact .int k n
   | bool b => exact .bool b
   | str s => exact .str s
   | nils => exact .nils
   | nilp => exact .nilp
   | nilf => exact .nilf
   | nili => exact .nili
   | nilm => exact .nilm
   | _ => simp at h1
 intro v u hf h
 cases h with
 | agg cs us hl h1 hr =>
   refine .agg cs us hl h1 fun i c hc => one ?_ (hr i c hc)
   simp only [flatV, List.all_eq_true] at hf
   exact hf c (List.mem_of_getElem? hc)
 | tup cs us hl hr =>
   refine .tup cs us hl fun i c hc => one ?_ (hr i c hc)
   simp only [flatV, List.all_eq_true] at hf
   exact hf c (List.mem_of_getElem? hc)
 | unk u => exact .unk u
 | int k n => exact .int k n
 | bool b => exact .bool b
 | str s => exact .str s
 | nils => exact .nils
 | nilp => exact .nilp
 | nilf => exact .nilf
 | nili => exact .nili
 | nilm => exact .nilm
 | _ => simp [flatV] at hf
theorem PureCall.frame {f : FuncId} {args args' : List V} {bx : Boxes} {r : V} (d : Nat) (h : PureCall P f args' (fun _ => none) r) (ha : args' = args.map (frz bx (fun _ => none) d)) (hr : flatV r = true) : PureCall P f args bx r := by
 subst ha
 refine ⟨h.1, fun β M w vs hok hgl hsz hargs => ?_⟩
 have hs := SubBx.none_ bx
 refine (h.2 β M w vs (hok.sub hs) (hgl.imp fun _ _ hh => hs.rep hh) (by simpa using hsz) fun i c hc => ?_).mono ?_
 · rw [List.getElem?_map, Option.map_eq_some_iff] at hc
   obtain ⟨c0, hc0, rfl⟩ := hc
   exact frz_rep hok hs d _ _ (hargs i c0 hc0)
 · rintro e w' ⟨v, r', bx', β', h1, ⟨rfl, rfl⟩, hok', htr, hrep⟩
   have hb : ∀ b k, bx b ≠ none → β' b = some (some k) → β b = some (some k) := by
     intro b k hb hk
     obtain ⟨box, hbox⟩ := Option.ne_none_iff_exists'.1 hb
     rcases hok.live b box hbox with ⟨h2, _⟩ | ⟨k', h2, _⟩
     · rw [htr.ext b _ h2] at hk; cases hk
     · rw [htr.ext b _ h2] at hk; rw [h2, hk]
   have htr' : Tr β bx w β' bx w' := ⟨htr.os, htr.tape, htr.output, fun _ => htr.drawn (fun ⟨b, ty, h⟩ => by cases h), fun h => h, htr.size, fun k hk _ => htr.keep k hk (fun b hb => absurd rfl hb), htr.shape, htr.ext, fun b k h1 h2 => .inl ⟨b, h1, hb b k h1 h2⟩⟩
   refine ⟨v, r', bx, β', h1, ⟨rfl, rfl⟩, ?_, htr', flat_rep hr hrep⟩
   refine ⟨hok'.fin, hok'.mlt, fun b box hbox => ?_, fun b b' k h1 h2 h3 h4 => hok.inj b b' k h1 h2 (hb b k h1 h3) (hb b' k h2 h4)⟩
   rcases hok.live b box hbox with ⟨h2, h3⟩ | ⟨k, h2, h3, h4, h5⟩
   · exact .inl ⟨htr.ext b _ h2, h3⟩
   · refine .inr ⟨k, htr.ext b _ h2, Nat.lt_of_lt_of_le h3 htr.size, h4, ?_⟩
     exact boxAt_mono h5 (htr.keep k h3 (fun b hb => absurd rfl hb)) htr.ext (fun k' hk' => htr'.fz hk') htr.shape
theorem wr64 {n : Int} (h : -9223372036854775808 ≤ n ∧ n ≤ 9223372036854775807) : IntKind.i64.wrap n = n := by
 unfold IntKind.wrap; simp [IntKind.bits, IntKind.signed]; omega
theorem wru64 {n : Int} (h : 0 ≤ n ∧ n ≤ 18446744073709551615) : IntKind.u64.wrap n = n := by
 unfold IntKind.wrap; simp [IntKind.bits, IntKind.signed]; omega
theorem wru8 {n : Int} (h : 0 ≤ n ∧ n ≤ 255) : IntKind.u8.wrap n = n := by
 unfold IntKind.wrap; simp [IntKind.bits, IntKind.signed]; omega
end
end Go.Pl

set_option linter.unusedSimpArgs false
set_option linter.unusedVariables false
namespace Go.Pl
open Go Classical
section
variable {P : Program} {β : Beta} {M : Off} {bxc bxi : Boxes} {w : World}
theorem AbsYield.frame {b : Nat} {args : List V} {Kc : V → Boxes → Prop} (h : AbsYield P b args bxc Kc) (hd : Dj bxc bxi) : AbsYield P b args (ov bxc bxi) fun r bx' => ∃ bxc', Kc r bxc' ∧ Dj bxc' bxi ∧ bx' = ov bxc' bxi := by
 intro n β M w vs k hβ hok hgl hvs hreps
 obtain ⟨hw, hF⟩ := frame_pre hok hd
 obtain ⟨fn, tmps, assign, body, h1, h2⟩ := h n β _ w vs k hβ hw (hgl.imp fun _ _ hh => hh.mono (fun _ _ h => h) (fun k hk => ⟨(hF k).1 hk, rfl⟩) (fun _ _ h => h)) hvs (fun i c hc => (hreps i c hc).mono (fun _ _ h => h) (fun k hk => ⟨(hF k).1 hk, rfl⟩) (fun _ _ h => h))
 refine ⟨fn, tmps, assign, body, h1, h2.mono ?_⟩
 rintro e w' ⟨v, r, bx', β', rfl, hk, hok', htr, hrep⟩
 obtain ⟨a1, a2, a3, a4⟩ := frame_post hok hd hok' htr
 exact ⟨v, r, _, β', rfl, ⟨bx', hk, a1, rfl⟩, a2, a3, hrep.mono (fun _ _ h => h) (fun k hk => ⟨a4 k hk, rfl⟩) (fun _ _ h => h)⟩
end
end Go.Pl

set_option linter.unusedSimpArgs false
set_option linter.unusedVariables false
namespace Go.Pl
open Go
section
variable {P : Program}
theorem AbsYield.mono {b : Nat} {args : List V} {bx : Boxes} {Kc Kc' : V → Boxes → Prop} (h : AbsYield P b args bx Kc) (hk : ∀ r bx', Kc r bx' → Kc' r bx') : AbsYield P b args bx Kc' := by
 intro n β M w vs k hβ hok hgl hvs hreps
 obtain ⟨fn, tmps, assign, body, h1, h2⟩ := h n β M w vs k hβ hok hgl hvs hreps
 refine ⟨fn, tmps, assign, body, h1, h2.mono ?_⟩
 rintro e w' ⟨v, r, bx', β', rfl, hk', h3⟩
 exact ⟨v, r, bx', β', rfl, hk _ _ hk', h3⟩
theorem AbsCall.mono {f : FuncId} {args : List V} {bx : Boxes} {Kc Kc' : V → Boxes → Prop} (h : AbsCall P f args bx Kc) (hk : ∀ r bx', Kc r bx' → Kc' r bx') : AbsCall P f args bx Kc' :=
 h.weak fun r bx' h' => ⟨r, Wk.refl _, hk r bx' h'⟩
@[go_sem] theorem mkOpt_mkOpt (a b : Bool) (v : V) : mkOpt a (mkOpt b v) = mkOpt (a && b) v := by cases a <;> cases b <;> simp [mkOpt, V.strip, strip_idem]
@[go_sem] theorem evG_false (e : Ev) (d : Nat) (K : St → Prop) (n : Nat) (l : List (Nat × V)) (bx : Boxes) : evG false e (some d) K ⟨n, slk l, bx⟩ = (d < n ∧ K ⟨n, slk ((d, .dead e.2.strip) :: l), bx⟩) := by
 simp only [evG, dstOk, put_look, Bool.false_eq_true, false_implies, true_and, mkOpt, cond_false]
theorem gK_off (r : V) {d : Bool} {q : FuncId} {vs : List V} {lv : Prop} {o : Option Tmp} {K : St → Prop} {st : St} (hd : dstOk st o) (hk : K (st.put o (.dead r.strip))) : gK P d false q vs lv o K st :=
 .inl ⟨hd, r, fun h => (by cases h), hk⟩
@[go_sem] theorem evW_dead (c w : Bool) (e : Ev) (o : Option Tmp) (K : St → Prop) (st : St) : evW (.dead (.bool c)) w e o K st = evG false e o K st := by
 simp [evW, V.strip, V.liveB]
@[go_sem] theorem callG1_dfn (d wb : Bool) (q : FuncId) (caps args : List V) (o : Option Tmp) (K : St → Prop) (st : St) : callG1 P d wb (.dead (.fn (.func q) caps)) args o K st = gK P d wb q (stripL args ++ caps) False o K st := by
 simp only [callG1, callP, callB, callS, gK, strip_dead, strip_fn, live_dead, Bool.false_eq_true, false_and]
theorem upd_self {bx : Boxes} {b : Nat} (h : bx b = none) : upd bx b none = bx := by
 funext x
 by_cases e : x = b
 · subst e; rw [upd_eq, h]
 · rw [upd_ne _ _ e]
theorem ret_drop {rs : List ResultVar} {Kc : V → Boxes → Prop} {st : St} {bx : Boxes} (h : ∀ r, r ∈ rs → (resEv P st r).1) (he : Ext bx st.bx) (hk : Kc (resV P st rs) bx) : Ret P rs Kc st :=
 ⟨h, bx, _, he.sub, .inl rfl, hk⟩
theorem ret_frz {rs : List ResultVar} {Kc : V → Boxes → Prop} {st : St} {bx : Boxes} (d : Nat) (h : ∀ r, r ∈ rs → (resEv P st r).1) (he : Ext bx st.bx) (hk : Kc (frz st.bx bx d (resV P st rs)) bx) : Ret P rs Kc st :=
 ⟨h, bx, _, he.sub, .inr ⟨d, rfl⟩, hk⟩
theorem Ext.upd_own {bx bx' : Boxes} {b : Nat} (h : Ext bx bx') (hb : bx b = Option.none) (x : Option Box) : Ext bx (upd bx' b x) := by
 intro y hy
 by_cases e : y = b
 · subst e; exact absurd hb hy
 · rw [upd_ne _ _ e]; exact h y hy
end
end Go.Pl
namespace Go.Pl
open Go
end Go.Pl
namespace Go.Pl
open Go
end Go.Pl
namespace Go.Pl
open Go
theorem PureCall.wk {P : Program} {f : FuncId} {args : List V} {bx : Boxes} {r : V} (h : AbsCall P f args bx fun r' bx' => Wk r' r ∧ bx' = bx) : PureCall P f args bx r :=
 h.weak fun r' bx' h' => ⟨r, h'.1, rfl, h'.2⟩
theorem wk_tupL {cs ds : List V} (hl : cs.length = ds.length) (h : ∀ (i : Nat) (c d : V), cs[i]? = some c → ds[i]? = some d → Wk c d) : Wk (.tup cs) (.tup ds) := by
 intro β w F u hr
 cases hr with
 | tup cs us hs hr =>
   refine .tup ds us (hs.trans hl) fun i d hd => ?_
   have hi : i < cs.length := by rw [hl]; exact (List.getElem?_eq_some_iff.1 hd).1
   exact h i cs[i] d (List.getElem?_eq_getElem hi) hd _ _ _ _ (hr i _ (List.getElem?_eq_getElem hi))
theorem wk_tup2 {a b c d : V} (h1 : Wk a c) (h2 : Wk b d) : Wk (.tup [a, b]) (.tup [c, d]) := by
 refine wk_tupL rfl fun i x y hx hy => ?_
 match i with
 | 0 => simp at hx hy; subst hx hy; exact h1
 | 1 => simp at hx hy; subst hx hy; exact h2
 | i + 2 => simp at hx
theorem wk_nil' {sz : Nat} {es : List V} (h : es = []) : Wk .nils (.sl sz es) := by subst h; exact wk_nils sz
theorem ret_wk0 {P : Program} {rs : List ResultVar} {r : V} {st : St} (h : ∀ r, r ∈ rs → (resEv P st r).1) (hk : Wk (resV P st rs) r) : Ret P rs (fun r' bx' => Wk r' r ∧ bx' = st.bx) st :=
 ret_drop h (Ext.refl _) ⟨hk, rfl⟩
end Go.Pl
namespace Go.Pl
open Go
theorem Acc.base {bx0 bx bx' : Boxes} {e sz : Nat} {es : List V} {v : V} (h : Acc bx e sz es v bx') (he : Ext bx0 bx) : Acc bx0 e sz es v bx' := by
 refine ⟨he.trans h.ext, h.fin, ?_⟩
 rcases h.is with h1 | ⟨b, h1, h2, h3⟩
 · exact .inl h1
 · exact .inr ⟨b, he.none h1, h2, h3⟩
theorem Acc.at {bx bx' : Boxes} {e sz : Nat} {es : List V} {v : V} {b : Nat} {x : Box} (h : Acc (upd bx b (some x)) e sz es v bx') : bx' b = some x := by
 rw [h.ext b (by simp [upd_eq]), upd_eq]
theorem Acc.put {bx bx' : Boxes} {e sz : Nat} {es : List V} {v : V} {b : Nat} {x : Box} (h : Acc (upd bx b (some x)) e sz es v bx') (y : Box) : Acc (upd bx b (some y)) e sz es v (upd bx' b (some y)) := by
 refine ⟨fun c hc => ?_, (finB_upd _ _ _).2 h.fin, ?_⟩
 · by_cases e : c = b
   · subst e; rw [upd_eq, upd_eq]
   · rw [upd_ne _ _ e, upd_ne _ _ e]
     have := h.ext c (by rw [upd_ne _ _ e] at hc ⊢; exact hc)
     rwa [upd_ne _ _ e] at this
 · rcases h.is with h1 | ⟨b', h1, h2, h3⟩
   · exact .inl h1
   · have hn := new_ne h1
     exact .inr ⟨b', by rw [upd_ne _ _ hn.1]; exact hn.2, h2, by rw [upd_ne _ _ hn.1]; exact h3⟩
theorem ret_accw {P : Program} {rs : List ResultVar} {st : St} {bx : Boxes} {e sz : Nat} {es : List V} (h : ∀ r, r ∈ rs → (resEv P st r).1) (ha : Acc bx e sz es (resV P st rs) st.bx) (hpos : 0 < sz) : Ret P rs (fun r bx' => Wk r (.sl sz es) ∧ bx' = bx) st :=
 ret_acc h ha hpos fun r hr => by
   rcases hr with ⟨rfl, h1⟩ | rfl
   · exact ⟨wk_nil' h1, rfl⟩
   · exact ⟨Wk.refl _, rfl⟩
end Go.Pl
namespace Go.Pl
open Go
theorem pw_for {P : Program} {ι : Type} (n : Nat) (J : Nat → ι → Prop) (C : Nat → ι → St) (i : ι) {c : PC} {Q : Exit → St → Prop} {st : St} (hi : J 0 i) (hc : Cov st (C 0 i))
   (round : ∀ k i, k < n → J k i → ∀ N : St → Prop, (∀ s i', J (k + 1) i' → Cov s (C (k + 1) i') → N s) → pw P c (thenQ N Q) (C k i)) (fin : ∀ i, J n i → ∀ N : St → Prop, pw P c (thenQ N Q) (C n i)) : pw P (.loop c) Q st := by
 refine pw_loop (ι := Nat × ι) (fun p => p.1 ≤ n ∧ J p.1 p.2) (fun p => C p.1 p.2) (fun p => n - p.1) (0, i) ⟨Nat.zero_le _, hi⟩ hc ?_
 rintro ⟨k, i⟩ ⟨hk, hj⟩
 dsimp only at hk hj ⊢
 by_cases h : k < n
 · exact round k i h hj _ fun s i' h1 h2 => ⟨(k + 1, i'), ⟨h, h1⟩, h2, by dsimp only; omega⟩
 · obtain rfl : k = n := by omega
   exact fin i hj _
theorem pw_find {P : Program} (n : Nat) (hit : Nat → Bool) (C : Nat → St) {c : PC} {Q : Exit → St → Prop} {st : St} (hc : Cov st (C 0))
   (round : ∀ k, k < n → (∀ j, j < k → hit j = false) → ∀ N : St → Prop, (∀ s, hit k = false → Cov s (C (k + 1)) → N s) → pw P c (thenQ N Q) (C k)) (fin : (∀ j, j < n → hit j = false) → ∀ N : St → Prop, pw P c (thenQ N Q) (C n)) : pw P (.loop c) Q st := by
 refine pw_for (ι := Unit) n (fun k _ => ∀ j, j < k → hit j = false) (fun k _ => C k) () (fun j hj => by omega) hc (fun k _ hk hJ N hN => round k hk hJ N fun s h1 h2 => hN s () (fun j hj => ?_) h2) (fun _ hJ N => fin hJ N)
 by_cases e : j = k
 · rw [e]; exact h1
 · exact hJ j (by omega)
theorem pw_upto {P : Program} (n : Nat) (C : Nat → St) {c : PC} {Q : Exit → St → Prop} {st : St} (hc : Cov st (C 0))
   (round : ∀ k, k < n → ∀ N : St → Prop, (∀ s, Cov s (C (k + 1)) → N s) → pw P c (thenQ N Q) (C k)) (fin : ∀ N : St → Prop, pw P c (thenQ N Q) (C n)) : pw P (.loop c) Q st :=
 pw_for (ι := Unit) n (fun _ _ => True) (fun k _ => C k) () trivial hc (fun k _ hk _ N hN => round k hk N fun s h => hN s () trivial h) (fun _ _ N => fin N)
theorem wr_succ {k : Nat} (h : k < 1000000000) : IntKind.i64.wrap ((k : Int) + 1) = ((k + 1 : Nat) : Int) := by rw [wr64 (by omega)]; omega
theorem frz_own {bx bx' : Boxes} {d b sz n : Nat} {ty : TypeId} {es : List V} (h : bx b = some (.row ty sz es)) (h' : bx' b = none) (hs : 0 < sz) (hn : n = es.length) : frz bx bx' (d + 1) (.own b sz 0 n) = .sl sz (es.map (frz bx bx' d)) := by
 subst hn
 simp [frz, h, h', hs]
theorem frz_0 (bx bx' : Boxes) (v : V) : frz bx bx' 0 v = v := by cases v <;> rfl
theorem frz_0L (bx bx' : Boxes) (l : List V) : l.map (frz bx bx' 0) = l := by
 rw [List.map_congr_left (g := id) (fun a _ => frz_0 _ _ a)]; simp
theorem Acc.row {bx bx' : Boxes} {e sz : Nat} {es : List V} {v : V} (h : Acc bx e sz es v bx') (hne : es ≠ []) : ∃ b, bx b = none ∧ v = .own b sz 0 es.length ∧ bx' b = some (.row e sz es) := by
 rcases h.is with ⟨h1, _⟩ | h1
 · exact absurd h1 hne
 · exact h1
theorem acc_new {bx : Boxes} {b : Nat} (hb : bx b = none) (hf : FinB bx) (e sz : Nat) (es : List V) (n : Nat) (hn : n = es.length) : Acc bx e sz es (.own b sz 0 n) (upd bx b (some (.row e sz es))) :=
 ⟨(Ext.refl _).new hb _, (finB_upd _ _ _).2 hf, .inr ⟨b, hb, by rw [hn], upd_eq _ _ _⟩⟩
theorem ret_keep {P : Program} {rs : List ResultVar} {Kc : V → Boxes → Prop} {st : St} (h : ∀ r, r ∈ rs → (resEv P st r).1) (hk : Kc (resV P st rs) st.bx) : Ret P rs Kc st := ret_pure h hk
end Go.Pl
namespace Go.Pl
open Go
end Go.Pl
namespace Go.Pl
open Go
@[go_sem] theorem frz_tup (bx bx' : Boxes) (d : Nat) (cs : List V) : frz bx bx' (d + 1) (.tup cs) = .tup (cs.map (frz bx bx' d)) := rfl
@[go_sem] theorem frz_agg (bx bx' : Boxes) (d : Nat) (cs : List V) : frz bx bx' (d + 1) (.agg cs) = .agg (cs.map (frz bx bx' d)) := rfl
@[go_sem] theorem frz_int (bx bx' : Boxes) (d : Nat) (k : IntKind) (n : Int) : frz bx bx' d (.int k n) = .int k n := by cases d <;> rfl
@[go_sem] theorem frz_boolV (bx bx' : Boxes) (d : Nat) (n : Bool) : frz bx bx' d (.bool n) = .bool n := by cases d <;> rfl
@[go_sem] theorem frz_str (bx bx' : Boxes) (d : Nat) (n : List UInt8) : frz bx bx' d (.str n) = .str n := by cases d <;> rfl
@[go_sem] theorem frz_nils (bx bx' : Boxes) (d : Nat) : frz bx bx' d .nils = .nils := by cases d <;> rfl
@[go_sem] theorem frz_sl (bx bx' : Boxes) (d sz : Nat) (es : List V) : frz bx bx' d (.sl sz es) = .sl sz es := by cases d <;> rfl
theorem frz_own1 {bx bx' : Boxes} {b sz n : Nat} {ty : TypeId} {es : List V} (h : bx b = some (.row ty sz es)) (h' : bx' b = none) (hs : 0 < sz) (hn : n = es.length) : frz bx bx' 1 (.own b sz 0 n) = .sl sz es := by
 rw [frz_own h h' hs hn, frz_0L]
end Go.Pl
namespace Go.Pl
open Go
theorem pw_wk {P : Program} {c : PC} {Q : Exit → St → Prop} {st st' : St} (h : Cov st st') (h2 : pw P c Q st') : pw P (.wk c) Q st := ⟨st', h, h2⟩
end Go.Pl

namespace Go.Pl
open Go
end Go.Pl

namespace Go.Pl
open Go
section
variable {P : Program}
@[go_sem ↓] theorem opP_lookup (d z : Bool) (o : Option Tmp) (t : TypeId) (x ix : Operand) (ok : Bool) (K : St → Prop) (st : St) : opP P d ⟨o, .lookup t x ix ok, none, z⟩ K st = evK (lookupV P st.bx t (st.get x) (st.get ix) ok) o K st := by cases z <;> rfl
@[go_sem ↓] theorem opG_lookup (d z : Bool) (o : Option Tmp) (t : TypeId) (x ix : Operand) (ok : Bool) (s : Nat) (w : Bool) (K : St → Prop) (st : St) : opP P d ⟨o, .lookup t x ix ok, some (s, w), z⟩ K st = evW (st.sl s) w (lookupV P st.bx t (st.get x) (st.get ix) ok) o K st := by cases z <;> rfl
@[go_sem ↓] theorem opP_mkIface (d z : Bool) (o : Option Tmp) (t : TypeId) (x : Operand) (K : St → Prop) (st : St) : opP P d ⟨o, .makeInterface t x, none, z⟩ K st = evK (makeIfaceV P t (st.get x)) o K st := by cases z <;> rfl
@[go_sem ↓] theorem opP_assert (d z : Bool) (o : Option Tmp) (t a : TypeId) (x : Operand) (ok : Bool) (K : St → Prop) (st : St) : opP P d ⟨o, .typeAssert x t a ok, none, z⟩ K st = evK (assertV P (st.get x) a ok) o K st := by cases z <;> rfl
@[go_sem ↓] theorem opP_nilCheck (d z : Bool) (o : Option Tmp) (x : Operand) (K : St → Prop) (st : St) : opP P d ⟨o, .nilCheck x, none, z⟩ K st = evK (nilCheckV (st.get x)) o K st := by cases z <;> rfl
@[go_sem ↓] theorem opG_nilCheck (d z : Bool) (o : Option Tmp) (x : Operand) (s : Nat) (w : Bool) (K : St → Prop) (st : St) : opP P d ⟨o, .nilCheck x, some (s, w), z⟩ K st = evW (st.sl s) w (nilCheckV (st.get x)) o K st := by cases z <;> rfl
def newMK (o : Option Tmp) (K : St → Prop) (st : St) : Prop := dstOk st o ∧ FinB st.bx ∧ ∀ b, st.bx b = none → K ((st.box b (some (.map []))).put o (.mp b))
@[go_sem ↓] theorem opP_makeMap (d z : Bool) (o : Option Tmp) (t : TypeId) (K : St → Prop) (st : St) : opP P d ⟨o, .makeMap t none, none, z⟩ K st = newMK o K st := by cases z <;> rfl
@[go_sem] theorem newMK_some (t : Nat) (K : St → Prop) (n : Nat) (l : List (Nat × V)) (bx : Boxes) : newMK (some t) K ⟨n, slk l, bx⟩ = (t < n ∧ FinB bx ∧ ∀ b, bx b = none → K ⟨n, slk ((t, .mp b) :: l), upd bx b (some (.map []))⟩) := by
 simp only [newMK, dstOk, box_look, put_look]
@[go_sem ↓] theorem opP_mapUpdate (d z : Bool) (o : Option Tmp) (t : TypeId) (m k x : Operand) (K : St → Prop) (st : St) : opP P d ⟨o, .mapUpdate t m k x, none, z⟩ K st = (o = none ∧ putA P st t (st.get m) (st.get k) (st.get x) K) := by cases z <;> rfl
@[go_sem ↓] theorem opP_insert (d z : Bool) (o : Option Tmp) (t : TypeId) (m k x : Operand) (K : St → Prop) (st : St) : opP P d ⟨o, .insert t m k x, none, z⟩ K st = (o = none ∧ putA P st t (st.get m) (st.get k) (st.get x) K) := by cases z <;> rfl
@[go_sem ↓] theorem opP_delete (d z : Bool) (o : Option Tmp) (t t2 : TypeId) (m k : Operand) (K : St → Prop) (st : St) : opP P d ⟨o, .call { callee := .builtin .delete, args := #[m, k], argTypes := #[t, t2] }, none, z⟩ K st = (o = none ∧ delA P st t (st.get m) (st.get k) K) := by cases z <;> rfl
@[go_sem ↓] theorem opP_mapEntry (d z : Bool) (o : Option Tmp) (t : TypeId) (m k : Operand) (K : St → Prop) (st : St) : opP P d ⟨o, .mapEntry t m k, none, z⟩ K st = entA P st t (st.get m) (st.get k) o K := by cases z <;> rfl
@[go_sem ↓] theorem opP_entryStore (d z : Bool) (o : Option Tmp) (t : TypeId) (m s x : Operand) (K : St → Prop) (st : St) : opP P d ⟨o, .entryStore t m s x, none, z⟩ K st = (o = none ∧ entStA st (st.get m) (st.get s) (st.get x) K) := by cases z <;> rfl
@[go_sem ↓] theorem opP_range (d z : Bool) (o : Option Tmp) (t : TypeId) (x : Operand) (K : St → Prop) (st : St) : opP P d ⟨o, .range t x, none, z⟩ K st = (d = false ∧ rangeA P st t (st.get x) o K) := by cases z <;> rfl
@[go_sem ↓] theorem opP_next (d z : Bool) (o : Option Tmp) (x : Operand) (K : St → Prop) (st : St) : opP P d ⟨o, .next x false, none, z⟩ K st = (d = false ∧ nextA st (st.get x) o K) := by cases z <;> rfl
@[go_sem ↓] theorem opP_entry (d z : Bool) (o : Option Tmp) (x : Operand) (K : St → Prop) (st : St) : opP P d ⟨o, .entry x, none, z⟩ K st = (d = false ∧ entryA st (st.get x) o K) := by cases z <;> rfl
def invK (P : Program) (r : V) (name : String) (args : List V) (o : Option Tmp) (K : St → Prop) (st : St) : Prop :=
 match r with
 | .iface t v => match methodV P t name with
   | some g => liveL args ∧ dstOk st o ∧ callK P false g (v :: stripL args) o K st
   | none => False
 | _ => False
theorem invK_iff {r : V} {name : String} {st : St} {args : List Operand} {o : Option Tmp} {K : St → Prop} : invA P st o r name (args.map st.get) K = invK P r name (getL st args) o K st := by
 unfold invA invK
 rw [getL_map]
 cases r with
 | iface t v =>
   dsimp only
   cases hm : methodV P t name with
   | none => rfl
   | some g =>
     dsimp only
     rw [stripL_map]
     have : liveL (args.map st.get) = ∀ x, x ∈ args.map st.get → x.liveB = true := propext (liveL_iff _)
     rw [this]
     rfl
 | _ => rfl
@[go_sem ↓] theorem opP_invoke (z : Bool) (o : Option Tmp) (r : Operand) (name : String) (args : Array Operand) (ts : Array TypeId) (K : St → Prop) (st : St) : opP P false ⟨o, .call { callee := .invoke r name, args := args, argTypes := ts }, none, z⟩ K st = invK P (st.get r) name (getL st args.toList) o K st := by
 rw [← invK_iff]
 have : opP P false ⟨o, .call { callee := .invoke r name, args := args, argTypes := ts }, none, z⟩ K st = (false = false ∧ invA P st o (st.get r) name (args.toList.map st.get) K) := by cases z <;> rfl
 rw [this]
 simp
def invG (P : Program) (wb : Bool) (r : V) (name : String) (args : List V) (o : Option Tmp) (K : St → Prop) (st : St) : Prop :=
 (wb = true → invK P r name args o K st) ∧ (wb = false → dstOk st o ∧ K (st.put o (.dead .unk)))
def invW (P : Program) (v : V) (w : Bool) (r : V) (name : String) (args : List V) (o : Option Tmp) (K : St → Prop) (st : St) : Prop :=
 match v.strip with
 | .bool c => invG P (v.liveB && (c == w)) r name args o K st
 | _ => False
@[go_sem ↓] theorem opG_invoke (z : Bool) (o : Option Tmp) (r : Operand) (name : String) (args : Array Operand) (ts : Array TypeId) (s : Nat) (w : Bool) (K : St → Prop) (st : St) : opP P false ⟨o, .call { callee := .invoke r name, args := args, argTypes := ts }, some (s, w), z⟩ K st = invW P (st.sl s) w (st.get r) name (getL st args.toList) o K st := by
 have e0 : opP P false ⟨o, .call { callee := .invoke r name, args := args, argTypes := ts }, some (s, w), z⟩ K st = opP0 P false ⟨o, .call { callee := .invoke r name, args := args, argTypes := ts }, some (s, w), false⟩ K st := by cases z <;> rfl
 rw [e0]
 unfold opP0 invW
 simp only [yieldOf]
 cases hs : (st.sl s).strip with
 | bool c =>
   simp only [isEv, Bool.false_eq_true, if_false]
   have e1 : ∀ wb, guardedP P false ⟨o, .call { callee := .invoke r name, args := args, argTypes := ts }, some (s, w), false⟩ wb K st = ((wb = true → absOp P false (POp.oper ⟨o, .call { callee := .invoke r name, args := args, argTypes := ts }, some (s, w), false⟩) K st) ∧ (wb = false → dstOk st o ∧ K (st.put o (.dead .unk)))) := fun wb => rfl
   have e2 : absOp P false (POp.oper ⟨o, .call { callee := .invoke r name, args := args, argTypes := ts }, some (s, w), false⟩) K st = (false = false ∧ invA P st o (st.get r) name (args.toList.map st.get) K) := rfl
   rw [e1]
   unfold branchP invG
   rw [e2, invK_iff]
   simp
 | _ => rfl
attribute [go_sem] lookupV okK makeIfaceV assertV nilCheckV concK keyV putA delA mapPut mapDel rangeA nextA entryA entA entStA entIdx
end
end Go.Pl
namespace Go.Pl
open Go
abbrev oq (d : Tmp) (o : Op) : POp := ⟨some d, o, none, false⟩
abbrev oe (o : Op) : POp := ⟨none, o, none, false⟩
abbrev og (d : Tmp) (o : Op) (s : Tmp) : POp := ⟨some d, o, some (s, true), false⟩
abbrev oh (d : Tmp) (o : Op) (s : Tmp) : POp := ⟨some d, o, some (s, false), false⟩
end Go.Pl

set_option linter.unusedSimpArgs false
set_option linter.unusedVariables false
namespace Go.Pl
open Go
def regC : Code → Nat → List Code
 | .region id ops d, n => if id = n then [.region id ops d] else []
 | .seq a b, n => regC a n ++ regC b n
 | .cond _ a b, n => regC a n ++ regC b n
 | .block _ c, n => regC c n
 | .loop c, n => regC c n
 | .rangeFunc _ _ a b, n => regC a n ++ regC b n
 | _, _ => []
def rawAt (f : Func) (n : Nat) : Code :=
 match f.body with
 | some c => match regC c n with
   | [r] => r
   | _ => .skip
 | none => .skip
inductive Fits : Code → PC → Prop
 | base {c : Code} {pc : PC} (h : compile c = erase pc) : Fits c pc
 | raw {c c' : Code} (h : c = c') : Fits c (.raw c')
 | seq {a b : Code} {x y : PC} (h1 : Fits a x) (h2 : Fits b y) : Fits (.seq a b) (.seq x y)
 | cond {o : Operand} {a b : Code} {x y : PC} (h1 : Fits a x) (h2 : Fits b y) : Fits (.cond o a b) (.cond o x y)
 | block {id : Nat} {c : Code} {x : PC} (h : Fits c x) : Fits (.block id c) (.block id x)
 | wk {c : Code} {x : PC} (h : Fits c x) : Fits c (.wk x)
 | fz {c : Code} {t : Nat} {x : PC} (h : Fits c x) : Fits c (.fz t x)
section
variable {P : Program}
theorem fits_sound (hm : P.follows .mixedOrders = true) {c : Code} {pc : PC} (hf : Fits c pc) : ∀ (M : Off) (Q : Exit → St → Prop) (st : St), pw P pc Q st → Says P M none c Q st := by
 induction hf with
 | base h => exact fun M Q st hp => pw_sound hm _ _ M Q st (.inl rfl) h hp
 | raw h =>
   subst h
   exact fun M Q st hp => hp M none
 | @seq a b x y h1 h2 ih1 ih2 =>
   intro M Q st hp n β ac w hr
   refine wpIn_seq (wpIn_mono (ih1 M _ st hp n β ac w hr) ?_)
   rintro e a' w' ⟨M', st', β', hq, hx, hr', ht⟩
   cases e with
   | normal =>
     refine wpIn_mono (ih2 M' Q st' hq n β' a' w' hr') ?_
     rintro e2 a2 w2 ⟨M2, st2, β2, hq2, hx2, hr2, ht2⟩
     exact ⟨M2, st2, β2, hq2, hx.trans hx2 ht.size, hr2, ht.trans ht2⟩
   | _ => exact ⟨M', st', β', hq, hx, hr', ht⟩
 | @cond o a b x y h1 h2 ih1 ih2 =>
   intro M Q st h n β ac w hr
   unfold pw at h
   split at h
   · rename_i t ht
     obtain ⟨hl, h3, h4⟩ := h
     have hrep := hr.get o
     rw [live_of hl ht] at hrep
     refine wpIn_cond_split (t := t) hrep.bool_inv (fun ht => ?_) (fun ht => ?_)
     · exact ih1 M Q st (h3 ht) n β ac w hr
     · exact ih2 M Q st (h4 ht) n β ac w hr
   · exact h.elim
 | block h ih =>
   intro M Q st hp n β a w hr
   refine wpIn_block (wpIn_mono (ih M _ st hp n β a w hr) ?_)
   rintro e a' w' ⟨M', st', β', hq, hx, hr', ht⟩
   cases e with
   | exit id' =>
     simp only [blockQ] at hq
     simp only [Exit.inBlock]
     split at hq
     · rename_i he; rw [if_pos he]; exact ⟨M', st', β', hq, hx, hr', ht⟩
     · rename_i he; rw [if_neg he]; exact ⟨M', st', β', hq, hx, hr', ht⟩
   | _ => exact ⟨M', st', β', hq, hx, hr', ht⟩
 | wk h ih =>
   rintro M Q st ⟨st', hcv, hp⟩ n β a w hr
   refine wpIn_mono (ih M Q st' hp n β a w (hcv.rs hr)) ?_
   rintro e a' w' ⟨M', st2, β', hq, hx, hr', ht⟩
   exact ⟨M', st2, β', hq, hx, hr', hcv.bx.tr.trans ht⟩
 | @fz c t x hf ih =>
   intro M Q st h n β a w hr
   unfold pw at h
   split at h
   · rename_i b sz i o hsl
     split at h
     · rename_i ty sz' es hbx
       obtain ⟨rfl, hi, h⟩ := h
       have hcv : Cov st ⟨st.n, upd st.sl t (.ep (es.getD i .unk) o), upd st.bx b none⟩ := by
         refine ⟨Nat.le_refl _, fun s => ?_, fun b' => ?_⟩
         · by_cases e : s = t
           · subst e
             refine .inr (.inr (.inl ⟨1, ?_⟩))
             simp only [upd_eq, hsl, frz, hbx]
             rw [if_pos ⟨trivial, hi⟩]
           · exact .inr (.inl (upd_ne _ _ e))
         · by_cases e : b' = b
           · subst e; exact .inl (upd_eq _ _ _)
           · exact .inr (.inl (upd_ne _ _ e))
       refine wpIn_mono (ih M Q _ h n β a w (hcv.rs hr)) ?_
       rintro e a' w' ⟨M', st2, β', hq, hx, hr', ht⟩
       exact ⟨M', st2, β', hq, hx, hr', hcv.bx.tr.trans ht⟩
     · exact h.elim
   · exact h.elim
theorem abs_ofR (hm : P.follows .mixedOrders = true) {f : FuncId} {fn : Func} {pc : PC} {n : Nat} {rs : List ResultVar} (hf : P.funcs[f]? = some fn) (hb : ∃ c, fn.body = some c ∧ Fits c pc) (hent : ∀ vs w, (callFunc f vs).run P w = .ok (.enter f vs) w) (hn : fn.ntmps = n) (hrs : fn.results.toList = rs)
   {args : List V} {bx : Boxes} {Kc : V → Boxes → Prop} (h : FinB bx → pw P pc (fun e st => (e = .normal ∨ e = .ret) ∧ Ret P rs Kc st) (initSt n args bx)) : AbsCall P f args bx Kc := by
 obtain ⟨c, h1, h2⟩ := hb
 subst hn hrs
 exact absCall_of_says hf h1 hent fun M n β a w hr => fits_sound hm h2 M _ _ (h hr.ok.finB) n β a w hr
def rawOps : Code → Array Oper
 | .region _ ops _ => ops
 | _ => #[]
def rawOk (c : Code) (l : List POp) : Prop :=
 match c with
 | .region _ ops true => lexD ops = true ∧ l.map POp.clr = ops.toList.map (compileOp ops) ∧ ((lexU ops).all fun p => fzAt l p.1 || fzAt l p.2) = true ∧ ((lexV ops).all fun p => !(clAt l p.1 || clAt l p.2) || fzAt l p.1 || fzAt l p.2) = true
 | _ => False
theorem pw_rawF (hm : P.follows .mixedOrders = true) {c : Code} {l : List POp} (ks : List Nat) (hc : rawOk c l) {Q : Exit → St → Prop} {st : St} (h : opsF P (fun s => Q .normal (s.keep ks)) l st) : pw P (.raw c) Q st := by
 unfold rawOk at hc
 split at hc
 · rename_i id ops
   obtain ⟨hD, hl2, h1, h2⟩ := hc
   intro M ro n β a w hr
   refine wpIn_mono (says_regF (M := M) (ro := ro) (Q := fun e s => e = .normal → Q .normal (s.keep ks)) (id := id) hm hD hl2 h1 h2 (by
     have e : (fun s : St => Q .normal (s.keep ks)) = (fun s : St => Exit.normal = Exit.normal → Q .normal (s.keep ks)) := by
       funext s; exact propext ⟨fun h _ => h, fun h => h rfl⟩
     rw [e] at h
     exact h) n β a w hr) ?_
   rintro e a' w' ⟨M', st', β', ⟨rfl, hq⟩, hx, hr', ht⟩
   exact ⟨M', _, β', hq rfl, hx, (keep_cov st' ks).rs hr', ht⟩
 · exact hc.elim
end
end Go.Pl

set_option linter.unusedVariables false
namespace Go.Pl
open Go
theorem wk_aggL {cs ds : List V} (hl : cs.length = ds.length) (h : ∀ (i : Nat) (c d : V), cs[i]? = some c → ds[i]? = some d → Wk c d) : Wk (.agg cs) (.agg ds) := by
 intro β w F u hr
 cases hr with
 | agg cs us hs h1 hr =>
   refine .agg ds us (hs.trans hl) (fun i hi => h1 i (by omega)) fun i d hd => ?_
   have hi : i < cs.length := by have := (List.getElem?_eq_some_iff.1 hd).1; omega
   have hc := List.getElem?_eq_getElem hi
   exact h i _ d hc hd _ _ _ _ (hr i _ hc)
end Go.Pl
