/- Texts of the proof, put together: CK, CM, CL0, CN, CO, CP, CQ, CR, CS, CU, CW, CX, CXb, CXe, CXc, CXd, CXf. -/
import Derived.Test.YtejcmkefemhpkaaGh
import Derived.Test.YtejcmkefemhpkaaProg
import Derived.Test.YtejcmkefemhpkaaGe
import Derived.Deep.RegionLaw
import Derived.Below

set_option linter.unusedSimpArgs false
set_option linter.unusedVariables false
set_option maxRecDepth 100000
namespace Go.Pl
open Go
def Sl (pr : Boxes) (e : TypeId) (sz : Nat) (es : List V) (v : V) (B : Option Nat) : Prop :=
 (es = [] ∧ v = .nils ∧ B = none) ∨ ∃ b, v = .own b sz 0 es.length ∧ pr b = some (.row e sz es) ∧ B = some b
def clrB (pr : Boxes) (B : Option Nat) : Boxes := match B with | none => pr | some b => upd pr b none
theorem Sl.live {pr : Boxes} {e sz : Nat} {es : List V} {v : V} {B : Option Nat} (h : Sl pr e sz es v B) : v.liveB = true := by
 rcases h with ⟨_, rfl, _⟩ | ⟨b, rfl, _, _⟩ <;> rfl
theorem Sl.strip {pr : Boxes} {e sz : Nat} {es : List V} {v : V} {B : Option Nat} (h : Sl pr e sz es v B) : v.strip = v := by
 rcases h with ⟨_, rfl, _⟩ | ⟨b, rfl, _, _⟩ <;> rfl
theorem Sl.cells {pr : Boxes} {e sz : Nat} {es : List V} {v : V} {B : Option Nat} (h : Sl pr e sz es v B) : v.cells = [v] := by
 rcases h with ⟨_, rfl, _⟩ | ⟨b, rfl, _, _⟩ <;> rfl
theorem Sl.okV {pr : Boxes} {e sz : Nat} {es : List V} {v : V} {B : Option Nat} (h : Sl pr e sz es v B) : Go.Pl.okV v = true := by
 rcases h with ⟨_, rfl, _⟩ | ⟨b, rfl, _, _⟩ <;> rfl
theorem clrB_ne {pr : Boxes} {B : Option Nat} {c : Nat} (h : B ≠ some c) : clrB pr B c = pr c := by
 cases B with
 | none => rfl
 | some b => exact upd_ne _ _ fun e => h (by rw [e])
theorem clrB_eq {pr : Boxes} {b : Nat} : clrB pr (some b) b = none := upd_eq _ _ _
theorem Sl.ext {pr pr' : Boxes} {e sz : Nat} {es : List V} {v : V} {B : Option Nat} (h : Sl pr e sz es v B) (hx : ∀ b, B = some b → pr' b = pr b) : Sl pr' e sz es v B := by
 rcases h with h | ⟨b, h1, h2, h3⟩
 · exact .inl h
 · exact .inr ⟨b, h1, (hx b h3).trans h2, h3⟩
theorem Sl.ne {pr : Boxes} {e sz : Nat} {es : List V} {v : V} {B : Option Nat} (h : Sl pr e sz es v B) {c : Nat} {ty sz' : Nat} {es' : List V} (hc : pr c = some (.row ty sz' es')) (hne : ty ≠ e) : B ≠ some c := by
 intro hB
 rcases h with ⟨_, _, h⟩ | ⟨b, _, h2, h3⟩
 · rw [h] at hB; cases hB
 · rw [h3] at hB
   injection hB with hB
   subst hB
   rw [h2] at hc
   injection hc with hc
   injection hc with hc
   exact hne hc.symm
theorem app_pr {P : Program} {pr bxk : Boxes} {e sz : Nat} {es news : List V} {v x : V} {B : Option Nat} {t : TypeId} {dst : Option Tmp} {n : Nat} {sl : Nat → V} {K : St → Prop} (z : Value)
   (hx : Ext pr bxk) (hf : FinB bxk) (hv : Sl pr e sz es v B) (hk : knd P t = .slice e) (hsz : tsz P e = sz) (src : srcEls ⟨n, sl, bxk⟩ sz x = some news) (hz : tzero P e = some z) (hst : storable P e (ofValue z)) (hpos : 0 < sz)
   (hby : (es.length + news.length) * tby P e ≤ 140737488355328) (hlen : es.length + news.length ≤ 9223372036854775807) (hd : dstOk ⟨n, sl, bxk⟩ dst) (hne : news ≠ [])
   (hK : ∀ b' bx3, clrB pr B b' = none → (bxk b' = none ∨ B = some b') → Ext (upd (clrB pr B) b' (some (.row e sz (es ++ news)))) bx3 → FinB bx3 → (∀ c, bxk c ≠ none → B ≠ some c → bx3 c = bxk c) → K (St.put ⟨n, sl, bx3⟩ dst (.own b' sz 0 (es ++ news).length))) : appendA P ⟨n, sl, bxk⟩ dst t v x K := by
 have ha : Acc (clrB bxk B) e sz es v bxk := by
   refine ⟨fun c hc => ?_, hf, ?_⟩
   · by_cases hB : B = some c
     · subst hB; exact absurd clrB_eq hc
     · exact (clrB_ne hB).symm
   · rcases hv with ⟨h1, h2, _⟩ | ⟨b, h1, h2, h3⟩
     · exact .inl ⟨h1, h2⟩
     · exact .inr ⟨b, by rw [h3]; exact clrB_eq, h1, (hx b (by rw [h2]; simp)).trans h2⟩
 refine acc_append z ha (Ext.refl _) hf hk hsz src hz hst hpos hby hlen hd fun v' bx3 ha2 => ?_
 obtain ⟨b', h1, rfl, h2⟩ := ha2.row (by simp [hne])
 have hB : ∀ c, B ≠ some c → clrB bxk B c = bxk c := fun c h => clrB_ne h
 refine hK b' bx3 ?_ ?_ (fun c hc => ?_) ha2.fin fun c hc hcB => ?_
 · by_cases hb : B = some b'
   · rw [hb]; exact clrB_eq
   · rw [clrB_ne hb] at h1 ⊢
     by_cases hp : pr b' = none
     · exact hp
     · exact absurd ((hx b' hp).symm.trans h1) hp
 · by_cases hb : B = some b'
   · exact .inr hb
   · rw [clrB_ne hb] at h1; exact .inl h1
 · by_cases ec : c = b'
   · subst ec; rw [upd_eq]; exact h2
   · rw [upd_ne _ _ ec] at hc ⊢
     by_cases hb : B = some c
     · subst hb; exact absurd clrB_eq hc
     · rw [clrB_ne hb] at hc ⊢
       have h3 := hx c hc
       rw [ha2.ext c (by rw [clrB_ne hb, h3]; exact hc), clrB_ne hb, h3]
 · rw [ha2.ext c (by rw [clrB_ne hcB]; exact hc), clrB_ne hcB]
theorem Sl.new {pr : Boxes} {e sz : Nat} {es : List V} {b : Nat} : Sl (upd pr b (some (.row e sz es))) e sz es (.own b sz 0 es.length) (some b) := .inr ⟨b, rfl, upd_eq _ _ _, rfl⟩
theorem Sl.nil {pr : Boxes} {e sz : Nat} : Sl pr e sz [] .nils none := .inl ⟨rfl, rfl, rfl⟩
theorem Acc.sl {bx bx' : Boxes} {e sz : Nat} {es : List V} {v : V} (h : Acc bx e sz es v bx') : ∃ B, Sl bx' e sz es v B ∧ ∀ b, B = some b → bx b = none := by
 rcases h.is with ⟨h1, h2⟩ | ⟨b, h1, h2, h3⟩
 · exact ⟨none, .inl ⟨h1, h2, rfl⟩, fun b h => by cases h⟩
 · exact ⟨some b, .inr ⟨b, h2, h3, rfl⟩, fun c h => by injection h with h; subst h; exact h1⟩
theorem Sl.frz {pr bx : Boxes} {e sz : Nat} {es : List V} {v : V} {B : Option Nat} (h : Sl pr e sz es v B) (hn : ∀ b, B = some b → bx b = none) (hs : 0 < sz) {bxk : Boxes} (hx : Ext pr bxk) : Wk (frz bxk bx 1 v) (.sl sz es) := by
 rcases h with ⟨rfl, rfl, _⟩ | ⟨b, rfl, h2, h3⟩
 · exact wk_nils sz
 · rw [frz_own1 ((hx b (by rw [h2]; simp)).trans h2) (hn b h3) hs rfl]; exact Wk.refl _
end Go.Pl
namespace Go.Proofs.Tq
open Go Go.Pl Go.Hp Go.Ck
variable {bx bx' : Boxes} {bq : Nat} {g : FuncId} {lt : Tb → Tb → Bool} {key : Tb → Int} {next : Int} {its : List (Int × Tb)} {D : Nat → Prop}
theorem Qu.same (h : Qu bx bq g lt next its D) (hs : ∀ b, D b → bx' b = bx b) (hf : FinB bx') : Qu bx' bq g lt next its D := by
 obtain ⟨⟨ol, bm, es, hm, hh, hp, hD⟩, hS⟩ := h
 exact ⟨⟨ol, bm, es, hm.same (fun b hb => hs b ((hD b).2 hb)) hf, hh, hp, hD⟩, hS⟩
def ltT (a b : Tb) : Bool := decide (ord a.1 b.1 < 0)
def keyT (a : Tb) : Int := a.1.at_ * 18446744073709551616 + a.1.id
theorem ltT_key : ByKey ltT keyT := by
 intro a b
 obtain ⟨a, ha⟩ := a
 obtain ⟨b, hb⟩ := b
 unfold ltT keyT
 dsimp only
 have := Go.Proofs.ord_lt a b
 by_cases h : ord a b < 0
 · have h2 := this.1 h
   simp only [h, decide_true]
   symm
   simp only [decide_eq_true_eq]
   omega
 · have h2 := fun q => h (this.2 q)
   simp only [h, decide_false]
   symm
   simp only [decide_eq_false_iff_not]
   omega
theorem Try.ltT_c : Lt Try.prog 35 ltT := by
 intro a b bx
 refine Try.ctr35 fun hf => ?_
 have cO := Try.order_c a.1 b.1 bx
 simp only [tmV] at cO
 simp [go_sem, Try.C35, hf]
 refine callK_pure cO ?_
 simp [go_sem]
 exact ret_pure (by simp [go_sem]) ⟨by simp [go_sem, ltT], rfl⟩
theorem tw_all {α : Type} {p : α → Bool} : ∀ {l : List α}, (∀ x, x ∈ l → p x = true) → l.takeWhile p = l ∧ l.dropWhile p = []
 | [], _ => ⟨rfl, rfl⟩
 | x :: l, h => by
   have hx := h x (by simp)
   obtain ⟨h1, h2⟩ := tw_all (l := l) fun y hy => h y (List.mem_cons_of_mem _ hy)
   exact ⟨by rw [List.takeWhile_cons, if_pos hx, h1], by rw [List.dropWhile_cons, if_pos hx, h2]⟩
theorem push_end {x : Tb} (h : Qu bx bq g ltT next its D) (hl : its.length ≤ 4000) (hn : next < 1000000000000000) (hle : ∀ p, p ∈ its → ¬ ord x.1 p.2.1 < 0) : pushI ltT next its x = its ++ [(next, x)] ∧ pushN next its = next + 1 := by
 unfold pushI pushN
 rw [if_neg (by omega), if_neg (by omega)]
 refine ⟨?_, rfl⟩
 have hall : ∀ p, p ∈ its → bf ltT p (next, x) = true := fun p hp => by
   rw [bf_key ltT_key]
   have h1 := (h.range p hp).2
   have h2 := hle p hp
   have h3 := ltT_key x p.2
   unfold ltT at h3
   simp only [h2, decide_false] at h3
   have h4 := h3.symm
   simp only [decide_eq_false_iff_not] at h4
   show keyT p.2 < keyT x ∨ (keyT p.2 = keyT x ∧ p.1 < next)
   omega
 unfold ins
 obtain ⟨h1, h2⟩ := tw_all (p := fun p => bf ltT p (next, x)) hall
 rw [h1, h2]
end Go.Proofs.Tq

set_option linter.unusedSimpArgs false
set_option linter.unusedVariables false
set_option maxRecDepth 100000
namespace Go.Pl
open Go
theorem Sl.at {pr : Boxes} {e sz : Nat} {es : List V} {v : V} {B : Option Nat} (h : Sl pr e sz es v B) {b : Nat} (hb : B = some b) : v = .own b sz 0 es.length ∧ pr b = some (.row e sz es) := by
 rcases h with ⟨_, _, q⟩ | ⟨b2, q1, q2, q3⟩
 · rw [q] at hb; cases hb
 · rw [q3] at hb; injection hb with hb; subst hb; exact ⟨q1, q2⟩
theorem Sl.ne2 {pr : Boxes} {e e' sz sz' : Nat} {es es' : List V} {v v' : V} {B B' : Option Nat} (h : Sl pr e sz es v B) (h' : Sl pr e' sz' es' v' B') (hne : e ≠ e') {b : Nat} (hb : B = some b) : B' ≠ some b := by
 intro hb'
 have h1 := (h.at hb).2
 rw [(h'.at hb').2] at h1
 injection h1 with h1
 injection h1 with h1
 exact hne h1.symm
theorem app_pr2 {P : Program} {pr bxk : Boxes} {e sz : Nat} {es : List V} {v x y : V} {B : Option Nat} {t : TypeId} {dst : Option Tmp} {n : Nat} {sl : Nat → V} {K : St → Prop} (z : Value)
   (hx : Ext pr bxk) (hf : FinB bxk) (hv : Sl pr e sz es v B) (hk : knd P t = .slice e) (hsz : tsz P e = sz) (src : srcEls ⟨n, sl, bxk⟩ sz x = some [y]) (hz : tzero P e = some z) (hst : storable P e (ofValue z)) (hpos : 0 < sz)
   (hby : (es.length + 1) * tby P e ≤ 140737488355328) (hlen : es.length + 1 ≤ 9223372036854775807) (hd : dstOk ⟨n, sl, bxk⟩ dst)
   (hK : ∀ b' bx3 pr', Ext pr' bx3 → FinB bx3 → pr' b' = some (.row e sz (es ++ [y])) → (∀ c, pr c ≠ none → B ≠ some c → pr' c = pr c ∧ c ≠ b') → (∀ c, pr c = none → bxk c ≠ none → pr' c = none) → (bxk b' = none ∨ B = some b') → (∀ c, bxk c ≠ none → B ≠ some c → bx3 c = bxk c) → K (St.put ⟨n, sl, bx3⟩ dst (.own b' sz 0 (es.length + 1)))) : appendA P ⟨n, sl, bxk⟩ dst t v x K := by
 refine app_pr z hx hf hv hk hsz src hz hst hpos (by simpa using hby) (by simpa using hlen) hd (by simp) fun b' bx3 g1 g2 g3 g4 g5 => ?_
 rw [show (es ++ [y]).length = es.length + 1 by simp]
 have hBp : ∀ c, B = some c → pr c ≠ none := fun c hc => by rw [(hv.at hc).2]; simp
 refine hK b' bx3 _ g3 g4 (upd_eq _ _ _) (fun c hc hB => ?_) (fun c hc hl => ?_) g2 g5
 · have : c ≠ b' := fun e => by subst e; rw [clrB_ne hB] at g1; exact hc g1
   exact ⟨by rw [upd_ne _ _ this, clrB_ne hB], this⟩
 · have hB : B ≠ some c := fun e => hBp c e hc
   have : c ≠ b' := fun e => by
     subst e
     rcases g2 with g | g
     · exact hl g
     · exact hB g
   rw [upd_ne _ _ this, clrB_ne hB, hc]
end Go.Pl
namespace Go.Proofs
open Go Go.Pl Go.Ck Go.Hp Go.Proofs.Tq
structure TkC (bx pr bxk : Boxes) (b4 b9 : Nat) (a b : V) (S : List V) (vS : V) (BS : Option Nat) (T : List V) (vT : V) (BT : Option Nat) (F : List V) (vF : V) (BF : Option Nat) (E : List V) (vE : V) (BE : Option Nat) : Prop where
 e1 : Ext bx pr
 e2 : Ext pr bxk
 fin : FinB bxk
 h4 : pr b4 = some (.row 25 4 [.agg [.int .i64 0, .int .i64 0, .nils, .nils]])
 h9 : pr b9 = some (.row 25 4 [.agg [a, b, vT, vS]])
 sS : Sl pr 51 4 S vS BS
 sT : Sl pr 35 4 T vT BT
 sF : Sl pr 35 4 F vF BF
 sE : Sl pr 2 1 E vE BE
 nS : ∀ b, BS = some b → bx b = none
 nT : ∀ b, BT = some b → bx b = none
 nF : ∀ b, BF = some b → bx b = none
 nE : ∀ b, BE = some b → bx b = none
 n4 : bx b4 = none
 n9 : bx b9 = none
 d49 : b4 ≠ b9
 dTF : ∀ b, BT = some b → BF ≠ some b
section
variable {bx pr bxk : Boxes} {b4 b9 : Nat} {a b : V} {S T F E : List V} {vS vT vF vE : V} {BS BT BF BE : Option Nat}
theorem TkC.other (h : TkC bx pr bxk b4 b9 a b S vS BS T vT BT F vF BF E vE BE) {bx2 : Boxes} (e2 : Ext pr bx2) (hf : FinB bx2) : TkC bx pr bx2 b4 b9 a b S vS BS T vT BT F vF BF E vE BE :=
 { h with e2 := e2, fin := hf }
theorem TkC.new (h : TkC bx pr bxk b4 b9 a b S vS BS T vT BT F vF BF E vE BE) {c : Nat} (hc : bxk c = none) (x : Box) : TkC bx (upd pr c (some x)) (upd bxk c (some x)) b4 b9 a b S vS BS T vT BT F vF BF E vE BE := by
 have hp : pr c = none := h.e2.none hc
 have hne : ∀ {d : Nat}, pr d ≠ none → d ≠ c := fun hd e => hd (by rw [e]; exact hp)
 have hsl : ∀ {e sz : Nat} {es : List V} {v : V} {B : Option Nat}, Sl pr e sz es v B → Sl (upd pr c (some x)) e sz es v B := fun hs => hs.ext fun d hd => upd_ne _ _ (hne (by rw [(hs.at hd).2]; simp))
 exact { h with
   e1 := fun d hd => by rw [upd_ne _ _ (hne (by rw [h.e1 d hd]; exact hd))]; exact h.e1 d hd
   e2 := fun d hd => by
     by_cases e : d = c
     · rw [e, upd_eq, upd_eq]
     · rw [upd_ne _ _ e] at hd ⊢
       rw [upd_ne _ _ e]; exact h.e2 d hd
   fin := (finB_upd _ _ _).2 h.fin
   h4 := by rw [upd_ne _ _ (hne (by rw [h.h4]; simp))]; exact h.h4
   h9 := by rw [upd_ne _ _ (hne (by rw [h.h9]; simp))]; exact h.h9
   sS := hsl h.sS
   sT := hsl h.sT
   sF := hsl h.sF
   sE := hsl h.sE }
theorem TkC.put (h : TkC bx pr bxk b4 b9 a b S vS BS T vT BT F vF BF E vE BE) {c : Nat} (hc : bx c = none) (h4 : b4 ≠ c) (h9 : b9 ≠ c) (hS : BS ≠ some c) (hT : BT ≠ some c) (hF : BF ≠ some c) (hE : BE ≠ some c) (x : Box) : TkC bx (upd pr c (some x)) (upd bxk c (some x)) b4 b9 a b S vS BS T vT BT F vF BF E vE BE := by
 have hsl : ∀ {e sz : Nat} {es : List V} {v : V} {B : Option Nat}, Sl pr e sz es v B → B ≠ some c → Sl (upd pr c (some x)) e sz es v B := fun hs hB => hs.ext fun d hd => upd_ne _ _ fun e => hB (by rw [← e]; exact hd)
 exact { h with
   e1 := fun d hd => by rw [upd_ne _ _ fun e => hd (by rw [e]; exact hc)]; exact h.e1 d hd
   e2 := fun d hd => by
     by_cases e : d = c
     · rw [e, upd_eq, upd_eq]
     · rw [upd_ne _ _ e] at hd ⊢
       rw [upd_ne _ _ e]; exact h.e2 d hd
   fin := (finB_upd _ _ _).2 h.fin
   h4 := by rw [upd_ne _ _ h4]; exact h.h4
   h9 := by rw [upd_ne _ _ h9]; exact h.h9
   sS := hsl h.sS hS
   sT := hsl h.sT hT
   sF := hsl h.sF hF
   sE := hsl h.sE hE }
theorem TkC.putS (h : TkC bx pr bxk b4 b9 a b S vS BS T vT BT F vF BF E vE BE) {c : Nat} (hc : BS = some c) {S' : List V} (hl : S'.length = S.length) : TkC bx (upd pr c (some (.row 51 4 S'))) (upd bxk c (some (.row 51 4 S'))) b4 b9 a b S' vS BS T vT BT F vF BF E vE BE := by
 obtain ⟨hv, hp⟩ := h.sS.at hc
 have hsl : ∀ {e sz : Nat} {es : List V} {v : V} {B : Option Nat}, Sl pr e sz es v B → B ≠ some c → Sl (upd pr c (some (.row 51 4 S'))) e sz es v B := fun hs hB => hs.ext fun d hd => upd_ne _ _ fun e => hB (by rw [← e]; exact hd)
 have hb0 := h.nS c hc
 exact { h with
   e1 := fun d hd => by rw [upd_ne _ _ fun e => hd (by rw [e]; exact hb0)]; exact h.e1 d hd
   e2 := fun d hd => by
     by_cases e : d = c
     · rw [e, upd_eq, upd_eq]
     · rw [upd_ne _ _ e] at hd ⊢
       rw [upd_ne _ _ e]; exact h.e2 d hd
   fin := (finB_upd _ _ _).2 h.fin
   h4 := by rw [upd_ne _ _ fun e => by have := h.h4; rw [e, hp] at this; injection this with this; injection this with this; exact absurd this (by decide)]; exact h.h4
   h9 := by rw [upd_ne _ _ fun e => by have := h.h9; rw [e, hp] at this; injection this with this; injection this with this; exact absurd this (by decide)]; exact h.h9
   sS := .inr ⟨c, by rw [hl]; exact hv, upd_eq _ _ _, hc⟩
   sT := hsl h.sT (h.sS.ne2 h.sT (by decide) hc)
   sF := hsl h.sF (h.sS.ne2 h.sF (by decide) hc)
   sE := hsl h.sE (h.sS.ne2 h.sE (by decide) hc) }
theorem TkC.appF (h : TkC bx pr bxk b4 b9 a b S vS BS T vT BT F vF BF E vE BE) {P : Program} {x y : V} {t : TypeId} {dst : Option Tmp} {n : Nat} {sl : Nat → V} {K : St → Prop} (z : Value) (hk : knd P t = .slice 35) (hsz : tsz P 35 = 4) (src : srcEls ⟨n, sl, bxk⟩ 4 x = some [y]) (hz : tzero P 35 = some z) (hst : storable P 35 (ofValue z))
   (hby : (F.length + 1) * tby P 35 ≤ 140737488355328) (hlen : F.length + 1 ≤ 9223372036854775807) (hd : dstOk ⟨n, sl, bxk⟩ dst)
   (hK : ∀ b' bx3 pr', TkC bx pr' bx3 b4 b9 a b S vS BS T vT BT (F ++ [y]) (.own b' 4 0 (F.length + 1)) (some b') E vE BE → (∀ c, pr c ≠ none → BF ≠ some c → pr' c = pr c ∧ c ≠ b') → (∀ c, pr c = none → bxk c ≠ none → pr' c = none) → (∀ c, bxk c ≠ none → BF ≠ some c → bx3 c = bxk c) → K (St.put ⟨n, sl, bx3⟩ dst (.own b' 4 0 (F.length + 1)))) : appendA P ⟨n, sl, bxk⟩ dst t vF x K := by
 refine app_pr2 z h.e2 h.fin h.sF hk hsz src hz hst (by decide) hby hlen hd fun b' bx3 pr' g1 g2 g3 g4 g5 g6 g7 => hK b' bx3 pr' ?_ g4 g5 g7
 exact { h with
   e1 := fun d hd => by
     have hp : pr d ≠ none := by rw [h.e1 d hd]; exact hd
     rw [(g4 d hp fun e => hd (h.nF d e)).1]; exact h.e1 d hd
   e2 := g1
   fin := g2
   h4 := by rw [(g4 b4 (by rw [h.h4]; simp) (h.sF.ne h.h4 (by decide))).1]; exact h.h4
   h9 := by rw [(g4 b9 (by rw [h.h9]; simp) (h.sF.ne h.h9 (by decide))).1]; exact h.h9
   sS := h.sS.ext fun d hd => (g4 d (by rw [(h.sS.at hd).2]; simp) (h.sS.ne2 h.sF (by decide) hd)).1
   sT := h.sT.ext fun d hd => (g4 d (by rw [(h.sT.at hd).2]; simp) (h.dTF d hd)).1
   sF := .inr ⟨b', by simp, g3, rfl⟩
   sE := h.sE.ext fun d hd => (g4 d (by rw [(h.sE.at hd).2]; simp) (h.sE.ne2 h.sF (by decide) hd)).1
   nF := fun d hd => by
     injection hd with hd
     subst hd
     rcases g6 with g | g
     · exact (h.e1.trans h.e2).none g
     · exact h.nF _ g
   dTF := fun d hd e => by
     injection e with e
     exact (g4 d (by rw [(h.sT.at hd).2]; simp) (h.dTF d hd)).2 e.symm }
theorem TkC.appE (h : TkC bx pr bxk b4 b9 a b S vS BS T vT BT F vF BF E vE BE) {P : Program} {x y : V} {t : TypeId} {dst : Option Tmp} {n : Nat} {sl : Nat → V} {K : St → Prop} (z : Value) (hk : knd P t = .slice 2) (hsz : tsz P 2 = 1) (src : srcEls ⟨n, sl, bxk⟩ 1 x = some [y]) (hz : tzero P 2 = some z) (hst : storable P 2 (ofValue z))
   (hby : (E.length + 1) * tby P 2 ≤ 140737488355328) (hlen : E.length + 1 ≤ 9223372036854775807) (hd : dstOk ⟨n, sl, bxk⟩ dst)
   (hK : ∀ b' bx3 pr', TkC bx pr' bx3 b4 b9 a b S vS BS T vT BT F vF BF (E ++ [y]) (.own b' 1 0 (E.length + 1)) (some b') → (∀ c, pr c ≠ none → BE ≠ some c → pr' c = pr c ∧ c ≠ b') → (∀ c, pr c = none → bxk c ≠ none → pr' c = none) → (∀ c, bxk c ≠ none → BE ≠ some c → bx3 c = bxk c) → K (St.put ⟨n, sl, bx3⟩ dst (.own b' 1 0 (E.length + 1)))) : appendA P ⟨n, sl, bxk⟩ dst t vE x K := by
 refine app_pr2 z h.e2 h.fin h.sE hk hsz src hz hst (by decide) hby hlen hd fun b' bx3 pr' g1 g2 g3 g4 g5 g6 g7 => hK b' bx3 pr' ?_ g4 g5 g7
 exact { h with
   e1 := fun d hd => by
     have hp : pr d ≠ none := by rw [h.e1 d hd]; exact hd
     rw [(g4 d hp fun e => hd (h.nE d e)).1]; exact h.e1 d hd
   e2 := g1
   fin := g2
   h4 := by rw [(g4 b4 (by rw [h.h4]; simp) (h.sE.ne h.h4 (by decide))).1]; exact h.h4
   h9 := by rw [(g4 b9 (by rw [h.h9]; simp) (h.sE.ne h.h9 (by decide))).1]; exact h.h9
   sS := h.sS.ext fun d hd => (g4 d (by rw [(h.sS.at hd).2]; simp) (h.sS.ne2 h.sE (by decide) hd)).1
   sT := h.sT.ext fun d hd => (g4 d (by rw [(h.sT.at hd).2]; simp) (h.sT.ne2 h.sE (by decide) hd)).1
   sF := h.sF.ext fun d hd => (g4 d (by rw [(h.sF.at hd).2]; simp) (h.sF.ne2 h.sE (by decide) hd)).1
   sE := .inr ⟨b', by simp, g3, rfl⟩
   nE := fun d hd => by
     injection hd with hd
     subst hd
     rcases g6 with g | g
     · exact (h.e1.trans h.e2).none g
     · exact h.nE _ g }
end
end Go.Proofs

set_option linter.unusedSimpArgs false
set_option linter.unusedVariables false
set_option maxRecDepth 100000
namespace Go.Ck
open Go Go.Pl
def firT (to : Int) (l : List Tm) : List Tm := l.filter fun x => decide (x.at_ ≤ to)
def kepT (to : Int) (l : List Tm) : List Tm := l.filter fun x => decide (to < x.at_)
def endS (to : Int) (x : Sc) : Sc := if x.why = 0 ∧ x.dl ≤ to then { x with why := 2 } else x
def endI (to : Int) (l : List Sc) : List Int := (l.filter fun x => decide (x.why = 0) && decide (x.dl ≤ to)).map (·.id)
def tikE (s : Ck) (e to : Int) : Int := if e ≠ 0 then e else if to < s.now ∨ 1000000000000 < to then 7 else 0
def tikS (s : Ck) (to : Int) : Ck := ⟨to, s.next, kepT to s.ts, s.scs.map (endS to)⟩
def tikR (s : Ck) (e to : Int) : V := if tikE s e to = 0 then .tup [ckV (tikS s to), .sl 4 ((firT to s.ts).map tmV), .sl 1 ((endI to s.scs).map (.int .i64)), .int .i64 0] else .tup [ckV s, .sl 4 [], .sl 1 [], .int .i64 (tikE s e to)]
theorem filt_succ {α : Type} {p : α → Bool} {l : List α} {k : Nat} (hk : k < l.length) : (l.take (k + 1)).filter p = (l.take k).filter p ++ if p l[k] = true then [l[k]] else [] := by
 rw [List.take_succ_eq_append_getElem hk, List.filter_append]
 congr 1
 by_cases h : p l[k] = true
 · simp [h]
 · simp [h]
end Go.Ck
namespace Go.Proofs
open Go Go.Pl Go.Ck Go.Hp Go.Proofs.Tq
structure Tk0 (bx bxk : Boxes) (b4 b9 bq : Nat) (vS : V) (BS : Option Nat) (S : List V) (next to : Int) (vT : V) (T : List V) (F : List Tm) : Prop where
 ex : ∃ pr BT nx its D, Ext bx pr ∧ Ext pr bxk ∧ FinB bxk ∧ pr b4 = some (.row 25 4 [.agg [.int .i64 0, .int .i64 0, .nils, .nils]]) ∧ pr b9 = some (.row 25 4 [.agg [.int .i64 to, .int .i64 next, vT, vS]]) ∧
   Sl pr 51 4 S vS BS ∧ Sl pr 35 4 T vT BT ∧ (∀ b, BT = some b → bx b = none) ∧ Qu bxk bq 35 ltT nx its D ∧ (∀ b, D b → pr b = none) ∧ nx = (its.length : Int) + 1 ∧ its.map (·.2.1) = F
theorem Tk0.known {bx bxk : Boxes} {b4 b9 bq : Nat} {vS vT : V} {BS : Option Nat} {S T : List V} {next to : Int} {F : List Tm} (h : Tk0 bx bxk b4 b9 bq vS BS S next to vT T F) :
   FinB bxk ∧ bxk b9 = some (.row 25 4 [.agg [.int .i64 to, .int .i64 next, vT, vS]]) ∧ vT.liveB = true ∧ vT.strip = vT ∧ vT.cells = [vT] ∧ Go.Pl.okV vT = true := by
 obtain ⟨pr, BT, nx, its, D, h1, h2, h3, h4, h5, h6, h7, _⟩ := h.ex
 exact ⟨h3, (h2 b9 (by rw [h5]; simp)).trans h5, h7.live, h7.strip, h7.cells, h7.okV⟩
theorem Try.tk_app {P : Program} {bx bxk : Boxes} {b4 b9 bq : Nat} {vS vT x : V} {BS : Option Nat} {S T : List V} {next to : Int} {F : List Tm} (h : Tk0 bx bxk b4 b9 bq vS BS S next to vT T F) (hb9 : bx b9 = none) (n49 : b4 ≠ b9)
   {y : V} {t : TypeId} {dst : Option Tmp} {n : Nat} {sl : Nat → V} {K : St → Prop} (z : Value) (hk : knd P t = .slice 35) (hsz : tsz P 35 = 4) (src : srcEls ⟨n, sl, bxk⟩ 4 x = some [y]) (hz : tzero P 35 = some z) (hst : storable P 35 (ofValue z))
   (hby : (T.length + 1) * tby P 35 ≤ 140737488355328) (hlen : T.length + 1 ≤ 9223372036854775807) (hd : dstOk ⟨n, sl, bxk⟩ dst)
   (hK : ∀ b' bx3, FinB bx3 → bx3 b9 = some (.row 25 4 [.agg [.int .i64 to, .int .i64 next, vT, vS]]) → Tk0 bx (upd bx3 b9 (some (.row 25 4 [.agg [.int .i64 to, .int .i64 next, .own b' 4 0 (T.length + 1), vS]]))) b4 b9 bq vS BS S next to (.own b' 4 0 (T.length + 1)) (T ++ [y]) F → K (St.put ⟨n, sl, bx3⟩ dst (.own b' 4 0 (T.length + 1)))) : appendA P ⟨n, sl, bxk⟩ dst t vT x K := by
 obtain ⟨pr, BT, nx, its, D, h1, h2, h3, h4, h5, h6, h7, h8, h9, h10, h11, h12⟩ := h.ex
 have t9 : BT ≠ some b9 := h7.ne h5 (by decide)
 have t4 : BT ≠ some b4 := h7.ne h4 (by decide)
 refine app_pr z h2 h3 h7 hk hsz src hz hst (by decide) (by simpa using hby) (by simpa using hlen) hd (by simp) fun b' bx3 g1 g2 g3 g4 g5 => ?_
 have hlive : ∀ c, pr c ≠ none → BT ≠ some c → c ≠ b' := fun c hc hB e => by
   subst e; rw [clrB_ne hB] at g1; exact hc g1
 have e9 : b9 ≠ b' := hlive b9 (by rw [h5]; simp) t9
 have e4 : b4 ≠ b' := hlive b4 (by rw [h4]; simp) t4
 have hb' : bx b' = none := by
   rcases g2 with g | g
   · exact (h1.trans h2).none g
   · exact h8 b' g
 have y9 : bx3 b9 = pr b9 := by
   rw [g3 b9 (by rw [upd_ne _ _ e9, clrB_ne t9, h5]; simp), upd_ne _ _ e9, clrB_ne t9]
 rw [show (T ++ [y]).length = T.length + 1 by simp]
 refine hK b' bx3 g4 (y9.trans h5) ⟨upd (upd (clrB pr BT) b' (some (.row 35 4 (T ++ [y])))) b9 (some (.row 25 4 [.agg [.int .i64 to, .int .i64 next, .own b' 4 0 (T.length + 1), vS]])), some b', nx, its, D, ?_, ?_, (finB_upd _ _ _).2 g4, ?_, upd_eq _ _ _, ?_, ?_, ?_, ?_, ?_, h11, h12⟩
 · intro c hc
   rw [upd_ne _ _ (fun e => hc (by rw [e]; exact hb9)), upd_ne _ _ (fun e => hc (by rw [e]; exact hb')), clrB_ne (fun e => hc (h8 c e))]
   exact h1 c hc
 · intro c hc
   by_cases e : c = b9
   · rw [e, upd_eq, upd_eq]
   · rw [upd_ne _ _ e] at hc
     rw [upd_ne _ _ e, upd_ne _ _ e]
     exact g3 c hc
 · rw [upd_ne _ _ n49, upd_ne _ _ e4, clrB_ne t4, h4]
 · refine h6.ext fun b hB => ?_
   have hne : pr b ≠ none := by
     rcases h6 with ⟨_, _, q⟩ | ⟨b2, _, q2, q3⟩
     · rw [q] at hB; cases hB
     · rw [q3] at hB; injection hB with hB; subst hB; rw [q2]; simp
   have hn9 : b ≠ b9 := fun e => h6.ne (c := b) (by rw [e]; exact h5) (by decide) hB
   have hTb : BT ≠ some b := by
     rcases h6 with ⟨_, _, q⟩ | ⟨b2, _, q2, q3⟩
     · rw [q] at hB; cases hB
     · rw [q3] at hB; injection hB with hB; subst hB
       exact h7.ne q2 (by decide)
   rw [upd_ne _ _ hn9, upd_ne _ _ (hlive b hne hTb), clrB_ne hTb]
 · exact .inr ⟨b', by simp, by rw [upd_ne _ _ e9.symm, upd_eq], rfl⟩
 · intro b hB; injection hB with hB; subst hB; exact hb'
 · refine h9.same (fun b hb => ?_) ((finB_upd _ _ _).2 g4)
   have p0 := h10 b hb
   have hn9 : b ≠ b9 := fun e => by rw [e, h5] at p0; cases p0
   rw [upd_ne _ _ hn9]
   refine g5 b (h9.live b hb) fun e => ?_
   rcases h7 with ⟨_, _, q⟩ | ⟨b2, _, q2, q3⟩
   · rw [q] at e; cases e
   · rw [q3] at e; injection e with e; subst e; rw [q2] at p0; cases p0
 · intro b hb
   have p0 := h10 b hb
   have hn9 : b ≠ b9 := fun e => by rw [e, h5] at p0; cases p0
   have hTb : BT ≠ some b := fun e => by
     rcases h7 with ⟨_, _, q⟩ | ⟨b2, _, q2, q3⟩
     · rw [q] at e; cases e
     · rw [q3] at e; injection e with e; subst e; rw [q2] at p0; cases p0
   have hnb : b ≠ b' := fun e => by
     subst e
     rcases g2 with g | g
     · exact h9.live b hb g
     · exact hTb g
   rw [upd_ne _ _ hn9, upd_ne _ _ hnb, clrB_ne hTb, p0]
theorem Try.tk_push {bx bxk : Boxes} {b4 b9 bq : Nat} {vS vT : V} {BS : Option Nat} {S T : List V} {next to : Int} {F : List Tm} (h : Tk0 bx bxk b4 b9 bq vS BS S next to vT T F) (x : Tb) (hF : ∀ y, y ∈ F → ¬ ord x.1 y < 0) (hl : F.length ≤ 4000) :
   AbsCall Try.prog 37 [.ptr bq 4 0 0, vV x] bxk fun r bx' => r = .tup [.int .i64 ((F.length : Int) + 1), .int .i64 0] ∧ Tk0 bx bx' b4 b9 bq vS BS S next to vT T (F ++ [x.1]) := by
 obtain ⟨pr, BT, nx, its, D, h1, h2, h3, h4, h5, h6, h7, h8, h9, h10, rfl, rfl⟩ := h.ex
 rw [List.length_map] at hl
 obtain ⟨p1, p2⟩ := push_end (x := x) h9 hl (by omega) fun p hp => hF _ (List.mem_map.2 ⟨p, hp, rfl⟩)
 refine (Try.Push_q ltT_key Try.ltT_c h9 x).mono ?_
 rintro r bx2 ⟨rfl, D2, g1, g2⟩
 rw [p1, p2] at g1
 refine ⟨by unfold pushR; rw [if_neg (by omega), List.length_map], pr, BT, _, _, D2, h1, fun c hc => ?_, g1.fin, h4, h5, h6, h7, h8, g1, fun b hb => ?_, by simp, by simp⟩
 · rw [g2.1 c (by rw [h2 c hc]; exact hc) fun e => hc (h10 c e)]
   exact h2 c hc
 · rcases g2.2 b hb with e | e
   · exact h10 b e
   · exact h2.none e
end Go.Proofs

set_option linter.unusedSimpArgs false
set_option linter.unusedVariables false
set_option maxRecDepth 100000
namespace Go.Proofs
open Go Go.Pl Go.Ck Go.Hp Go.Proofs.Tq
structure TkQ (bx bxk : Boxes) (b4 b9 bq : Nat) (a b : V) (S : List V) (vS : V) (BS : Option Nat) (T : List V) (vT : V) (F : List V) (vF : V) (R : List Tm) (c15 : Option (Nat × V)) : Prop where
 ex : ∃ pr BT BF its D nx, TkC bx pr bxk b4 b9 a b S vS BS T vT BT F vF BF [] .nils none ∧ Qu bxk bq 35 ltT nx its D ∧ (∀ c, D c → pr c = none) ∧ its.map (·.2.1) = R ∧ ∀ p, c15 = some p → pr p.1 = some (.row 35 4 [p.2]) ∧ BT ≠ some p.1 ∧ BF ≠ some p.1 ∧ bx p.1 = none
structure Tk2 (bx bxk : Boxes) (b4 b9 : Nat) (a b : V) (S : List V) (vS : V) (BS : Option Nat) (T : List V) (vT : V) (F : List V) (vF : V) (E : List V) (vE : V) : Prop where
 ex : ∃ pr BT BF BE, TkC bx pr bxk b4 b9 a b S vS BS T vT BT F vF BF E vE BE
section
variable {bx bxk : Boxes} {b4 b9 bq : Nat} {a b : V} {S T F E : List V} {vS vT vF vE : V} {BS : Option Nat} {R : List Tm} {c15 : Option (Nat × V)}
theorem TkQ.of0 {next to : Int} {F0 : List Tm} (h : Tk0 bx bxk b4 b9 bq vS BS S next to vT T F0) (hS : ∀ b, BS = some b → bx b = none) (h4 : bx b4 = none) (h9 : bx b9 = none) (d : b4 ≠ b9) : TkQ bx bxk b4 b9 bq (.int .i64 to) (.int .i64 next) S vS BS T vT [] .nils F0 none := by
 obtain ⟨pr, BT, nx, its, D, h1, h2, h3, h4', h5, h6, h7, h8, h9', h10, h11, h12⟩ := h.ex
 exact ⟨pr, BT, none, its, D, nx, ⟨h1, h2, h3, h4', h5, h6, h7, Sl.nil, Sl.nil, hS, h8, (fun b h => by cases h), (fun b h => by cases h), h4, h9, d, fun b _ => by simp⟩, h9', h10, h12, fun p hp => by cases hp⟩
theorem TkQ.known (h : TkQ bx bxk b4 b9 bq a b S vS BS T vT F vF R c15) : FinB bxk ∧ vF.liveB = true ∧ vF.strip = vF ∧ vF.cells = [vF] ∧ Go.Pl.okV vF = true ∧ ∀ p, c15 = some p → bxk p.1 = some (.row 35 4 [p.2]) := by
 obtain ⟨pr, BT, BF, its, D, nx, h1, h2, h3, h4, h5⟩ := h.ex
 exact ⟨h1.fin, h1.sF.live, h1.sF.strip, h1.sF.cells, h1.sF.okV, fun p hp => (h1.e2 p.1 (by rw [(h5 p hp).1]; simp)).trans (h5 p hp).1⟩
theorem TkQ.new (h : TkQ bx bxk b4 b9 bq a b S vS BS T vT F vF R c15) {c : Nat} (hc : bxk c = none) (v : V) : TkQ bx (upd bxk c (some (.row 35 4 [v]))) b4 b9 bq a b S vS BS T vT F vF R (some (c, v)) := by
 obtain ⟨pr, BT, BF, its, D, nx, h1, h2, h3, h4, h5⟩ := h.ex
 have hn : ∀ {es : List V} {v : V} {B : Option Nat}, Sl pr 35 4 es v B → B ≠ some c := fun hs e => by
   have := (hs.at e).2
   rw [h1.e2.none hc] at this; cases this
 refine ⟨_, BT, BF, its, D, nx, h1.new hc _, h2.same (fun d hd => upd_ne _ _ fun e => h2.live d hd (by rw [e]; exact hc)) ((finB_upd _ _ _).2 h1.fin), fun d hd => ?_, h4, fun p hp => ?_⟩
 · rw [upd_ne _ _ fun e => h2.live d hd (by rw [e]; exact hc)]; exact h3 d hd
 · injection hp with hp; subst hp
   exact ⟨upd_eq _ _ _, hn h1.sT, hn h1.sF, (h1.e1.trans h1.e2).none hc⟩
theorem TkQ.set {c : Nat} {v : V} (h : TkQ bx bxk b4 b9 bq a b S vS BS T vT F vF R (some (c, v))) (v' : V) : TkQ bx (upd bxk c (some (.row 35 4 [v']))) b4 b9 bq a b S vS BS T vT F vF R (some (c, v')) := by
 obtain ⟨pr, BT, BF, its, D, nx, h1, h2, h3, h4, h5⟩ := h.ex
 obtain ⟨g1, g2, g3, g4⟩ := h5 _ rfl
 have ty : ∀ {d ty sz : Nat} {es : List V}, pr d = some (.row ty sz es) → ty ≠ 35 → d ≠ c := fun hd hne e => by
   rw [e, g1] at hd; injection hd with hd; injection hd with hd; exact hne hd.symm
 refine ⟨_, BT, BF, its, D, nx, h1.put g4 (ty h1.h4 (by decide)) (ty h1.h9 (by decide)) (h1.sS.ne g1 (by decide)) g2 g3 (by simp) _, h2.same (fun d hd => upd_ne _ _ fun e => ?_) ((finB_upd _ _ _).2 h1.fin), fun d hd => ?_, h4, fun p hp => ?_⟩
 · have := h3 d hd; rw [e, g1] at this; cases this
 · rw [upd_ne _ _ fun e => ?_]
   · exact h3 d hd
   · have := h3 d hd; rw [e, g1] at this; cases this
 · injection hp with hp; subst hp
   exact ⟨upd_eq _ _ _, g2, g3, g4⟩
theorem Try.tkq_pop (h : TkQ bx bxk b4 b9 bq a b S vS BS T vT F vF R c15) :
   AbsCall Try.prog 38 [.ptr bq 4 0 0] bxk fun r bx' => (∃ h : Int, r = .tup [.int .i64 h, tmV (R.getD 0 ⟨0, 0, 0, 0⟩), .int .i64 (if R = [] then 4 else 0)]) ∧ TkQ bx bx' b4 b9 bq a b S vS BS T vT F vF R.tail c15 := by
 obtain ⟨pr, BT, BF, its, D, nx, h1, h2, h3, rfl, h5⟩ := h.ex
 refine (Try.Pop_q ltT_key Try.ltT_c h2).mono ?_
 rintro r bx2 ⟨rfl, D2, g1, g2⟩
 refine ⟨?_, pr, BT, BF, _, D2, nx, h1.other (fun c hc => ?_) g1.fin, g1, fun c hc => ?_, by simp, h5⟩
 · cases its with
   | nil => exact ⟨0, rfl⟩
   | cons p l => exact ⟨p.1, rfl⟩
 · rw [g2.1 c (by rw [h1.e2 c hc]; exact hc) fun e => hc (h3 c e)]
   exact h1.e2 c hc
 · rcases g2.2 c hc with e | e
   · exact h3 c e
   · exact h1.e2.none e
theorem TkQ.app (h : TkQ bx bxk b4 b9 bq a b S vS BS T vT F vF R c15) {P : Program} {x y : V} {t : TypeId} {dst : Option Tmp} {n : Nat} {sl : Nat → V} {K : St → Prop} (z : Value) (hk : knd P t = .slice 35) (hsz : tsz P 35 = 4) (src : srcEls ⟨n, sl, bxk⟩ 4 x = some [y]) (hz : tzero P 35 = some z) (hst : storable P 35 (ofValue z))
   (hby : (F.length + 1) * tby P 35 ≤ 140737488355328) (hlen : F.length + 1 ≤ 9223372036854775807) (hd : dstOk ⟨n, sl, bxk⟩ dst)
   (hK : ∀ b' bx3, TkQ bx bx3 b4 b9 bq a b S vS BS T vT (F ++ [y]) (.own b' 4 0 (F.length + 1)) R c15 → K (St.put ⟨n, sl, bx3⟩ dst (.own b' 4 0 (F.length + 1)))) : appendA P ⟨n, sl, bxk⟩ dst t vF x K := by
 obtain ⟨pr, BT, BF, its, D, nx, h1, h2, h3, h4, h5⟩ := h.ex
 refine h1.appF z hk hsz src hz hst hby hlen hd fun b' bx3 pr' g1 g2 g3 g4 => hK b' bx3 ⟨pr', BT, some b', its, D, nx, g1, h2.same (fun d hd => g4 d (h2.live d hd) fun e => ?_) g1.fin, fun d hd => g3 d (h3 d hd) (h2.live d hd), h4, fun p hp => ?_⟩
 · have := h3 d hd; rw [(h1.sF.at e).2] at this; cases this
 · obtain ⟨q1, q2, q3, q4⟩ := h5 p hp
   obtain ⟨q5, q6⟩ := g2 p.1 (by rw [q1]; simp) q3
   exact ⟨by rw [q5]; exact q1, q2, fun e => q6 (by injection e with e; exact e.symm), q4⟩
theorem TkQ.to2 (h : TkQ bx bxk b4 b9 bq a b S vS BS T vT F vF R c15) : Tk2 bx bxk b4 b9 a b S vS BS T vT F vF [] .nils := by
 obtain ⟨pr, BT, BF, its, D, nx, h1, h2, h3, h4, h5⟩ := h.ex
 exact ⟨pr, BT, BF, none, h1⟩
end
end Go.Proofs

set_option linter.unusedSimpArgs false
set_option linter.unusedVariables false
set_option maxRecDepth 100000
namespace Go.Proofs
open Go Go.Pl Go.Ck Go.Hp Go.Proofs.Tq
section
variable {bx bxk : Boxes} {b4 b9 bq : Nat} {a b : V} {S T F E : List V} {vS vT vF vE : V} {BS : Option Nat}
theorem Tk2.known (h : Tk2 bx bxk b4 b9 a b S vS BS T vT F vF E vE) : FinB bxk ∧ bxk b9 = some (.row 25 4 [.agg [a, b, vT, vS]]) ∧ bxk b4 = some (.row 25 4 [.agg [.int .i64 0, .int .i64 0, .nils, .nils]]) ∧ b4 ≠ b9 ∧ (vE.liveB = true ∧ vE.strip = vE ∧ vE.cells = [vE] ∧ Go.Pl.okV vE = true) ∧ ((S = [] ∧ vS = .nils ∧ BS = none) ∨ ∃ c, vS = .own c 4 0 S.length ∧ BS = some c) ∧ ∀ c, BS = some c → bxk c = some (.row 51 4 S) := by
 obtain ⟨pr, BT, BF, BE, h1⟩ := h.ex
 refine ⟨h1.fin, (h1.e2 b9 (by rw [h1.h9]; simp)).trans h1.h9, (h1.e2 b4 (by rw [h1.h4]; simp)).trans h1.h4, h1.d49, ⟨h1.sE.live, h1.sE.strip, h1.sE.cells, h1.sE.okV⟩, ?_, fun c hc => ?_⟩
 · rcases h1.sS with q | ⟨c, q1, q2, q3⟩
   · exact .inl q
   · exact .inr ⟨c, q1, q3⟩
 · have := (h1.sS.at hc).2
   exact (h1.e2 c (by rw [this]; simp)).trans this
theorem Tk2.live (h : Tk2 bx bxk b4 b9 a b S vS BS T vT F vF E vE) : (vT.liveB = true ∧ vT.strip = vT ∧ vT.cells = [vT] ∧ Go.Pl.okV vT = true) ∧ (vS.liveB = true ∧ vS.strip = vS ∧ vS.cells = [vS] ∧ Go.Pl.okV vS = true) ∧ (vF.liveB = true ∧ vF.strip = vF ∧ vF.cells = [vF] ∧ Go.Pl.okV vF = true) := by
 obtain ⟨pr, BT, BF, BE, h1⟩ := h.ex
 exact ⟨⟨h1.sT.live, h1.sT.strip, h1.sT.cells, h1.sT.okV⟩, ⟨h1.sS.live, h1.sS.strip, h1.sS.cells, h1.sS.okV⟩, ⟨h1.sF.live, h1.sF.strip, h1.sF.cells, h1.sF.okV⟩⟩
theorem Tk2.putS (h : Tk2 bx bxk b4 b9 a b S vS BS T vT F vF E vE) {c : Nat} (hc : BS = some c) {S' : List V} (hl : S'.length = S.length) : Tk2 bx (upd bxk c (some (.row 51 4 S'))) b4 b9 a b S' vS BS T vT F vF E vE := by
 obtain ⟨pr, BT, BF, BE, h1⟩ := h.ex
 exact ⟨_, BT, BF, BE, h1.putS hc hl⟩
theorem Tk2.app (h : Tk2 bx bxk b4 b9 a b S vS BS T vT F vF E vE) {P : Program} {x y : V} {t : TypeId} {dst : Option Tmp} {n : Nat} {sl : Nat → V} {K : St → Prop} (z : Value) (hk : knd P t = .slice 2) (hsz : tsz P 2 = 1) (src : srcEls ⟨n, sl, bxk⟩ 1 x = some [y]) (hz : tzero P 2 = some z) (hst : storable P 2 (ofValue z))
   (hby : (E.length + 1) * tby P 2 ≤ 140737488355328) (hlen : E.length + 1 ≤ 9223372036854775807) (hd : dstOk ⟨n, sl, bxk⟩ dst)
   (hK : ∀ b' bx3, Tk2 bx bx3 b4 b9 a b S vS BS T vT F vF (E ++ [y]) (.own b' 1 0 (E.length + 1)) → K (St.put ⟨n, sl, bx3⟩ dst (.own b' 1 0 (E.length + 1)))) : appendA P ⟨n, sl, bxk⟩ dst t vE x K := by
 obtain ⟨pr, BT, BF, BE, h1⟩ := h.ex
 exact h1.appE z hk hsz src hz hst hby hlen hd fun b' bx3 pr' g1 _ _ _ => hK b' bx3 ⟨pr', BT, BF, some b', g1⟩
theorem Tk2.frz (h : Tk2 bx bxk b4 b9 a b S vS BS T vT F vF E vE) (hF : ∀ y, y ∈ F → ∃ t, y = tmV t) (hE : ∀ y, y ∈ E → ∃ n, y = .int .i64 n) (x : Option Box) : Wk (Go.Pl.frz (upd bxk b4 x) bx 1 vT) (.sl 4 T) ∧ Wk (Go.Pl.frz (upd bxk b4 x) bx 1 vS) (.sl 4 S) ∧ Wk (Go.Pl.frz (upd bxk b4 x) bx 2 vF) (.sl 4 F) ∧ Wk (Go.Pl.frz (upd bxk b4 x) bx 2 vE) (.sl 1 E) ∧ Ext bx (upd bxk b4 x) := by
 obtain ⟨pr, BT, BF, BE, h1⟩ := h.ex
 have g : ∀ {e sz : Nat} {es : List V} {v : V} {B : Option Nat} (d : Nat), Sl pr e sz es v B → (∀ b, B = some b → bx b = none) → e ≠ 25 → 0 < sz → (∀ y, y ∈ es → Go.Pl.frz (upd bxk b4 x) bx d y = y) → Wk (Go.Pl.frz (upd bxk b4 x) bx (d + 1) v) (.sl sz es) := fun {e sz es v B} d hs hn hne hsz hes => by
   rcases hs with ⟨rfl, rfl, _⟩ | ⟨c, rfl, h2, h3⟩
   · exact wk_nils sz
   · have hc4 : c ≠ b4 := fun e2 => by rw [e2, h1.h4] at h2; injection h2 with h2; injection h2 with h2; exact hne h2.symm
     rw [frz_own (by rw [upd_ne _ _ hc4]; exact (h1.e2 c (by rw [h2]; simp)).trans h2) (hn c h3) hsz rfl]
     rw [List.map_congr_left (g := id) (fun y hy => hes y hy)]
     simp only [List.map_id]
     exact Wk.refl _
 refine ⟨g 0 h1.sT h1.nT (by decide) (by decide) fun y _ => frz_0 _ _ _, g 0 h1.sS h1.nS (by decide) (by decide) fun y _ => frz_0 _ _ _, ?_, ?_, (h1.e1.trans h1.e2).upd_own h1.n4 _⟩
 · refine g 1 h1.sF h1.nF (by decide) (by decide) fun y hy => ?_
   obtain ⟨t, rfl⟩ := hF y hy
   simp [go_sem, tmV]
 · refine g 1 h1.sE h1.nE (by decide) (by decide) fun y hy => ?_
   obtain ⟨t, rfl⟩ := hE y hy
   simp [go_sem]
end
end Go.Proofs

set_option linter.unusedSimpArgs false
set_option linter.unusedVariables false
set_option maxRecDepth 100000
namespace Go.Pl
open Go
theorem wk_tup4 {a b c d a' b' c' d' : V} (h1 : Wk a a') (h2 : Wk b b') (h3 : Wk c c') (h4 : Wk d d') : Wk (.tup [a, b, c, d]) (.tup [a', b', c', d']) := wk_tupL rfl fun i x y hx hy => by
 rcases i with _ | _ | _ | _ | i
 · simp at hx hy; subst hx hy; exact h1
 · simp at hx hy; subst hx hy; exact h2
 · simp at hx hy; subst hx hy; exact h3
 · simp at hx hy; subst hx hy; exact h4
 · simp at hx
theorem wk_agg4 {a b c d a' b' c' d' : V} (h1 : Wk a a') (h2 : Wk b b') (h3 : Wk c c') (h4 : Wk d d') : Wk (.agg [a, b, c, d]) (.agg [a', b', c', d']) := wk_aggL rfl fun i x y hx hy => by
 rcases i with _ | _ | _ | _ | i
 · simp at hx hy; subst hx hy; exact h1
 · simp at hx hy; subst hx hy; exact h2
 · simp at hx hy; subst hx hy; exact h3
 · simp at hx hy; subst hx hy; exact h4
 · simp at hx
end Go.Pl
namespace Go.Ck
open Go Go.Pl
theorem mapat (f : Sc → Sc) {l : List Sc} {k : Nat} (hk : k < l.length) : (((l.take k).map f ++ l.drop k).map scV)[k]? = some (scV l[k]) := by
 rw [List.getElem?_map, List.getElem?_append_right (by simp; omega)]
 simp [Nat.min_eq_left (Nat.le_of_lt hk), hk]
theorem mapset (f : Sc → Sc) {l : List Sc} {k : Nat} (hk : k < l.length) : (((l.take k).map f ++ l.drop k).map scV).set k (scV (f l[k])) = ((l.take (k + 1)).map f ++ l.drop (k + 1)).map scV := by
 rw [List.take_succ_eq_append_getElem hk, List.drop_eq_getElem_cons hk, List.map_append, List.set_append_right _ _ (by simp; omega)]
 have hz : k - (List.map scV (List.map f (List.take k l))).length = 0 := by simp; omega
 rw [hz, List.map_cons, List.set_cons_zero, List.map_append, List.map_append, List.map_append, List.append_assoc]
 rfl
theorem endI_succ (to : Int) {l : List Sc} {k : Nat} (hk : k < l.length) : endI to (l.take (k + 1)) = endI to (l.take k) ++ if l[k].why = 0 ∧ l[k].dl ≤ to then [l[k].id] else [] := by
 unfold endI
 rw [filt_succ hk, List.map_append]
 congr 1
 by_cases h : l[k].why = 0 ∧ l[k].dl ≤ to
 · rw [if_pos h, if_pos (by simp [h.1, h.2])]; rfl
 · rw [if_neg h, if_neg (by simpa using h)]; rfl
end Go.Ck
namespace Go.Proofs
open Go Go.Pl Go.Ck Go.Hp Go.Proofs.Tq
theorem Try.Tick_c (s : Ck) (e : Int) (he : Chk s e) (to : Int) (bx : Boxes) : PureCall Try.prog 12 [ckV s, .int .i64 to] bx (tikR s e to) := by
 refine PureCall.wk (Try.ctr12 fun hf => ?_)
 have cC := fun bx => Try.Check_c s e he bx
 simp only [ckV] at cC ⊢
 simp [go_sem, Try.C12, hf]
 intro b4 hb4
 refine callK_pure (cC _) ?_
 have bad : ∀ q, tikE s e to = q → q ≠ 0 → ∀ sv, sv = ckV s → Wk (.tup [sv, .nils, .nils, .int .i64 q]) (tikR s e to) := fun q h1 h2 sv hsv => by
   unfold tikR; rw [h1, if_neg h2, hsv]
   exact wk_tupL rfl fun i c d hc hd => by
     rcases i with _ | _ | _ | _ | i
     · simp at hc hd; subst hc hd; exact Wk.refl _
     · simp at hc hd; subst hc hd; exact wk_nils 4
     · simp at hc hd; subst hc hd; exact wk_nils 1
     · simp at hc hd; subst hc hd; exact Wk.refl _
     · simp at hc
 by_cases h0 : e = 0
 · subst h0
   have ho := he.ok
   simp [go_sem, hf]
   refine callK_pure (Try.within_c _ _ _ _) ?_
   simp [go_sem, hf]
   refine ⟨fun c => ?_, fun c1 c2 b9 hb9 => ?_⟩
   · refine ret_drop (by simp [go_sem]) (by repeat first | exact Ext.refl _ | refine Ext.upd_own ?_ (by assumption) _) ⟨?_, rfl⟩
     simp [go_sem, upd_eq]
     exact bad 7 (by unfold tikE; rw [if_neg (by simp), if_pos (by omega)]) (by decide) _ (by simp [ckV])
   refine callK_bx fun bxx hbx => ?_
   have n49 : b4 ≠ b9 := fun e => by rw [e, upd_eq] at hb9; cases hb9
   have hb9' : bx b9 = none := by rw [upd_ne _ _ n49.symm] at hb9; exact hb9
   have x4 : bxx b4 = some (.row 25 4 [.agg [.int .i64 0, .int .i64 0, .nils, .nils]]) := by rw [hbx]; simp [upd_eq, upd_ne, n49, n49.symm]
   have x9 : bxx b9 = some (.row 25 4 [.agg [.int .i64 s.now, .int .i64 s.next, .sl 4 (s.ts.map tmV), .sl 4 (s.scs.map scV)]]) := by rw [hbx]; simp [upd_eq, upd_ne, n49, n49.symm]
   have hxe : Ext bx bxx := by rw [hbx]; exact (by repeat first | exact Ext.refl _ | refine Ext.upd_own ?_ (by assumption) _)
   have hxf : FinB bxx := by rw [hbx]; simp [go_sem, hf]
   clear hbx
   refine callK_abs (Try.CloneS_c (bx := bxx) (s.scs.map scV) hxf (by have := ho.len; simp; omega) (by simp [scV, V.cells])) ?_
   intro vS bx1 ha
   obtain ⟨BS, hS, hSn⟩ := ha.sl
   have y4 := (ha.ext b4 (by rw [x4]; simp)).trans x4
   have y9 := (ha.ext b9 (by rw [x9]; simp)).trans x9
   have nS9 : BS ≠ some b9 := fun e => by have := hSn b9 e; rw [x9] at this; cases this
   simp [go_sem, y4, y9, hS.live, hS.strip, hS.cells, hS.okV, ha.fin, upd_eq, upd_upd]
   obtain ⟨bxs, hbxs⟩ : ∃ bxs, bxs = upd bx1 b9 (some (.row 25 4 [.agg [.int .i64 to, .int .i64 s.next, .nils, vS]])) := ⟨_, rfl⟩
   have hsf : FinB bxs := by rw [hbxs]; exact (finB_upd _ _ _).2 ha.fin
   have s9 : bxs b9 = some (.row 25 4 [.agg [.int .i64 to, .int .i64 s.next, .nils, vS]]) := by rw [hbxs, upd_eq]
   have s4 : bxs b4 = some (.row 25 4 [.agg [.int .i64 0, .int .i64 0, .nils, .nils]]) := by rw [hbxs, upd_ne _ _ n49]; exact y4
   have sS : Sl bxs 51 4 (s.scs.map scV) vS BS := by rw [hbxs]; exact hS.ext fun b hB => upd_ne _ _ fun e => nS9 (by rw [← e]; exact hB)
   have hse : Ext bx bxs := by rw [hbxs]; exact (hxe.trans ha.ext).upd_own hb9' _
   rw [← hbxs]
   clear hbxs
   refine callK_abs (Try.New_q 35 ltT bxs) ?_
   rintro r bxq ⟨bq, D, rfl, hq, hq1, hq2⟩
   simp [go_sem, hq.fin]
   have hSn' : ∀ b, BS = some b → bx b = none := fun b hB => hxe.none (hSn b hB)
   have lenT := ho.len.1
   have rngT' := ho.rng
   have hlt : ∀ x, x ∈ s.ts → -9223372036854775808 ≤ x.id ∧ x.id ≤ 9223372036854775807 := fun x hx => by
     have := (rngT'.2.2.1 x hx).1
     have := rngT'.2.1
     omega
   refine pw_for (ι := Boxes × V) s.ts.length (fun k p => Tk0 bx p.1 b4 b9 bq vS BS (s.scs.map scV) s.next to p.2 ((kepT to (s.ts.take k)).map tmV) (firT to (s.ts.take k)))
     (fun k p => ⟨118, slk [(1, .int .i64 to), (4, .ptr b4 4 0 0), (9, .ptr b9 4 0 0), (10, .ptr bq 4 0 0), (42, .sl 4 (s.ts.map tmV)), (43, .int .i64 s.ts.length), (44, .int .i64 k)], p.1⟩) (bxq, .nils)
     ⟨bxs, none, 1, [], D, hse, hq1, hq.fin, s4, s9, sS, Sl.nil, (fun b h => by cases h), hq, hq2, rfl, rfl⟩ (cov_look (by simp [go_sem])) (fun k p hk hJ N hN => ?_) (fun p hJ N => ?_)
   · obtain ⟨bxk, vT⟩ := p
     dsimp only at hJ hN ⊢
     obtain ⟨kf, k9, kl, ks, kc, ko⟩ := hJ.known
     have hw := wr_succ (k := k) (by omega)
     have e1 : kepT to (s.ts.take (k + 1)) = kepT to (s.ts.take k) ++ if to < s.ts[k].at_ then [s.ts[k]] else [] := by
       unfold kepT; rw [filt_succ hk]; simp
     have e2 : firT to (s.ts.take (k + 1)) = firT to (s.ts.take k) ++ if s.ts[k].at_ ≤ to then [s.ts[k]] else [] := by
       unfold firT; rw [filt_succ hk]; simp
     have hkl : (kepT to (s.ts.take k)).length ≤ 2000 := by
       unfold kepT; exact Nat.le_trans (List.length_filter_le _ _) (by simp; omega)
     have hfl : (firT to (s.ts.take k)).length ≤ 2000 := by
       unfold firT; exact Nat.le_trans (List.length_filter_le _ _) (by simp; omega)
     simp [go_sem, Try.L12_0, hk, kf, k9, tmV]
     intro b12 hb12
     rw [upd_self hb12]
     refine ⟨fun c => ?_, fun c => ?_⟩
     · rw [if_pos c] at e1
       rw [if_neg (by omega), List.append_nil] at e2
       rw [e1, e2] at hN
       simp only [List.map_append, List.map_cons, List.map_nil] at hN
       simp [go_sem, kf, k9, kl, ks, kc, ko]
       refine Try.tk_app hJ hb9' n49 (.agg #[.int .i64 0, .int .i64 0, .int .i64 0, .int .i64 0]) Try.knd22 Try.tsz35 (by simp [srcEls]; rfl) Try.tzero35 (by simp [go_sem]) (by simp [Try.tby35]; omega) (by simp; omega) (by simp [go_sem]) fun b' bx3 g1 g2 g3 => ?_
       simp only [List.length_map] at g3
       simp [go_sem, g1, g2, upd_eq]
       refine hN _ (_, _) g3 (cov_look (by simp [go_sem, hw, tmV]))
     · rw [if_neg (by omega), List.append_nil] at e1
       rw [if_pos (by omega)] at e2
       rw [e1, e2] at hN
       have cP := Try.tk_push hJ ⟨s.ts[k], hlt _ (List.getElem_mem hk)⟩ (fun y hy => by
         unfold firT at hy
         have hy2 := (List.mem_filter.1 hy).1
         obtain ⟨j, hj, rfl⟩ := List.getElem_of_mem hy2
         rw [List.length_take] at hj
         rw [List.getElem_take]
         exact ord_mono ho.srt hk (by omega)) (by omega)
       refine callK_abs cP ?_
       rintro r bx2 ⟨rfl, g3⟩
       simp [go_sem, g3.known.1]
       refine hN _ (_, _) g3 (cov_look (by simp [go_sem, hw, tmV]))
   · obtain ⟨bxk, vT⟩ := p
     dsimp only at hJ ⊢
     rw [List.take_length] at hJ
     obtain ⟨kf, k9, kl, ks, kc, ko⟩ := hJ.known
     simp [go_sem, Try.L12_0, kf]
     have hQ := TkQ.of0 hJ hSn' hb4 hb9' n49
     refine callK_abs (Try.tkq_pop hQ) ?_
     rintro r bx5 ⟨⟨hh, rfl⟩, hQ2⟩
     simp [go_sem, hQ2.known.1, tmV]
     intro b15 hb15
     obtain ⟨F, hFe⟩ : ∃ F, firT to s.ts = F := ⟨_, rfl⟩
     have hFl : F.length ≤ 2000 := by rw [← hFe]; unfold firT; exact Nat.le_trans (List.length_filter_le _ _) lenT
     rw [hFe] at hQ2
     rw [hFe]
     have hQ3 := hQ2.new hb15 (tmV (F.getD 0 ⟨0, 0, 0, 0⟩))
     have if0 : (if F = [] then (4 : Int) else 0) = if 0 < F.length then 0 else 4 := by cases F <;> simp
     rw [if0]
     refine pw_for (ι := Boxes × Nat × V) F.length (fun k p => TkQ bx p.1 b4 b9 bq (.int .i64 to) (.int .i64 s.next) (s.scs.map scV) vS BS ((kepT to s.ts).map tmV) vT ((F.take k).map tmV) p.2.2 (F.drop (k + 1)) (some (p.2.1, tmV (F.getD k ⟨0, 0, 0, 0⟩))))
       (fun k p => ⟨118, slk [(1, .int .i64 to), (4, .ptr b4 4 0 0), (9, .ptr b9 4 0 0), (10, .ptr bq 4 0 0), (13, p.2.2), (15, .ptr p.2.1 4 0 0), (16, .int .i64 (if k < F.length then 0 else 4))], p.1⟩)
       (upd bx5 b15 (some (.row 35 4 [tmV (F.getD 0 ⟨0, 0, 0, 0⟩)])), b15, .nils) (by simpa using hQ3) (cov_look (by simp [go_sem])) (fun k p hk hJ N hN => ?_) (fun p hJ N => ?_)
     · obtain ⟨bxk, c15, vF⟩ := p
       dsimp only at hJ hN ⊢
       have hgk : F.getD k ⟨0, 0, 0, 0⟩ = F[k] := by simp [hk]
       have e1 : (F.take (k + 1)).map tmV = (F.take k).map tmV ++ [tmV F[k]] := by rw [List.take_succ_eq_append_getElem hk, List.map_append]; rfl
       have if1 : (if F.drop (k + 1) = [] then (4 : Int) else 0) = if k + 1 < F.length then 0 else 4 := by
         by_cases h : k + 1 < F.length
         · rw [if_pos h, if_neg (by simpa using h)]
         · rw [if_neg h, if_pos (by simpa using h)]
       have e2 : (F.drop (k + 1)).getD 0 ⟨0, 0, 0, 0⟩ = F.getD (k + 1) ⟨0, 0, 0, 0⟩ := by simp
       rw [e1] at hN
       rw [hgk] at hJ
       obtain ⟨kf, kl, ks, kc, ko, k15⟩ := hJ.known
       have k15 := k15 _ rfl
       dsimp only at k15
       simp only [tmV] at k15
       rw [if_pos hk]
       simp [go_sem, Try.L12_1, kf, k15, kl, ks, kc, ko]
       refine hJ.app (.agg #[.int .i64 0, .int .i64 0, .int .i64 0, .int .i64 0]) Try.knd22 Try.tsz35 (by simp [srcEls]; rfl) Try.tzero35 (by simp [go_sem]) (by simp [Try.tby35]; omega) (by simp; omega) (by simp [go_sem]) fun b' bx3 g1 => ?_
       have hlk : ((F.take k).map tmV).length = k := by simp; omega
       rw [hlk] at g1 ⊢
       have k3 := g1.known.2.2.2.2.2 _ rfl
       dsimp only at k3
       simp only [tmV] at k3
       simp [go_sem, g1.known.1, k3]
       intro b16 hb16
       have g2 := g1.new hb16 (tmV F[k])
       simp only [tmV] at g2
       refine callK_abs (Try.tkq_pop g2) ?_
       rintro r bx6 ⟨⟨hh, rfl⟩, g3⟩
       rw [e2, if1]
       obtain ⟨kf6, _, _, _, _, k6⟩ := g3.known
       have k6 := k6 _ rfl
       dsimp only at k6
       have g5 := g3.set (tmV (F.getD (k + 1) ⟨0, 0, 0, 0⟩))
       rw [show (F.drop (k + 1)).tail = F.drop (k + 1 + 1) by simp] at g5
       simp [go_sem, kf6, k6, tmV]
       exact hN _ (_, _, _) g5 (cov_look (by simp [go_sem]))
     · obtain ⟨bxk, c15, vF⟩ := p
       dsimp only at hJ ⊢
       have hQ4 := hJ.to2
       rw [List.take_length] at hQ4
       rw [if_neg (by omega)]
       obtain ⟨kf, k9, k4, _, kE, kS, kR⟩ := hQ4.known
       have endS0 : ∀ k, k ≤ s.scs.length → True := fun _ _ => trivial
       rcases kS with ⟨q1, rfl, rfl⟩ | ⟨bS, rfl, rfl⟩
       · have q2 : s.scs = [] := by simpa using q1
         simp [go_sem, Try.L12_1, kf, k9]
         refine pw_unroll 1 ?_
         have hQ5 : Tk2 bx bxk b4 b9 (.int .i64 to) (.int .i64 s.next) ((s.scs.map (endS to)).map scV) .nils none ((kepT to s.ts).map tmV) vT (F.map tmV) vF ((endI to s.scs).map (.int .i64)) .nils := by
           rw [q2] at hQ4 ⊢
           exact hQ4
         have hQ6 : ∃ vS vE : V, V.nils = vS ∧ V.nils = vE ∧ Tk2 bx bxk b4 b9 (.int .i64 to) (.int .i64 s.next) ((s.scs.map (endS to)).map scV) vS none ((kepT to s.ts).map tmV) vT (F.map tmV) vF ((endI to s.scs).map (.int .i64)) vE := ⟨_, _, rfl, rfl, hQ5⟩
         clear hQ5
         obtain ⟨vS, vE, hvS, hvE, hQ5⟩ := hQ6
         rw [hvE]
         obtain ⟨kf, k9, k4, d49, kE, kS, kR⟩ := hQ5.known
         obtain ⟨lT, lS, lF⟩ := hQ5.live
         simp [go_sem, Try.L12_2, kf, k9, k4, d49, d49.symm, upd_ne, lT, lS, lF, kE]
         obtain ⟨f1, f2, f3, f4, f5⟩ := hQ5.frz (fun y hy => by obtain ⟨q, _, rfl⟩ := List.mem_map.1 hy; exact ⟨q, rfl⟩) (fun y hy => by obtain ⟨q, _, rfl⟩ := List.mem_map.1 hy; exact ⟨q, rfl⟩) (some (.row 25 4 [.agg [.int .i64 to, .int .i64 s.next, vT, vS]]))
         refine ret_frz 3 (by simp [go_sem]) f5 ⟨?_, rfl⟩
         have hR : tikR s 0 to = .tup [ckV (tikS s to), .sl 4 ((firT to s.ts).map tmV), .sl 1 ((endI to s.scs).map (.int .i64)), .int .i64 0] := by
           unfold tikR tikE
           rw [if_pos (by rw [if_neg (by simp), if_neg (by omega)])]
         rw [hR, hFe]
         simp [go_sem, upd_eq]
         exact wk_tup4 (wk_agg4 (Wk.refl _) (Wk.refl _) f1 f2) f3 f4 (Wk.refl _)
       · simp [go_sem, Try.L12_1, kf, k9]
         refine pw_for (ι := Boxes × V) s.scs.length (fun k p => Tk2 bx p.1 b4 b9 (.int .i64 to) (.int .i64 s.next) (((s.scs.take k).map (endS to) ++ s.scs.drop k).map scV) (.own bS 4 0 (s.scs.map scV).length) (some bS) ((kepT to s.ts).map tmV) vT (F.map tmV) vF ((endI to (s.scs.take k)).map (.int .i64)) p.2)
           (fun k p => ⟨118, slk [(1, .int .i64 to), (4, .ptr b4 4 0 0), (9, .ptr b9 4 0 0), (13, vF), (17, p.2), (83, .int .i64 s.scs.length), (84, .int .i64 k)], p.1⟩) (bxk, .nils) (by simpa [endI] using hQ4) (cov_look (by simp [go_sem])) (fun k p hk hJ N hN => ?_) (fun p hJ N => ?_)
         · obtain ⟨bxk2, vE⟩ := p
           dsimp only at hJ hN ⊢
           have hw := wr_succ (k := k) (by have := ho.len.2; omega)
           have m1 := mapat (endS to) hk
           have m2 := mapset (endS to) hk
           have m3 := endI_succ to hk
           have mlen : (((s.scs.take k).map (endS to) ++ s.scs.drop k).map scV).length = s.scs.length := by simp; omega
           have hEl : (endI to (s.scs.take k)).length ≤ 500 := by
             unfold endI
             rw [List.length_map]
             exact Nat.le_trans (List.length_filter_le _ _) (by have := ho.len.2; simp; omega)
           rw [m3, ← m2] at hN
           obtain ⟨kf, k9, k4, d49, kE, _, kR⟩ := hJ.known
           have kR := kR _ rfl
           have hkL : k < (((s.scs.take k).map (endS to) ++ s.scs.drop k).map scV).length := by rw [mlen]; exact hk
           obtain ⟨L, hL⟩ : ∃ L, ((s.scs.take k).map (endS to) ++ s.scs.drop k).map scV = L := ⟨_, rfl⟩
           rw [hL] at m1 mlen kR hkL hJ hN
           have ms : L[k] = scV s.scs[k] := (List.getElem?_eq_some_iff.1 m1).2
           have m1 := ms
           simp only [scV] at m1
           clear m2 m3
           by_cases c : s.scs[k].why = 0 ∧ s.scs[k].dl ≤ to
           · obtain ⟨c1, c2⟩ := c
             rw [if_pos ⟨c1, c2⟩] at hN
             have hs2 : endS to s.scs[k] = { s.scs[k] with why := 2 } := by unfold endS; rw [if_pos ⟨c1, c2⟩]
             rw [hs2] at hN
             simp only [List.map_append, List.map_cons, List.map_nil, scV] at hN
             simp [go_sem, Try.L12_2, kf, k9, kR, hk, hkL, m1, c1, c2, kE]
             have g0 := hJ.putS rfl (S' := L.set k (.agg [.int .i64 s.scs[k].id, .int .i64 s.scs[k].parent, .int .i64 s.scs[k].dl, .int .i64 2])) (by simp)
             refine g0.app (.int .i64 0) Try.knd29 Try.tsz2 (by simp [srcEls]; rfl) Try.tzero2 (by simp [go_sem]) (by simp [Try.tby2]; omega) (by simp; omega) (by simp [go_sem]) fun b' bx3 g1 => ?_
             simp only [List.length_map] at g1 hN
             simp [go_sem]
             exact hN _ (_, _) g1 (cov_look (by simp [go_sem, hw]))
           · have c' : (decide (s.scs[k].why = 0) && decide (s.scs[k].dl ≤ to)) = false := by simpa using c
             rw [if_neg c, List.append_nil] at hN
             have hs2 : endS to s.scs[k] = s.scs[k] := by unfold endS; rw [if_neg c]
             rw [hs2] at hN
             simp [go_sem, Try.L12_2, kf, k9, kR, hk, hkL, m1, c', kE]
             rw [show L.set k (scV s.scs[k]) = L by rw [← ms]; exact List.set_getElem_self hkL] at hN
             exact hN _ (_, _) hJ (cov_look (by simp [go_sem, hw]))
         · obtain ⟨bxk2, vE⟩ := p
           dsimp only at hJ ⊢
           have hQ5 := hJ
           rw [List.take_length, List.drop_length, List.append_nil] at hQ5
           obtain ⟨vS, hvS⟩ : ∃ vS, V.own bS 4 0 (s.scs.map scV).length = vS := ⟨_, rfl⟩
           rw [hvS] at hQ5
           obtain ⟨kf, k9, k4, d49, kE, kS, kR⟩ := hQ5.known
           obtain ⟨lT, lS, lF⟩ := hQ5.live
           simp [go_sem, Try.L12_2, kf, k9, k4, d49, d49.symm, upd_ne, lT, lS, lF, kE]
           obtain ⟨f1, f2, f3, f4, f5⟩ := hQ5.frz (fun y hy => by obtain ⟨q, _, rfl⟩ := List.mem_map.1 hy; exact ⟨q, rfl⟩) (fun y hy => by obtain ⟨q, _, rfl⟩ := List.mem_map.1 hy; exact ⟨q, rfl⟩) (some (.row 25 4 [.agg [.int .i64 to, .int .i64 s.next, vT, vS]]))
           refine ret_frz 3 (by simp [go_sem]) f5 ⟨?_, rfl⟩
           have hR : tikR s 0 to = .tup [ckV (tikS s to), .sl 4 ((firT to s.ts).map tmV), .sl 1 ((endI to s.scs).map (.int .i64)), .int .i64 0] := by
             unfold tikR tikE
             rw [if_pos (by rw [if_neg (by simp), if_neg (by omega)])]
           rw [hR, hFe]
           simp [go_sem, upd_eq]
           exact wk_tup4 (wk_agg4 (Wk.refl _) (Wk.refl _) f1 f2) f3 f4 (Wk.refl _)
 · simp [go_sem, hf, h0]
   refine ret_drop (by simp [go_sem]) (by repeat first | exact Ext.refl _ | refine Ext.upd_own ?_ (by assumption) _) ⟨?_, rfl⟩
   simp [go_sem, upd_eq]
   exact bad e (by unfold tikE; rw [if_pos h0]) h0 _ (by simp [ckV])
end Go.Proofs

set_option linter.unusedSimpArgs false
set_option linter.unusedVariables false
set_option maxRecDepth 100000
namespace Go.Ck
open Go Go.Pl
def srtB (l : List Tm) : Bool := (List.range l.length).all fun i => decide (l.length ≤ i + 1) || !decide (ord (l.getD (i + 1) default) (l.getD i default) < 0)
def formB (now : Int) (l : List Sc) : Bool := (List.range l.length).all fun i =>
 decide (lastId l i < (l.getD i default).id) && !(decide ((l.getD i default).why = 0) && decide ((l.getD i default).dl ≤ now)) && !(decide ((l.getD i default).why = 2) && decide (now < (l.getD i default).dl)) &&
 (decide ((l.getD i default).parent = 0) || (l.take i).any fun p => decide (p.id = (l.getD i default).parent) && decide ((l.getD i default).dl ≤ p.dl) && (!decide ((l.getD i default).why = 0) || decide (p.why = 0)))
def okB (s : Ck) : Bool := decide (s.ts.length ≤ 2000) && decide (s.scs.length ≤ 500) && (decide (0 ≤ s.now) && decide (s.now ≤ 1000000000000)) && (decide (1 ≤ s.next) && decide (s.next ≤ 1000000000000000)) && s.ts.all (fun t => decide (rngT s.next t)) && s.scs.all (fun x => decide (rngS s.next x)) &&
 decide (ids s).Nodup && srtB s.ts && formB s.now s.scs
theorem srtB_ok {l : List Tm} (h : srtB l = true) : SrtT l := by
 intro i hi
 unfold srtB at h
 rw [List.all_eq_true] at h
 have := h i (List.mem_range.2 (by omega))
 simp only [Bool.or_eq_true, decide_eq_true_eq, Bool.not_eq_true', decide_eq_false_iff_not] at this
 rcases this with h | h
 · omega
 · exact h
theorem formB_ok {now : Int} {l : List Sc} (h : formB now l = true) : FormS now l := by
 intro i hi
 unfold formB at h
 rw [List.all_eq_true] at h
 have := h i (List.mem_range.2 hi)
 simp only [Bool.and_eq_true, Bool.or_eq_true, decide_eq_true_eq, Bool.not_eq_true', Bool.and_eq_false_iff, decide_eq_false_iff_not, List.any_eq_true] at this
 obtain ⟨⟨⟨h1, h2⟩, h3⟩, h4⟩ := this
 refine ⟨h1, ⟨fun q => ?_, fun q => ?_⟩, ?_⟩
 · rcases h2 with h | h
   · exact h q.1
   · exact h q.2
 · rcases h3 with h | h
   · exact h q.1
   · exact h q.2
 · rcases h4 with h | ⟨p, p1, ⟨p2, p3⟩, p4⟩
   · exact .inl h
   · exact .inr ⟨p, p1, p2, p3, fun q => by
       rcases p4 with h | h
       · exact absurd q h
       · exact h⟩
theorem okB_ok {s : Ck} (h : okB s = true) : Ok s := by
 unfold okB at h
 simp only [Bool.and_eq_true, decide_eq_true_eq, List.all_eq_true] at h
 obtain ⟨⟨⟨⟨⟨⟨⟨⟨h1, h2⟩, h3⟩, h4⟩, h5⟩, h6⟩, h7⟩, h8⟩, h9⟩ := h
 exact ⟨⟨h1, h2⟩, ⟨h3, h4, h5, h6⟩, h7, srtB_ok h8, formB_ok h9⟩
def s0 : Ck := ⟨5, 1, [], []⟩
def s1 : Ck := ⟨5, 2, [⟨1, 20, 1, 0⟩], []⟩
def s2 : Ck := ⟨5, 3, [⟨2, 10, 2, 0⟩, ⟨1, 20, 1, 0⟩], []⟩
def s3 : Ck := ⟨5, 4, [⟨2, 10, 2, 0⟩, ⟨1, 20, 1, 0⟩, ⟨3, 20, 3, 0⟩], []⟩
def s4 : Ck := ⟨5, 5, [⟨4, 3, 4, 0⟩, ⟨2, 10, 2, 0⟩, ⟨1, 20, 1, 0⟩, ⟨3, 20, 3, 0⟩], []⟩
def s5 : Ck := ⟨12, 5, [⟨1, 20, 1, 0⟩, ⟨3, 20, 3, 0⟩], []⟩
def s6 : Ck := ⟨12, 6, [⟨1, 20, 1, 0⟩, ⟨3, 20, 3, 0⟩], [⟨5, 0, 15, 0⟩]⟩
def stF (k : Nat) : Ck := [s0, s1, s2, s3, s4].getD k s4
theorem ok0 : Chk s0 0 := (okB_ok (by decide +kernel)).chk
theorem ok1 : Chk s1 0 := (okB_ok (by decide +kernel)).chk
theorem ok2 : Chk s2 0 := (okB_ok (by decide +kernel)).chk
theorem ok3 : Chk s3 0 := (okB_ok (by decide +kernel)).chk
theorem ok4 : Chk s4 0 := (okB_ok (by decide +kernel)).chk
theorem ok5 : Chk s5 0 := (okB_ok (by decide +kernel)).chk
theorem ok6 : Chk s6 0 := (okB_ok (by decide +kernel)).chk
theorem a1 : aftR s0 0 20 1 0 = .tup [ckV s1, .int .i64 1, .int .i64 0] := by rfl
theorem a2 : aftR s1 0 10 2 0 = .tup [ckV s2, .int .i64 2, .int .i64 0] := by rfl
theorem a3 : aftR s2 0 20 3 0 = .tup [ckV s3, .int .i64 3, .int .i64 0] := by rfl
theorem a4 : aftR s3 0 3 4 0 = .tup [ckV s4, .int .i64 4, .int .i64 0] := by rfl
theorem a5 : dueR s4 0 = .tup [.int .i64 3, .int .i64 0] := by rfl
theorem a6 : tikR s4 0 12 = .tup [ckV s5, .sl 4 [tmV ⟨4, 3, 4, 0⟩, tmV ⟨2, 10, 2, 0⟩], .sl 1 [], .int .i64 0] := by rfl
theorem a7 : scpR s5 0 0 15 = .tup [ckV s6, .int .i64 5, .int .i64 0] := by rfl
theorem a8 : leftR s6 0 5 = .tup [.int .i64 3, .int .i64 0] := by rfl
end Go.Ck
namespace Go.Proofs
open Go Go.Pl Go.Ck
theorem Try.five_c (bx : Boxes) : PureCall Try.prog 21 [] bx (.tup [ckV s4, .bool true]) := by
 refine PureCall.wk (Try.ctr21 fun hf => ?_)
 simp [go_sem, Try.C21, hf]
 intro b0 hb0
 have cN := Try.New_c 5 (upd bx b0 (some (.row 25 4 [.agg [.int .i64 0, .int .i64 0, .nils, .nils]])))
 rw [if_pos (by decide)] at cN
 refine callK_pure cN ?_
 simp [go_sem, hf, ckV]
 intro b2 hb2 b5 hb5
 rw [upd_self hb5]
 have n02 : b0 ≠ b2 := fun e => by rw [e, upd_eq] at hb2; cases hb2
 have hb2' : bx b2 = none := by rw [upd_ne _ _ n02.symm] at hb2; exact hb2
 refine pw_for (ι := Boxes) 4 (fun k bx' => Ext bx bx' ∧ FinB bx' ∧ bx' b0 = some (.row 25 4 [.agg [.int .i64 0, .int .i64 0, .nils, .nils]]) ∧ bx' b2 = some (.row 25 4 [ckV (stF k)]))
   (fun k bx' => ⟨46, slk [(0, .ptr b0 4 0 0), (2, .ptr b2 4 0 0), (4, .bool true), (5, .ep (.agg [.int .i64 20, .int .i64 10, .int .i64 20, .int .i64 3]) 0), (6, .int .i64 k)], bx'⟩)
   _ ⟨by repeat first | exact Ext.refl _ | refine Ext.upd_own ?_ (by assumption) _, by simp [go_sem, hf], by rw [upd_ne _ _ n02, upd_eq], upd_eq _ _ _⟩ (cov_look (by simp [go_sem])) (fun k bx1 hk hJ N hN => ?_) (fun bx1 hJ N => ?_)
 · obtain ⟨j1, j2, j3, j4⟩ := hJ
   have hw := wr_succ (k := k) (by omega)
   have hk4 : (k : Int) < 4 := by omega
   obtain ⟨a, hak, cA⟩ : ∃ a : Int, [V.int .i64 20, V.int .i64 10, V.int .i64 20, V.int .i64 3][k]? = some (.int .i64 a) ∧ ∀ bx, PureCall Try.prog 25 [ckV (stF k), .int .i64 a, .int .i64 ((k : Int) + 1), .int .i64 0] bx (.tup [ckV (stF (k + 1)), .int .i64 ((k : Int) + 1), .int .i64 0]) := by
     rcases k with _ | _ | _ | _ | k
     · exact ⟨20, rfl, fun bx => by have := Try.After_c s0 0 ok0 20 1 0 bx; rw [a1] at this; exact this⟩
     · exact ⟨10, rfl, fun bx => by have := Try.After_c s1 0 ok1 10 2 0 bx; rw [a2] at this; exact this⟩
     · exact ⟨20, rfl, fun bx => by have := Try.After_c s2 0 ok2 20 3 0 bx; rw [a3] at this; exact this⟩
     · exact ⟨3, rfl, fun bx => by have := Try.After_c s3 0 ok3 3 4 0 bx; rw [a4] at this; exact this⟩
     · omega
   have hak2 := (List.getElem?_eq_some_iff.1 hak).2
   generalize stF k = s at *
   generalize stF (k + 1) = s' at *
   simp only [ckV] at cA j4
   simp [go_sem, Try.L21_0, hk, hk4, j2, j3, j4, hak2, hw]
   refine callK_pure (cA _) ?_
   simp [go_sem, j2, j3, j4]
   intro b7 hb7
   have n7 : ∀ {c x}, bx1 c = some x → c ≠ b7 := fun h e => by rw [e, hb7] at h; cases h
   have n72 := n7 j4
   have n70 := n7 j3
   simp [go_sem, upd_eq, upd_ne, n72, n72.symm, j4, hw]
   refine hN _ _ ⟨(j1.upd_own (j1.none hb7) _).upd_own hb2' _, (finB_upd _ _ _).2 ((finB_upd _ _ _).2 j2), ?_, upd_eq _ _ _⟩ (cov_look (by simp [go_sem]))
   rw [upd_ne _ _ n02, upd_ne _ _ n70]; exact j3
 · obtain ⟨j1, j2, j3, j4⟩ := hJ
   rw [show stF 4 = s4 from rfl] at j4
   simp only [ckV] at j4
   simp [go_sem, Try.L21_0, j2, j3, j4, upd_ne, n02, n02.symm]
   refine ret_drop (by simp [go_sem]) (j1.upd_own hb0 _) ⟨?_, rfl⟩
   simp [go_sem, upd_eq]
   exact Wk.refl _
theorem Try.awake_c (bx : Boxes) : PureCall Try.prog 11 [] bx (.bool true) := by
 refine Try.ctr11 fun hf => ?_
 simp [go_sem, Try.C11, hf]
 have cF := Try.five_c bx
 have cD := Try.Due_c s4 0 ok4 bx
 have cT := Try.Tick_c s4 0 ok4 12 bx
 have cS := Try.Scope_c s5 0 ok5 0 15 bx
 have cL := Try.Left_c s6 0 5 ok6 bx
 rw [a5] at cD
 rw [a6] at cT
 rw [a7] at cS
 rw [a8] at cL
 simp only [ckV, tmV] at cF cD cT cS cL
 refine callK_pure cF ?_
 simp [go_sem, hf]
 intro b1 hb1
 rw [upd_self hb1]
 refine callK_pure cD ?_
 simp [go_sem, hf]
 refine callK_pure cT ?_
 simp [go_sem, hf]
 intro b5 hb5
 rw [upd_self hb5]
 refine callK_pure cS ?_
 simp [go_sem, hf]
 intro b9 hb9
 rw [upd_self hb9]
 refine callK_pure cL ?_
 simp [go_sem, hf]
 exact ret_pure (by simp [go_sem]) (by simp [go_sem])
end Go.Proofs

set_option linter.unusedSimpArgs false
set_option linter.unusedVariables false
set_option maxRecDepth 100000
namespace Go.Proofs
open Go Go.Pl Go.Ck
theorem Try.btw_c (a b c : Int) (bx : Boxes) : PureCall Try.prog 53 [.int .i64 a, .int .i64 b, .int .i64 c] bx (.bool (decide (b ≤ a) && decide (a ≤ c))) := by
 refine Try.ctr53 fun hf => ?_
 simp [go_sem, Try.C53, hf]
 exact ret_pure (by simp [go_sem]) (by simp [go_sem])
theorem Try.bfr_c (a b : Tm) (bx : Boxes) : PureCall Try.prog 66 [tmV a, tmV b] bx (.bool (decide (ord a b < 0))) := by
 refine Try.ctr66 fun hf => ?_
 have : decide (ord a b < 0) = (decide (a.at_ < b.at_) || (decide (a.at_ = b.at_) && decide (a.id < b.id))) := by
   rw [Bool.eq_iff_iff]; simp [ord_lt]
 rw [this]
 by_cases h1 : a.at_ < b.at_
 · simp [go_sem, Try.C66, hf, tmV, h1]
   exact ret_pure (by simp [go_sem]) (by simp [go_sem])
 · by_cases h2 : a.at_ = b.at_
   · simp [go_sem, Try.C66, hf, tmV, h1, h2]
     exact ret_pure (by simp [go_sem]) (by simp [go_sem])
   · simp [go_sem, Try.C66, hf, tmV, h1, h2]
     exact ret_pure (by simp [go_sem]) (by simp [go_sem])
def rfi (l : List Sc) (h : Int) : Int := match fidx l h with | some k => (k : Int) | none => -1
theorem Try.rfind_c (s : Ck) (h : Int) (hl : s.scs.length ≤ 1000000) (bx : Boxes) : PureCall Try.prog 80 [ckV s, .int .i64 h] bx (.int .i64 (rfi s.scs h)) := by
 refine Try.ctr80 fun hf => ?_
 simp [go_sem, Try.C80, hf, ckV]
 refine pw_find s.scs.length (fun i => decide ((s.scs.getD i default).id = h)) (fun k => ⟨22, slk [(1, .int .i64 h), (2, .ep (ckV s) 0), (5, .int .i64 k)], bx⟩) (cov_look (by simp [go_sem, ckV])) (fun k hk hJ N hN => ?_) (fun hJ N => ?_)
 · have hw := wr_succ (k := k) (by omega)
   have hg : s.scs.getD k default = s.scs[k] := by simp [hk]
   rw [hg] at hN
   simp [go_sem, Try.L80_0, hf, hk, ckV, scV]
   refine ⟨fun c => ret_pure (by simp [go_sem]) ?_, fun c => hN _ (by simpa using c) (cov_look (by simp [go_sem, hw, ckV, scV]))⟩
   have : fidx s.scs h = some k := by
     unfold fidx
     rw [List.findIdx?_eq_some_iff_getElem]
     refine ⟨hk, by simpa using c, fun j hj => ?_⟩
     have := hJ j hj
     have hjl : j < s.scs.length := by omega
     simpa [hjl] using this
   simp [go_sem, rfi, this]
 · simp [go_sem, Try.L80_0, hf, ckV]
   refine ret_pure (by simp [go_sem]) ?_
   have : fidx s.scs h = none := by
     unfold fidx
     rw [List.findIdx?_eq_none_iff]
     intro x hx
     obtain ⟨j, hj, rfl⟩ := List.getElem_of_mem hx
     have := hJ j hj
     simpa [hj] using this
   simp [go_sem, rfi, this]
def frmB (s : Ck) (x : Sc) : Bool := !(decide (x.why = 0) && decide (x.dl ≤ s.now)) && !(decide (x.why = 2) && decide (s.now < x.dl)) && (decide (x.parent = 0) || (match fidx s.scs x.parent with
 | some k => decide (x.parent < x.id) && decide (x.dl ≤ (s.scs.getD k default).dl) && (!decide (x.why = 0) || decide ((s.scs.getD k default).why = 0))
 | none => false))
theorem Try.frm_c (s : Ck) (x : Sc) (hl : s.scs.length ≤ 1000000) (bx : Boxes) : PureCall Try.prog 67 [ckV s, scV x] bx (.bool (frmB s x)) := by
 refine Try.ctr67 fun hf => ?_
 have cF := Try.rfind_c s x.parent hl bx
 simp only [ckV] at cF ⊢
 by_cases b1 : x.why = 0 ∧ x.dl ≤ s.now
 · obtain ⟨b1, b2⟩ := b1
   have : frmB s x = false := by simp [frmB, b1, b2]
   rw [this]
   simp [go_sem, Try.C67, hf, scV, b1, b2]
   exact ret_pure (by simp [go_sem]) (by simp [go_sem])
 by_cases c1 : x.why = 2 ∧ s.now < x.dl
 · obtain ⟨c1, c2⟩ := c1
   have : frmB s x = false := by simp [frmB, c1, c2]
   rw [this]
   simp [go_sem, Try.C67, hf, scV, c1, c2]
   exact ret_pure (by simp [go_sem]) (by simp [go_sem])
 have b1' : (decide (x.why = 0) && decide (x.dl ≤ s.now)) = false := by simpa using b1
 have c1' : (decide (x.why = 2) && decide (s.now < x.dl)) = false := by simpa using c1
 have hB : frmB s x = (decide (x.parent = 0) || (match fidx s.scs x.parent with
   | some k => decide (x.parent < x.id) && decide (x.dl ≤ (s.scs.getD k default).dl) && (!decide (x.why = 0) || decide ((s.scs.getD k default).why = 0))
   | none => false)) := by unfold frmB; rw [b1', c1']; rfl
 rw [hB]
 have main : ∀ Q : Prop, (x.why = 0 → x.why = 0) → True := fun _ _ => trivial
 clear main
 by_cases w0 : x.why = 0
 · have d0 : ¬ x.dl ≤ s.now := fun h => b1 ⟨w0, h⟩
   simp [go_sem, Try.C67, hf, scV, w0, d0]
   refine ⟨fun p => ret_pure (by simp [go_sem]) (by simp [go_sem, p]), fun p => ?_⟩
   refine callK_pure cF ?_
   unfold rfi
   cases hx : fidx s.scs x.parent with
   | none =>
     simp [go_sem, hf]
     exact ret_pure (by simp [go_sem]) (by simp [go_sem, p])
   | some k =>
     obtain ⟨hk, hke⟩ := fidx_some hx
     by_cases e1 : x.parent < x.id
     · by_cases e2 : x.dl ≤ s.scs[k].dl
       · skip
         by_cases e3 : s.scs[k].why = 0
         · simp [go_sem, hf, hk, scV, e1, e2, e3, w0, d0]
           exact ret_pure (by simp [go_sem]) (by simp [go_sem, p, e1, e2, e3, hk, w0, d0])
         · simp [go_sem, hf, hk, scV, e1, e2, e3, w0, d0]
           exact ret_pure (by simp [go_sem]) (by simp [go_sem, p, e1, e2, e3, hk, w0, d0])
       · simp [go_sem, hf, hk, scV, e1, e2, w0, d0]
         exact ret_pure (by simp [go_sem]) (by simp [go_sem, p, e1, e2, hk, w0, d0])
     · simp [go_sem, hf, hk, scV, e1, w0, d0]
       exact ret_pure (by simp [go_sem]) (by simp [go_sem, p, e1, hk, w0, d0])
 · by_cases w2 : x.why = 2
   · have d0 : ¬ s.now < x.dl := fun h => c1 ⟨w2, h⟩
     simp [go_sem, Try.C67, hf, scV, w0, w2, d0]
     refine ⟨fun p => ret_pure (by simp [go_sem]) (by simp [go_sem, p]), fun p => ?_⟩
     refine callK_pure cF ?_
     unfold rfi
     cases hx : fidx s.scs x.parent with
     | none =>
       simp [go_sem, hf]
       exact ret_pure (by simp [go_sem]) (by simp [go_sem, p])
     | some k =>
       obtain ⟨hk, hke⟩ := fidx_some hx
       by_cases e1 : x.parent < x.id
       · by_cases e2 : x.dl ≤ s.scs[k].dl
         · skip
           simp [go_sem, hf, hk, scV, e1, e2, w0, w2, d0]
           exact ret_pure (by simp [go_sem]) (by simp [go_sem, p, e1, e2, hk, w0, w2, d0])
         · simp [go_sem, hf, hk, scV, e1, e2, w0, w2, d0]
           exact ret_pure (by simp [go_sem]) (by simp [go_sem, p, e1, e2, hk, w0, w2, d0])
       · simp [go_sem, hf, hk, scV, e1, w0, w2, d0]
         exact ret_pure (by simp [go_sem]) (by simp [go_sem, p, e1, hk, w0, w2, d0])
   · simp [go_sem, Try.C67, hf, scV, w0, w2]
     refine ⟨fun p => ret_pure (by simp [go_sem]) (by simp [go_sem, p]), fun p => ?_⟩
     refine callK_pure cF ?_
     unfold rfi
     cases hx : fidx s.scs x.parent with
     | none =>
       simp [go_sem, hf]
       exact ret_pure (by simp [go_sem]) (by simp [go_sem, p])
     | some k =>
       obtain ⟨hk, hke⟩ := fidx_some hx
       by_cases e1 : x.parent < x.id
       · by_cases e2 : x.dl ≤ s.scs[k].dl
         · skip
           simp [go_sem, hf, hk, scV, e1, e2, w0, w2]
           exact ret_pure (by simp [go_sem]) (by simp [go_sem, p, e1, e2, hk, w0, w2])
         · simp [go_sem, hf, hk, scV, e1, e2, w0, w2]
           exact ret_pure (by simp [go_sem]) (by simp [go_sem, p, e1, e2, hk, w0, w2])
       · simp [go_sem, hf, hk, scV, e1, w0, w2]
         exact ret_pure (by simp [go_sem]) (by simp [go_sem, p, e1, hk, w0, w2])
theorem Try.rranges_c (s : Ck) (c : Bool) (h0 : ¬ Rng s → c = false) (h1 : Rng s → c = true) (hs : s.ts.length ≤ 2000 ∧ s.scs.length ≤ 500) (bx : Boxes) : PureCall Try.prog 64 [ckV s] bx (.bool c) := by
 refine Try.ctr64 fun hf => ?_
 simp only [ckV]
 simp [go_sem, Try.C64, hf]
 refine callK_pure (Try.btw_c _ _ _ _) ?_
 simp [go_sem, hf]
 refine gK_pure (Try.btw_c _ _ _ _) (by simp) (by simp [go_sem]) ?_
 simp [go_sem, hf]
 refine ⟨fun h => ret_pure (by simp [go_sem]) ?_, fun a1 a2 a3 a4 => ?_⟩
 · simp [go_sem]
   refine h0 fun hr => ?_
   obtain ⟨r1, r2, _⟩ := hr
   omega
 have hwn : IntKind.i64.wrap (s.next - 1) = s.next - 1 := wr64 (by omega)
 refine pw_find s.ts.length (fun i => decide (¬ rngT s.next (s.ts.getD i default))) (fun i => ⟨89, slk [(1, .ep (ckV s) 0), (3, .int .i64 i)], bx⟩) (cov_look (by simp [go_sem, ckV])) (fun i hi hJ N hN => ?_) (fun hJ N => ?_)
 · have hw := wr_succ (k := i) (by omega)
   have hg : s.ts.getD i default = s.ts[i] := by simp [hi]
   rw [hg] at hN
   simp [go_sem, Try.L64_0, hf, hi, tmV, ckV]
   intro b4 hb4
   rw [upd_self hb4]
   simp [go_sem, hwn, hf]
   refine callK_pure (Try.btw_c _ _ _ _) ?_
   simp [go_sem, hf]
   refine gK_pure (Try.btw_c _ _ _ _) (by simp) (by simp [go_sem]) ?_
   simp [go_sem, hf]
   refine gK_pure (Try.btw_c _ _ _ _) (by simp) (by simp [go_sem]) ?_
   simp [go_sem, hf]
   refine gK_pure (Try.btw_c _ _ _ _) (by simp) (by simp [go_sem]) ?_
   simp [go_sem, hf]
   refine ⟨fun h => ret_pure (by simp [go_sem]) ?_, fun q1 q2 q3 q4 q5 q6 q7 q8 => hN _ ?_ (cov_look (by simp [go_sem, hw, ckV]))⟩
   · simp [go_sem]
     refine h0 fun hr => ?_
     have := hr.2.2.1 _ (List.getElem_mem hi)
     unfold rngT at this
     omega
   · simp; exact ⟨⟨q1, q2⟩, ⟨q3, q4⟩, ⟨q5, q6⟩, q7, q8⟩
 have hT : ∀ t, t ∈ s.ts → rngT s.next t := fun t ht => by
   obtain ⟨j, hj, rfl⟩ := List.getElem_of_mem ht
   have := hJ j hj
   simpa [hj] using this
 simp [go_sem, Try.L64_0, hf, ckV]
 refine pw_find s.scs.length (fun i => decide (¬ rngS s.next (s.scs.getD i default))) (fun i => ⟨89, slk [(1, .ep (ckV s) 0), (5, .int .i64 i)], bx⟩) (cov_look (by simp [go_sem, ckV])) (fun i hi hJ N hN => ?_) (fun hJ N => ?_)
 · have hw := wr_succ (k := i) (by omega)
   have hg : s.scs.getD i default = s.scs[i] := by simp [hi]
   rw [hg] at hN
   simp [go_sem, Try.L64_1, hf, hi, scV, ckV]
   intro b4 hb4
   rw [upd_self hb4]
   simp [go_sem, hwn, hf]
   refine callK_pure (Try.btw_c _ _ _ _) ?_
   simp [go_sem, hf]
   refine gK_pure (Try.btw_c _ _ _ _) (by simp) (by simp [go_sem]) ?_
   simp [go_sem, hf]
   refine ⟨fun h => ret_pure (by simp [go_sem]) ?_, fun q1 q2 q3 q4 q5 q6 => hN _ ?_ (cov_look (by simp [go_sem, hw, ckV]))⟩
   · simp [go_sem]
     refine h0 fun hr => ?_
     have := hr.2.2.2 _ (List.getElem_mem hi)
     unfold rngS at this
     omega
   · simp; exact ⟨⟨q1, q2⟩, ⟨q3, q4⟩, q5, q6⟩
 simp [go_sem, Try.L64_1, hf, ckV]
 refine ret_pure (by simp [go_sem]) ?_
 simp [go_sem]
 refine h1 ⟨⟨a1, a2⟩, ⟨a3, a4⟩, hT, fun x hx => ?_⟩
 obtain ⟨j, hj, rfl⟩ := List.getElem_of_mem hx
 have := hJ j hj
 simpa [hj] using this
theorem Try.twice_c (s : Ck) (c : Bool) (h0 : (ids s).Nodup → c = false) (h1 : ¬ (ids s).Nodup → c = true) (hs : s.ts.length ≤ 2000 ∧ s.scs.length ≤ 500) (bx : Boxes) : PureCall Try.prog 65 [ckV s] bx (.bool c) := by
 classical
 refine Try.ctr65 fun hf => ?_
 simp only [ckV]
 simp [go_sem, Try.C65, hf]
 refine pw_for (ι := Boxes × V) s.ts.length (fun k p => Acc bx 2 1 (((ids s).take k).map (.int .i64)) p.2 p.1) (fun k p => ⟨60, slk [(1, .ep (ckV s) 0), (3, p.2), (4, .int .i64 k)], p.1⟩) (bx, .nils) (by simpa using acc_nil hf _ 1) (cov_look (by simp [go_sem, ckV])) (fun k p hk hJ N hN => ?_) (fun p hJ N => ?_)
 · obtain ⟨bxk, v⟩ := p
   dsimp only at hJ hN ⊢
   have hw := wr_succ (k := k) (by omega)
   have e1 : (ids s)[k]? = some s.ts[k].id := by unfold ids; rw [List.getElem?_append_left (by simpa using hk)]; simp [hk]
   rw [List.take_add_one, e1] at hN
   simp only [Option.toList, List.map_append, List.map_cons, List.map_nil] at hN
   simp [go_sem, Try.L65_0, hk, tmV, ckV, hJ.fin, hJ.live, hJ.strip]
   refine acc_append (.int .i64 0) hJ (Ext.refl _) hJ.fin Try.knd29 Try.tsz2 (by simp [srcEls]; rfl) Try.tzero2 (by simp [go_sem]) (by decide) (by simp [Try.tby2]; omega) (by simp; omega) (by simp [go_sem]) fun v' bx3 g1 => ?_
   simp [go_sem, g1.live, g1.strip, g1.fin]
   exact hN _ (_, _) g1 (cov_look (by simp [go_sem, hw, ckV, tmV, scV]))
 · obtain ⟨bxk, v⟩ := p
   dsimp only at hJ ⊢
   simp [go_sem, Try.L65_0, ckV, hJ.fin]
   refine pw_for (ι := Boxes × V) s.scs.length (fun k p => Acc bx 2 1 (((ids s).take (s.ts.length + k)).map (.int .i64)) p.2 p.1) (fun k p => ⟨60, slk [(1, .ep (ckV s) 0), (3, p.2), (5, .int .i64 k)], p.1⟩) (bxk, v) (by simpa using hJ) (cov_look (by simp [go_sem, ckV])) (fun k p hk hJ N hN => ?_) (fun p hJ N => ?_)
   · obtain ⟨bxk, v⟩ := p
     dsimp only at hJ hN ⊢
     have hw := wr_succ (k := k) (by omega)
     have e1 : (ids s)[s.ts.length + k]? = some s.scs[k].id := by unfold ids; rw [List.getElem?_append_right (by simp)]; simp [hk]
     rw [show s.ts.length + (k + 1) = s.ts.length + k + 1 by omega, List.take_add_one, e1] at hN
     simp only [Option.toList, List.map_append, List.map_cons, List.map_nil] at hN
     simp [go_sem, Try.L65_1, hk, scV, ckV, hJ.fin, hJ.live, hJ.strip]
     refine acc_append (.int .i64 0) hJ (Ext.refl _) hJ.fin Try.knd29 Try.tsz2 (by simp [srcEls]; rfl) Try.tzero2 (by simp [go_sem]) (by decide) (by simp [Try.tby2]; omega) (by simp; omega) (by simp [go_sem]) fun v' bx3 g1 => ?_
     simp [go_sem, g1.live, g1.strip, g1.fin]
     exact hN _ (_, _) g1 (cov_look (by simp [go_sem, hw, ckV, tmV, scV]))
   · obtain ⟨bxk, v⟩ := p
     dsimp only at hJ ⊢
     have hil : (ids s).length = s.ts.length + s.scs.length := by unfold ids; simp
     rw [List.take_of_length_le (by omega)] at hJ
     obtain ⟨L, hL⟩ : ∃ L, ids s = L := ⟨_, rfl⟩
     rw [hL] at hJ h0 h1 hil
     simp [go_sem, Try.L65_1, ckV, hJ.fin]
     rcases hJ.is with ⟨e0, rfl⟩ | ⟨b, hb, rfl, hr⟩
     · refine pw_wk (st' := ⟨60, slk [(3, .nils)], bx⟩) (cov_drop hJ.ext (by simp [go_sem])) ?_
       have e0 : L = [] := by simpa using e0
       subst e0
       simp [go_sem]
       refine pw_unroll 1 ?_
       simp [go_sem, Try.L65_3]
       exact ret_pure (by simp [go_sem]) (by simp [go_sem, h0])
     · refine pw_wk (st' := ⟨60, slk [(3, .sl 1 (L.map (.int .i64)))], bx⟩) (cov_frz hJ.ext ?_) ?_
       · intro q hq
         simp at hq
         subst hq
         refine .inr ⟨1, ?_⟩
         simp only [slk, if_true]
         exact (frz_own1 hr hb (by decide) rfl).symm
       have hlt : L.length ≤ 2500 := by omega
       simp [go_sem]
       refine pw_find L.length (fun i => decide (∃ k, k < i ∧ L.getD i 0 = L.getD k 0)) (fun i => ⟨60, slk [(3, .sl 1 (L.map (.int .i64))), (6, .int .i64 i)], bx⟩) (cov_look (by simp [go_sem])) (fun i hi hH N hN => ?_) (fun hH N => ?_)
       · have hw := wr_succ (k := i) (by omega)
         have gi : L.getD i 0 = L[i] := by simp [hi]
         simp [go_sem, Try.L65_3, hi]
         refine pw_find i (fun k => decide (L.getD i 0 = L.getD k 0)) (fun k => ⟨60, slk [(3, .sl 1 (L.map (.int .i64))), (6, .int .i64 i), (7, .int .i64 k)], bx⟩) (cov_look (by simp [go_sem])) (fun k hk hH2 N2 hN2 => ?_) (fun hH2 N2 => ?_)
         · have hw2 := wr_succ (k := k) (by omega)
           have hkL : k < L.length := by omega
           have gk : L.getD k 0 = L[k] := by simp [hkL]
           rw [gi, gk] at hN2
           simp [go_sem, Try.L65_2, hk, hi, hkL, hf]
           refine ⟨fun c => ret_pure (by simp [go_sem]) ?_, fun c => hN2 _ (by simpa using c) (cov_look (by simp [go_sem, hw2]))⟩
           simp [go_sem]
           refine h1 fun hnd => ?_
           have := (List.getElem_inj (h₀ := hi) (h₁ := hkL) hnd).1 c
           omega
         · simp [go_sem, Try.L65_2, hf]
           refine hN _ ?_ (cov_look (by simp [go_sem, hw]))
           simp only [decide_eq_false_iff_not]
           rintro ⟨k, q1, q2⟩
           have := hH2 k q1
           simp only [decide_eq_false_iff_not] at this
           exact this q2
       · simp [go_sem, Try.L65_3, hf]
         refine ret_pure (by simp [go_sem]) ?_
         simp [go_sem]
         refine h0 ?_
         refine List.pairwise_iff_getElem.2 fun k i hk hi hki e => ?_
         have := hH i hi
         simp only [decide_eq_false_iff_not] at this
         exact this ⟨k, hki, by simp [hk, hi, e]⟩
end Go.Proofs

set_option linter.unusedSimpArgs false
set_option linter.unusedVariables false
set_option maxRecDepth 100000
namespace Go.Ck
open Go Go.Pl
theorem ord_flip {a b : Tm} (h : a.id ≠ b.id) : (ord a b < 0) ↔ ¬ (ord b a < 0) := by
 rw [Go.Proofs.ord_lt, Go.Proofs.ord_lt]; omega
def refAt (s : Ck) (i : Nat) : Bool := !(decide (0 < i) && decide ((s.scs.getD i default).id ≤ (s.scs.getD (i - 1) default).id)) && Go.Proofs.frmB s (s.scs.getD i default)
theorem ref_form {s : Ck} (hr : Rng s) : (∀ i, i < s.scs.length → refAt s i = true) ↔ FormS s.now s.scs := by
 have hgd : ∀ {i : Nat} (hi : i < s.scs.length), s.scs.getD i default = s.scs[i] := fun hi => by simp [hi]
 constructor
 · intro h
   have step : ∀ i, i + 1 < s.scs.length → (s.scs.getD i default).id < (s.scs.getD (i + 1) default).id := fun i hi => by
     have := h (i + 1) hi
     unfold refAt at this
     simp only [Nat.add_sub_cancel, Bool.and_eq_true, Bool.not_eq_true', Bool.and_eq_false_iff, decide_eq_false_iff_not] at this
     rcases this.1 with q | q <;> omega
   have incr : ∀ j i, i < j → j < s.scs.length → (s.scs.getD i default).id < (s.scs.getD j default).id := fun j => by
     induction j with
     | zero => intro i h; omega
     | succ j ih =>
       intro i hij hj
       have h1 := step j hj
       by_cases e : i = j
       · subst e; exact h1
       · have := ih i (by omega) (by omega); omega
   intro i hi
   have h1 := h i hi
   unfold refAt Go.Proofs.frmB at h1
   simp only [Bool.and_eq_true, Bool.not_eq_true', Bool.or_eq_true, decide_eq_true_eq] at h1
   obtain ⟨_, ⟨h2, h3⟩, h4⟩ := h1
   refine ⟨?_, ⟨fun q => ?_, fun q => ?_⟩, ?_⟩
   · unfold lastId
     split
     · have := (hr.2.2.2 _ (List.getElem_mem hi)).1
       rw [hgd hi]; omega
     · exact incr i (i - 1) (by omega) hi
   · rcases Bool.and_eq_false_iff.1 h2 with g | g
     · simp only [decide_eq_false_iff_not] at g; exact g q.1
     · simp only [decide_eq_false_iff_not] at g; exact g q.2
   · rcases Bool.and_eq_false_iff.1 h3 with g | g
     · simp only [decide_eq_false_iff_not] at g; exact g q.1
     · simp only [decide_eq_false_iff_not] at g; exact g q.2
   · rcases h4 with h4 | h4
     · exact .inl h4
     · right
       split at h4
       · rename_i k hk
         obtain ⟨hkl, hke⟩ := fidx_some hk
         simp only [Bool.and_eq_true, Bool.or_eq_true, Bool.not_eq_true', decide_eq_true_eq, decide_eq_false_iff_not] at h4
         obtain ⟨⟨g1, g2⟩, g3⟩ := h4
         rw [hgd hkl] at g2 g3
         have hki : k < i := by
           rcases Nat.lt_trichotomy k i with q | q | q
           · exact q
           · subst q; rw [hgd hi] at g1 hke; omega
           · have := incr k i q hkl
             rw [hgd hkl, hke] at this
             omega
         refine ⟨s.scs[k], by rw [List.mem_take_iff_getElem]; exact ⟨k, by omega, rfl⟩, hke, g2, fun q => ?_⟩
         rcases g3 with g | g
         · exact absurd q g
         · exact g
       · cases h4
 · intro h
   have hincr := (form_incr s.scs.length (Nat.le_refl _) h).1
   rw [List.take_length] at hincr
   intro i hi
   obtain ⟨h1, h2, h3⟩ := h i hi
   unfold refAt Go.Proofs.frmB
   simp only [Bool.and_eq_true, Bool.not_eq_true', Bool.or_eq_true, decide_eq_true_eq]
   refine ⟨?_, ⟨?_, ?_⟩, ?_⟩
   · rw [Bool.and_eq_false_iff]
     by_cases e : i = 0
     · left; simp [e]
     · right
       unfold lastId at h1
       rw [if_neg e] at h1
       simp only [decide_eq_false_iff_not]; omega
   · simpa using h2.1
   · simpa using h2.2
   · rcases h3 with h3 | ⟨p, p1, p2, p3, p4⟩
     · exact .inl h3
     · right
       rw [List.mem_take_iff_getElem] at p1
       obtain ⟨j, hj, rfl⟩ := p1
       have hjl : j < s.scs.length := by omega
       rw [fidx_of hjl p2 hincr]
       have hlt := List.pairwise_iff_getElem.1 hincr j i (by simpa using hjl) (by simpa using hi) (by omega)
       simp at hlt
       simp only [Bool.and_eq_true, Bool.or_eq_true, Bool.not_eq_true', decide_eq_true_eq, decide_eq_false_iff_not]
       rw [hgd hjl]
       refine ⟨⟨?_, p3⟩, ?_⟩
       · rw [hgd hi]; rw [hgd hi] at p2; omega
       · by_cases q : (s.scs.getD i default).why = 0
         · exact .inr (p4 q)
         · exact .inl q
end Go.Ck
namespace Go.Proofs
open Go Go.Pl Go.Ck
theorem Try.rCheck_c (s : Ck) (e : Int) (he : Chk s e) (bx : Boxes) : PureCall Try.prog 31 [ckV s] bx (.int .i64 e) := by
 classical
 refine Try.ctr31 fun hf => ?_
 simp only [ckV]
 by_cases hl : s.ts.length ≤ 2000 ∧ s.scs.length ≤ 500
 rotate_left
 · have h3 := he.fl hl
   subst h3
   by_cases h1 : 2000 < s.ts.length
   · have h1' : (2000 : Int) < s.ts.length := by omega
     simp [go_sem, Try.C31, hf, h1']
     exact ret_pure (by simp [go_sem]) (by simp [go_sem])
   · have h1' : ¬ (2000 : Int) < s.ts.length := by omega
     have h2' : (500 : Int) < s.scs.length := by omega
     simp [go_sem, Try.C31, hf, h1', h2']
     exact ret_pure (by simp [go_sem]) (by simp [go_sem])
 have h1' : ¬ (2000 : Int) < s.ts.length := by omega
 have h2' : ¬ (500 : Int) < s.scs.length := by omega
 simp [go_sem, Try.C31, hf, h1', h2']
 by_cases hr : Rng s
 rotate_left
 · have h7 := he.fr hl hr
   have cR := Try.rranges_c s false (fun _ => rfl) (fun h => absurd h hr) hl bx
   simp only [ckV] at cR
   refine callK_pure cR ?_
   simp [go_sem, hf]
   exact ret_pure (by simp [go_sem]) (by simp [go_sem, h7])
 have cR := Try.rranges_c s true (fun h => absurd hr h) (fun _ => rfl) hl bx
 simp only [ckV] at cR
 refine callK_pure cR ?_
 simp [go_sem, hf]
 by_cases hn : (ids s).Nodup
 rotate_left
 · have h8 := he.ft hl hr hn
   have cT := Try.twice_c s true (fun h => absurd h hn) (fun _ => rfl) hl bx
   simp only [ckV] at cT
   refine callK_pure cT ?_
   simp [go_sem, hf]
   exact ret_pure (by simp [go_sem]) (by simp [go_sem, h8])
 have cT := Try.twice_c s false (fun _ => rfl) (fun h => absurd hn h) hl bx
 simp only [ckV] at cT
 refine callK_pure cT ?_
 simp [go_sem, hf]
 refine pw_find (s.ts.length - 1) (fun i => decide (ord (s.ts.getD (i + 1) default) (s.ts.getD i default) < 0)) (fun k => ⟨75, slk [(1, .ep (ckV s) 0), (3, .int .i64 ((k : Int) + 1))], bx⟩) (cov_look (by simp [go_sem, ckV])) (fun k hk hJ N hN => ?_) (fun hJ N => ?_)
 · have hk1 : k + 1 < s.ts.length := by omega
   have hk0 : k < s.ts.length := by omega
   have hmi : (k : Int) + 1 < s.ts.length := by omega
   have hto : ((k : Int) + 1).toNat = k + 1 := by omega
   have hn0 : ¬ (k : Int) + 1 < 0 := by omega
   have hp1 : (0 : Int) ≤ (k : Int) + 1 := by omega
   have hw0 : IntKind.i64.wrap (k : Int) = (k : Int) := wr64 (by omega)
   have hw : IntKind.i64.wrap ((k : Int) + 1 + 1) = ((k + 1 : Nat) : Int) + 1 := by rw [wr64 (by omega)]; omega
   have g1 : s.ts.getD (k + 1) default = s.ts[k + 1] := by simp [hk1]
   have g2 : s.ts.getD k default = s.ts[k] := by simp [hk0]
   rw [g1, g2] at hN
   have hne : s.ts[k].id ≠ s.ts[k + 1].id := fun e2 => by
     have h9 : (s.ts.map (·.id)).Nodup := (List.nodup_append.1 hn).1
     have := (List.getElem_inj (h₀ := by simpa using hk0) (h₁ := by simpa using hk1) h9).1 (by simpa using e2)
     omega
   have cB := Try.bfr_c s.ts[k] s.ts[k + 1] bx
   simp only [tmV] at cB
   simp [go_sem, Try.L31_0, hf, ckV, hmi, hto, hn0, hp1, hw0, hk0, hk1, tmV]
   refine callK_pure cB ?_
   simp [go_sem, hf]
   refine ⟨fun c => ret_pure (by simp [go_sem]) ?_, fun c => hN _ ?_ (cov_look (by simp [go_sem, hw, ckV, tmV]))⟩
   · have := he.fs hl hr hn fun hS => by
       have h9 := hS k hk1
       rw [g1, g2] at h9
       have h8 := (ord_flip hne).2 h9
       omega
     simp [go_sem, this]
   · simp only [decide_eq_false_iff_not]
     exact (ord_flip hne).1 c
 · have hS : SrtT s.ts := fun i hi => by
     have := hJ i (by omega)
     simpa using this
   have hend : ¬ (((s.ts.length - 1 : Nat) : Int) + 1 < s.ts.length) := by omega
   simp [go_sem, Try.L31_0, hf, ckV, hend]
   refine pw_find s.scs.length (fun i => !refAt s i) (fun k => ⟨75, slk [(1, .ep (ckV s) 0), (4, .int .i64 k)], bx⟩) (cov_look (by simp [go_sem, ckV])) (fun k hk hJ N hN => ?_) (fun hJ N => ?_)
   · have hw := wr_succ (k := k) (by omega)
     have hgk : s.scs.getD k default = s.scs[k] := by simp [hk]
     have cF := Try.frm_c s s.scs[k] (by omega) bx
     simp only [ckV, scV] at cF
     have hbad : refAt s k = false → e = 6 := fun h => he.fm hl hr hn hS fun hF => by
       have := (ref_form hr).2 hF k hk
       rw [h] at this; cases this
     have hra : refAt s k = (!(decide (0 < k) && decide (s.scs[k].id ≤ (s.scs.getD (k - 1) default).id)) && frmB s s.scs[k]) := by unfold refAt; rw [hgk]
     rcases k with _ | k
     · simp [go_sem, Try.L31_1, hf, ckV, hk, scV]
       refine gK_pure cF (by simp) (by simp [go_sem]) ?_
       simp [go_sem, hf]
       refine ⟨fun c => ret_pure (by simp [go_sem]) ?_, fun c => hN _ ?_ (cov_look (by simp [go_sem, ckV, (by decide : IntKind.i64.wrap 1 = 1)]))⟩
       · simp [go_sem, hbad (by rw [hra]; simp [c])]
       · rw [hra]; simp [c]
     · have hk0 : k < s.scs.length := by omega
       have hmi : (k : Int) + 1 < s.scs.length := by omega
       have hto : ((k : Int) + 1).toNat = k + 1 := by omega
       have hn0 : ¬ (k : Int) + 1 < 0 := by omega
       have hp0 : (0 : Int) < (k : Int) + 1 := by omega
       have hp1 : (0 : Int) ≤ (k : Int) + 1 := by omega
       have hw0 : IntKind.i64.wrap (k : Int) = (k : Int) := wr64 (by omega)
       have hw2 : IntKind.i64.wrap ((k : Int) + 1 + 1) = (k : Int) + 1 + 1 := wr64 (by omega)
       have hgk2 : s.scs.getD k default = s.scs[k] := by simp [hk0]
       rw [Nat.add_sub_cancel, hgk2] at hra
       have hcast : ((k + 1 : Nat) : Int) = (k : Int) + 1 := by omega
       rw [hcast]
       by_cases c0 : s.scs[k + 1].id ≤ s.scs[k].id
       · simp [go_sem, Try.L31_1, hf, ckV, hk, hk0, hmi, hto, hn0, hp0, hp1, hw0, scV, c0]
         refine gK_off (.bool false) (by simp [go_sem]) ?_
         simp [go_sem, hf]
         exact ret_pure (by simp [go_sem]) (by simp [go_sem, hbad (by rw [hra]; simp [c0])])
       · simp [go_sem, Try.L31_1, hf, ckV, hk, hk0, hmi, hto, hn0, hp0, hp1, hw0, scV, c0]
         refine gK_pure cF (by simp) (by simp [go_sem]) ?_
         simp [go_sem, hf]
         refine ⟨fun c => ret_pure (by simp [go_sem]) ?_, fun c => hN _ ?_ (cov_look (by simp [go_sem, ckV, hw2]))⟩
         · simp [go_sem, hbad (by rw [hra]; simp [c])]
         · rw [hra]; simp [c]; omega
   · have hF := (ref_form hr).1 fun i hi => by simpa using hJ i hi
     have h0 := he.fo hl hr hn hS hF
     simp [go_sem, Try.L31_1, hf, ckV]
     exact ret_pure (by simp [go_sem]) (by simp [go_sem, h0])
end Go.Proofs

set_option linter.unusedSimpArgs false
set_option linter.unusedVariables false
set_option maxRecDepth 100000
namespace Go.Ck
open Go Go.Pl
theorem tm_eq (a b : Tm) : a = b ↔ a.id = b.id ∧ a.at_ = b.at_ ∧ a.kind = b.kind ∧ a.owner = b.owner := by cases a; cases b; simp
theorem sc_eq (a b : Sc) : a = b ↔ a.id = b.id ∧ a.parent = b.parent ∧ a.dl = b.dl ∧ a.why = b.why := by cases a; cases b; simp
end Go.Ck
namespace Go.Proofs
open Go Go.Pl Go.Ck
theorem Try.sameT_c (l m : List Tm) (hl : l.length ≤ 1000000) (bx : Boxes) : PureCall Try.prog 13 [.sl 4 (l.map tmV), .sl 4 (m.map tmV)] bx (.bool (decide (l = m))) := by
 refine Try.ctr13 fun hf => ?_
 by_cases he : l.length = m.length
 · have he' : (l.length : Int) = m.length := by omega
   simp [go_sem, Try.C13, hf, he']
   refine pw_find l.length (fun i => decide (l.getD i default ≠ m.getD i default)) (fun k => ⟨26, slk [(0, .sl 4 (l.map tmV)), (1, .sl 4 (m.map tmV)), (5, .int .i64 k)], bx⟩) (cov_look (by simp [go_sem])) (fun k hk hJ N hN => ?_) (fun hJ N => ?_)
   · have hw := wr_succ (k := k) (by omega)
     have hkm : k < m.length := by omega
     have g1 : l.getD k default = l[k] := by simp [hk]
     have g2 : m.getD k default = m[k] := by simp [hkm]
     rw [g1, g2] at hN
     simp [go_sem, Try.L13_0, hf, hk, hkm, tmV]
     refine ⟨fun c => ret_pure (by simp [go_sem]) ?_, fun c1 c2 c3 c4 => hN _ ?_ (cov_look (by simp [go_sem, hw, tmV]))⟩
     · have hne : l ≠ m := fun e => by subst e; simp at c
       simp [go_sem, hne]
     · have := (tm_eq l[k] m[k]).2 ⟨c1, c2, c3, c4⟩
       simp [this]
   · have hlm : l = m := by
       apply List.ext_getElem he
       intro i h1 h2
       have := hJ i h1
       simpa [h1, h2] using this
     simp [go_sem, Try.L13_0, hf]
     exact ret_pure (by simp [go_sem]) (by simp [go_sem, hlm])
 · have he' : ¬ (l.length : Int) = m.length := by omega
   have hne : l ≠ m := fun e => he (by rw [e])
   simp [go_sem, Try.C13, hf, he']
   exact ret_pure (by simp [go_sem]) (by simp [go_sem, hne])
theorem Try.same_c (s t : Ck) (hl : s.ts.length ≤ 1000000 ∧ s.scs.length ≤ 1000000) (bx : Boxes) : PureCall Try.prog 14 [ckV s, ckV t] bx (.bool (decide (s = t))) := by
 refine Try.ctr14 fun hf => ?_
 have cT := Try.sameT_c s.ts t.ts hl.1 bx
 obtain ⟨n, x, ts, scs⟩ := s
 obtain ⟨n', x', ts', scs'⟩ := t
 simp only [ckV] at cT hl ⊢
 by_cases h1 : n = n'
 · by_cases h2 : x = x'
   · simp [go_sem, Try.C14, hf, h1, h2]
     refine gK_pure cT (by simp) (by simp [go_sem]) ?_
     by_cases h3 : ts = ts'
     · by_cases h4 : scs.length = scs'.length
       · have h4' : (scs.length : Int) = scs'.length := by omega
         simp [go_sem, hf, h3, h4']
         refine pw_find scs.length (fun i => decide (scs.getD i default ≠ scs'.getD i default)) (fun k => ⟨53, slk [(2, .ep (.agg [.int .i64 n', .int .i64 x', .sl 4 (ts'.map tmV), .sl 4 (scs.map scV)]) 0), (3, .ep (.agg [.int .i64 n', .int .i64 x', .sl 4 (ts'.map tmV), .sl 4 (scs'.map scV)]) 0), (5, .int .i64 k)], bx⟩) (cov_look (by simp [go_sem])) (fun k hk hJ N hN => ?_) (fun hJ N => ?_)
         · have hw := wr_succ (k := k) (by have := hl.2; omega)
           have hkm : k < scs'.length := by omega
           have g1 : scs.getD k default = scs[k] := by simp [hk]
           have g2 : scs'.getD k default = scs'[k] := by simp [hkm]
           rw [g1, g2] at hN
           simp [go_sem, Try.L14_0, hf, hk, hkm, scV]
           refine ⟨fun c => ret_pure (by simp [go_sem]) ?_, fun c1 c2 c3 c4 => hN _ ?_ (cov_look (by simp [go_sem, hw, scV]))⟩
           · have hne : scs ≠ scs' := fun e => by subst e; simp at c
             simp [go_sem, hne]
           · have := (sc_eq scs[k] scs'[k]).2 ⟨c1, c2, c3, c4⟩
             simp [this]
         · have hlm : scs = scs' := by
             apply List.ext_getElem h4
             intro i h1 h2
             have := hJ i h1
             simpa [h1, h2] using this
           simp [go_sem, Try.L14_0, hf]
           exact ret_pure (by simp [go_sem]) (by simp [go_sem, hlm])
       · have h4' : ¬ (scs.length : Int) = scs'.length := by omega
         have hne : scs ≠ scs' := fun e => h4 (by rw [e])
         simp [go_sem, hf, h3, h4']
         exact ret_pure (by simp [go_sem]) (by simp [go_sem, hne])
     · simp [go_sem, hf, h3]
       exact ret_pure (by simp [go_sem]) (by simp [go_sem])
   · simp [go_sem, Try.C14, hf, h1, h2]
     refine gK_off (.bool false) (by simp [go_sem]) ?_
     simp [go_sem, hf]
     exact ret_pure (by simp [go_sem]) (by simp [go_sem])
 · simp [go_sem, Try.C14, hf, h1]
   refine gK_off (.bool false) (by simp [go_sem]) ?_
   simp [go_sem, hf]
   exact ret_pure (by simp [go_sem]) (by simp [go_sem])
end Go.Proofs

set_option linter.unusedSimpArgs false
set_option linter.unusedVariables false
set_option maxRecDepth 100000
namespace Go.Ck
open Go Go.Pl
def Bf (a b : Tm) : Prop := a.at_ < b.at_ ∨ (a.at_ = b.at_ ∧ a.id < b.id)
theorem Ok.pw {s : Ck} (h : Ok s) : s.ts.Pairwise Bf := by
 rw [List.pairwise_iff_getElem]
 intro i j hi hj hij
 have h1 := ord_mono h.srt hj (Nat.le_of_lt hij)
 rw [Go.Proofs.ord_lt] at h1
 have hne : s.ts[i].id ≠ s.ts[j].id := fun e => by
   have h9 : (s.ts.map (·.id)).Nodup := (List.nodup_append.1 h.nd).1
   have := (List.getElem_inj (h₀ := by simpa using hi) (h₁ := by simpa using hj) h9).1 (by simpa using e)
   omega
 unfold Bf; omega
theorem srt_pw {l : List Tm} (h : l.Pairwise Bf) : SrtT l := by
 intro i hi
 have := List.pairwise_iff_getElem.1 h i (i + 1) (by omega) hi (by omega)
 unfold Bf at this
 rw [Go.Proofs.ord_lt]
 have g1 : l.getD (i + 1) default = l[i + 1] := by simp [hi]
 have g2 : l.getD i default = l[i] := by simp [show i < l.length by omega]
 rw [g1, g2]
 omega
theorem endS_id (to : Int) (x : Sc) : (endS to x).id = x.id ∧ (endS to x).parent = x.parent ∧ (endS to x).dl = x.dl := by
 unfold endS; split <;> simp
theorem endS_why (to : Int) (x : Sc) : (endS to x).why = if x.why = 0 ∧ x.dl ≤ to then 2 else x.why := by
 unfold endS; split <;> simp
theorem Ok.tik {s : Ck} (h : Ok s) {to : Int} (h1 : s.now ≤ to) (h2 : to ≤ 1000000000000) : Ok (tikS s to) := by
 obtain ⟨hl, hr, hn, hs, hf⟩ := h
 have hids : ids (tikS s to) = (kepT to s.ts).map (·.id) ++ s.scs.map (·.id) := by
   unfold ids tikS
   simp only [List.map_map]
   congr 1
   exact List.map_congr_left fun x _ => (endS_id to x).1
 have hpw := Ok.pw ⟨hl, hr, hn, hs, hf⟩
 refine ⟨⟨?_, ?_⟩, ⟨⟨?_, h2⟩, hr.2.1, fun t ht => ?_, fun x hx => ?_⟩, ?_, srt_pw (hpw.filter _), fun i hi => ?_⟩
 · have := List.length_filter_le (fun x : Tm => decide (to < x.at_)) s.ts
   show (kepT to s.ts).length ≤ 2000
   unfold kepT; have := hl.1; omega
 · show (s.scs.map (endS to)).length ≤ 500
   simp; exact hl.2
 · show 0 ≤ to
   have := hr.1.1; omega
 · exact hr.2.2.1 t (List.mem_filter.1 ht).1
 · obtain ⟨y, hy, rfl⟩ := List.mem_map.1 hx
   have hy2 := hr.2.2.2 y hy
   obtain ⟨e1, e2, e3⟩ := endS_id to y
   have e4 := endS_why to y
   unfold rngS at hy2 ⊢
   rw [e1, e3, e4]
   refine ⟨hy2.1, hy2.2.1, ?_⟩
   split <;> omega
 · rw [hids]
   refine hn.sublist ?_
   unfold ids
   exact List.Sublist.append ((List.filter_sublist).map _) (List.Sublist.refl _)
 · have hi2 : i < s.scs.length := by simpa [tikS] using hi
   obtain ⟨f1, f2, f3⟩ := hf i hi2
   have hg : ∀ j, j < s.scs.length → (s.scs.map (endS to)).getD j default = endS to (s.scs.getD j default) := fun j hj => by simp [hj]
   show FormAt to (s.scs.map (endS to)) i
   unfold FormAt
   rw [hg i hi2]
   generalize hx : s.scs.getD i default = x at *
   obtain ⟨e1, e2, e3⟩ := endS_id to x
   have e4 := endS_why to x
   refine ⟨?_, ?_, ?_⟩
   · have : lastId (s.scs.map (endS to)) i = lastId s.scs i := by
       unfold lastId
       split
       · rfl
       · rw [hg (i - 1) (by omega), (endS_id to _).1]
     rw [this, e1]; exact f1
   · clear f3 hg f1
     unfold okS at f2 ⊢
     rw [e3, e4]
     split <;> omega
   · rw [e2]
     rcases f3 with f3 | ⟨p, p1, p2, p3, p4⟩
     · exact .inl f3
     · right
       obtain ⟨q1, q2, q3⟩ := endS_id to p
       have q4 := endS_why to p
       refine ⟨endS to p, by rw [← List.map_take]; exact List.mem_map.2 ⟨p, p1, rfl⟩, by rw [q1]; exact p2, by rw [e3, q3]; exact p3, ?_⟩
       rw [e4, q4]
       intro hz
       by_cases c : x.why = 0 ∧ x.dl ≤ to
       · rw [if_pos c] at hz; cases hz
       · rw [if_neg c] at hz
         have := p4 hz
         rw [if_neg (by omega)]; exact this
theorem fir_comp {a b : Int} (hab : a ≤ b) : ∀ {l : List Tm}, l.Pairwise Bf → firT a l ++ firT b (kepT a l) = firT b l
 | [], _ => rfl
 | x :: l, h => by
   rw [List.pairwise_cons] at h
   have ih := fir_comp hab h.2
   by_cases c : x.at_ ≤ a
   · have e1 : firT a (x :: l) = x :: firT a l := by unfold firT; rw [List.filter_cons_of_pos (by simpa using c)]
     have e2 : kepT a (x :: l) = kepT a l := by unfold kepT; rw [List.filter_cons_of_neg (by simp; omega)]
     have e3 : firT b (x :: l) = x :: firT b l := by unfold firT; rw [List.filter_cons_of_pos (by simp; omega)]
     rw [e1, e2, e3, ← ih]; rfl
   · have hall : ∀ y, y ∈ l → a < y.at_ := fun y hy => by
       have := h.1 y hy
       unfold Bf at this; omega
     have e1 : firT a (x :: l) = [] := by
       unfold firT; rw [List.filter_eq_nil_iff]
       intro y hy
       rcases List.mem_cons.1 hy with rfl | hy
       · simpa using c
       · have := hall y hy; simp; omega
     have e2 : kepT a (x :: l) = x :: l := by
       unfold kepT; rw [List.filter_eq_self]
       intro y hy
       rcases List.mem_cons.1 hy with rfl | hy
       · simp; omega
       · have := hall y hy; simp; omega
     rw [e1, e2]; rfl
theorem kep_comp {a b : Int} (hab : a ≤ b) (l : List Tm) : kepT b (kepT a l) = kepT b l := by
 unfold kepT
 rw [List.filter_filter]
 congr 1
 funext x
 by_cases c : b < x.at_
 · simp [c]; omega
 · simp [c]
theorem end_comp {a b : Int} (hab : a ≤ b) (x : Sc) : endS b (endS a x) = endS b x := by
 by_cases c : x.why = 0 ∧ x.dl ≤ a
 · have c2 : x.why = 0 ∧ x.dl ≤ b := ⟨c.1, by omega⟩
   unfold endS
   rw [if_pos c, if_pos c2, if_neg (by simp)]
 · conv => lhs; rw [show endS a x = x from by unfold endS; rw [if_neg c]]
theorem tik_comp {s : Ck} {a b : Int} (hab : a ≤ b) : tikS (tikS s a) b = tikS s b := by
 show Ck.mk b s.next (kepT b (kepT a s.ts)) ((s.scs.map (endS a)).map (endS b)) = ⟨b, s.next, kepT b s.ts, s.scs.map (endS b)⟩
 rw [kep_comp hab, List.map_map]
 congr 1
 exact List.map_congr_left fun x _ => end_comp hab x
theorem endI_comp {a b : Int} (hab : a ≤ b) : ∀ l : List Sc, (endI a l).length + (endI b (l.map (endS a))).length = (endI b l).length
 | [] => rfl
 | x :: l => by
   have ih := endI_comp hab l
   unfold endI at ih ⊢
   simp only [List.length_map] at ih ⊢
   rw [List.map_cons]
   have e3 := (endS_id a x).2.2
   have e4 := endS_why a x
   by_cases c : x.why = 0 ∧ x.dl ≤ a
   · rw [if_pos c] at e4
     rw [List.filter_cons_of_pos (by simpa using c), List.filter_cons_of_neg (by simp [e4]), List.filter_cons_of_pos (by simp [c.1]; omega)]
     simp only [List.length_cons]; omega
   · rw [if_neg c] at e4
     rw [List.filter_cons_of_neg (by simpa using c)]
     by_cases c2 : x.why = 0 ∧ x.dl ≤ b
     · rw [List.filter_cons_of_pos (by simp [e3, e4, c2]), List.filter_cons_of_pos (by simpa using c2)]
       simp only [List.length_cons]; omega
     · rw [List.filter_cons_of_neg (by rw [e3, e4]; simpa using c2), List.filter_cons_of_neg (by simpa using c2)]
       exact ih
def FireI (s : Ck) (k : Nat) (u : Ck) (A : List Tm) (G : List Int) : Prop :=
 (k = 0 ∧ u = s ∧ A = [] ∧ G = []) ∨ (0 < k ∧ ∃ T, s.now ≤ T ∧ T ≤ 1000000000000 ∧ u = tikS s T ∧ A = firT T s.ts ∧ G.length = (endI T s.scs).length)
theorem FireI.ok {s u : Ck} {k : Nat} {A : List Tm} {G : List Int} (h : FireI s k u A G) (hs : Ok s) : Ok u := by
 rcases h with ⟨_, rfl, _⟩ | ⟨_, T, h1, h2, rfl, _⟩
 · exact hs
 · exact hs.tik h1 h2
theorem FireI.step {s u : Ck} {k : Nat} {A : List Tm} {G : List Int} (h : FireI s k u A G) (hs : Ok s) {to : Int} (h1 : u.now ≤ to) (h2 : to ≤ 1000000000000) : FireI s (k + 1) (tikS u to) (A ++ firT to u.ts) (G ++ endI to u.scs) := by
 right
 refine ⟨by omega, to, ?_⟩
 rcases h with ⟨_, rfl, rfl, rfl⟩ | ⟨_, T, g1, g2, rfl, rfl, g3⟩
 · exact ⟨h1, h2, rfl, rfl, rfl⟩
 · have hT : T ≤ to := h1
   refine ⟨by omega, h2, tik_comp hT, fir_comp hT hs.pw, ?_⟩
   rw [List.length_append, g3]
   exact endI_comp hT s.scs
theorem FireI.end {s u : Ck} {k : Nat} {A : List Tm} {G : List Int} (h : FireI s k u A G) (hk : 0 < k) : s.now ≤ u.now ∧ u.now ≤ 1000000000000 ∧ u = tikS s u.now ∧ A = firT u.now s.ts ∧ G.length = (endI u.now s.scs).length := by
 rcases h with ⟨rfl, _⟩ | ⟨_, T, h1, h2, rfl, rfl, h3⟩
 · omega
 · exact ⟨h1, h2, rfl, rfl, h3⟩
end Go.Ck

set_option linter.unusedSimpArgs false
set_option linter.unusedVariables false
set_option maxRecDepth 100000
namespace Go.Pl
open Go
theorem app_gen {P : Program} {pr bxk : Boxes} {e sz : Nat} {es news : List V} {v x : V} {B : Option Nat} {t : TypeId} {dst : Option Tmp} {n : Nat} {sl : Nat → V} {K : St → Prop} (z : Value)
   (hx : Ext pr bxk) (hf : FinB bxk) (hv : Sl pr e sz es v B) (hk : knd P t = .slice e) (hsz : tsz P e = sz) (src : srcEls ⟨n, sl, bxk⟩ sz x = some news) (hz : tzero P e = some z) (hst : storable P e (ofValue z)) (hpos : 0 < sz)
   (hby : (es.length + news.length) * tby P e ≤ 140737488355328) (hlen : es.length + news.length ≤ 9223372036854775807) (hd : dstOk ⟨n, sl, bxk⟩ dst)
   (hK : ∀ v' B' bx3 pr', Ext pr' bx3 → FinB bx3 → Sl pr' e sz (es ++ news) v' B' → (∀ c, pr c ≠ none → B ≠ some c → pr' c = pr c ∧ B' ≠ some c) → (∀ b, B' = some b → bxk b = none ∨ B = some b) → K (St.put ⟨n, sl, bx3⟩ dst v')) : appendA P ⟨n, sl, bxk⟩ dst t v x K := by
 have ha : Acc (clrB bxk B) e sz es v bxk := by
   refine ⟨fun c hc => ?_, hf, ?_⟩
   · by_cases hB : B = some c
     · subst hB; exact absurd clrB_eq hc
     · exact (clrB_ne hB).symm
   · rcases hv with ⟨h1, h2, _⟩ | ⟨b, h1, h2, h3⟩
     · exact .inl ⟨h1, h2⟩
     · exact .inr ⟨b, by rw [h3]; exact clrB_eq, h1, (hx b (by rw [h2]; simp)).trans h2⟩
 have eB : ∀ c, pr c ≠ none → B ≠ some c → clrB bxk B c = pr c := fun c hc hB => by rw [clrB_ne hB, hx c hc]
 refine acc_append z ha (Ext.refl _) hf hk hsz src hz hst hpos hby hlen hd fun v' bx3 ha2 => ?_
 rcases ha2.is with ⟨h1, h2⟩ | ⟨b', h1, h2, h3⟩
 · refine hK v' none bx3 (clrB pr B) (fun c hc => ?_) ha2.fin (.inl ⟨h1, h2, rfl⟩) (fun c hc hB => ⟨clrB_ne hB, by simp⟩) (fun b hb => by cases hb)
   by_cases hB : B = some c
   · subst hB; exact absurd clrB_eq hc
   · rw [clrB_ne hB] at hc ⊢
     rw [ha2.ext c (by rw [eB c hc hB]; exact hc), eB c hc hB]
 · have hne : ∀ c, pr c ≠ none → B ≠ some c → c ≠ b' := fun c hc hB e => by
     subst e; rw [eB c hc hB] at h1; exact hc h1
   refine hK v' (some b') bx3 (upd (clrB pr B) b' (some (.row e sz (es ++ news)))) (fun c hc => ?_) ha2.fin (.inr ⟨b', h2, upd_eq _ _ _, rfl⟩) (fun c hc hB => ⟨by rw [upd_ne _ _ (hne c hc hB), clrB_ne hB], fun q => hne c hc hB (by injection q with q; exact q.symm)⟩) (fun b hb => ?_)
   · by_cases ec : c = b'
     · subst ec; rw [upd_eq]; exact h3
     · rw [upd_ne _ _ ec] at hc ⊢
       by_cases hB : B = some c
       · subst hB; exact absurd clrB_eq hc
       · rw [clrB_ne hB] at hc ⊢
         rw [ha2.ext c (by rw [eB c hc hB]; exact hc), eB c hc hB]
   · injection hb with hb
     subst hb
     by_cases hB : B = some b'
     · exact .inr hB
     · rw [clrB_ne hB] at h1; exact .inl h1
structure Tw (bx bxk R : Boxes) (e1 z1 : Nat) (E1 : List V) (v1 : V) (B1 : Option Nat) (e2 z2 : Nat) (E2 : List V) (v2 : V) (B2 : Option Nat) : Prop where
 ex : ∃ pr, Ext bx pr ∧ Ext pr bxk ∧ Ext R pr
 fin : FinB bxk
 nR : ∀ c, R c ≠ none → bx c = none
 s1 : ∃ pr, Ext pr bxk ∧ Sl pr e1 z1 E1 v1 B1
 s2 : ∃ pr, Ext pr bxk ∧ Sl pr e2 z2 E2 v2 B2
 n1 : ∀ b, B1 = some b → bx b = none
 n2 : ∀ b, B2 = some b → bx b = none
 dR : ∀ c, R c ≠ none → B1 ≠ some c ∧ B2 ≠ some c
 d12 : ∀ b, B1 = some b → B2 ≠ some b
section
variable {bx bxk R : Boxes} {e1 z1 e2 z2 : Nat} {E1 E2 : List V} {v1 v2 : V} {B1 B2 : Option Nat}
theorem Tw.eb (h : Tw bx bxk R e1 z1 E1 v1 B1 e2 z2 E2 v2 B2) : Ext bx bxk := by
 obtain ⟨pr, h1, h2, _⟩ := h.ex
 exact h1.trans h2
theorem Tw.eR (h : Tw bx bxk R e1 z1 E1 v1 B1 e2 z2 E2 v2 B2) : Ext R bxk := by
 obtain ⟨pr, h1, h2, h3⟩ := h.ex
 exact h3.trans h2
theorem Tw.at (h : Tw bx bxk R e1 z1 E1 v1 B1 e2 z2 E2 v2 B2) {c : Nat} {x : Box} (hc : R c = some x) : bxk c = some x := (h.eR c (by rw [hc]; simp)).trans hc
theorem Tw.l1 (h : Tw bx bxk R e1 z1 E1 v1 B1 e2 z2 E2 v2 B2) : v1.liveB = true ∧ v1.strip = v1 ∧ v1.cells = [v1] ∧ Go.Pl.okV v1 = true := by
 obtain ⟨pr, _, h⟩ := h.s1
 exact ⟨h.live, h.strip, h.cells, h.okV⟩
theorem Tw.l2 (h : Tw bx bxk R e1 z1 E1 v1 B1 e2 z2 E2 v2 B2) : v2.liveB = true ∧ v2.strip = v2 ∧ v2.cells = [v2] ∧ Go.Pl.okV v2 = true := by
 obtain ⟨pr, _, h⟩ := h.s2
 exact ⟨h.live, h.strip, h.cells, h.okV⟩
theorem Tw.mk' (eb : Ext bx bxk) (eR : Ext R bxk) (fin : FinB bxk) (nR : ∀ c, R c ≠ none → bx c = none) (s1 : ∃ pr, Ext pr bxk ∧ Sl pr e1 z1 E1 v1 B1) (s2 : ∃ pr, Ext pr bxk ∧ Sl pr e2 z2 E2 v2 B2) (n1 : ∀ b, B1 = some b → bx b = none) (n2 : ∀ b, B2 = some b → bx b = none) (dR : ∀ c, R c ≠ none → B1 ≠ some c ∧ B2 ≠ some c) (d12 : ∀ b, B1 = some b → B2 ≠ some b) : Tw bx bxk R e1 z1 E1 v1 B1 e2 z2 E2 v2 B2 := by
 refine ⟨⟨fun c => if R c = none then bx c else R c, fun c hc => ?_, fun c hc => ?_, fun c hc => ?_⟩, fin, nR, s1, s2, n1, n2, dR, d12⟩
 · by_cases q : R c = none
   · simp [q]
   · exact absurd (nR c q) hc
 · by_cases q : R c = none
   · simp only [q, if_true] at hc ⊢; exact eb c hc
   · simp only [q, if_false]; exact eR c q
 · simp [hc]
theorem Tw.at1 (h : Tw bx bxk R e1 z1 E1 v1 B1 e2 z2 E2 v2 B2) {b : Nat} (hb : B1 = some b) : v1 = .own b z1 0 E1.length ∧ bxk b = some (.row e1 z1 E1) := by
 obtain ⟨pr, h1, h2⟩ := h.s1
 obtain ⟨h3, h4⟩ := h2.at hb
 exact ⟨h3, (h1 b (by rw [h4]; simp)).trans h4⟩
theorem Tw.swap (h : Tw bx bxk R e1 z1 E1 v1 B1 e2 z2 E2 v2 B2) : Tw bx bxk R e2 z2 E2 v2 B2 e1 z1 E1 v1 B1 :=
 ⟨h.ex, h.fin, h.nR, h.s2, h.s1, h.n2, h.n1, fun c hc => ⟨(h.dR c hc).2, (h.dR c hc).1⟩, fun b hb e => h.d12 b e hb⟩
theorem sl_self {pr : Boxes} {e sz : Nat} {es : List V} {v : V} {B : Option Nat} {bxk bx' : Boxes} (h : ∃ pr, Ext pr bxk ∧ Sl pr e sz es v B) (hx : ∀ b, B = some b → bx' b = bxk b) : ∃ pr, Ext pr bx' ∧ Sl pr e sz es v B := by
 obtain ⟨pr, h1, h2⟩ := h
 rcases h2 with q | ⟨b, q1, q2, q3⟩
 · exact ⟨fun _ => none, fun c hc => absurd rfl hc, .inl q⟩
 · refine ⟨upd (fun _ => none) b (some (.row e sz es)), fun c hc => ?_, .inr ⟨b, q1, upd_eq _ _ _, q3⟩⟩
   by_cases ec : c = b
   · subst ec
     rw [hx c q3, h1 c (by rw [q2]; simp), q2, upd_eq]
   · rw [upd_ne _ _ ec] at hc; exact absurd rfl hc
theorem Tw.put (h : Tw bx bxk R e1 z1 E1 v1 B1 e2 z2 E2 v2 B2) {c : Nat} (hc : R c ≠ none) (x : Box) : Tw bx (upd bxk c (some x)) (upd R c (some x)) e1 z1 E1 v1 B1 e2 z2 E2 v2 B2 := by
 have hb := h.nR c hc
 obtain ⟨q1, q2⟩ := h.dR c hc
 have hn : ∀ d, upd R c (some x) d ≠ none → R d ≠ none := fun d hd => by
   by_cases e : d = c
   · rw [e]; exact hc
   · rw [upd_ne _ _ e] at hd; exact hd
 refine Tw.mk' (h.eb.upd_own hb _) (fun d hd => ?_) ((finB_upd _ _ _).2 h.fin) (fun d hd => h.nR d (hn d hd)) (sl_self (pr := bx) h.s1 fun b hB => upd_ne _ _ fun e => q1 (by rw [← e]; exact hB)) (sl_self (pr := bx) h.s2 fun b hB => upd_ne _ _ fun e => q2 (by rw [← e]; exact hB)) h.n1 h.n2 (fun d hd => h.dR d (hn d hd)) h.d12
 by_cases e : d = c
 · rw [e, upd_eq, upd_eq]
 · rw [upd_ne _ _ e] at hd ⊢; rw [upd_ne _ _ e]; exact h.eR d hd
theorem Tw.put1 (h : Tw bx bxk R e1 z1 E1 v1 B1 e2 z2 E2 v2 B2) {b : Nat} (hb : B1 = some b) {E' : List V} (hl : E'.length = E1.length) : Tw bx (upd bxk b (some (.row e1 z1 E'))) R e1 z1 E' v1 B1 e2 z2 E2 v2 B2 := by
 have hn := h.n1 b hb
 refine Tw.mk' (h.eb.upd_own hn _) (fun d hd => ?_) ((finB_upd _ _ _).2 h.fin) h.nR ⟨upd (fun _ => none) b (some (.row e1 z1 E')), fun d hd => ?_, .inr ⟨b, by rw [hl]; exact (h.at1 hb).1, upd_eq _ _ _, hb⟩⟩ (sl_self (pr := bx) h.s2 fun c hB => upd_ne _ _ fun e => h.d12 b hb (by rw [← e]; exact hB)) h.n1 h.n2 h.dR h.d12
 · rw [upd_ne _ _ fun e => (h.dR d hd).1 (by rw [e]; exact hb)]; exact h.eR d hd
 · by_cases e : d = b
   · rw [e, upd_eq, upd_eq]
   · rw [upd_ne _ _ e] at hd; exact absurd rfl hd
theorem Tw.other (h : Tw bx bxk R e1 z1 E1 v1 B1 e2 z2 E2 v2 B2) {bx2 : Boxes} (hx : Ext bxk bx2) (hf : FinB bx2) : Tw bx bx2 R e1 z1 E1 v1 B1 e2 z2 E2 v2 B2 := by
 refine Tw.mk' (h.eb.trans hx) (h.eR.trans hx) hf h.nR ?_ ?_ h.n1 h.n2 h.dR h.d12
 · obtain ⟨pr, g1, g2⟩ := h.s1; exact ⟨pr, g1.trans hx, g2⟩
 · obtain ⟨pr, g1, g2⟩ := h.s2; exact ⟨pr, g1.trans hx, g2⟩
theorem Tw.app1 (h : Tw bx bxk R e1 z1 E1 v1 B1 e2 z2 E2 v2 B2) {P : Program} {news : List V} {x : V} {t : TypeId} {dst : Option Tmp} {n : Nat} {sl : Nat → V} {K : St → Prop} (z : Value) (hk : knd P t = .slice e1) (hsz : tsz P e1 = z1) (src : srcEls ⟨n, sl, bxk⟩ z1 x = some news) (hz : tzero P e1 = some z) (hst : storable P e1 (ofValue z)) (hpos : 0 < z1)
   (hby : (E1.length + news.length) * tby P e1 ≤ 140737488355328) (hlen : E1.length + news.length ≤ 9223372036854775807) (hd : dstOk ⟨n, sl, bxk⟩ dst)
   (hK : ∀ v' B' bx3, Tw bx bx3 R e1 z1 (E1 ++ news) v' B' e2 z2 E2 v2 B2 → K (St.put ⟨n, sl, bx3⟩ dst v')) : appendA P ⟨n, sl, bxk⟩ dst t v1 x K := by
 obtain ⟨pr1, p1, p2⟩ := h.s1
 obtain ⟨pr2, q1, q2⟩ := sl_self (pr := bx) h.s2 fun _ _ => rfl
 obtain ⟨pr, hpr⟩ : ∃ pr : Boxes, pr = fun c => if B1 = some c then bxk c else if B2 = some c then bxk c else if R c = none then bx c else R c := ⟨_, rfl⟩
 have hx : Ext pr bxk := fun c hc => by
   rw [hpr] at hc ⊢
   dsimp only at hc ⊢
   by_cases a1 : B1 = some c
   · simp [a1]
   · by_cases a2 : B2 = some c
     · simp [a1, a2]
     · by_cases a3 : R c = none
       · simp only [a1, a2, a3, if_true, if_false] at hc ⊢; exact h.eb c hc
       · simp only [a1, a2, a3, if_false] at hc ⊢; exact h.eR c a3
 have hs1 : Sl pr e1 z1 E1 v1 B1 := by
   rcases p2 with q | ⟨b, r1, r2, r3⟩
   · exact .inl q
   · exact .inr ⟨b, r1, by rw [hpr]; simp only [r3, if_true]; exact (p1 b (by rw [r2]; simp)).trans r2, r3⟩
 have hs2 : Sl pr e2 z2 E2 v2 B2 := by
   rcases q2 with q | ⟨b, r1, r2, r3⟩
   · exact .inl q
   · refine .inr ⟨b, r1, ?_, r3⟩
     rw [hpr]
     dsimp only
     rw [if_neg (fun e => h.d12 b e r3), if_pos r3]
     exact (q1 b (by rw [r2]; simp)).trans r2
 have hbp : ∀ c, bx c ≠ none → pr c = bx c ∧ B1 ≠ some c := fun c hc => by
   have a1 : B1 ≠ some c := fun e => hc (h.n1 c e)
   have a2 : B2 ≠ some c := fun e => hc (h.n2 c e)
   have a3 : R c = none := by
     by_cases q : R c = none
     · exact q
     · exact absurd (h.nR c q) hc
   rw [hpr]; simp [a1, a2, a3]
 have hRp : ∀ c, R c ≠ none → pr c = R c ∧ B1 ≠ some c := fun c hc => by
   obtain ⟨a1, a2⟩ := h.dR c hc
   rw [hpr]; simp [a1, a2, hc]
 refine app_gen z hx h.fin hs1 hk hsz src hz hst hpos hby hlen hd fun v' B' bx3 pr' g1 g2 g3 g4 g5 => hK v' B' bx3 (Tw.mk' (fun c hc => ?_) (fun c hc => ?_) g2 h.nR ⟨pr', g1, g3⟩ ⟨pr', g1, ?_⟩ (fun b hb => ?_) h.n2 (fun c hc => ⟨?_, (h.dR c hc).2⟩) (fun b hb hb2 => ?_))
 · obtain ⟨a1, a2⟩ := hbp c hc
   have a3 := (g4 c (by rw [a1]; exact hc) a2).1
   rw [g1 c (by rw [a3, a1]; exact hc), a3, a1]
 · obtain ⟨a1, a2⟩ := hRp c hc
   have a3 := (g4 c (by rw [a1]; exact hc) a2).1
   rw [g1 c (by rw [a3, a1]; exact hc), a3, a1]
 · refine hs2.ext fun b hb => (g4 b (by rw [(hs2.at hb).2]; simp) (fun e => h.d12 b e hb)).1
 · rcases g5 b hb with g | g
   · exact h.eb.none g
   · exact h.n1 b g
 · obtain ⟨a1, a2⟩ := hRp c hc
   exact (g4 c (by rw [a1]; exact hc) a2).2
 · exact (g4 b (by rw [(hs2.at hb2).2]; simp) (fun e => h.d12 b e hb2)).2 hb
theorem Tw.app2 (h : Tw bx bxk R e1 z1 E1 v1 B1 e2 z2 E2 v2 B2) {P : Program} {news : List V} {x : V} {t : TypeId} {dst : Option Tmp} {n : Nat} {sl : Nat → V} {K : St → Prop} (z : Value) (hk : knd P t = .slice e2) (hsz : tsz P e2 = z2) (src : srcEls ⟨n, sl, bxk⟩ z2 x = some news) (hz : tzero P e2 = some z) (hst : storable P e2 (ofValue z)) (hpos : 0 < z2)
   (hby : (E2.length + news.length) * tby P e2 ≤ 140737488355328) (hlen : E2.length + news.length ≤ 9223372036854775807) (hd : dstOk ⟨n, sl, bxk⟩ dst)
   (hK : ∀ v' B' bx3, Tw bx bx3 R e1 z1 E1 v1 B1 e2 z2 (E2 ++ news) v' B' → K (St.put ⟨n, sl, bx3⟩ dst v')) : appendA P ⟨n, sl, bxk⟩ dst t v2 x K :=
 h.swap.app1 z hk hsz src hz hst hpos hby hlen hd fun v' B' bx3 g => hK v' B' bx3 g.swap
theorem sl_frz {e sz : Nat} {es : List V} {v : V} {B : Option Nat} {bxk bx' : Boxes} (h : ∃ pr, Ext pr bxk ∧ Sl pr e sz es v B) (hn : ∀ b, B = some b → bx' b = none) (hs : 0 < sz) (d : Nat) (hes : ∀ y, y ∈ es → Go.Pl.frz bxk bx' d y = y) : Wk (Go.Pl.frz bxk bx' (d + 1) v) (.sl sz es) := by
 obtain ⟨pr, h1, h2⟩ := h
 rcases h2 with ⟨rfl, rfl, _⟩ | ⟨b, rfl, q2, q3⟩
 · exact wk_nils sz
 · rw [frz_own ((h1 b (by rw [q2]; simp)).trans q2) (hn b q3) hs rfl, List.map_congr_left (g := id) (fun y hy => hes y hy)]
   simp only [List.map_id]
   exact Wk.refl _
theorem Tw.nil (eb : Ext bx bxk) (eR : Ext R bxk) (fin : FinB bxk) (nR : ∀ c, R c ≠ none → bx c = none) : Tw bx bxk R e1 z1 [] .nils none e2 z2 [] .nils none :=
 Tw.mk' eb eR fin nR ⟨fun _ => none, fun c hc => absurd rfl hc, Sl.nil⟩ ⟨fun _ => none, fun c hc => absurd rfl hc, Sl.nil⟩ (fun b hb => by cases hb) (fun b hb => by cases hb) (fun c _ => by simp) (fun b hb => by cases hb)
end
end Go.Pl
namespace Go.Proofs
open Go Go.Pl Go.Ck
theorem Try.sameN_c (l m : List Int) (hl : l.length ≤ 1000000) (bx : Boxes) : PureCall Try.prog 23 [.sl 1 (l.map (.int .i64)), .sl 1 (m.map (.int .i64))] bx (.bool (decide (l = m))) := by
 refine Try.ctr23 fun hf => ?_
 by_cases he : l.length = m.length
 · have he' : (l.length : Int) = m.length := by omega
   simp [go_sem, Try.C23, hf, he']
   refine pw_find l.length (fun i => decide (l.getD i default ≠ m.getD i default)) (fun k => ⟨26, slk [(0, .sl 1 (l.map (.int .i64))), (1, .sl 1 (m.map (.int .i64))), (5, .int .i64 k)], bx⟩) (cov_look (by simp [go_sem])) (fun k hk hJ N hN => ?_) (fun hJ N => ?_)
   · have hw := wr_succ (k := k) (by omega)
     have hkm : k < m.length := by omega
     have g1 : l.getD k default = l[k] := by simp [hk]
     have g2 : m.getD k default = m[k] := by simp [hkm]
     rw [g1, g2] at hN
     simp [go_sem, Try.L23_0, hf, hk, hkm]
     refine ⟨fun c => ret_pure (by simp [go_sem]) ?_, fun c => hN _ (by simp [c]) (cov_look (by simp [go_sem, hw]))⟩
     have hne : l ≠ m := fun e => by subst e; simp at c
     simp [go_sem, hne]
   · have hlm : l = m := by
       apply List.ext_getElem he
       intro i h1 h2
       have := hJ i h1
       simpa [h1, h2] using this
     simp [go_sem, Try.L23_0, hf]
     exact ret_pure (by simp [go_sem]) (by simp [go_sem, hlm])
 · have he' : ¬ (l.length : Int) = m.length := by omega
   have hne : l ≠ m := fun e => he (by rw [e])
   simp [go_sem, Try.C23, hf, he']
   exact ret_pure (by simp [go_sem]) (by simp [go_sem, hne])
end Go.Proofs

set_option linter.unusedSimpArgs false
set_option linter.unusedVariables false
set_option maxRecDepth 100000
namespace Go.Ck
open Go Go.Pl
def unK (l : List Sc) (top : Int) : Nat → List Int
 | 0 => [top]
 | k + 1 => if (l.getD k default).id = top ∨ (l.getD k default).parent ∈ unK l top k then ddAdd (unK l top k) (l.getD k default).id else unK l top k
def unB (l : List Sc) (top : Int) (i : Nat) : Bool := decide ((l.getD i default).id = top) || decide ((l.getD i default).parent ∈ unK l top i)
def unI (l : List Sc) (top : Int) (k : Nat) : List Nat := (List.range k).filter (unB l top)
theorem unI_succ (l : List Sc) (top : Int) (k : Nat) : unI l top (k + 1) = unI l top k ++ if unB l top k then [k] else [] := by
 unfold unI
 rw [List.range_succ, List.filter_append]
 congr 1
 by_cases h : unB l top k = true
 · simp [h]
 · simp [h]
theorem unI_len (l : List Sc) (top : Int) (k : Nat) : (unI l top k).length ≤ k := by
 unfold unI; exact Nat.le_trans (List.length_filter_le _ _) (by simp)
end Go.Ck
namespace Go.Proofs
open Go Go.Pl Go.Ck
theorem Try.under_c (s : Ck) (hs : s.scs.length ≤ 500) (top : Int) (b : Nat) (bx : Boxes) (hb : bx b = some (.row 25 4 [ckV s])) : PureCall Try.prog 40 [.ptr b 4 0 0, .int .i64 top] bx (.sl 1 ((unI s.scs top s.scs.length).map fun i : Nat => V.int .i64 (i : Int))) := by
 refine PureCall.wk (Try.ctr40 fun hf => ?_)
 simp only [ckV] at hb
 simp [go_sem, Try.C40, hf, hb]
 intro bm hbm
 have nbm : b ≠ bm := fun e => by rw [e, hbm] at hb; cases hb
 simp [go_sem, hf, hb, upd_eq, upd_ne, nbm, findV]
 refine pw_for (ι := Boxes × V) s.scs.length (fun k p => Acc (upd bx bm (some (.map (idV (unK s.scs top k))))) 3 1 ((unI s.scs top k).map fun i : Nat => V.int .i64 (i : Int)) p.2 p.1)
   (fun k p => ⟨41, slk [(1, .int .i64 top), (5, .mp bm), (6, p.2), (15, .sl 4 (s.scs.map scV)), (16, .int .i64 s.scs.length), (17, .int .i64 k)], p.1⟩)
   (_, .nils) (acc_nil ((finB_upd _ _ _).2 hf) _ _) (cov_look (by simp [go_sem])) (fun k p hk hJ N hN => ?_) (fun p hJ N => ?_)
 · obtain ⟨bxk, v⟩ := p
   dsimp only at hJ hN ⊢
   have hw := wr_succ (k := k) (by omega)
   have hgk : s.scs.getD k default = s.scs[k] := by simp [hk]
   have hlen := unI_len s.scs top k
   have e1 : unK s.scs top (k + 1) = if s.scs[k].id = top ∨ s.scs[k].parent ∈ unK s.scs top k then ddAdd (unK s.scs top k) s.scs[k].id else unK s.scs top k := by
     conv => lhs; unfold unK
     rw [hgk]
   have e2 : unI s.scs top (k + 1) = unI s.scs top k ++ if s.scs[k].id = top ∨ s.scs[k].parent ∈ unK s.scs top k then [k] else [] := by
     rw [unI_succ]
     congr 1
     unfold unB
     rw [hgk]
     simp
   have hm := hJ.at
   have f1 := id_find s.scs[k].parent (unK s.scs top k) 0
   have f2 := id_cases s.scs[k].id (unK s.scs top k)
   rw [e1, e2] at hN
   generalize unK s.scs top k = ms at *
   generalize unI s.scs top k = is at *
   have lv := hJ.live
   have ls := hJ.strip
   have lc := hJ.cells
   have lo := hJ.okV
   have go : (s.scs[k].id = top ∨ s.scs[k].parent ∈ ms) → ∀ K : St → Prop, True := fun _ _ => trivial
   simp [go_sem, Try.L40_0, hJ.fin, hm, hk, scV, lv, ls, lc, lo]
   intro b8 hb8
   rw [upd_self hb8]
   by_cases c1 : s.scs[k].id = top
   · rw [c1] at f2 hN
     rcases f2 with ⟨p1, p2⟩ | ⟨i, p1, p2, p3⟩
     · simp [go_sem, c1, hJ.fin, hm, p2, lv, ls, lc, lo]
       rw [idV_snoc]
       refine acc_append (.int .i64 0) (hJ.put (.map (idV (ms ++ [top])))) (Ext.refl _) ((finB_upd _ _ _).2 hJ.fin) Try.knd82 Try.tsz3 (news := [.int .i64 (k : Int)]) (by simp [srcEls]) Try.tzero3 (by simp [go_sem]) (by decide) (by simp [Try.tby3]; omega) (by simp; omega) (by simp [go_sem]) fun v' bx3 ha => ?_
       simp [go_sem, ha.live, ha.strip, ha.cells, ha.okV]
       refine hN _ (bx3, v') ?_ (cov_look (by simp [go_sem, hw, scV]))
       rw [if_pos (.inl rfl), if_pos (.inl rfl), p1]
       simpa using ha
     · simp [go_sem, c1, hJ.fin, hm, p2, p3, lv, ls, lc, lo]
       refine acc_append (.int .i64 0) (hJ.put (.map (idV ms))) (Ext.refl _) ((finB_upd _ _ _).2 hJ.fin) Try.knd82 Try.tsz3 (news := [.int .i64 (k : Int)]) (by simp [srcEls]) Try.tzero3 (by simp [go_sem]) (by decide) (by simp [Try.tby3]; omega) (by simp; omega) (by simp [go_sem]) fun v' bx3 ha => ?_
       simp [go_sem, ha.live, ha.strip, ha.cells, ha.okV]
       refine hN _ (bx3, v') ?_ (cov_look (by simp [go_sem, hw, scV]))
       rw [if_pos (.inl rfl), if_pos (.inl rfl), p1]
       simpa using ha
   · by_cases c2 : s.scs[k].parent ∈ ms
     · obtain ⟨i, hi1, hi2⟩ := f1.1 c2
       rcases f2 with ⟨p1, p2⟩ | ⟨i, p1, p2, p3⟩
       · simp [go_sem, c1, hJ.fin, hm, hi2, p2, lv, ls, lc, lo]
         rw [idV_snoc]
         refine acc_append (.int .i64 0) (hJ.put (.map (idV (ms ++ [s.scs[k].id])))) (Ext.refl _) ((finB_upd _ _ _).2 hJ.fin) Try.knd82 Try.tsz3 (news := [.int .i64 (k : Int)]) (by simp [srcEls]) Try.tzero3 (by simp [go_sem]) (by decide) (by simp [Try.tby3]; omega) (by simp; omega) (by simp [go_sem]) fun v' bx3 ha => ?_
         simp [go_sem, ha.live, ha.strip, ha.cells, ha.okV]
         refine hN _ (bx3, v') ?_ (cov_look (by simp [go_sem, hw, scV]))
         rw [if_pos (.inr c2), if_pos (.inr c2), p1]
         simpa using ha
       · simp [go_sem, c1, hJ.fin, hm, hi2, p2, p3, lv, ls, lc, lo]
         refine acc_append (.int .i64 0) (hJ.put (.map (idV ms))) (Ext.refl _) ((finB_upd _ _ _).2 hJ.fin) Try.knd82 Try.tsz3 (news := [.int .i64 (k : Int)]) (by simp [srcEls]) Try.tzero3 (by simp [go_sem]) (by decide) (by simp [Try.tby3]; omega) (by simp; omega) (by simp [go_sem]) fun v' bx3 ha => ?_
         simp [go_sem, ha.live, ha.strip, ha.cells, ha.okV]
         refine hN _ (bx3, v') ?_ (cov_look (by simp [go_sem, hw, scV]))
         rw [if_pos (.inr c2), if_pos (.inr c2), p1]
         simpa using ha
     · have hi2 := f1.2 c2
       simp [go_sem, c1, hJ.fin, hm, hi2, lv, ls, lc, lo]
       refine hN _ (bxk, v) ?_ (cov_look (by simp [go_sem, hw, scV]))
       rw [if_neg (by rintro (q | q) <;> contradiction), if_neg (by rintro (q | q) <;> contradiction), List.append_nil]
       exact hJ
 · obtain ⟨bxk, v⟩ := p
   dsimp only at hJ ⊢
   have lv := hJ.live
   have ls := hJ.strip
   have lc := hJ.cells
   have lo := hJ.okV
   simp [go_sem, Try.L40_0, hJ.fin, lv, ls, lc, lo]
   have h9 := hJ.base ((Ext.refl bx).new hbm _)
   exact ret_accw (by simp [go_sem, lv]) (by simpa [go_sem, ls] using h9) (by decide)
theorem Try.under2_c (s : Ck) (hs : s.scs.length ≤ 500) (top : Int) (b bS : Nat) (bx : Boxes) (hb : bx b = some (.row 25 4 [.agg [.int .i64 s.now, .int .i64 s.next, .sl 4 (s.ts.map tmV), .own bS 4 0 s.scs.length]])) (hS : bx bS = some (.row 51 4 (s.scs.map scV))) : PureCall Try.prog 40 [.ptr b 4 0 0, .int .i64 top] bx (.sl 1 ((unI s.scs top s.scs.length).map fun i : Nat => V.int .i64 (i : Int))) := by
 refine PureCall.wk (Try.ctr40 fun hf => ?_)
 simp [go_sem, Try.C40, hf, hb]
 intro bm hbm
 have nSm : bS ≠ bm := fun e => by rw [e, hbm] at hS; cases hS
 have nbm : b ≠ bm := fun e => by rw [e, hbm] at hb; cases hb
 simp [go_sem, hf, hb, upd_eq, upd_ne, nbm, findV]
 refine pw_for (ι := Boxes × V) s.scs.length (fun k p => Acc (upd bx bm (some (.map (idV (unK s.scs top k))))) 3 1 ((unI s.scs top k).map fun i : Nat => V.int .i64 (i : Int)) p.2 p.1)
   (fun k p => ⟨41, slk [(1, .int .i64 top), (5, .mp bm), (6, p.2), (15, .own bS 4 0 s.scs.length), (16, .int .i64 s.scs.length), (17, .int .i64 k)], p.1⟩)
   (_, .nils) (acc_nil ((finB_upd _ _ _).2 hf) _ _) (cov_look (by simp [go_sem])) (fun k p hk hJ N hN => ?_) (fun p hJ N => ?_)
 · obtain ⟨bxk, v⟩ := p
   dsimp only at hJ hN ⊢
   have hw := wr_succ (k := k) (by omega)
   have hgk : s.scs.getD k default = s.scs[k] := by simp [hk]
   have hlen := unI_len s.scs top k
   have e1 : unK s.scs top (k + 1) = if s.scs[k].id = top ∨ s.scs[k].parent ∈ unK s.scs top k then ddAdd (unK s.scs top k) s.scs[k].id else unK s.scs top k := by
     conv => lhs; unfold unK
     rw [hgk]
   have e2 : unI s.scs top (k + 1) = unI s.scs top k ++ if s.scs[k].id = top ∨ s.scs[k].parent ∈ unK s.scs top k then [k] else [] := by
     rw [unI_succ]
     congr 1
     unfold unB
     rw [hgk]
     simp
   have hm := hJ.at
   have hSk : bxk bS = some (.row 51 4 (s.scs.map scV)) := by rw [hJ.ext bS (by rw [upd_ne _ _ nSm, hS]; simp), upd_ne _ _ nSm]; exact hS
   have f1 := id_find s.scs[k].parent (unK s.scs top k) 0
   have f2 := id_cases s.scs[k].id (unK s.scs top k)
   rw [e1, e2] at hN
   generalize unK s.scs top k = ms at *
   generalize unI s.scs top k = is at *
   have lv := hJ.live
   have ls := hJ.strip
   have lc := hJ.cells
   have lo := hJ.okV
   have go : (s.scs[k].id = top ∨ s.scs[k].parent ∈ ms) → ∀ K : St → Prop, True := fun _ _ => trivial
   simp [go_sem, Try.L40_0, hJ.fin, hm, hk, hSk, scV, lv, ls, lc, lo]
   intro b8 hb8
   rw [upd_self hb8]
   by_cases c1 : s.scs[k].id = top
   · rw [c1] at f2 hN
     rcases f2 with ⟨p1, p2⟩ | ⟨i, p1, p2, p3⟩
     · simp [go_sem, c1, hJ.fin, hm, p2, lv, ls, lc, lo]
       rw [idV_snoc]
       refine acc_append (.int .i64 0) (hJ.put (.map (idV (ms ++ [top])))) (Ext.refl _) ((finB_upd _ _ _).2 hJ.fin) Try.knd82 Try.tsz3 (news := [.int .i64 (k : Int)]) (by simp [srcEls]) Try.tzero3 (by simp [go_sem]) (by decide) (by simp [Try.tby3]; omega) (by simp; omega) (by simp [go_sem]) fun v' bx3 ha => ?_
       simp [go_sem, ha.live, ha.strip, ha.cells, ha.okV]
       refine hN _ (bx3, v') ?_ (cov_look (by simp [go_sem, hw, scV]))
       rw [if_pos (.inl rfl), if_pos (.inl rfl), p1]
       simpa using ha
     · simp [go_sem, c1, hJ.fin, hm, p2, p3, lv, ls, lc, lo]
       refine acc_append (.int .i64 0) (hJ.put (.map (idV ms))) (Ext.refl _) ((finB_upd _ _ _).2 hJ.fin) Try.knd82 Try.tsz3 (news := [.int .i64 (k : Int)]) (by simp [srcEls]) Try.tzero3 (by simp [go_sem]) (by decide) (by simp [Try.tby3]; omega) (by simp; omega) (by simp [go_sem]) fun v' bx3 ha => ?_
       simp [go_sem, ha.live, ha.strip, ha.cells, ha.okV]
       refine hN _ (bx3, v') ?_ (cov_look (by simp [go_sem, hw, scV]))
       rw [if_pos (.inl rfl), if_pos (.inl rfl), p1]
       simpa using ha
   · by_cases c2 : s.scs[k].parent ∈ ms
     · obtain ⟨i, hi1, hi2⟩ := f1.1 c2
       rcases f2 with ⟨p1, p2⟩ | ⟨i, p1, p2, p3⟩
       · simp [go_sem, c1, hJ.fin, hm, hi2, p2, lv, ls, lc, lo]
         rw [idV_snoc]
         refine acc_append (.int .i64 0) (hJ.put (.map (idV (ms ++ [s.scs[k].id])))) (Ext.refl _) ((finB_upd _ _ _).2 hJ.fin) Try.knd82 Try.tsz3 (news := [.int .i64 (k : Int)]) (by simp [srcEls]) Try.tzero3 (by simp [go_sem]) (by decide) (by simp [Try.tby3]; omega) (by simp; omega) (by simp [go_sem]) fun v' bx3 ha => ?_
         simp [go_sem, ha.live, ha.strip, ha.cells, ha.okV]
         refine hN _ (bx3, v') ?_ (cov_look (by simp [go_sem, hw, scV]))
         rw [if_pos (.inr c2), if_pos (.inr c2), p1]
         simpa using ha
       · simp [go_sem, c1, hJ.fin, hm, hi2, p2, p3, lv, ls, lc, lo]
         refine acc_append (.int .i64 0) (hJ.put (.map (idV ms))) (Ext.refl _) ((finB_upd _ _ _).2 hJ.fin) Try.knd82 Try.tsz3 (news := [.int .i64 (k : Int)]) (by simp [srcEls]) Try.tzero3 (by simp [go_sem]) (by decide) (by simp [Try.tby3]; omega) (by simp; omega) (by simp [go_sem]) fun v' bx3 ha => ?_
         simp [go_sem, ha.live, ha.strip, ha.cells, ha.okV]
         refine hN _ (bx3, v') ?_ (cov_look (by simp [go_sem, hw, scV]))
         rw [if_pos (.inr c2), if_pos (.inr c2), p1]
         simpa using ha
     · have hi2 := f1.2 c2
       simp [go_sem, c1, hJ.fin, hm, hi2, lv, ls, lc, lo]
       refine hN _ (bxk, v) ?_ (cov_look (by simp [go_sem, hw, scV]))
       rw [if_neg (by rintro (q | q) <;> contradiction), if_neg (by rintro (q | q) <;> contradiction), List.append_nil]
       exact hJ
 · obtain ⟨bxk, v⟩ := p
   dsimp only at hJ ⊢
   have lv := hJ.live
   have ls := hJ.strip
   have lc := hJ.cells
   have lo := hJ.okV
   simp [go_sem, Try.L40_0, hJ.fin, lv, ls, lc, lo]
   have h9 := hJ.base ((Ext.refl bx).new hbm _)
   exact ret_accw (by simp [go_sem, lv]) (by simpa [go_sem, ls] using h9) (by decide)
end Go.Proofs

set_option linter.unusedSimpArgs false
set_option linter.unusedVariables false
set_option maxRecDepth 100000
namespace Go.Ck
open Go Go.Pl
def unN (l : List Sc) (top : Int) : List Int := (unI l top l.length).map fun i => (l.getD i default).id
def belR (s : Ck) (e h : Int) : V := if e ≠ 0 then .tup [.sl 1 [], .int .i64 e] else match fidx s.scs h with
 | some k => .tup [.sl 1 (((unN s.scs h).drop 1).map (.int .i64)), .int .i64 0]
 | none => .tup [.sl 1 [], .int .i64 4]
def canS (x : Sc) : Sc := if x.why = 0 then { x with why := 1 } else x
def canL (l : List Sc) (is : List Nat) : List Sc := is.foldl (fun m i => m.set i (canS (m.getD i default))) l
def canI (l : List Sc) (is : List Nat) : List Int := (is.filter fun i => decide ((l.getD i default).why = 0)).map fun i => (l.getD i default).id
def canE (s : Ck) (e h : Int) : Int := if e ≠ 0 then e else match fidx s.scs h with
 | some k => if (s.scs.getD k default).why ≠ 0 then 9 else 0
 | none => 4
def canK (s : Ck) (h : Int) : Ck := { s with scs := canL s.scs (unI s.scs h s.scs.length) }
def canR (s : Ck) (e h : Int) : V := if canE s e h = 0 then .tup [ckV (canK s h), .sl 1 ((canI s.scs (unI s.scs h s.scs.length)).map (.int .i64)), .int .i64 0] else .tup [ckV s, .sl 1 [], .int .i64 (canE s e h)]
theorem unI_lt {l : List Sc} {top : Int} {k i : Nat} (h : i ∈ unI l top k) : i < k := by
 unfold unI at h
 simpa using (List.mem_filter.1 h).1
theorem unI_mem {l : List Sc} {top : Int} {k : Nat} (hk : k < l.length) (he : l[k].id = top) : k ∈ unI l top l.length := by
 unfold unI
 refine List.mem_filter.2 ⟨by simpa using hk, ?_⟩
 unfold unB
 have : l.getD k default = l[k] := by simp [hk]
 rw [this]
 simp [he]
theorem canL_len (l : List Sc) : ∀ is : List Nat, (canL l is).length = l.length := fun is => by
 unfold canL
 induction is generalizing l with
 | nil => rfl
 | cons i is ih => rw [List.foldl_cons, ih, List.length_set]
theorem canL_other (l : List Sc) {j : Nat} : ∀ is : List Nat, j ∉ is → (canL l is).getD j default = l.getD j default := fun is => by
 unfold canL
 induction is generalizing l with
 | nil => intro _; rfl
 | cons i is ih =>
   intro h
   rw [List.mem_cons, not_or] at h
   rw [List.foldl_cons, ih _ h.2]
   simp only [List.getD_eq_getElem?_getD]
   rw [List.getElem?_set_ne (Ne.symm h.1)]
theorem canL_snoc (l : List Sc) (is : List Nat) (i : Nat) : canL l (is ++ [i]) = (canL l is).set i (canS ((canL l is).getD i default)) := by
 unfold canL; rw [List.foldl_append]; rfl
theorem canI_snoc (l : List Sc) (is : List Nat) (i : Nat) : canI l (is ++ [i]) = canI l is ++ if (l.getD i default).why = 0 then [(l.getD i default).id] else [] := by
 unfold canI
 rw [List.filter_append, List.map_append]
 congr 1
 by_cases c : (l.getD i default).why = 0
 · rw [if_pos c, List.filter_cons_of_pos (by simpa using c)]; rfl
 · rw [if_neg c, List.filter_cons_of_neg (by simpa using c)]; rfl
theorem unI_nodup (l : List Sc) (top : Int) (k : Nat) : (unI l top k).Nodup := by
 unfold unI
 exact List.Nodup.sublist List.filter_sublist List.nodup_range
theorem nodup_take {is : List Nat} (h : is.Nodup) {m : Nat} (hm : m < is.length) : is[m] ∉ is.take m := fun q => by
 rw [List.mem_take_iff_getElem] at q
 obtain ⟨j, hj, e⟩ := q
 have := (List.getElem_inj (h₀ := by omega) (h₁ := hm) h).1 e
 omega
end Go.Ck
namespace Go.Proofs
open Go Go.Pl Go.Ck
theorem Try.Below_c (s : Ck) (e : Int) (he : Chk s e) (h : Int) (bx : Boxes) : PureCall Try.prog 20 [ckV s, .int .i64 h] bx (belR s e h) := by
 refine PureCall.wk (Try.ctr20 fun hf => ?_)
 have cF := fun (b : Nat) (bx : Boxes) (hb : bx b = some (.row 25 4 [ckV s])) => Try.find_c s e he h b bx hb
 have cU := fun (hs : s.scs.length ≤ 500) (b : Nat) (bx : Boxes) (hb : bx b = some (.row 25 4 [ckV s])) => Try.under_c s hs h b bx hb
 simp only [ckV] at cF cU ⊢
 simp [go_sem, Try.C20, hf]
 intro b2 hb2
 refine callK_pure (cF b2 _ (upd_eq _ _ _)) ?_
 unfold fndR belR
 by_cases h0 : e = 0
 · subst h0
   have ho := he.ok
   cases hx : fidx s.scs h with
   | none =>
     simp [go_sem, hf]
     exact ret_drop (by simp [go_sem]) ((Ext.refl _).new hb2 _) ⟨by simp [go_sem]; exact wk_tup2 (wk_nils 1) (Wk.refl _), rfl⟩
   | some k =>
     obtain ⟨hk, hke⟩ := fidx_some hx
     have hmem := unI_mem hk hke
     have hlt : ∀ i, i ∈ unI s.scs h s.scs.length → i < s.scs.length := fun i hi => unI_lt hi
     have hul := unI_len s.scs h s.scs.length
     have hsl := ho.len.2
     simp [go_sem, hf, upd_eq]
     refine callK_pure (cU (by omega) b2 _ (upd_eq _ _ _)) ?_
     unfold unN
     generalize unI s.scs h s.scs.length = is at *
     rcases is with _ | ⟨i0, js⟩
     · cases hmem
     have hjl : js.length ≤ 500 := by simp at hul; omega
     have htk : List.take (js.length + 1) ((i0 :: js).map fun i : Nat => V.int .i64 (i : Int)) = (i0 :: js).map fun i : Nat => V.int .i64 (i : Int) := List.take_of_length_le (by simp)
     simp only [List.map_cons] at htk
     have hpi : (1 : Int) ≤ (js.length : Int) + 1 := by omega
     simp [go_sem, hf, htk, hpi, -List.take_succ_cons]
     have hbx : Ext bx (upd bx b2 (some (.row 25 4 [ckV s]))) := (Ext.refl _).new hb2 _
     refine pw_for (ι := Boxes × V) js.length (fun k p => Acc (upd bx b2 (some (.row 25 4 [ckV s]))) 2 1 ((js.take k).map fun i => V.int .i64 (s.scs.getD i default).id) p.2 p.1)
       (fun k p => ⟨38, slk [(2, .ptr b2 4 0 0), (8, p.2), (21, .sl 1 (js.map fun i : Nat => V.int .i64 (i : Int))), (22, .int .i64 js.length), (23, .int .i64 k)], p.1⟩)
       (_, .nils) (acc_nil ((finB_upd _ _ _).2 hf) _ _) (cov_look (by simp [go_sem, ckV])) (fun m p hm hJ N hN => ?_) (fun p hJ N => ?_)
     · obtain ⟨bxk, v⟩ := p
       dsimp only at hJ hN ⊢
       have hw := wr_succ (k := m) (by omega)
       have hb := hJ.at
       simp only [ckV] at hb
       have hjm := hlt js[m] (List.mem_cons_of_mem _ (List.getElem_mem hm))
       have lv := hJ.live
       have ls := hJ.strip
       have lc := hJ.cells
       have lo := hJ.okV
       rw [List.take_succ_eq_append_getElem hm, List.map_append] at hN
       have hg : s.scs.getD js[m] default = s.scs[js[m]] := by simp [hjm]
       simp only [List.map_cons, List.map_nil, hg] at hN
       simp [go_sem, Try.L20_0, hJ.fin, hb, hm, hjm, scV, lv, ls, lc, lo]
       refine acc_append (.int .i64 0) hJ (Ext.refl _) hJ.fin Try.knd29 Try.tsz2 (by simp [srcEls]; rfl) Try.tzero2 (by simp [go_sem]) (by decide) (by simp [Try.tby2]; omega) (by simp; omega) (by simp [go_sem]) fun v' bx3 ha => ?_
       simp [go_sem, ha.live, ha.strip, ha.cells, ha.okV]
       exact hN _ (_, _) ha (cov_look (by simp [go_sem, hw]))
     · obtain ⟨bxk, v⟩ := p
       dsimp only at hJ ⊢
       rw [List.take_length] at hJ
       have hJ2 := hJ.base hbx
       obtain ⟨B, hS, hn⟩ := hJ2.sl
       simp [go_sem, Try.L20_0, hJ.fin, hJ.live, hJ.strip, hJ.cells, hJ.okV]
       refine ret_frz 3 (by simp [go_sem, hJ.live]) hJ2.ext ⟨?_, rfl⟩
       simp [go_sem, hJ.strip]
       refine wk_tup2 ?_ (Wk.refl _)
       have := sl_frz (bx' := bx) ⟨bxk, Ext.refl _, hS⟩ hn (by decide) 1 (fun y hy => by obtain ⟨q, _, rfl⟩ := List.mem_map.1 hy; simp [go_sem])
       simpa [Function.comp_def] using this
 · simp [go_sem, hf, h0]
   exact ret_drop (by simp [go_sem]) ((Ext.refl _).new hb2 _) ⟨by simp [go_sem]; exact wk_tup2 (wk_nils 1) (Wk.refl _), rfl⟩
set_option maxHeartbeats 1000000 in
theorem Try.Cancel_c (s : Ck) (e : Int) (he : Chk s e) (h : Int) (bx : Boxes) : PureCall Try.prog 17 [ckV s, .int .i64 h] bx (canR s e h) := by
 refine PureCall.wk (Try.ctr17 fun hf => ?_)
 have cF := fun (b : Nat) (bx : Boxes) (hb : bx b = some (.row 25 4 [ckV s])) => Try.find_c s e he h b bx hb
 have bad : ∀ q, canE s e h = q → q ≠ 0 → ∀ sv, sv = ckV s → Wk (.tup [sv, .nils, .int .i64 q]) (canR s e h) := fun q h1 h2 sv hsv => by
   unfold canR; rw [h1, if_neg h2, hsv]
   exact wk_tup3 (Wk.refl _) (wk_nils 1) (Wk.refl _)
 simp only [ckV] at cF ⊢
 simp [go_sem, Try.C17, hf]
 intro b2 hb2 b4 hb4
 have n24 : b2 ≠ b4 := fun e => by rw [e, upd_eq] at hb4; cases hb4
 have hb4' : bx b4 = none := by rw [upd_ne _ _ n24.symm] at hb4; exact hb4
 refine callK_pure (cF b2 _ (by simp [upd_eq, upd_ne, n24])) ?_
 unfold fndR
 by_cases h0 : e = 0
 rotate_left
 · simp [go_sem, hf, h0, upd_eq, upd_ne, n24, n24.symm, upd_upd]
   refine ret_drop (by simp [go_sem]) (by repeat first | exact Ext.refl _ | refine Ext.upd_own ?_ (by assumption) _) ⟨?_, rfl⟩
   simp [go_sem, upd_eq]
   exact bad e (by unfold canE; rw [if_pos h0]) h0 _ rfl
 subst h0
 have ho := he.ok
 cases hx : fidx s.scs h with
 | none =>
   simp [go_sem, hf, upd_eq, upd_ne, n24, n24.symm, upd_upd]
   refine ret_drop (by simp [go_sem]) (by repeat first | exact Ext.refl _ | refine Ext.upd_own ?_ (by assumption) _) ⟨?_, rfl⟩
   simp [go_sem, upd_eq]
   exact bad 4 (by unfold canE; rw [if_neg (by simp), hx]) (by decide) _ rfl
 | some k =>
   obtain ⟨hk, hke⟩ := fidx_some hx
   have hgk : s.scs.getD k default = s.scs[k] := by simp [hk]
   by_cases hw0 : s.scs[k].why = 0
   rotate_left
   · simp [go_sem, hf, upd_eq, upd_ne, n24, n24.symm, upd_upd, hk, scV, hw0]
     refine ret_drop (by simp [go_sem]) (by repeat first | exact Ext.refl _ | refine Ext.upd_own ?_ (by assumption) _) ⟨?_, rfl⟩
     simp [go_sem, upd_eq]
     refine bad 9 (by unfold canE; rw [if_neg (by simp), hx]; simp [hk, hw0]) (by decide) _ ?_
     simp [ckV]
   have hE : canE s 0 h = 0 := by unfold canE; rw [if_neg (by simp), hx]; simp [hk, hw0]
   simp [go_sem, hf, upd_eq, upd_ne, n24, n24.symm, upd_upd, hk, scV, hw0]
   refine callK_bx fun bxx hbx => ?_
   have x4 : bxx b4 = some (.row 25 4 [.agg [.int .i64 0, .int .i64 0, .nils, .nils]]) := by rw [hbx]; simp [upd_eq, upd_ne, n24, n24.symm]
   have x2 : bxx b2 = some (.row 25 4 [.agg [.int .i64 s.now, .int .i64 s.next, .sl 4 (s.ts.map tmV), .sl 4 (s.scs.map scV)]]) := by rw [hbx]; simp [upd_eq, upd_ne, n24, n24.symm]
   have hxe : Ext bx bxx := by rw [hbx]; exact (by repeat first | exact Ext.refl _ | refine Ext.upd_own ?_ (by assumption) _)
   have hxf : FinB bxx := by rw [hbx]; simp [go_sem, hf]
   clear hbx
   have hscl := ho.len.2
   refine callK_abs (Try.CloneS_c (bx := bxx) (s.scs.map scV) hxf (by simp; omega) (by simp [scV, V.cells])) ?_
   intro vS bx1 ha
   obtain ⟨bS, hbS, rfl, hrS⟩ := ha.row (by intro e; rw [List.map_eq_nil_iff] at e; rw [e] at hk; simp at hk)
   have y4 := (ha.ext b4 (by rw [x4]; simp)).trans x4
   have y2 := (ha.ext b2 (by rw [x2]; simp)).trans x2
   have nS2 : bS ≠ b2 := fun e => by rw [e, x2] at hbS; cases hbS
   have nS4 : bS ≠ b4 := fun e => by rw [e, x4] at hbS; cases hbS
   simp [go_sem, y2, y4, ha.fin, upd_eq, upd_upd]
   obtain ⟨bxs, hbxs⟩ : ∃ bxs, bxs = upd bx1 b2 (some (.row 25 4 [.agg [.int .i64 s.now, .int .i64 s.next, .sl 4 (s.ts.map tmV), .own bS 4 0 s.scs.length]])) := ⟨_, rfl⟩
   have hsf : FinB bxs := by rw [hbxs]; exact (finB_upd _ _ _).2 ha.fin
   have s2 : bxs b2 = some (.row 25 4 [.agg [.int .i64 s.now, .int .i64 s.next, .sl 4 (s.ts.map tmV), .own bS 4 0 s.scs.length]]) := by rw [hbxs, upd_eq]
   have s4 : bxs b4 = some (.row 25 4 [.agg [.int .i64 0, .int .i64 0, .nils, .nils]]) := by rw [hbxs, upd_ne _ _ n24.symm]; exact y4
   have sS : bxs bS = some (.row 51 4 (s.scs.map scV)) := by rw [hbxs, upd_ne _ _ nS2]; exact hrS
   have hse : Ext bx bxs := by rw [hbxs]; exact (hxe.trans ha.ext).upd_own hb2 _
   have hbS0 : bx bS = none := hxe.none hbS
   rw [← hbxs]
   clear hbxs y2 y4 hrS ha x2 x4 hxe hxf hbS
   refine callK_pure (Try.under2_c s hscl h b2 bS bxs s2 sS) ?_
   have hlt : ∀ i, i ∈ unI s.scs h s.scs.length → i < s.scs.length := fun i hi => unI_lt hi
   have hul := unI_len s.scs h s.scs.length
   have hnd := unI_nodup s.scs h s.scs.length
   have hR0 : canR s 0 h = .tup [ckV (canK s h), .sl 1 ((canI s.scs (unI s.scs h s.scs.length)).map (.int .i64)), .int .i64 0] := by unfold canR; rw [if_pos hE]
   have hK0 : ckV (canK s h) = .agg [.int .i64 s.now, .int .i64 s.next, .sl 4 (s.ts.map tmV), .sl 4 ((canL s.scs (unI s.scs h s.scs.length)).map scV)] := rfl
   rw [hR0, hK0]
   clear hR0 hK0 bad cF hE
   generalize unI s.scs h s.scs.length = is at *
   simp [go_sem, hsf]
   obtain ⟨R, hR⟩ : ∃ R : Boxes, R = upd (upd (fun _ => none) b2 (some (.row 25 4 [.agg [.int .i64 s.now, .int .i64 s.next, .sl 4 (s.ts.map tmV), .own bS 4 0 s.scs.length]]))) b4 (some (.row 25 4 [.agg [.int .i64 0, .int .i64 0, .nils, .nils]])) := ⟨_, rfl⟩
   have hR2 : R b2 = some (.row 25 4 [.agg [.int .i64 s.now, .int .i64 s.next, .sl 4 (s.ts.map tmV), .own bS 4 0 s.scs.length]]) := by rw [hR]; simp [upd_eq, upd_ne, n24]
   have hR4 : R b4 = some (.row 25 4 [.agg [.int .i64 0, .int .i64 0, .nils, .nils]]) := by rw [hR]; simp [upd_eq]
   have hRn : ∀ c, R c ≠ none → c = b2 ∨ c = b4 := fun c hc => by
     by_cases e4 : c = b4
     · exact .inr e4
     · by_cases e2 : c = b2
       · exact .inl e2
       · rw [hR, upd_ne _ _ e4, upd_ne _ _ e2] at hc; exact absurd rfl hc
   clear hR
   refine pw_for (ι := Boxes × V) is.length (fun m p => ∃ B2, Tw bx p.1 R 51 4 ((canL s.scs (is.take m)).map scV) (.own bS 4 0 s.scs.length) (some bS) 2 1 ((canI s.scs (is.take m)).map (.int .i64)) p.2 B2)
     (fun m p => ⟨65, slk [(2, .ptr b2 4 0 0), (4, .ptr b4 4 0 0), (9, p.2), (37, .sl 1 (is.map fun i : Nat => V.int .i64 (i : Int))), (38, .int .i64 is.length), (39, .int .i64 m)], p.1⟩)
     (_, .nils) ⟨none, Tw.mk' hse (fun c hc => ?_) hsf (fun c hc => ?_) ⟨bxs, Ext.refl _, .inr ⟨bS, by simp [canL], by simpa [canL] using sS, rfl⟩⟩ ⟨fun _ => none, fun c hc => absurd rfl hc, by simpa [canI] using Sl.nil⟩ (fun b hb => by injection hb with hb; rw [← hb]; exact hbS0) (fun b hb => by cases hb) (fun c hc => ⟨?_, by simp⟩) (fun b hb => by simp)⟩ (cov_look (by simp [go_sem])) (fun m p hm hJ N hN => ?_) (fun p hJ N => ?_)
   · rcases hRn c hc with rfl | rfl
     · show bxs c = _; rw [s2, hR2]
     · show bxs c = _; rw [s4, hR4]
   · rcases hRn c hc with rfl | rfl
     · exact hb2
     · exact hb4'
   · rcases hRn c hc with rfl | rfl
     · intro e; injection e with e; exact nS2 e
     · intro e; injection e with e; exact nS4 e
   · obtain ⟨bxk, v⟩ := p
     dsimp only at hJ hN ⊢
     obtain ⟨B2, hT⟩ := hJ
     have hw := wr_succ (k := m) (by omega)
     have hi := hlt is[m] (List.getElem_mem hm)
     have hnm := nodup_take hnd hm
     have c1 := canL_snoc s.scs (is.take m) is[m]
     have c2 := canI_snoc s.scs (is.take m) is[m]
     have c3 := canL_other s.scs (is.take m) hnm
     have c4 := canL_len s.scs (is.take m)
     rw [← List.take_succ_eq_append_getElem hm] at c1 c2
     rw [c3] at c1
     have hgi : s.scs.getD is[m] default = s.scs[is[m]] := by simp [hi]
     rw [hgi] at c1 c2 c3
     rw [c1, c2] at hN
     have cEl : (canI s.scs (is.take m)).length ≤ 500 := by
       unfold canI; rw [List.length_map]; exact Nat.le_trans (List.length_filter_le _ _) (by simp; omega)
     have hkL : is[m] < (canL s.scs (is.take m)).length := by omega
     have m1 : (canL s.scs (is.take m))[is[m]] = s.scs[is[m]] := by rw [← c3]; simp [hkL]
     clear c1 c2 c3
     generalize canL s.scs (is.take m) = L at *
     generalize canI s.scs (is.take m) = E at *
     obtain ⟨lv, ls, lc, lo⟩ := hT.l2
     have r2 := hT.at hR2
     have rS := (hT.at1 rfl).2
     obtain ⟨i, hmi⟩ : ∃ i, is[m] = i := ⟨_, rfl⟩
     simp only [hmi] at hi hN hkL m1
     clear hgi hnm
     by_cases c : s.scs[i].why = 0
     · have hs2 : canS s.scs[i] = { s.scs[i] with why := 1 } := by unfold canS; rw [if_pos c]
       rw [if_pos c, hs2] at hN
       simp [go_sem, Try.L17_0, hT.fin, r2, rS, hm, hmi, hkL, hi, m1, c, lv, ls, lc, lo, scV]
       have g0 := hT.put1 rfl (E' := (L.map scV).set i (.agg [.int .i64 s.scs[i].id, .int .i64 s.scs[i].parent, .int .i64 s.scs[i].dl, .int .i64 1])) (by simp)
       refine g0.app2 (.int .i64 0) Try.knd29 Try.tsz2 (news := [.int .i64 s.scs[i].id]) (by simp [srcEls]) Try.tzero2 (by simp [go_sem]) (by decide) (by simp [Try.tby2]; omega) (by simp; omega) (by simp [go_sem]) fun v' B' bx3 g1 => ?_
       obtain ⟨lv, ls, lc, lo⟩ := g1.l2
       simp [go_sem, g1.fin, lv, ls, lc, lo]
       refine hN _ (bx3, v') ⟨B', ?_⟩ (cov_look (by simp [go_sem, hw]))
       rw [List.map_set, List.map_append]
       exact g1
     · have hs2 : canS s.scs[i] = s.scs[i] := by unfold canS; rw [if_neg c]
       rw [if_neg c, hs2, List.append_nil] at hN
       simp [go_sem, Try.L17_0, hT.fin, r2, rS, hm, hmi, hkL, hi, m1, c, lv, ls, lc, lo, scV]
       refine hN _ (bxk, v) ⟨B2, ?_⟩ (cov_look (by simp [go_sem, hw, scV]))
       rw [show L.set i s.scs[i] = L by rw [← m1]; exact List.set_getElem_self hkL]
       exact hT
   · obtain ⟨bxk, v⟩ := p
     dsimp only at hJ ⊢
     obtain ⟨B2, hT⟩ := hJ
     rw [List.take_length] at hT
     obtain ⟨lv, ls, lc, lo⟩ := hT.l2
     have r2 := hT.at hR2
     have r4 := hT.at hR4
     simp [go_sem, Try.L17_0, hT.fin, r2, r4, lv, ls, lc, lo]
     have hx9 : Ext bx (upd bxk b4 (some (.row 25 4 [.agg [.int .i64 s.now, .int .i64 s.next, .sl 4 (s.ts.map tmV), .own bS 4 0 s.scs.length]]))) := hT.eb.upd_own hb4' _
     obtain ⟨q1, q2⟩ := hT.dR b4 (by rw [hR4]; simp)
     have f1 := sl_frz (bx' := bx) (sl_self (bx' := upd bxk b4 (some (.row 25 4 [.agg [.int .i64 s.now, .int .i64 s.next, .sl 4 (s.ts.map tmV), .own bS 4 0 s.scs.length]]))) (pr := bx) hT.s1 fun b hB => upd_ne _ _ fun e => q1 (by rw [← e]; exact hB)) hT.n1 (by decide) 0 fun y _ => frz_0 _ _ _
     have f2 := sl_frz (bx' := bx) (sl_self (bx' := upd bxk b4 (some (.row 25 4 [.agg [.int .i64 s.now, .int .i64 s.next, .sl 4 (s.ts.map tmV), .own bS 4 0 s.scs.length]]))) (pr := bx) hT.s2 fun b hB => upd_ne _ _ fun e => q2 (by rw [← e]; exact hB)) hT.n2 (by decide) 1 fun y hy => by
       obtain ⟨q, _, rfl⟩ := List.mem_map.1 hy
       simp [go_sem]
     refine ret_frz 3 (by simp [go_sem]) hx9 ⟨?_, rfl⟩
     simp [go_sem, upd_eq]
     exact wk_tup3 (wk_agg4 (Wk.refl _) (Wk.refl _) (Wk.refl _) f1) f2 (Wk.refl _)
end Go.Proofs

set_option linter.unusedSimpArgs false
set_option linter.unusedVariables false
namespace Go.Pl
open Go
theorem step_app_run {P : Program} {ops : Array Oper} {o : Oper} {a : Act} {w w' : World} {K : Act → World → Prop} {Q : Exit → Act → World → Prop} {E : Prop}
   (hg : o.guard = none) (s x : Operand) (t : TypeId) (hop : o.op = Op.call { callee := Callee.builtin Builtin.append, args := #[s, x], argTypes := #[t, t] })
   (vs vx r : Value) (hs : a.eval s = vs) (hx : a.eval x = vx) (hrun : (Builtin.append_ #[t, t] o.type #[vs, vx]).run P w = .ok r w')
   (hK : K (a.put o.dst r) w') :
   if Region.wanted o (yielded ops a.tmps) = true then Oper.wp P o a w K Q else E := by
 have hw : Region.wanted o (yielded ops a.tmps) = true := by simp [Region.wanted, hg]
 rw [if_pos hw]
 unfold Oper.wp
 simp [execOp, hop, resolve, invoke, builtin, hs, hx, hrun, Result.andThen]
 exact hK
theorem run_clear1 {P : Program} {w : World} {t ty e : TypeId} {i : TypeInfo} {z : Value} (ht : P.underlying t = some (.slice e)) (hi : P.info? e = some i) (hz : i.zero = some z) (hz4 : z.cells.size = 4) (hz1 : ∀ v ∈ z.cells.toList, v.oneCell' = true) {blk o cap : Nat} {ty' : TypeId} {cur : Array Value} (hcur : w.heap[blk]? = some (.cells cur ty' (0, 0))) (hfit : o + 4 ≤ cur.size) :
   (Builtin.clear_ #[t] ty #[.slice (some ⟨blk, o, none⟩) 1 cap]).run P w = .ok (.tuple #[]) (w.setRow blk (cur.toList.take o ++ z.cells.toList ++ cur.toList.drop (o + 4)).toArray) := by
 have hzc : (Builtin.zeroCells z.cells 1).toList = z.cells.toList := by
   simp [Builtin.zeroCells, hz4]
   apply List.ext_getElem
   · simp [hz4]
   · intro i h1 h2
     have : i < 4 := by simpa using h1
     simp [Nat.mod_eq_of_lt this, show i < z.cells.size by omega]
 have hst := run_storeCells_at P blk o ty' z.cells.toList 0 cur w hcur (by simpa [hz4] using hfit) hz1
 simp only [Nat.add_zero, Array.length_toList, hz4] at hst
 simp [Builtin.clear_, run_underlying ht, zeroValue, typeInfo, hi, hz, hzc, hst]
end Go.Pl
namespace Go.Proofs
open Go Go.Pl Go.Lib Go.RowKit Go.Shelf
set_option maxHeartbeats 4000000 in
set_option maxRecDepth 100000 in
theorem Try.del_Scope (w : World) (b n c i : Nat) (cur : Array Value) (hg : w.heap[b]? = some (.cells cur 51 (0, 0))) (hi : i < n) (hnc : n ≤ c) (hc63 : c ≤ 9223372036854775807) (hcap : c * 4 ≤ cur.size)
   (h1c : ∀ j, j < n * 4 → (cur.getD j undef).oneCell' = true) :
   Calls Try.prog 44 #[.slice (some ⟨b, 0, none⟩) n c, .int .i64 i, .int .i64 ((i : Int) + 1)] w fun e w' =>
     e = .returned (.slice (some ⟨b, 0, none⟩) (n - 1) c) ∧ ∃ cur', w' = w.drew.setRow b cur' ∧ cur'.size = cur.size ∧ cur'.toList.take ((n - 1) * 4) = cur.toList.take (i * 4) ++ (cur.toList.drop ((i + 1) * 4)).take ((n - 1 - i) * 4) := by
 have uS : Try.prog.underlying 23 = some (.slice 51) := by kernel_rfl
 have uT := run_underlying uS
 have mixed : Try.prog.follows .mixedOrders = true := by kernel_rfl
 obtain ⟨i0, hi0, hs0, z, hz0, hzs, hz1⟩ : ∃ i0, Try.prog.info? 51 = some i0 ∧ i0.size = 4 ∧ ∃ z, i0.zero = some z ∧ z.cells.size = 4 ∧ ∀ v ∈ z.cells.toList, v.oneCell' = true := by
   refine ⟨(Try.prog.info? 51).get (by kernel_rfl), by kernel_rfl, by kernel_rfl, ((Try.prog.info? 51).get (by kernel_rfl)).zero.get (by kernel_rfl), by kernel_rfl, by kernel_rfl, ?_⟩
   have e : (((Try.prog.info? 51).get (by kernel_rfl)).zero.get (by kernel_rfl)).cells.toList = [.int .i64 0, .int .i64 0, .int .i64 0, .int .i64 0] := by kernel_rfl
   rw [e]
   intro v hv
   simp at hv
   subst hv
   rfl
 have hb0 : w.drew.heap[b]? = some (.cells cur 51 (0, 0)) := hg
 obtain ⟨news, hnews⟩ : ∃ news, news = (cur.toList.drop ((i + 1) * 4)).take ((n - 1 - i) * 4) := ⟨_, rfl⟩
 have hnl : news.length = (n - 1 - i) * 4 := by rw [hnews]; simp; omega
 have hcell : ∀ j v, news[j]? = some v → w.drew.cell? ⟨b, (i + 1) * 4 + j, none⟩ = some v := fun j v hj => by
   rw [hnews, List.getElem?_take] at hj
   split at hj
   · rw [List.getElem?_drop] at hj
     rw [cell_of_row w.drew b _ cur 51 (0, 0) hb0]; simpa using hj
   · cases hj
 have hn1 : ∀ v ∈ news, v.oneCell' = true := fun v hv => by
   obtain ⟨j, hj, rfl⟩ := List.getElem_of_mem hv
   have h3 := hcell j _ (List.getElem?_eq_getElem hj)
   rw [cell_of_row w.drew b _ cur 51 (0, 0) hb0] at h3
   have h2 := h1c ((i + 1) * 4 + j) (by omega)
   rw [Array.getD_eq_getD_getElem?, h3] at h2
   exact h2
 obtain ⟨A, hA, hsrc⟩ : ∃ A : Addr, (if c = i + 1 then some (⟨b, 0, none⟩ : Addr) else some ⟨b, (i + 1) * 4, none⟩) = some A ∧ Hid (∀ t u, news[t]? = some u → w.drew.cell? (A.add t) = some u) := by
   by_cases h : c = i + 1
   · refine ⟨⟨b, 0, none⟩, by simp [h], fun t u hu => ?_⟩
     have h0 : news.length = 0 := by rw [hnl]; omega
     rw [List.length_eq_zero_iff.1 h0] at hu
     simp at hu
   · refine ⟨⟨b, (i + 1) * 4, none⟩, by simp [h], fun t u hu => ?_⟩
     rw [Addr.add_lit]; exact hcell t u hu
 obtain ⟨row1, hrow1⟩ : ∃ row1, row1 = (cur.toList.take (i * 4) ++ news ++ cur.toList.drop (i * 4 + news.length)).toArray := ⟨_, rfl⟩
 have hr1 : row1.size = cur.size := by rw [hrow1]; simp; omega
 have hap : ∀ ty' cc, (Builtin.append_ #[23, 23] ty' #[.slice (some ⟨b, 0, none⟩) i c, .slice (some A) (n - (i + 1)) cc]).run Try.prog w.drew = .ok (.slice (some ⟨b, 0, none⟩) (i + (n - (i + 1))) c) (w.drew.setRow b row1) := fun ty' cc => by
   have h := run_append_room (P := Try.prog) w.drew 23 ty' 51 i0 uS hi0 b i c cur hb0 A (n - (i + 1)) cc news (by rw [hs0, hnl]; omega) hsrc.out hn1 (by omega) (by rw [hs0]; omega)
   rw [h, hrow1, hs0]
 obtain ⟨W1, hW1⟩ : ∃ W1, W1 = w.drew.setRow b row1 := ⟨_, rfl⟩
 have hW1h : W1.heap[b]? = some (.cells row1 51 (0, 0)) := by rw [hW1]; exact setRow_heap w.drew b cur _ 51 _ hb0
 obtain ⟨row2, hrow2⟩ : ∃ row2, row2 = (row1.toList.take ((n - 1) * 4) ++ z.cells.toList ++ row1.toList.drop ((n - 1) * 4 + 4)).toArray := ⟨_, rfl⟩
 have hcl : ∀ ty, (Builtin.clear_ #[23] ty #[.slice (some ⟨b, (i + (n - (i + 1))) * 4, none⟩) (n - (i + (n - (i + 1)))) (c - (i + (n - (i + 1))))]).run Try.prog W1 = .ok (.tuple #[]) (W1.setRow b row2) := fun ty => by
   rw [show i + (n - (i + 1)) = n - 1 by omega, show n - (n - 1) = 1 by omega, hrow2]
   exact run_clear1 uS hi0 hz0 hzs hz1 hW1h (by rw [hr1]; omega)
 have X : Aside (W1.setRow b row2 = w.drew.setRow b row2 ∧ row2.size = cur.size ∧ row2.toList.take ((n - 1) * 4) = cur.toList.take (i * 4) ++ (cur.toList.drop ((i + 1) * 4)).take ((n - 1 - i) * 4)) := by
   refine ⟨by rw [hW1, setRow_setRow], by rw [hrow2]; simp [hzs, hr1]; omega, ?_⟩
   have l1 : (cur.toList.take (i * 4) ++ news).length = (n - 1) * 4 := by simp [hnl]; omega
   have e1 : row1.toList.take ((n - 1) * 4) = cur.toList.take (i * 4) ++ news := by
     rw [hrow1]
     show List.take _ (cur.toList.take (i * 4) ++ news ++ _) = _
     rw [← l1, List.take_left]
   rw [hrow2]
   show List.take _ (List.take ((n - 1) * 4) row1.toList ++ z.cells.toList ++ _) = _
   rw [e1, List.append_assoc, ← l1, List.take_left, hnews]
 have hW : Hid (W1 = w.drew.setRow b row1) := hW1
 have hlt1 : ¬ ((i : Int) = (i : Int) + 1) := by omega
 have hic : i ≤ c := by omega
 have hjc : i + 1 ≤ c := by omega
 have hjn : i + 1 ≤ n := by omega
 have hw1 : IntKind.i64.wrap ((i : Int) + 1) = (i : Int) + 1 := by rw [IntKind.wrap_i64]; omega
 have htn : ((i : Int) + 1).toNat = i + 1 := by omega
 have hb1 : (0 : Int) ≤ (i : Int) + 1 := by omega
 have hb3 : (i : Int) ≤ (i : Int) + 1 := by omega
 have hb5 : (i : Int) + 1 ≤ (n : Int) := by omega
 clear hW1 hW1h hcell hn1 hnl hnews hr1 hrow1 hrow2
 go_enter Try.func44, Try.ntmps44
 go_wp2_with fail
 go_region_law_o (refine step_app_run rfl (.tmp 22) (.tmp 25) 23 rfl (.slice (some ⟨b, 0, none⟩) i c) (.slice (some A) (n - (i + 1)) (c - (i + 1))) _ (by simp [Act.eval, Act.put]) (by simp [Act.eval, Act.put]) (hap _ (c - (i + 1))) ?_; rw [← hW.out])
 go_wp2
 go_ret
 refine ⟨by rw [show n - 1 = i + (n - (i + 1)) by omega]; rfl, row2, X.out⟩
set_option maxHeartbeats 4000000 in
set_option maxRecDepth 100000 in
theorem Try.del_Timer (w : World) (b n c i : Nat) (cur : Array Value) (hg : w.heap[b]? = some (.cells cur 35 (0, 0))) (hi : i < n) (hnc : n ≤ c) (hc63 : c ≤ 9223372036854775807) (hcap : c * 4 ≤ cur.size)
   (h1c : ∀ j, j < n * 4 → (cur.getD j undef).oneCell' = true) :
   Calls Try.prog 52 #[.slice (some ⟨b, 0, none⟩) n c, .int .i64 i, .int .i64 ((i : Int) + 1)] w fun e w' =>
     e = .returned (.slice (some ⟨b, 0, none⟩) (n - 1) c) ∧ ∃ cur', w' = w.drew.setRow b cur' ∧ cur'.size = cur.size ∧ cur'.toList.take ((n - 1) * 4) = cur.toList.take (i * 4) ++ (cur.toList.drop ((i + 1) * 4)).take ((n - 1 - i) * 4) := by
 have uS : Try.prog.underlying 22 = some (.slice 35) := by kernel_rfl
 have uT := run_underlying uS
 have mixed : Try.prog.follows .mixedOrders = true := by kernel_rfl
 obtain ⟨i0, hi0, hs0, z, hz0, hzs, hz1⟩ : ∃ i0, Try.prog.info? 35 = some i0 ∧ i0.size = 4 ∧ ∃ z, i0.zero = some z ∧ z.cells.size = 4 ∧ ∀ v ∈ z.cells.toList, v.oneCell' = true := by
   refine ⟨(Try.prog.info? 35).get (by kernel_rfl), by kernel_rfl, by kernel_rfl, ((Try.prog.info? 35).get (by kernel_rfl)).zero.get (by kernel_rfl), by kernel_rfl, by kernel_rfl, ?_⟩
   have e : (((Try.prog.info? 35).get (by kernel_rfl)).zero.get (by kernel_rfl)).cells.toList = [.int .i64 0, .int .i64 0, .int .i64 0, .int .i64 0] := by kernel_rfl
   rw [e]
   intro v hv
   simp at hv
   subst hv
   rfl
 have hb0 : w.drew.heap[b]? = some (.cells cur 35 (0, 0)) := hg
 obtain ⟨news, hnews⟩ : ∃ news, news = (cur.toList.drop ((i + 1) * 4)).take ((n - 1 - i) * 4) := ⟨_, rfl⟩
 have hnl : news.length = (n - 1 - i) * 4 := by rw [hnews]; simp; omega
 have hcell : ∀ j v, news[j]? = some v → w.drew.cell? ⟨b, (i + 1) * 4 + j, none⟩ = some v := fun j v hj => by
   rw [hnews, List.getElem?_take] at hj
   split at hj
   · rw [List.getElem?_drop] at hj
     rw [cell_of_row w.drew b _ cur 35 (0, 0) hb0]; simpa using hj
   · cases hj
 have hn1 : ∀ v ∈ news, v.oneCell' = true := fun v hv => by
   obtain ⟨j, hj, rfl⟩ := List.getElem_of_mem hv
   have h3 := hcell j _ (List.getElem?_eq_getElem hj)
   rw [cell_of_row w.drew b _ cur 35 (0, 0) hb0] at h3
   have h2 := h1c ((i + 1) * 4 + j) (by omega)
   rw [Array.getD_eq_getD_getElem?, h3] at h2
   exact h2
 obtain ⟨A, hA, hsrc⟩ : ∃ A : Addr, (if c = i + 1 then some (⟨b, 0, none⟩ : Addr) else some ⟨b, (i + 1) * 4, none⟩) = some A ∧ Hid (∀ t u, news[t]? = some u → w.drew.cell? (A.add t) = some u) := by
   by_cases h : c = i + 1
   · refine ⟨⟨b, 0, none⟩, by simp [h], fun t u hu => ?_⟩
     have h0 : news.length = 0 := by rw [hnl]; omega
     rw [List.length_eq_zero_iff.1 h0] at hu
     simp at hu
   · refine ⟨⟨b, (i + 1) * 4, none⟩, by simp [h], fun t u hu => ?_⟩
     rw [Addr.add_lit]; exact hcell t u hu
 obtain ⟨row1, hrow1⟩ : ∃ row1, row1 = (cur.toList.take (i * 4) ++ news ++ cur.toList.drop (i * 4 + news.length)).toArray := ⟨_, rfl⟩
 have hr1 : row1.size = cur.size := by rw [hrow1]; simp; omega
 have hap : ∀ ty' cc, (Builtin.append_ #[22, 22] ty' #[.slice (some ⟨b, 0, none⟩) i c, .slice (some A) (n - (i + 1)) cc]).run Try.prog w.drew = .ok (.slice (some ⟨b, 0, none⟩) (i + (n - (i + 1))) c) (w.drew.setRow b row1) := fun ty' cc => by
   have h := run_append_room (P := Try.prog) w.drew 22 ty' 35 i0 uS hi0 b i c cur hb0 A (n - (i + 1)) cc news (by rw [hs0, hnl]; omega) hsrc.out hn1 (by omega) (by rw [hs0]; omega)
   rw [h, hrow1, hs0]
 obtain ⟨W1, hW1⟩ : ∃ W1, W1 = w.drew.setRow b row1 := ⟨_, rfl⟩
 have hW1h : W1.heap[b]? = some (.cells row1 35 (0, 0)) := by rw [hW1]; exact setRow_heap w.drew b cur _ 35 _ hb0
 obtain ⟨row2, hrow2⟩ : ∃ row2, row2 = (row1.toList.take ((n - 1) * 4) ++ z.cells.toList ++ row1.toList.drop ((n - 1) * 4 + 4)).toArray := ⟨_, rfl⟩
 have hcl : ∀ ty, (Builtin.clear_ #[22] ty #[.slice (some ⟨b, (i + (n - (i + 1))) * 4, none⟩) (n - (i + (n - (i + 1)))) (c - (i + (n - (i + 1))))]).run Try.prog W1 = .ok (.tuple #[]) (W1.setRow b row2) := fun ty => by
   rw [show i + (n - (i + 1)) = n - 1 by omega, show n - (n - 1) = 1 by omega, hrow2]
   exact run_clear1 uS hi0 hz0 hzs hz1 hW1h (by rw [hr1]; omega)
 have X : Aside (W1.setRow b row2 = w.drew.setRow b row2 ∧ row2.size = cur.size ∧ row2.toList.take ((n - 1) * 4) = cur.toList.take (i * 4) ++ (cur.toList.drop ((i + 1) * 4)).take ((n - 1 - i) * 4)) := by
   refine ⟨by rw [hW1, setRow_setRow], by rw [hrow2]; simp [hzs, hr1]; omega, ?_⟩
   have l1 : (cur.toList.take (i * 4) ++ news).length = (n - 1) * 4 := by simp [hnl]; omega
   have e1 : row1.toList.take ((n - 1) * 4) = cur.toList.take (i * 4) ++ news := by
     rw [hrow1]
     show List.take _ (cur.toList.take (i * 4) ++ news ++ _) = _
     rw [← l1, List.take_left]
   rw [hrow2]
   show List.take _ (List.take ((n - 1) * 4) row1.toList ++ z.cells.toList ++ _) = _
   rw [e1, List.append_assoc, ← l1, List.take_left, hnews]
 have hW : Hid (W1 = w.drew.setRow b row1) := hW1
 have hlt1 : ¬ ((i : Int) = (i : Int) + 1) := by omega
 have hic : i ≤ c := by omega
 have hjc : i + 1 ≤ c := by omega
 have hjn : i + 1 ≤ n := by omega
 have hw1 : IntKind.i64.wrap ((i : Int) + 1) = (i : Int) + 1 := by rw [IntKind.wrap_i64]; omega
 have htn : ((i : Int) + 1).toNat = i + 1 := by omega
 have hb1 : (0 : Int) ≤ (i : Int) + 1 := by omega
 have hb3 : (i : Int) ≤ (i : Int) + 1 := by omega
 have hb5 : (i : Int) + 1 ≤ (n : Int) := by omega
 clear hW1 hW1h hcell hn1 hnl hnews hr1 hrow1 hrow2
 go_enter Try.func52, Try.ntmps52
 go_wp2_with fail
 go_region_law_o (refine step_app_run rfl (.tmp 22) (.tmp 25) 22 rfl (.slice (some ⟨b, 0, none⟩) i c) (.slice (some A) (n - (i + 1)) (c - (i + 1))) _ (by simp [Act.eval, Act.put]) (by simp [Act.eval, Act.put]) (hap _ (c - (i + 1))) ?_; rw [← hW.out])
 go_wp2
 go_ret
 refine ⟨by rw [show n - 1 = i + (n - (i + 1)) by omega]; rfl, row2, X.out⟩
end Go.Proofs

set_option linter.unusedSimpArgs false
set_option linter.unusedVariables false
set_option maxRecDepth 100000
namespace Go.Proofs
open Go Go.Pl
set_option maxHeartbeats 2000000 in
theorem Try.delm_Scope {bx : Boxes} {b : Nat} {es : List V} {i : Nat} (hb : bx b = some (.row 51 4 es)) (hi : i < es.length) :
   AbsCall Try.prog 44 [.own b 4 0 es.length, .int .i64 i, .int .i64 ((i : Int) + 1)] bx fun r bx' => ∃ b', upd bx b none b' = none ∧ r = .own b' 4 0 (es.length - 1) ∧ bx' = upd (upd bx b none) b' (some (.row 51 4 (es.take i ++ es.drop (i + 1)))) := by
 refine ⟨enters_of Try.func44 (by kernel_rfl) rfl, fun β M w vs hok hgl hvs hrep => ?_⟩
 have h0 := hrep 0 _ rfl
 have h1 := hrep 1 _ rfl
 have h2 := hrep 2 _ rfl
 have hvs2 : vs = #[vs.getD 0 undef, vs.getD 1 undef, vs.getD 2 undef] := by
   apply Array.ext
   · simpa using hvs
   · intro k k1 k2
     have k3 : k < 3 := by simpa using k2
     rcases k with _ | _ | _ | k
     · simp [k1]
     · simp [k1]
     · simp [k1]
     · omega
 rw [hvs2]
 generalize vs.getD 0 undef = u0 at *
 generalize vs.getD 1 undef = u1 at *
 generalize vs.getD 2 undef = u2 at *
 clear hvs2 hvs hrep
 generalize hN : es.length = n at h0
 cases h1
 cases h2
 cases h0 with
 | own0 _ _ hβ => omega
 | own _ _ _ _ blk cap m ty' hβ hs hm hn hmax =>
   subst hN
   rcases hok.live b _ hb with ⟨h3, _⟩ | ⟨blk', h3, hlt, hMn, cur, hcur, hlc, hrow⟩
   · rw [hβ] at h3; cases h3
   · rw [hβ] at h3
     injection h3 with h3
     injection h3 with h3
     subst h3
     have hcap : cap * 4 ≤ cur.size := by
       rw [shape_of hcur] at hs
       injection hs with hs
       injection hs with _ hs
       rw [hs]; simpa using hm
     have hone : ∀ j, j < es.length * 4 → (cur.getD j undef).oneCell' = true := rowRep_one hrow (by decide)
     have R1 := rowRep_sub (o := 0) (n := i) hrow (by omega)
     have R3 := rowRep_sub (o := i + 1) (n := es.length - 1 - i) hrow (by omega)
     simp only [List.drop_zero, Nat.zero_mul] at R1
     have e3 : (es.drop (i + 1)).take (es.length - 1 - i) = es.drop (i + 1) := List.take_of_length_le (by simp; omega)
     rw [e3] at R3
     have l1 : (List.take (i * 4) cur.toList).length = (es.take i).length * 4 := by simp; omega
     have hlen : (es.take i ++ es.drop (i + 1)).length = es.length - 1 := by simp; omega
     have row : ∀ cur' : Array Value, cur'.toList.take ((es.length - 1) * 4) = cur.toList.take (i * 4) ++ (cur.toList.drop ((i + 1) * 4)).take ((es.length - 1 - i) * 4) → RowRep β w (Fz β M bx w) 4 (es.take i ++ es.drop (i + 1)) cur' := fun cur' hc' => by
       refine rowRep_append (sz := 4) (es := es.take i) (news := es.drop (i + 1)) (xs := List.take (i * 4) cur.toList) (vals := (cur.toList.drop ((i + 1) * 4)).take ((es.length - 1 - i) * 4)) l1 R1 R3 (by simp; omega) cur' (by
         rw [← hc']
         congr 1
         simp; omega)
     obtain ⟨b', hb1, hb2⟩ := hok.fresh
     have hb2' : upd bx b none b' = none := by
       by_cases e0 : b' = b
       · subst e0; exact upd_eq _ _ _
       · rw [upd_ne _ _ e0]; exact hb2
     simp only [Nat.zero_mul]
     refine (Try.del_Scope w blk es.length cap i cur hcur hi hn (by simp only [maxLen] at hmax; omega) hcap hone).mono ?_
     rintro e w' ⟨rfl, cur', rfl, hsz', htk⟩
     have hkk : ∀ k, k ≠ blk → (w.drew.setRow blk cur').heap[k]? = w.heap[k]? := fun k hk => setRow_other w.drew blk k cur' hk
     have hgg : (w.drew.setRow blk cur').heap[blk]? = some (.cells cur' 51 (0, 0)) := setRow_heap w.drew blk cur cur' _ _ hcur
     have hss : (w.drew.setRow blk cur').heap.size = w.heap.size := by simp [World.setRow]
     have hshape : ∀ k y, w.shape? k = some y → (w.drew.setRow blk cur').shape? k = some y := fun k y hy => by
       by_cases e : k = blk
       · subst e
         rw [shape_of hgg, hsz', ← shape_of hcur]; exact hy
       · rw [shape_heap (hkk k e)]; exact hy
     obtain ⟨h5, h6⟩ := rebox hok b hb1 (w' := w.drew.setRow blk cur') rfl rfl rfl (Nat.le_succ _) (by rw [hss]; exact Nat.le_refl _) (fun k hk1 hk2 => hkk k fun e => hk2 (by rw [hb]; simp) (by rw [e]; exact hβ)) hshape (some blk) 51 4 (es.take i ++ es.drop (i + 1)) (.inl (by decide)) (fun h => by cases h) (fun g hg => by
       injection hg with hg
       subst hg
       exact ⟨.inr ⟨by rw [hb]; simp, hβ⟩, by rw [hss]; exact hlt, cur', hgg, by rw [hlen]; omega, row cur' htk⟩)
     refine ⟨_, _, _, _, rfl, ⟨b', hb2', rfl, rfl⟩, h5, h6, ?_⟩
     have := Rep.own (β := upd β b' (some (some blk))) (w := w.drew.setRow blk cur') (F := Fz (upd β b' (some (some blk))) M (upd (upd bx b none) b' (some (.row 51 4 (es.take i ++ es.drop (i + 1))))) (w.drew.setRow blk cur')) b' 4 0 (es.length - 1) blk cap _ 51 (upd_eq _ _ _) (shape_of hgg) (by rw [hsz']; simpa using hcap) (by omega) (by simpa using hmax)
     simpa using this
theorem Try.delc_Scope {bx bx1 : Boxes} {es : List V} {r : V} {i : Nat} (ha : Acc bx 51 4 es r bx1) (hi : i < es.length) :
   AbsCall Try.prog 44 [r, .int .i64 i, .int .i64 ((i : Int) + 1)] bx1 fun r' bx' => ∃ B, Sl bx' 51 4 (es.take i ++ es.drop (i + 1)) r' B ∧ Ext bx bx' ∧ FinB bx' ∧ ∀ b, B = some b → bx b = none := by
 obtain ⟨b, hb, rfl, hr⟩ := ha.row (by intro e; rw [e] at hi; simp at hi)
 refine (Try.delm_Scope hr hi).mono ?_
 rintro r' bx' ⟨b', hb', rfl, rfl⟩
 have hbb : bx b' = none := by
   by_cases e : b' = b
   · rw [e]; exact hb
   · rw [upd_ne _ _ e] at hb'
     exact ha.ext.none hb'
 refine ⟨some b', .inr ⟨b', ?_, upd_eq _ _ _, rfl⟩, (ha.ext.upd_own hb _).upd_own hbb _, (finB_upd _ _ _).2 ((finB_upd _ _ _).2 ha.fin), fun c hc => by injection hc with hc; rw [← hc]; exact hbb⟩
 have : (es.take i ++ es.drop (i + 1)).length = es.length - 1 := by simp; omega
 rw [this]
set_option maxHeartbeats 2000000 in
theorem Try.delm_Timer {bx : Boxes} {b : Nat} {es : List V} {i : Nat} (hb : bx b = some (.row 35 4 es)) (hi : i < es.length) :
   AbsCall Try.prog 52 [.own b 4 0 es.length, .int .i64 i, .int .i64 ((i : Int) + 1)] bx fun r bx' => ∃ b', upd bx b none b' = none ∧ r = .own b' 4 0 (es.length - 1) ∧ bx' = upd (upd bx b none) b' (some (.row 35 4 (es.take i ++ es.drop (i + 1)))) := by
 refine ⟨enters_of Try.func52 (by kernel_rfl) rfl, fun β M w vs hok hgl hvs hrep => ?_⟩
 have h0 := hrep 0 _ rfl
 have h1 := hrep 1 _ rfl
 have h2 := hrep 2 _ rfl
 have hvs2 : vs = #[vs.getD 0 undef, vs.getD 1 undef, vs.getD 2 undef] := by
   apply Array.ext
   · simpa using hvs
   · intro k k1 k2
     have k3 : k < 3 := by simpa using k2
     rcases k with _ | _ | _ | k
     · simp [k1]
     · simp [k1]
     · simp [k1]
     · omega
 rw [hvs2]
 generalize vs.getD 0 undef = u0 at *
 generalize vs.getD 1 undef = u1 at *
 generalize vs.getD 2 undef = u2 at *
 clear hvs2 hvs hrep
 generalize hN : es.length = n at h0
 cases h1
 cases h2
 cases h0 with
 | own0 _ _ hβ => omega
 | own _ _ _ _ blk cap m ty' hβ hs hm hn hmax =>
   subst hN
   rcases hok.live b _ hb with ⟨h3, _⟩ | ⟨blk', h3, hlt, hMn, cur, hcur, hlc, hrow⟩
   · rw [hβ] at h3; cases h3
   · rw [hβ] at h3
     injection h3 with h3
     injection h3 with h3
     subst h3
     have hcap : cap * 4 ≤ cur.size := by
       rw [shape_of hcur] at hs
       injection hs with hs
       injection hs with _ hs
       rw [hs]; simpa using hm
     have hone : ∀ j, j < es.length * 4 → (cur.getD j undef).oneCell' = true := rowRep_one hrow (by decide)
     have R1 := rowRep_sub (o := 0) (n := i) hrow (by omega)
     have R3 := rowRep_sub (o := i + 1) (n := es.length - 1 - i) hrow (by omega)
     simp only [List.drop_zero, Nat.zero_mul] at R1
     have e3 : (es.drop (i + 1)).take (es.length - 1 - i) = es.drop (i + 1) := List.take_of_length_le (by simp; omega)
     rw [e3] at R3
     have l1 : (List.take (i * 4) cur.toList).length = (es.take i).length * 4 := by simp; omega
     have hlen : (es.take i ++ es.drop (i + 1)).length = es.length - 1 := by simp; omega
     have row : ∀ cur' : Array Value, cur'.toList.take ((es.length - 1) * 4) = cur.toList.take (i * 4) ++ (cur.toList.drop ((i + 1) * 4)).take ((es.length - 1 - i) * 4) → RowRep β w (Fz β M bx w) 4 (es.take i ++ es.drop (i + 1)) cur' := fun cur' hc' => by
       refine rowRep_append (sz := 4) (es := es.take i) (news := es.drop (i + 1)) (xs := List.take (i * 4) cur.toList) (vals := (cur.toList.drop ((i + 1) * 4)).take ((es.length - 1 - i) * 4)) l1 R1 R3 (by simp; omega) cur' (by
         rw [← hc']
         congr 1
         simp; omega)
     obtain ⟨b', hb1, hb2⟩ := hok.fresh
     have hb2' : upd bx b none b' = none := by
       by_cases e0 : b' = b
       · subst e0; exact upd_eq _ _ _
       · rw [upd_ne _ _ e0]; exact hb2
     simp only [Nat.zero_mul]
     refine (Try.del_Timer w blk es.length cap i cur hcur hi hn (by simp only [maxLen] at hmax; omega) hcap hone).mono ?_
     rintro e w' ⟨rfl, cur', rfl, hsz', htk⟩
     have hkk : ∀ k, k ≠ blk → (w.drew.setRow blk cur').heap[k]? = w.heap[k]? := fun k hk => setRow_other w.drew blk k cur' hk
     have hgg : (w.drew.setRow blk cur').heap[blk]? = some (.cells cur' 35 (0, 0)) := setRow_heap w.drew blk cur cur' _ _ hcur
     have hss : (w.drew.setRow blk cur').heap.size = w.heap.size := by simp [World.setRow]
     have hshape : ∀ k y, w.shape? k = some y → (w.drew.setRow blk cur').shape? k = some y := fun k y hy => by
       by_cases e : k = blk
       · subst e
         rw [shape_of hgg, hsz', ← shape_of hcur]; exact hy
       · rw [shape_heap (hkk k e)]; exact hy
     obtain ⟨h5, h6⟩ := rebox hok b hb1 (w' := w.drew.setRow blk cur') rfl rfl rfl (Nat.le_succ _) (by rw [hss]; exact Nat.le_refl _) (fun k hk1 hk2 => hkk k fun e => hk2 (by rw [hb]; simp) (by rw [e]; exact hβ)) hshape (some blk) 35 4 (es.take i ++ es.drop (i + 1)) (.inl (by decide)) (fun h => by cases h) (fun g hg => by
       injection hg with hg
       subst hg
       exact ⟨.inr ⟨by rw [hb]; simp, hβ⟩, by rw [hss]; exact hlt, cur', hgg, by rw [hlen]; omega, row cur' htk⟩)
     refine ⟨_, _, _, _, rfl, ⟨b', hb2', rfl, rfl⟩, h5, h6, ?_⟩
     have := Rep.own (β := upd β b' (some (some blk))) (w := w.drew.setRow blk cur') (F := Fz (upd β b' (some (some blk))) M (upd (upd bx b none) b' (some (.row 35 4 (es.take i ++ es.drop (i + 1))))) (w.drew.setRow blk cur')) b' 4 0 (es.length - 1) blk cap _ 35 (upd_eq _ _ _) (shape_of hgg) (by rw [hsz']; simpa using hcap) (by omega) (by simpa using hmax)
     simpa using this
theorem Try.delc_Timer {bx bx1 : Boxes} {es : List V} {r : V} {i : Nat} (ha : Acc bx 35 4 es r bx1) (hi : i < es.length) :
   AbsCall Try.prog 52 [r, .int .i64 i, .int .i64 ((i : Int) + 1)] bx1 fun r' bx' => ∃ B, Sl bx' 35 4 (es.take i ++ es.drop (i + 1)) r' B ∧ Ext bx bx' ∧ FinB bx' ∧ ∀ b, B = some b → bx b = none := by
 obtain ⟨b, hb, rfl, hr⟩ := ha.row (by intro e; rw [e] at hi; simp at hi)
 refine (Try.delm_Timer hr hi).mono ?_
 rintro r' bx' ⟨b', hb', rfl, rfl⟩
 have hbb : bx b' = none := by
   by_cases e : b' = b
   · rw [e]; exact hb
   · rw [upd_ne _ _ e] at hb'
     exact ha.ext.none hb'
 refine ⟨some b', .inr ⟨b', ?_, upd_eq _ _ _, rfl⟩, (ha.ext.upd_own hb _).upd_own hbb _, (finB_upd _ _ _).2 ((finB_upd _ _ _).2 ha.fin), fun c hc => by injection hc with hc; rw [← hc]; exact hbb⟩
 have : (es.take i ++ es.drop (i + 1)).length = es.length - 1 := by simp; omega
 rw [this]
end Go.Proofs

set_option linter.unusedSimpArgs false
set_option linter.unusedVariables false
set_option maxRecDepth 100000
namespace Go.Ck
open Go Go.Pl
def forE (s : Ck) (e h : Int) : Int := if e ≠ 0 then e else match fidx s.scs h with
 | some k => if (s.scs.getD k default).why = 0 ∨ 1 < (unI s.scs h s.scs.length).length then 9 else 0
 | none => 4
def forS (s : Ck) (h : Int) : Ck := { s with scs := match fidx s.scs h with | some k => s.scs.take k ++ s.scs.drop (k + 1) | none => s.scs }
def forR (s : Ck) (e h : Int) : V := if forE s e h = 0 then .tup [ckV (forS s h), .int .i64 0] else .tup [ckV s, .int .i64 (forE s e h)]
def tidx (l : List Tm) (h : Int) : Option Nat := l.findIdx? fun x => decide (x.id = h)
theorem tidx_some {l : List Tm} {h : Int} {k : Nat} (e : tidx l h = some k) : ∃ hk : k < l.length, l[k].id = h ∧ ∀ j, (hj : j < k) → (l[j]'(by omega)).id ≠ h := by
 unfold tidx at e
 rw [List.findIdx?_eq_some_iff_getElem] at e
 obtain ⟨h1, h2, h3⟩ := e
 exact ⟨h1, by simpa using h2, fun j hj => by simpa using h3 j hj⟩
theorem tidx_of {l : List Tm} {h : Int} {k : Nat} (hk : k < l.length) (e : l[k].id = h) (hn : ∀ j, j < k → (l.getD j default).id ≠ h) : tidx l h = some k := by
 unfold tidx
 rw [List.findIdx?_eq_some_iff_getElem]
 refine ⟨hk, by simpa using e, fun j hj => ?_⟩
 have := hn j hj
 have hjl : j < l.length := by omega
 simpa [hjl] using this
theorem tidx_no {l : List Tm} {h : Int} (hn : ∀ j, j < l.length → (l.getD j default).id ≠ h) : tidx l h = none := by
 unfold tidx
 rw [List.findIdx?_eq_none_iff]
 intro x hx
 obtain ⟨j, hj, rfl⟩ := List.getElem_of_mem hx
 have := hn j hj
 simpa [hj] using this
def stpE (s : Ck) (e h : Int) : Int := if e ≠ 0 then e else match tidx s.ts h with | some _ => 0 | none => 4
def stpS (s : Ck) (h : Int) : Ck := { s with ts := match tidx s.ts h with | some k => s.ts.take k ++ s.ts.drop (k + 1) | none => s.ts }
def stpT (s : Ck) (h : Int) : Tm := match tidx s.ts h with | some k => s.ts.getD k default | none => default
def stpR (s : Ck) (e h : Int) : V := if stpE s e h = 0 then .tup [ckV (stpS s h), tmV (stpT s h), .int .i64 0] else .tup [ckV s, tmV ⟨0, 0, 0, 0⟩, .int .i64 (stpE s e h)]
end Go.Ck
namespace Go.Proofs
open Go Go.Pl Go.Ck
set_option maxHeartbeats 1000000 in
theorem Try.Forget_c (s : Ck) (e : Int) (he : Chk s e) (h : Int) (bx : Boxes) : PureCall Try.prog 24 [ckV s, .int .i64 h] bx (forR s e h) := by
 refine PureCall.wk (Try.ctr24 fun hf => ?_)
 have cF := fun (b : Nat) (bx : Boxes) (hb : bx b = some (.row 25 4 [ckV s])) => Try.find_c s e he h b bx hb
 have cU := fun (hs : s.scs.length ≤ 500) (b : Nat) (bx : Boxes) (hb : bx b = some (.row 25 4 [ckV s])) => Try.under_c s hs h b bx hb
 have bad : ∀ q, forE s e h = q → q ≠ 0 → forR s e h = .tup [ckV s, .int .i64 q] := fun q h1 h2 => by
   unfold forR; rw [h1, if_neg h2]
 simp only [ckV] at cF cU ⊢
 simp [go_sem, Try.C24, hf]
 intro b2 hb2 b4 hb4
 have n24 : b2 ≠ b4 := fun e => by rw [e, upd_eq] at hb4; cases hb4
 have hb4' : bx b4 = none := by rw [upd_ne _ _ n24.symm] at hb4; exact hb4
 refine callK_pure (cF b2 _ (by simp [upd_eq, upd_ne, n24])) ?_
 unfold fndR
 by_cases h0 : e = 0
 rotate_left
 · rw [bad e (by unfold forE; rw [if_pos h0]) h0]
   simp [go_sem, hf, h0, upd_eq, upd_ne, n24, n24.symm, upd_upd]
   refine ret_drop (by simp [go_sem]) (by repeat first | exact Ext.refl _ | refine Ext.upd_own ?_ (by assumption) _) ⟨?_, rfl⟩
   simp [go_sem, upd_eq, ckV]
   exact Wk.refl _
 subst h0
 have ho := he.ok
 cases hx : fidx s.scs h with
 | none =>
   rw [bad 4 (by unfold forE; rw [if_neg (by simp), hx]) (by decide)]
   simp [go_sem, hf, upd_eq, upd_ne, n24, n24.symm, upd_upd]
   refine ret_drop (by simp [go_sem]) (by repeat first | exact Ext.refl _ | refine Ext.upd_own ?_ (by assumption) _) ⟨?_, rfl⟩
   simp [go_sem, upd_eq, ckV]
   exact Wk.refl _
 | some k =>
   obtain ⟨hk, hke⟩ := fidx_some hx
   have hgk : s.scs.getD k default = s.scs[k] := by simp [hk]
   have hscl := ho.len.2
   have hul := unI_len s.scs h s.scs.length
   have hE : forE s 0 h = if s.scs[k].why = 0 ∨ 1 < (unI s.scs h s.scs.length).length then 9 else 0 := by unfold forE; rw [if_neg (by simp), hx]; simp only [hgk]
   by_cases hw0 : s.scs[k].why = 0
   · rw [bad 9 (by rw [hE, if_pos (.inl hw0)]) (by decide)]
     simp [go_sem, hf, upd_eq, upd_ne, n24, n24.symm, upd_upd, hk, scV, hw0]
     refine gK_off (.sl 1 []) (by simp [go_sem]) ?_
     simp [go_sem, hf, upd_eq, upd_ne, n24, n24.symm, upd_upd]
     refine ret_drop (by simp [go_sem]) (by repeat first | exact Ext.refl _ | refine Ext.upd_own ?_ (by assumption) _) ⟨?_, rfl⟩
     simp [go_sem, upd_eq, ckV]
     exact Wk.refl _
   · simp [go_sem, hf, upd_eq, upd_ne, n24, n24.symm, upd_upd, hk, scV, hw0]
     refine gK_pure (cU hscl b2 _ (by simp [upd_eq, upd_ne, n24])) (by simp) (by simp [go_sem]) ?_
     by_cases h1 : 1 < (unI s.scs h s.scs.length).length
     · have h1' : (1 : Int) < (unI s.scs h s.scs.length).length := by omega
       rw [bad 9 (by rw [hE, if_pos (.inr h1)]) (by decide)]
       simp [go_sem, hf, upd_eq, upd_ne, n24, n24.symm, upd_upd, h1']
       refine ret_drop (by simp [go_sem]) (by repeat first | exact Ext.refl _ | refine Ext.upd_own ?_ (by assumption) _) ⟨?_, rfl⟩
       simp [go_sem, upd_eq, ckV]
       exact Wk.refl _
     have h1' : ¬ (1 : Int) < (unI s.scs h s.scs.length).length := by omega
     have hE0 : forE s 0 h = 0 := by rw [hE, if_neg (by rintro (q | q) <;> contradiction)]
     have hR : forR s 0 h = .tup [.agg [.int .i64 s.now, .int .i64 s.next, .sl 4 (s.ts.map tmV), .sl 4 ((s.scs.map scV).take k ++ (s.scs.map scV).drop (k + 1))], .int .i64 0] := by
       unfold forR forS
       rw [if_pos hE0, hx]
       simp [ckV, List.map_take, List.map_drop]
     rw [hR]
     have hwk : IntKind.i64.wrap ((k : Int) + 1) = (k : Int) + 1 := wr64 (by omega)
     simp [go_sem, hf, upd_eq, upd_ne, n24, n24.symm, upd_upd, h1', hwk]
     refine callK_bx fun bxx hbx => ?_
     have x4 : bxx b4 = some (.row 25 4 [.agg [.int .i64 0, .int .i64 0, .nils, .nils]]) := by rw [hbx]; simp [upd_eq, upd_ne, n24, n24.symm]
     have x2 : bxx b2 = some (.row 25 4 [.agg [.int .i64 s.now, .int .i64 s.next, .sl 4 (s.ts.map tmV), .sl 4 (s.scs.map scV)]]) := by rw [hbx]; simp [upd_eq, upd_ne, n24, n24.symm]
     have hxe : Ext bx bxx := by rw [hbx]; exact (by repeat first | exact Ext.refl _ | refine Ext.upd_own ?_ (by assumption) _)
     have hxf : FinB bxx := by rw [hbx]; simp [go_sem, hf]
     clear hbx
     refine callK_abs (Try.CloneS_c (bx := bxx) (s.scs.map scV) hxf (by simp; omega) (by simp [scV, V.cells])) ?_
     intro vS bx1 ha
     simp [go_sem, ha.fin, ha.live, ha.strip, ha.cells, ha.okV, hwk]
     refine callK_abs (Try.delc_Scope (i := k) ha (by simpa using hk)) ?_
     rintro vD bx2 ⟨B, hS, hxe2, hxf2, hn⟩
     have y4 := (hxe2 b4 (by rw [x4]; simp)).trans x4
     have y2 := (hxe2 b2 (by rw [x2]; simp)).trans x2
     have nB2 : B ≠ some b2 := fun e => by have := hn b2 e; rw [x2] at this; cases this
     have nB4 : B ≠ some b4 := fun e => by have := hn b4 e; rw [x4] at this; cases this
     simp [go_sem, hxf2, y2, y4, hS.live, hS.strip, hS.cells, hS.okV, upd_eq, upd_ne, n24, n24.symm]
     have hx9 : Ext bx (upd (upd bx2 b2 (some (.row 25 4 [.agg [.int .i64 s.now, .int .i64 s.next, .sl 4 (s.ts.map tmV), vD]]))) b4 (some (.row 25 4 [.agg [.int .i64 s.now, .int .i64 s.next, .sl 4 (s.ts.map tmV), vD]]))) := ((hxe.trans hxe2).upd_own hb2 _).upd_own hb4' _
     have f1 := sl_frz (bx' := bx) (sl_self (bx' := upd (upd bx2 b2 (some (.row 25 4 [.agg [.int .i64 s.now, .int .i64 s.next, .sl 4 (s.ts.map tmV), vD]]))) b4 (some (.row 25 4 [.agg [.int .i64 s.now, .int .i64 s.next, .sl 4 (s.ts.map tmV), vD]]))) (pr := bx) ⟨bx2, Ext.refl _, hS⟩ fun b hB => by
       rw [upd_ne _ _ fun e => nB4 (by rw [← e]; exact hB), upd_ne _ _ fun e => nB2 (by rw [← e]; exact hB)]) (fun b hb => hxe.none (hn b hb)) (by decide) 0 fun y _ => frz_0 _ _ _
     refine ret_frz 3 (by simp [go_sem]) hx9 ⟨?_, rfl⟩
     simp [go_sem, upd_eq, hS.strip]
     exact wk_tup2 (wk_agg4 (Wk.refl _) (Wk.refl _) (Wk.refl _) (by simpa using f1)) (Wk.refl _)
theorem Try.stop1_c (x : Tm) (h : Int) (bx : Boxes) : PureCall Try.prog 51 [tmV x, .ep (.int .i64 h) 0] bx (.bool (decide (x.id = h))) := by
 refine Try.ctr51 fun hf => ?_
 simp [go_sem, Try.C51, hf, tmV]
 exact ret_pure (by simp [go_sem]) (by simp [go_sem])
theorem Try.index_c (l : List Tm) (h : Int) (hl : l.length ≤ 2000) (bx : Boxes) : PureCall Try.prog 50 [.sl 4 (l.map tmV), .fn (.func 51) [.ep (.int .i64 h) 0]] bx (.int .i64 (match tidx l h with | some k => (k : Int) | none => -1)) := by
 refine Try.ctr50 fun hf => ?_
 simp [go_sem, Try.C50, hf]
 refine pw_find l.length (fun i => decide ((l.getD i default).id = h)) (fun i => ⟨19, slk [(0, .sl 4 (l.map tmV)), (1, .fn (.func 51) [.ep (.int .i64 h) 0]), (7, .int .i64 l.length), (8, .int .i64 i)], bx⟩) (cov_look (by simp [go_sem])) (fun i hi hJ N hN => ?_) (fun hJ N => ?_)
 · have hw := wr_succ (k := i) (by omega)
   have hg : l.getD i default = l[i] := by simp [hi]
   rw [hg] at hN
   have c1 := Try.stop1_c l[i] h bx
   simp only [tmV] at c1
   simp [go_sem, Try.L50_0, hf, hi, tmV]
   refine callK_pure c1 ?_
   simp [go_sem, hf]
   refine ⟨fun c => ret_pure (by simp [go_sem]) ?_, fun c => hN _ (by simpa using c) (cov_look (by simp [go_sem, hw, tmV]))⟩
   rw [tidx_of hi c fun j hj => by simpa using hJ j hj]
   simp [go_sem]
 · simp [go_sem, Try.L50_0, hf]
   rw [tidx_no fun j hj => by simpa using hJ j hj]
   exact ret_pure (by simp [go_sem]) (by simp [go_sem])
set_option maxHeartbeats 1000000 in
theorem Try.Stop_c (s : Ck) (e : Int) (he : Chk s e) (h : Int) (bx : Boxes) : PureCall Try.prog 26 [ckV s, .int .i64 h] bx (stpR s e h) := by
 refine PureCall.wk (Try.ctr26 fun hf => ?_)
 have cC := fun bx => Try.Check_c s e he bx
 have bad : ∀ q, stpE s e h = q → q ≠ 0 → stpR s e h = .tup [ckV s, tmV ⟨0, 0, 0, 0⟩, .int .i64 q] := fun q h1 h2 => by
   unfold stpR; rw [h1, if_neg h2]
 simp only [ckV] at cC ⊢
 simp [go_sem, Try.C26, hf]
 intro b2 hb2 b4 hb4 b5 hb5
 have n24 : b2 ≠ b4 := fun e => by rw [e, upd_eq] at hb4; cases hb4
 have n45 : b4 ≠ b5 := fun e => by rw [e, upd_eq] at hb5; cases hb5
 have n25 : b2 ≠ b5 := fun e => by rw [← e, upd_ne _ _ n24, upd_eq] at hb5; cases hb5
 have hb4' : bx b4 = none := by rw [upd_ne _ _ n24.symm] at hb4; exact hb4
 have hb5' : bx b5 = none := by rw [upd_ne _ _ n45.symm, upd_ne _ _ n25.symm] at hb5; exact hb5
 generalize hbx : upd (upd (upd bx b2 _) b4 _) b5 _ = bxx
 have x5 : bxx b5 = some (.row 35 4 [.agg [.int .i64 0, .int .i64 0, .int .i64 0, .int .i64 0]]) := by rw [← hbx, upd_eq]
 have x4 : bxx b4 = some (.row 25 4 [.agg [.int .i64 0, .int .i64 0, .nils, .nils]]) := by rw [← hbx, upd_ne _ _ n45, upd_eq]
 have x2 : bxx b2 = some (.row 25 4 [.agg [.int .i64 s.now, .int .i64 s.next, .sl 4 (s.ts.map tmV), .sl 4 (s.scs.map scV)]]) := by rw [← hbx, upd_ne _ _ n25, upd_ne _ _ n24, upd_eq]
 have hxe : Ext bx bxx := by rw [← hbx]; exact (((Ext.refl bx).upd_own hb2 _).upd_own hb4' _).upd_own hb5' _
 have hxf : FinB bxx := by rw [← hbx]; simp [go_sem, hf]
 clear hbx hb4 hb5
 simp [go_sem, hxf, x2]
 refine callK_pure (cC _) ?_
 by_cases h0 : e = 0
 rotate_left
 · rw [bad e (by unfold stpE; rw [if_pos h0]) h0]
   simp [go_sem, hxf, h0, x2, x4, x5, upd_eq, upd_ne, n24, n24.symm, n25, n25.symm, n45, n45.symm]
   refine ret_drop (by simp [go_sem, upd_eq, upd_ne, n45, n45.symm]) ((hxe.upd_own hb4' _).upd_own hb5' _) ⟨?_, rfl⟩
   simp [go_sem, upd_eq, upd_ne, n45, n45.symm, ckV, tmV]
   exact Wk.refl _
 subst h0
 have ho := he.ok
 have htl := ho.len.1
 simp [go_sem, hxf, x2]
 refine callK_pure (Try.index_c s.ts h htl _) ?_
 cases hx : tidx s.ts h with
 | none =>
   rw [bad 4 (by unfold stpE; rw [if_neg (by simp), hx]) (by decide)]
   simp [go_sem, hxf, x2, x4, x5, upd_eq, upd_ne, n24, n24.symm, n25, n25.symm, n45, n45.symm]
   refine ret_drop (by simp [go_sem, upd_eq, upd_ne, n45, n45.symm]) ((hxe.upd_own hb4' _).upd_own hb5' _) ⟨?_, rfl⟩
   simp [go_sem, upd_eq, upd_ne, n45, n45.symm, ckV, tmV]
   exact Wk.refl _
 | some k =>
   obtain ⟨hk, hke, _⟩ := tidx_some hx
   have hgk : s.ts.getD k default = s.ts[k] := by simp [hk]
   have hwk : IntKind.i64.wrap ((k : Int) + 1) = (k : Int) + 1 := wr64 (by omega)
   have hk0 : ¬ (k : Int) < 0 := by omega
   have hR : stpR s 0 h = .tup [.agg [.int .i64 s.now, .int .i64 s.next, .sl 4 ((s.ts.map tmV).take k ++ (s.ts.map tmV).drop (k + 1)), .sl 4 (s.scs.map scV)], tmV s.ts[k], .int .i64 0] := by
     have hE : stpE s 0 h = 0 := by unfold stpE; rw [if_neg (by simp), hx]
     unfold stpR stpS stpT
     rw [if_pos hE, hx]
     simp [ckV, List.map_take, List.map_drop, hk]
   rw [hR]
   simp [go_sem, hxf, x2, x4, x5, hk, tmV, hk0]
   intro b9 hb9
   rw [upd_self hb9]
   simp [go_sem, hxf, x2]
   refine callK_abs (Try.CloneT_c (bx := bxx) (s.ts.map tmV) hxf (by simp; omega) (by simp [tmV, V.cells])) ?_
   intro vS bx1 ha
   simp [go_sem, ha.fin, ha.live, ha.strip, ha.cells, ha.okV, hwk]
   refine callK_abs (Try.delc_Timer (i := k) ha (by simpa using hk)) ?_
   rintro vD bx2 ⟨B, hS, hxe2, hxf2, hn⟩
   have y5 := (hxe2 b5 (by rw [x5]; simp)).trans x5
   have y4 := (hxe2 b4 (by rw [x4]; simp)).trans x4
   have y2 := (hxe2 b2 (by rw [x2]; simp)).trans x2
   have nB2 : B ≠ some b2 := fun e => by have := hn b2 e; rw [x2] at this; cases this
   have nB4 : B ≠ some b4 := fun e => by have := hn b4 e; rw [x4] at this; cases this
   have nB5 : B ≠ some b5 := fun e => by have := hn b5 e; rw [x5] at this; cases this
   simp [go_sem, hxf2, y2, y4, y5, hS.live, hS.strip, hS.cells, hS.okV, upd_eq, upd_ne, n24, n24.symm, n25, n25.symm, n45, n45.symm, tmV]
   refine ⟨by simp [fzAt, fzb], ?_⟩
   generalize hbz : upd (upd (upd bx2 b2 _) b4 _) b5 _ = bxz
   have z4 : bxz b4 = some (.row 25 4 [.agg [.int .i64 s.now, .int .i64 s.next, vD, .sl 4 (s.scs.map scV)]]) := by rw [← hbz, upd_ne _ _ n45, upd_eq]
   have z5 : bxz b5 = some (.row 35 4 [.agg [.int .i64 s.ts[k].id, .int .i64 s.ts[k].at_, .int .i64 s.ts[k].kind, .int .i64 s.ts[k].owner]]) := by rw [← hbz, upd_eq]
   have hx9 : Ext bx bxz := by rw [← hbz]; exact (((hxe.trans hxe2).upd_own hb2 _).upd_own hb4' _).upd_own hb5' _
   have f1 := sl_frz (bx' := bx) (sl_self (bx' := bxz) (pr := bx) ⟨bx2, Ext.refl _, hS⟩ fun b hB => by
     rw [← hbz, upd_ne _ _ fun e => nB5 (by rw [← e]; exact hB), upd_ne _ _ fun e => nB4 (by rw [← e]; exact hB), upd_ne _ _ fun e => nB2 (by rw [← e]; exact hB)]) (fun b hb => hxe.none (hn b hb)) (by decide) 0 fun y _ => frz_0 _ _ _
   clear hbz
   refine ret_frz 3 (by simp [go_sem, z4, z5]) hx9 ⟨?_, rfl⟩
   simp [go_sem, z4, z5, hS.strip]
   exact wk_tup3 (wk_agg4 (Wk.refl _) (Wk.refl _) (by simpa using f1) (Wk.refl _)) (Wk.refl _) (Wk.refl _)
end Go.Proofs
