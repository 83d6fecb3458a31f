/- Texts of the proof, put together: HY, Ha, Hb, Hc, Hd, He, Hf, Hg, Hh, Hl, Hm, Hn, Ho, Hi, Hj, Hp, Hv, Hk, Hu, Hr. -/
import Derived.Test.YtbonmihbgcofpaaRows
import Derived.Test.YtbonmihbgcofpaaGg
import Derived.Test.YtbonmihbgcofpaaGe
import Derived.WalkKit
import Derived.ProofKit
import Derived.Test.YtbonmihbgcofpaaGd
import Derived.Shelf.SlSortCmp.Whole1
import Derived.Shelf.SlSortCmp.NoneTotal
import Derived.LaidEqlPtr
import Derived.Deep.Draws

set_option linter.unusedVariables false
set_option linter.unusedSimpArgs false
set_option maxRecDepth 100000
namespace Go.Proofs.Ytbonmihbgcofpaa
open Go Go.Pl Go.Proofs
open Go.ChangeShapes Go.WideShapes Go.ChangeAt Go.RowKit
theorem own : ownKnob Try.prog.godebug = none := by kernel_rfl
theorem finNone : FinB (fun _ => none) := ⟨0, fun _ _ => rfl⟩
theorem hasInt {n : Nat} {xs : List V} (h : HasL Try.prog n 3 xs) : ∃ i : Int, xs = [.int .i64 i] := by
 obtain ⟨i, rfl, _⟩ := h.int Try.knd3
 exact ⟨i, rfl⟩
theorem hasU8 {n : Nat} {xs : List V} (h : HasL Try.prog n 5 xs) : ∃ i : Int, (0 ≤ i ∧ i < 256) ∧ xs = [.int .u8 i] := by
 obtain ⟨i, rfl, hw⟩ := h.int Try.knd5
 simp [Lit.wf, IntKind.min, IntKind.max, IntKind.signed, IntKind.bits] at hw
 exact ⟨i, by omega, rfl⟩
theorem hasInts {n : Nat} {xs : List V} (h : HasL Try.prog (n + 1) 22 xs) : ∃ l : List Int, xs = [.sl 1 (l.map (.int .i64))] ∧ l.length ≤ maxLen := by
 obtain ⟨l, h, hl⟩ := HasL.slice (r := V.int .i64) Try.knd22 h fun ys hy => by
   obtain ⟨i, rfl⟩ := hasInt hy
   exact ⟨i, by simp [elV, Try.tagg3]⟩
 rw [Try.tsz3] at h
 exact ⟨l, h, hl⟩
end Go.Proofs.Ytbonmihbgcofpaa

set_option linter.unusedSimpArgs false
set_option linter.unusedVariables false
set_option maxRecDepth 100000
namespace Go.Proofs
open Go Go.Pl Go.Hp
def entC (h v i : Int) : V := .agg [.int .i64 h, .int .i64 v, .int .i64 i]
def qV (sv : V) (g : FuncId) (vm : V) (next : Int) : V := .agg [sv, .fn (.func g) [], vm, .int .i64 next]
def Lt (P : Program) (g : FuncId) (lt : Int → Int → Bool) : Prop := ∀ a b (bx : Boxes), PureCall P g [.int .i64 a, .int .i64 b] bx (.bool (lt a b))
theorem Try.before_c {bx : Boxes} {bq a b : Nat} {g : FuncId} {lt : Int → Int → Bool} {sv vm : V} {next ah av ai bh bv bi : Int} (hl : Lt Try.prog g lt)
   (hq : bx bq = some (.row 79 4 [qV sv g vm next])) (ha : bx a = some (.row 90 3 [entC ah av ai])) (hb : bx b = some (.row 90 3 [entC bh bv bi])) :
   PureCall Try.prog 59 [.ptr bq 4 0 0, .ptr a 3 0 0, .ptr b 3 0 0] bx (.bool (bef lt ⟨ah, av, a⟩ ⟨bh, bv, b⟩)) := by
 refine Try.ctr59 fun hf => ?_
 simp only [qV, entC] at hq ha hb
 simp [go_sem, Try.C59, hf, hq, ha, hb]
 refine callK_pure (hl av bv bx) ?_
 simp [go_sem, hf, hq, ha, hb]
 refine ⟨fun h => ret_pure (by simp [go_sem]) (by simp [go_sem, bef, h]), fun h => ?_⟩
 refine callK_pure (hl bv av bx) ?_
 simp [go_sem, hf, hq, ha, hb]
 refine ⟨fun h2 => ret_pure (by simp [go_sem]) (by simp [go_sem, bef, h, h2]), fun h2 => ?_⟩
 exact ret_pure (by simp [go_sem]) (by simp [go_sem, bef, h, h2])
structure HeapS (bx : Boxes) (bq bl : Nat) (g : FuncId) (vm : V) (next : Int) (es : List (Ent Int)) (R : List V) : Prop where
 q : bx bq = some (.row 79 4 [qV (.own bl 1 0 es.length) g vm next])
 l : bx bl = some (.row 85 1 R)
 r : ∀ i, i < es.length → R[i]? = some (.ptr (at_ es i).b 3 0 0)
 e : ∀ i, i < es.length → bx (at_ es i).b = some (.row 90 3 [entC (at_ es i).h (at_ es i).v i])
 nd : (bq :: bl :: es.map (·.b)).Nodup
 fin : FinB bx
 len : es.length ≤ 100000
theorem HeapS.rlt {bx : Boxes} {bq bl : Nat} {g : FuncId} {vm : V} {next : Int} {es : List (Ent Int)} {R : List V} (h : HeapS bx bq bl g vm next es R) {i : Nat} (hi : i < es.length) : ∃ hR : i < R.length, R[i] = .ptr (at_ es i).b 3 0 0 := by
 have := h.r i hi
 obtain ⟨h1, h2⟩ := List.getElem?_eq_some_iff.1 this
 exact ⟨h1, h2⟩
theorem HeapS.ne {bx : Boxes} {bq bl : Nat} {g : FuncId} {vm : V} {next : Int} {es : List (Ent Int)} {R : List V} (h : HeapS bx bq bl g vm next es R) : bq ≠ bl ∧ (∀ i, i < es.length → (at_ es i).b ≠ bq ∧ (at_ es i).b ≠ bl) ∧ ∀ i k, i < es.length → k < es.length → (at_ es i).b = (at_ es k).b → i = k := by
 have hn := h.nd
 rw [List.nodup_cons, List.nodup_cons] at hn
 obtain ⟨h1, h2, h3⟩ := hn
 have hm : ∀ i, i < es.length → (at_ es i).b ∈ es.map (·.b) := fun i hi => by
   rw [at_get hi]; exact List.mem_map.2 ⟨_, List.getElem_mem hi, rfl⟩
 refine ⟨fun e => h1 (by simp [e]), fun i hi => ⟨fun e => h1 (by rw [← e]; exact List.mem_cons_of_mem _ (hm i hi)), fun e => h2 (by rw [← e]; exact hm i hi)⟩, fun i k hi hk e => ?_⟩
 have hl : (es.map (·.b)).length = es.length := by simp
 refine (List.getElem_inj (h₀ := by rw [hl]; exact hi) (h₁ := by rw [hl]; exact hk) h3).1 ?_
 rw [List.getElem_map, List.getElem_map, ← at_get hi, ← at_get hk]
 exact e
theorem Try.len_c {bx : Boxes} {bq : Nat} {g : FuncId} {sv vm : V} {next : Int} {n : Nat} (hf : FinB bx) (hq : bx bq = some (.row 79 4 [qV sv g vm next])) (hs : (sv = .nils ∧ n = 0) ∨ ∃ bl, sv = .own bl 1 0 n) :
   PureCall Try.prog 106 [.ptr bq 4 0 0] bx (.int .i64 n) := by
 refine Try.ctr106 fun hf => ?_
 simp only [qV] at hq
 rcases hs with ⟨rfl, rfl⟩ | ⟨bl, rfl⟩ <;>
 · simp [go_sem, Try.C106, hf, hq]
   exact ret_pure (by simp [go_sem]) (by simp [go_sem])
theorem Try.less_c {bx : Boxes} {bq bl : Nat} {g : FuncId} {lt : Int → Int → Bool} {vm : V} {next : Int} {es : List (Ent Int)} {R : List V} (hlt : Lt Try.prog g lt) (h : HeapS bx bq bl g vm next es R) {i k : Nat} (hi : i < es.length) (hk : k < es.length) :
   PureCall Try.prog 46 [.ptr bq 4 0 0, .int .i64 i, .int .i64 k] bx (.bool (bef lt (at_ es i) (at_ es k))) := by
 refine Try.ctr46 fun hf => ?_
 have c := Try.before_c hlt h.q (h.e i hi) (h.e k hk)
 have hq := h.q
 have hl := h.l
 obtain ⟨i1, i2⟩ := h.rlt hi
 obtain ⟨k1, k2⟩ := h.rlt hk
 simp only [qV] at hq
 simp [go_sem, Try.C46, hf, hq, hl, hi, hk, i1, i2, k1, k2]
 refine callK_pure c ?_
 simp [go_sem]
 exact ret_pure (by simp [go_sem]) (by simp [go_sem])
def Fr (bl : Nat) (es : List (Ent Int)) (bx bx' : Boxes) : Prop := ∀ b, b ≠ bl → (∀ e, e ∈ es → b ≠ e.b) → bx' b = bx b
theorem HeapS.swap {bx bx' : Boxes} {bq bl : Nat} {g : FuncId} {vm : V} {next : Int} {es : List (Ent Int)} {R : List V} (h : HeapS bx bq bl g vm next es R) {i k : Nat} (hi : i < es.length) (hk : k < es.length) (hf : FinB bx')
   (hq : bx' bq = bx bq) (hl : bx' bl = some (.row 85 1 ((R.set i (.ptr (at_ es k).b 3 0 0)).set k (.ptr (at_ es i).b 3 0 0))))
   (he : ∀ j, j < es.length → bx' (at_ es j).b = some (.row 90 3 [entC (at_ es j).h (at_ es j).v (if j = i then k else if j = k then i else j : Nat)])) :
   HeapS bx' bq bl g vm next (swp es i k) ((R.set i (.ptr (at_ es k).b 3 0 0)).set k (.ptr (at_ es i).b 3 0 0)) := by
 have hs := fun q => swp_at es i k q hi hk
 obtain ⟨i1, i2⟩ := h.rlt hi
 obtain ⟨k1, k2⟩ := h.rlt hk
 refine ⟨by rw [hq, swp_len]; exact h.q, hl, fun j hj => ?_, fun j hj => ?_, ?_, hf, by rw [swp_len]; exact h.len⟩
 · rw [swp_len] at hj
   rw [hs, List.getElem?_set, List.getElem?_set]
   by_cases e1 : k = j
   · rw [if_pos e1, if_pos e1.symm]
     simp [k1]
   · rw [if_neg e1, if_neg (Ne.symm e1)]
     by_cases e2 : i = j
     · rw [if_pos e2, if_pos e2.symm]
       simp [i1, k1]
     · rw [if_neg e2, if_neg (Ne.symm e2)]
       exact h.r j hj
 · rw [swp_len] at hj
   rw [hs]
   by_cases e1 : j = k
   · rw [if_pos e1, he i hi, if_pos rfl, e1]
   · rw [if_neg e1]
     by_cases e2 : j = i
     · rw [if_pos e2, he k hk]
       by_cases e3 : k = i
       · exact absurd (e2.trans e3.symm) e1
       · rw [if_neg e3, if_pos rfl, e2]
     · rw [if_neg e2, he j hj, if_neg e2, if_neg e1]
 · have hp := (swp_perm es i k hi hk).map (·.b)
   exact (((hp.cons bl).cons bq).nodup_iff).2 h.nd
theorem Try.swap_c {bx : Boxes} {bq bl : Nat} {g : FuncId} {vm : V} {next : Int} {es : List (Ent Int)} {R : List V} (h : HeapS bx bq bl g vm next es R) {i k : Nat} (hi : i < es.length) (hk : k < es.length) :
   AbsCall Try.prog 109 [.ptr bq 4 0 0, .int .i64 i, .int .i64 k] bx fun r bx' => ∃ R', R'.length = R.length ∧ HeapS bx' bq bl g vm next (swp es i k) R' ∧ Fr bl es bx bx' := by
 refine Try.ctr109 fun hf => ?_
 have hq := h.q
 have hl := h.l
 obtain ⟨i1, i2⟩ := h.rlt hi
 obtain ⟨k1, k2⟩ := h.rlt hk
 obtain ⟨n1, n2, n3⟩ := h.ne
 have ei := h.e i hi
 have ek := h.e k hk
 obtain ⟨n4, n5⟩ := n2 i hi
 obtain ⟨n6, n7⟩ := n2 k hk
 simp only [qV] at hq
 simp only [entC] at ei ek
 by_cases e : i = k
 · subst e
   simp [go_sem, Try.C109, hf, hq, hl, hi, i1, i2, ei, upd_ne, n1, Ne.symm n1, n4, Ne.symm n4, n5, Ne.symm n5]
   refine ret_pure (by simp [go_sem]) ⟨_, ?_, h.swap hi hi (by simp [finB_upd, hf]) ?_ ?_ fun j hj => ?_, fun b hb1 hb2 => ?_⟩
   · simp
   · dsimp only; rw [upd_ne _ _ (Ne.symm n4), upd_ne _ _ n1]
   · dsimp only; rw [upd_ne _ _ (Ne.symm n5), upd_eq, List.set_set]
   · dsimp only
     by_cases ej : (at_ es j).b = (at_ es i).b
     · have := n3 j i hj hi ej
       subst this
       rw [upd_eq]
       simp [entC]
     · rw [upd_ne _ _ ej, upd_ne _ _ (n2 j hj).2, h.e j hj, if_neg (fun e => ej (by rw [e])), if_neg (fun e => ej (by rw [e]))]
   · have hm : at_ es i ∈ es := by rw [at_get hi]; exact List.getElem_mem hi
     dsimp only
     rw [upd_ne _ _ (hb2 _ hm), upd_ne _ _ hb1]
 · have n8 : (at_ es i).b ≠ (at_ es k).b := fun e' => e (n3 i k hi hk e')
   simp [go_sem, Try.C109, hf, hq, hl, hi, hk, i1, i2, k1, k2, ei, ek, upd_ne, n1, Ne.symm n1, n4, Ne.symm n4, n5, Ne.symm n5, n6, Ne.symm n6, n7, Ne.symm n7, n8, Ne.symm n8, List.getElem_set, e, Ne.symm e]
   refine ret_pure (by simp [go_sem]) ⟨_, ?_, h.swap hi hk (by simp [finB_upd, hf]) ?_ ?_ fun j hj => ?_, fun b hb1 hb2 => ?_⟩
   · simp
   · dsimp only
     rw [upd_ne _ _ (Ne.symm n4), upd_ne _ _ (Ne.symm n6), upd_ne _ _ n1]
   · dsimp only
     rw [upd_ne _ _ (Ne.symm n5), upd_ne _ _ (Ne.symm n7), upd_eq]
   · dsimp only
     by_cases ej : (at_ es j).b = (at_ es i).b
     · have := n3 j i hj hi ej
       subst this
       rw [upd_eq]
       simp [entC]
     · rw [upd_ne _ _ ej, if_neg (c := j = i) (fun e => ej (by rw [e]))]
       by_cases ek' : (at_ es j).b = (at_ es k).b
       · have := n3 j k hj hk ek'
         subst this
         rw [upd_eq]
         simp [entC]
       · rw [upd_ne _ _ ek', upd_ne _ _ (n2 j hj).2, h.e j hj, if_neg (fun e => ek' (by rw [e]))]
   · have hm : at_ es i ∈ es := by rw [at_get hi]; exact List.getElem_mem hi
     have hm2 : at_ es k ∈ es := by rw [at_get hk]; exact List.getElem_mem hk
     dsimp only
     rw [upd_ne _ _ (hb2 _ hm), upd_ne _ _ (hb2 _ hm2), upd_ne _ _ hb1]
end Go.Proofs

set_option linter.unusedSimpArgs false
set_option linter.unusedVariables false
set_option maxRecDepth 100000
namespace Go.Proofs
open Go Go.Pl Go.Hp
theorem Try.mLess : methodV Try.prog 83 "Less" = some 46 := by kernel_rfl
theorem Try.mSwap : methodV Try.prog 83 "Swap" = some 109 := by kernel_rfl
theorem Try.mLen : methodV Try.prog 83 "Len" = some 106 := by kernel_rfl
theorem Try.mPush : methodV Try.prog 83 "Push" = some 108 := by kernel_rfl
theorem Try.mPop : methodV Try.prog 83 "Pop" = some 107 := by kernel_rfl
theorem Fr.refl (bl : Nat) (es : List (Ent Int)) (bx : Boxes) : Fr bl es bx bx := fun _ _ _ => rfl
theorem Fr.swap {bl : Nat} {es : List (Ent Int)} {i k : Nat} {bx bx' bx'' : Boxes} (h : Fr bl es bx bx') (h' : Fr bl (swp es i k) bx' bx'') (hi : i < es.length) (hk : k < es.length) : Fr bl es bx bx'' := fun b h1 h2 => by
 rw [h' b h1 (fun e he => h2 e ((swp_perm es i k hi hk).mem_iff.1 he)), h b h1 h2]
structure At (bx bx' : Boxes) (bq bl : Nat) (g : FuncId) (vm : V) (next : Int) (n : Nat) (es es' : List (Ent Int)) : Prop where
 s : ∃ R, R.length = n ∧ HeapS bx' bq bl g vm next es' R
 f : Fr bl es bx bx'
 p : es'.Perm es
theorem At.step {bx bx' bx'' : Boxes} {bq bl : Nat} {g : FuncId} {vm : V} {next : Int} {n : Nat} {es es' : List (Ent Int)} (h : At bx bx' bq bl g vm next n es es') {i k : Nat} (hi : i < es'.length) (hk : k < es'.length) {R' : List V} (hn : R'.length = n) (h1 : HeapS bx'' bq bl g vm next (swp es' i k) R') (h2 : Fr bl es' bx' bx'') :
   At bx bx'' bq bl g vm next n es (swp es' i k) :=
 ⟨⟨R', hn, h1⟩, fun b hb1 hb2 => by rw [h2 b hb1 (fun e he => hb2 e (h.p.mem_iff.1 he)), h.f b hb1 hb2], (swp_perm _ _ _ hi hk).trans h.p⟩
theorem Try.up_c {bx : Boxes} {bq bl : Nat} {g : FuncId} {lt : Int → Int → Bool} {vm : V} {next : Int} {es : List (Ent Int)} {R : List V} (hlt : Lt Try.prog g lt) (h : HeapS bx bq bl g vm next es R) {j : Nat} (hj : j < es.length) :
   AbsCall Try.prog 60 [.iface 83 (.ptr bq 4 0 0), .int .i64 j] bx fun r bx' => At bx bx' bq bl g vm next R.length es (upL lt es j) := by
 refine Try.ctr60 fun hf => ?_
 have hl := h.len
 simp [go_sem, Try.C60, hf]
 refine pw_loop (ι := Nat × List (Ent Int) × Boxes) (fun p => p.1 < es.length ∧ At bx p.2.2 bq bl g vm next R.length es p.2.1 ∧ upL lt p.2.1 p.1 = upL lt es j)
   (fun p => ⟨23, slk [(0, .iface 83 (.ptr bq 4 0 0)), (1, .int .i64 p.1)], p.2.2⟩) (fun p => p.1) (j, es, bx) ⟨hj, ⟨⟨R, rfl, h⟩, Fr.refl _ _ _, List.Perm.refl _⟩, rfl⟩ (cov_look (by simp [go_sem])) ?_
 rintro ⟨j, es', bx'⟩ ⟨hj', hat, hup⟩
 dsimp only at hj' hat hup ⊢
 obtain ⟨R', hRl, hs⟩ := hat.s
 have hle : es'.length = es.length := hat.p.length_eq
 have w1 : IntKind.i64.wrap ((j : Int) - 1) = (j : Int) - 1 := wr64 (by omega)
 by_cases hj0 : j = 0
 · subst hj0
   have w2 : IntKind.i64.wrap (-1) = -1 := by decide
   have w3 : IntKind.i64.wrap ((-1 : Int).tdiv 2) = 0 := by decide
   have hu : upL lt es' 0 = es' := by unfold upL; simp
   simp [go_sem, Try.L60_0, hs.fin, w1, w2, w3, (by decide : IntKind.i64.wrap 0 = 0), (by decide : (-1 : Int).tdiv 2 = 0)]
   refine ret_pure (by simp [go_sem]) ?_
   rw [← hup, hu]; exact hat
 obtain ⟨p, hp⟩ : ∃ p, (j - 1) / 2 = p := ⟨_, rfl⟩
 have w2 : IntKind.i64.wrap (((j : Int) - 1).tdiv 2) = (p : Int) := by
   rw [Int.tdiv_eq_ediv_of_nonneg (by omega), wr64 (by omega)]; omega
 have hpj : ¬ (p : Int) = j := by omega
 have hu : upL lt es' j = if bef lt (at_ es' j) (at_ es' p) = true then upL lt (swp es' p j) p else es' := by
   rw [upL.eq_def, dif_neg hj0, hp]
 have cL := Try.less_c hlt hs (i := j) (k := p) (by omega) (by omega)
 have cS := Try.swap_c hs (i := p) (k := j) (by omega) (by omega)
 simp [go_sem, Try.L60_0, hs.fin, w1, w2, hpj]
 refine invK_pure Try.mLess (by simp [go_sem]) (by simp [go_sem]) (by simpa [go_sem] using cL) ?_
 simp [go_sem]
 refine ⟨fun hb => ?_, fun hb => ?_⟩
 · refine ret_pure (by simp [go_sem]) ?_
   rw [← hup, hu, if_neg (by simp [hb])]; exact hat
 · refine invK_abs Try.mSwap (by simp [go_sem]) (by simp [go_sem]) (by simpa [go_sem] using cS) ?_
   rintro r bx2 ⟨R2, hR2, hs2, hf2⟩
   simp [go_sem]
   refine ⟨(p, swp es' p j, bx2), ⟨by dsimp only; omega, hat.step (by omega) (by omega) (by omega) hs2 hf2, ?_⟩, cov_look (by simp [go_sem]), by dsimp only; omega⟩
   dsimp only
   rw [← hup, hu, if_pos hb]
theorem Try.down_c {bx : Boxes} {bq bl : Nat} {g : FuncId} {lt : Int → Int → Bool} {vm : V} {next : Int} {es : List (Ent Int)} {R : List V} (hlt : Lt Try.prog g lt) (h : HeapS bx bq bl g vm next es R) {i n : Nat} (hi : i < es.length) (hn : n ≤ es.length) :
   AbsCall Try.prog 55 [.iface 83 (.ptr bq 4 0 0), .int .i64 i, .int .i64 n] bx fun r bx' => r = .bool (decide (i < (downL lt es i n).2)) ∧ At bx bx' bq bl g vm next R.length es (downL lt es i n).1 := by
 refine Try.ctr55 fun hf => ?_
 have hl := h.len
 simp [go_sem, Try.C55, hf]
 refine pw_loop (ι := Nat × List (Ent Int) × Boxes) (fun p => p.1 < es.length ∧ At bx p.2.2 bq bl g vm next R.length es p.2.1 ∧ downL lt p.2.1 p.1 n = downL lt es i n)
   (fun p => ⟨48, slk [(0, .iface 83 (.ptr bq 4 0 0)), (1, .int .i64 i), (2, .int .i64 n), (7, .int .i64 p.1)], p.2.2⟩) (fun p => es.length - p.1) (i, es, bx) ⟨hi, ⟨⟨R, rfl, h⟩, Fr.refl _ _ _, List.Perm.refl _⟩, rfl⟩ (cov_look (by simp [go_sem])) ?_
 rintro ⟨j, es', bx'⟩ ⟨hj', hat, hdn⟩
 dsimp only at hj' hat hdn ⊢
 obtain ⟨R', hRl, hs⟩ := hat.s
 have hle : es'.length = es.length := hat.p.length_eq
 have w1 : IntKind.i64.wrap (2 * (j : Int)) = 2 * (j : Int) := wr64 (by omega)
 have w2 : IntKind.i64.wrap (2 * (j : Int) + 1) = 2 * (j : Int) + 1 := wr64 (by omega)
 have w3 : IntKind.i64.wrap (2 * (j : Int) + 1 + 1) = 2 * (j : Int) + 2 := by rw [wr64 (by omega)]; omega
 by_cases hj0 : n ≤ 2 * j + 1
 · have hu : downL lt es' j n = (es', j) := by rw [downL.eq_def, dif_pos hj0]
   have hc : (n : Int) ≤ 2 * (j : Int) + 1 := by omega
   simp [go_sem, Try.L55_0, hs.fin, w1, w2, hc]
   refine ret_pure (by simp [go_sem]) ?_
   rw [← hdn, hu]
   exact ⟨by simp [go_sem], hat⟩
 have hc : ¬ (n : Int) ≤ 2 * (j : Int) + 1 := by omega
 have hc2 : ¬ 2 * (j : Int) + 1 < 0 := by omega
 have hu : downL lt es' j n = if bef lt (at_ es' (kid lt es' j n)) (at_ es' j) then downL lt (swp es' j (kid lt es' j n)) (kid lt es' j n) n else (es', j) := by rw [downL.eq_def, dif_neg hj0]
 obtain ⟨c1, c2, c3⟩ := kid_lt lt es' hj0
 simp [go_sem, Try.L55_0, hs.fin, w1, w2, w3, hc, hc2]
 by_cases h2 : 2 * j + 2 < n
 · have hg : (2 * (j : Int) + 2 < n) := by omega
   have cL := Try.less_c hlt hs (i := 2 * j + 2) (k := 2 * j + 1) (by omega) (by omega)
   simp only [Int.natCast_add, Int.natCast_mul, Int.cast_ofNat_Int] at cL
   simp [go_sem, hg]
   refine invK_pure Try.mLess (by simp [go_sem]) (by simp [go_sem]) (by simpa [go_sem] using cL) ?_
   simp [go_sem]
   refine ⟨fun hb => ?_, fun hb => ?_⟩
   · have hkc : kid lt es' j n = 2 * j + 2 := by unfold kid; rw [if_pos ⟨by omega, hb⟩]
     rw [hkc] at hu c1 c2
     have cL2 := Try.less_c hlt hs (i := 2 * j + 2) (k := j) (by omega) (by omega)
     have cS := Try.swap_c hs (i := j) (k := 2 * j + 2) (by omega) (by omega)
     simp only [Int.natCast_add, Int.natCast_mul, Int.cast_ofNat_Int] at cL2 cS
     refine invK_pure Try.mLess (by simp [go_sem]) (by simp [go_sem]) (by simpa [go_sem] using cL2) ?_
     simp [go_sem]
     refine ⟨fun hb2 => ?_, fun hb2 => ?_⟩
     · rw [if_neg (by simp [hb2])] at hu
       refine ret_pure (by simp [go_sem]) ?_
       rw [← hdn, hu]
       exact ⟨by simp [go_sem], hat⟩
     · rw [if_pos hb2] at hu
       refine invK_abs Try.mSwap (by simp [go_sem]) (by simp [go_sem]) (by simpa [go_sem] using cS) ?_
       rintro r bx2 ⟨R2, hR2, hs2, hf2⟩
       simp [go_sem]
       refine ⟨(2 * j + 2, swp es' j (2 * j + 2), bx2), ⟨by dsimp only; omega, hat.step (by omega) (by omega) (by omega) hs2 hf2, ?_⟩, cov_look (by simp [go_sem]), by dsimp only; omega⟩
       dsimp only
       rw [← hdn, hu]
   · have hkc : kid lt es' j n = 2 * j + 1 := by unfold kid; rw [if_neg (fun hh => by simp [hb] at hh)]
     rw [hkc] at hu c1 c2
     have cL2 := Try.less_c hlt hs (i := 2 * j + 1) (k := j) (by omega) (by omega)
     have cS := Try.swap_c hs (i := j) (k := 2 * j + 1) (by omega) (by omega)
     simp only [Int.natCast_add, Int.natCast_mul, Int.cast_ofNat_Int] at cL2 cS
     refine invK_pure Try.mLess (by simp [go_sem]) (by simp [go_sem]) (by simpa [go_sem] using cL2) ?_
     simp [go_sem]
     refine ⟨fun hb2 => ?_, fun hb2 => ?_⟩
     · rw [if_neg (by simp [hb2])] at hu
       refine ret_pure (by simp [go_sem]) ?_
       rw [← hdn, hu]
       exact ⟨by simp [go_sem], hat⟩
     · rw [if_pos hb2] at hu
       refine invK_abs Try.mSwap (by simp [go_sem]) (by simp [go_sem]) (by simpa [go_sem] using cS) ?_
       rintro r bx2 ⟨R2, hR2, hs2, hf2⟩
       simp [go_sem]
       refine ⟨(2 * j + 1, swp es' j (2 * j + 1), bx2), ⟨by dsimp only; omega, hat.step (by omega) (by omega) (by omega) hs2 hf2, ?_⟩, cov_look (by simp [go_sem]), by dsimp only; omega⟩
       dsimp only
       rw [← hdn, hu]
 · have hg : ¬ (2 * (j : Int) + 2 < n) := by omega
   simp [go_sem, hg]
   have hkc : kid lt es' j n = 2 * j + 1 := by unfold kid; rw [if_neg (fun hh => by omega)]
   rw [hkc] at hu c1 c2
   have cL2 := Try.less_c hlt hs (i := 2 * j + 1) (k := j) (by omega) (by omega)
   have cS := Try.swap_c hs (i := j) (k := 2 * j + 1) (by omega) (by omega)
   simp only [Int.natCast_add, Int.natCast_mul, Int.cast_ofNat_Int] at cL2 cS
   refine invK_pure Try.mLess (by simp [go_sem]) (by simp [go_sem]) (by simpa [go_sem] using cL2) ?_
   simp [go_sem]
   refine ⟨fun hb2 => ?_, fun hb2 => ?_⟩
   · rw [if_neg (by simp [hb2])] at hu
     refine ret_pure (by simp [go_sem]) ?_
     rw [← hdn, hu]
     exact ⟨by simp [go_sem], hat⟩
   · rw [if_pos hb2] at hu
     refine invK_abs Try.mSwap (by simp [go_sem]) (by simp [go_sem]) (by simpa [go_sem] using cS) ?_
     rintro r bx2 ⟨R2, hR2, hs2, hf2⟩
     simp [go_sem]
     refine ⟨(2 * j + 1, swp es' j (2 * j + 1), bx2), ⟨by dsimp only; omega, hat.step (by omega) (by omega) (by omega) hs2 hf2, ?_⟩, cov_look (by simp [go_sem]), by dsimp only; omega⟩
     dsimp only
     rw [← hdn, hu]
end Go.Proofs

set_option linter.unusedSimpArgs false
set_option linter.unusedVariables false
set_option maxRecDepth 100000
namespace Go.Proofs
open Go Go.Pl Go.Hp
def QS (bx : Boxes) (bq : Nat) (ol : Option Nat) (g : FuncId) (vm : V) (next : Int) (es : List (Ent Int)) : Prop :=
 (es = [] ∧ ol = none ∧ bx bq = some (.row 79 4 [qV .nils g vm next]) ∧ FinB bx) ∨ ∃ bl R, ol = some bl ∧ HeapS bx bq bl g vm next es R
theorem QS.fin {bx : Boxes} {bq : Nat} {ol : Option Nat} {g : FuncId} {vm : V} {next : Int} {es : List (Ent Int)} (h : QS bx bq ol g vm next es) : FinB bx := by
 rcases h with ⟨_, _, _, h⟩ | ⟨_, _, _, h⟩
 · exact h
 · exact h.fin
def Fq (bq : Nat) (ol : Option Nat) (es : List (Ent Int)) (bx bx' : Boxes) : Prop := ∀ b, bx b ≠ none → b ≠ bq → ol ≠ some b → (∀ e, e ∈ es → b ≠ e.b) → bx' b = bx b
theorem heapS_snoc {bx' : Boxes} {bq bl : Nat} {g : FuncId} {vm : V} {next : Int} {es : List (Ent Int)} {e : Ent Int} {Rt : List V} (hq : bx' bq = some (.row 79 4 [qV (.own bl 1 0 (es.length + 1)) g vm next]))
   (hl : bx' bl = some (.row 85 1 (Rt ++ [.ptr e.b 3 0 0]))) (hRt : Rt.length = es.length) (hr : ∀ i, i < es.length → Rt[i]? = some (.ptr (at_ es i).b 3 0 0))
   (he : ∀ i, i < es.length → bx' (at_ es i).b = some (.row 90 3 [entC (at_ es i).h (at_ es i).v i])) (hee : bx' e.b = some (.row 90 3 [entC e.h e.v es.length]))
   (nd : (bq :: bl :: (es ++ [e]).map (·.b)).Nodup) (fin : FinB bx') (len : es.length < 100000) : HeapS bx' bq bl g vm next (es ++ [e]) (Rt ++ [.ptr e.b 3 0 0]) := by
 have hat : ∀ i, i < es.length → at_ (es ++ [e]) i = at_ es i := fun i hi => by
   unfold at_; rw [List.getD_eq_getElem?_getD, List.getD_eq_getElem?_getD, List.getElem?_append_left hi]
 have hat2 : at_ (es ++ [e]) es.length = e := by
   unfold at_; rw [List.getD_eq_getElem?_getD, List.getElem?_append_right (Nat.le_refl _)]; simp
 refine ⟨by rw [List.length_append]; exact hq, hl, fun i hi => ?_, fun i hi => ?_, nd, fin, by rw [List.length_append]; simp only [List.length_singleton]; omega⟩
 · rw [List.length_append, List.length_singleton] at hi
   by_cases h : i < es.length
   · rw [hat i h, List.getElem?_append_left (by omega)]; exact hr i h
   · obtain rfl : i = es.length := by omega
     rw [hat2, List.getElem?_append_right (by omega), hRt]; simp
 · rw [List.length_append, List.length_singleton] at hi
   by_cases h : i < es.length
   · rw [hat i h]; exact he i h
   · obtain rfl : i = es.length := by omega
     rw [hat2]; exact hee
theorem Try.ppush_c {bx : Boxes} {bq eb : Nat} {ol : Option Nat} {g : FuncId} {vm : V} {next h v i : Int} {es : List (Ent Int)} (hs : QS bx bq ol g vm next es) (he : bx eb = some (.row 90 3 [entC h v i])) (h1 : eb ≠ bq) (h2 : ol ≠ some eb) (h3 : ∀ e, e ∈ es → e.b ≠ eb) (hlen : es.length < 100000) :
   AbsCall Try.prog 108 [.ptr bq 4 0 0, .iface 85 (.ptr eb 3 0 0)] bx fun r bx' => ∃ bl R, (bx bl = none ∨ ol = some bl) ∧ HeapS bx' bq bl g vm next (es ++ [⟨h, v, eb⟩]) R ∧ Fq bq ol (es ++ [⟨h, v, eb⟩]) bx bx' := by
 refine Try.ctr108 fun hf => ?_
 simp only [entC] at he
 have hne := Ne.symm h1
 rcases hs with ⟨rfl, rfl, hq, _⟩ | ⟨bl, R, rfl, hp⟩
 · simp only [qV] at hq
   simp [go_sem, Try.C108, hf, hq, he, upd_ne, h1, hne]
   intro b hb0
   have hb1 := (new_ne hb0).1
   have hb2 := (new_ne hb0).2
   have hb3 : b ≠ bq := fun e => by rw [e, hq] at hb2; cases hb2
   unfold appendA
   simp [go_sem, srcEls, hf, finB_upd, upd_ne, h1, hne, hb1, Ne.symm hb1, hb3, Ne.symm hb3]
   intro b' hb'
   have hc1 := (new_ne hb').1
   have hc2 := (new_ne (new_ne hb').2).1
   have hc3 := (new_ne (new_ne hb').2).2
   have hc4 : b' ≠ bq := fun e => by rw [e, hq] at hc3; cases hc3
   simp [go_sem, hq, upd_ne, h1, hne, hb1, Ne.symm hb1, hb3, Ne.symm hb3, hc1, Ne.symm hc1, hc2, Ne.symm hc2, hc4, Ne.symm hc4]
   refine ret_pure (by simp [go_sem]) ⟨b', hc3, ⟨_, heapS_snoc (es := []) (e := ⟨h, v, eb⟩) (Rt := []) ?_ ?_ rfl (fun i hi => absurd hi (Nat.not_lt_zero _)) (fun i hi => absurd hi (Nat.not_lt_zero _)) ?_ ?_ ?_ (by decide)⟩, fun c hc1' hc2' hc3' hc4' => ?_⟩
   · dsimp only; rw [upd_eq]; rfl
   · dsimp only; rw [upd_ne _ _ hc4, upd_eq]; rfl
   · dsimp only; rw [upd_ne _ _ h1, upd_ne _ _ (Ne.symm hc2), upd_ne _ _ (Ne.symm hb1), upd_eq]; rfl
   · simp [Ne.symm hc4, hne, hc2]
   · simp [finB_upd, hf]
   · have := hc4' ⟨h, v, eb⟩ (by simp)
     dsimp only at this ⊢
     have e1 : c ≠ b' := fun e => hc1' (by rw [e]; exact hc3)
     have e2 : c ≠ b := fun e => hc1' (by rw [e]; exact hb2)
     rw [upd_ne _ _ hc2', upd_ne _ _ e1, upd_ne _ _ e2, upd_ne _ _ this]
 · have hq := hp.q
   have hl := hp.l
   obtain ⟨n1, n2, n3⟩ := hp.ne
   have hbl : eb ≠ bl := fun e => h2 (by rw [e])
   simp only [qV] at hq
   simp [go_sem, Try.C108, hf, hq, hl, he, upd_ne, h1, hne, hbl, Ne.symm hbl, n1, Ne.symm n1]
   intro b hb0
   have hb1 := (new_ne hb0).1
   have hb2 := (new_ne hb0).2
   have hb3 : b ≠ bq := fun e => by rw [e, hq] at hb2; cases hb2
   have hb4 : b ≠ bl := fun e => by rw [e, hl] at hb2; cases hb2
   have hRl : es.length ≤ R.length := by
     rcases Nat.eq_zero_or_pos es.length with h0 | h0
     · omega
     · obtain ⟨h5, _⟩ := hp.rlt (i := es.length - 1) (by omega)
       omega
   unfold appendA
   simp [go_sem, srcEls, hf, finB_upd, upd_ne, h1, hne, hb1, Ne.symm hb1, hb3, Ne.symm hb3, hb4, Ne.symm hb4, hl, hbl, Ne.symm hbl, hRl]
   refine ⟨by omega, by omega, fun b' hb' => ?_⟩
   have hme : ∀ i, i < es.length → at_ es i ∈ es := fun i hi => by rw [at_get hi]; exact List.getElem_mem hi
   have hX : ∀ c, c ≠ bl → bx c ≠ none → b' ≠ c := fun c hc hcn e => by
     subst e
     have hbb : b' ≠ b := fun e => hcn (by rw [e]; exact hb2)
     rw [upd_ne _ _ hc, upd_ne _ _ hbb] at hb'
     by_cases e2 : b' = eb
     · subst e2; rw [upd_eq] at hb'; cases hb'
     · rw [upd_ne _ _ e2] at hb'; exact hcn hb'
   have d1 : b' ≠ bq := hX bq n1 (by rw [hq]; simp)
   have d2 : b' ≠ eb := hX eb hbl (by rw [he]; simp)
   have d3 : b' ≠ b := fun e => by
     subst e
     rw [upd_ne _ _ hb4, upd_eq] at hb'; cases hb'
   have d4 : ∀ i, i < es.length → b' ≠ (at_ es i).b := fun i hi => hX _ (n2 i hi).2 (by rw [hp.e i hi]; simp)
   have d5 : b' = bl ∨ bx b' = none := by
     by_cases e : b' = bl
     · exact .inl e
     · rw [upd_ne _ _ e, upd_ne _ _ d3, upd_ne _ _ d2] at hb'
       exact .inr hb'
   have hmin : min es.length R.length = es.length := by omega
   have hfin : HeapS (upd (upd (upd (upd (upd bx eb (some (.row 90 3 [entC h v es.length]))) b (some (.row 85 1 [.ptr eb 3 0 0]))) bl none) b' (some (.row 85 1 (R.take es.length ++ [.ptr eb 3 0 0])))) bq (some (.row 79 4 [qV (.own b' 1 0 (es.length + 1)) g vm next]))) bq b' g vm next (es ++ [⟨h, v, eb⟩]) (R.take es.length ++ [.ptr eb 3 0 0]) := by
     refine heapS_snoc (e := ⟨h, v, eb⟩) (upd_eq _ _ _) ?_ (by rw [List.length_take]; omega) (fun i hi => ?_) (fun i hi => ?_) ?_ ?_ ?_ hlen
     · rw [upd_ne _ _ d1, upd_eq]
     · rw [List.getElem?_take, if_pos hi]; exact hp.r i hi
     · obtain ⟨g1, g2⟩ := n2 i hi
       have g3 := h3 _ (hme i hi)
       have g4 : (at_ es i).b ≠ b := fun e => by have := hp.e i hi; rw [e, hb2] at this; cases this
       rw [upd_ne _ _ g1, upd_ne _ _ (Ne.symm (d4 i hi)), upd_ne _ _ g2, upd_ne _ _ g4, upd_ne _ _ g3]
       exact hp.e i hi
     · dsimp only
       rw [upd_ne _ _ h1, upd_ne _ _ (Ne.symm d2), upd_ne _ _ hbl, upd_ne _ _ (Ne.symm hb1), upd_eq]
     · have hnd := hp.nd
       rw [List.nodup_cons, List.nodup_cons] at hnd ⊢
       obtain ⟨m1, m2, m3⟩ := hnd
       simp only [List.map_append, List.map_cons, List.map_nil, List.mem_cons, List.mem_append, List.mem_map, List.not_mem_nil, or_false, not_or] at m1 m2 ⊢
       refine ⟨⟨Ne.symm d1, m1.2, hne⟩, ⟨fun ⟨e, he1, he2⟩ => ?_, d2⟩, ?_⟩
       · obtain ⟨i, hi, rfl⟩ := List.getElem_of_mem he1
         exact d4 i hi (by rw [at_get hi]; exact he2.symm)
       · rw [List.nodup_append]
         refine ⟨m3, by simp, ?_⟩
         intro x hx y hy
         obtain ⟨e, he1, rfl⟩ := List.mem_map.1 hx
         simp at hy
         subst hy
         exact h3 e he1
     · simp [finB_upd, hf]
   have hfr : Fq bq (some bl) (es ++ [⟨h, v, eb⟩]) bx (upd (upd (upd (upd (upd bx eb (some (.row 90 3 [entC h v es.length]))) b (some (.row 85 1 [.ptr eb 3 0 0]))) bl none) b' (some (.row 85 1 (R.take es.length ++ [.ptr eb 3 0 0])))) bq (some (.row 79 4 [qV (.own b' 1 0 (es.length + 1)) g vm next]))) := fun c k1 k2 k3 k4 => by
     have k5 := k4 ⟨h, v, eb⟩ (by simp)
     have k6 : c ≠ bl := fun e => k3 (by rw [e])
     have k7 : c ≠ b := fun e => k1 (by rw [e]; exact hb2)
     have k8 : c ≠ b' := fun e => by
       rcases d5 with e2 | e2
       · exact k6 (e.trans e2)
       · exact k1 (by rw [e]; exact e2)
     dsimp only at k5
     rw [upd_ne _ _ k2, upd_ne _ _ k8, upd_ne _ _ k6, upd_ne _ _ k7, upd_ne _ _ k5]
   simp only [qV, entC] at hfin hfr
   simp [go_sem, hq, upd_ne, h1, hne, hb1, Ne.symm hb1, hb3, Ne.symm hb3, hb4, Ne.symm hb4, d1, Ne.symm d1, d2, Ne.symm d2, d3, Ne.symm d3, n1, Ne.symm n1]
   refine ret_pure (by simp [go_sem]) ?_
   rcases d5 with rfl | e2
   · exact .inr ⟨⟨_, hfin⟩, hfr⟩
   · exact .inl ⟨b', e2, ⟨_, hfin⟩, hfr⟩
end Go.Proofs

set_option linter.unusedSimpArgs false
set_option linter.unusedVariables false
set_option maxRecDepth 100000
namespace Go.Proofs
open Go Go.Pl Go.Hp
theorem Try.ppop_c {bx : Boxes} {bq bl : Nat} {g : FuncId} {vm : V} {next : Int} {es : List (Ent Int)} {R : List V} (h : HeapS bx bq bl g vm next es R) (hne : es ≠ []) :
   AbsCall Try.prog 107 [.ptr bq 4 0 0] bx fun r bx' => r = .iface 85 (.ptr (at_ es (es.length - 1)).b 3 0 0) ∧ (∃ R', HeapS bx' bq bl g vm next es.dropLast R') ∧ (∀ b, b ≠ bq → b ≠ bl → bx' b = bx b) := by
 refine Try.ctr107 fun hf => ?_
 have hpos : 0 < es.length := List.length_pos_iff.2 hne
 have hq := h.q
 have hl := h.l
 have hlen := h.len
 obtain ⟨n1, n2, n3⟩ := h.ne
 obtain ⟨i1, i2⟩ := h.rlt (i := es.length - 1) (by omega)
 have w1 : IntKind.i64.wrap ((es.length : Int) - 1) = ((es.length - 1 : Nat) : Int) := by rw [wr64 (by omega)]; omega
 have hlt : es.length - 1 < es.length := by omega
 simp only [qV] at hq
 generalize hn : es.length - 1 = n at *
 simp [go_sem, Try.C107, hf, hq, hl, w1, hlt, i1, i2, upd_ne, n1, Ne.symm n1]
 have hdl : es.dropLast.length = n := by rw [List.length_dropLast]; exact hn
 refine ⟨by omega, ret_pure (by simp [go_sem]) ⟨by simp [go_sem], ⟨R.set n .nilp, ⟨?_, ?_, fun i hi => ?_, fun i hi => ?_, ?_, ?_, ?_⟩⟩, fun b hb1 hb2 => ?_⟩⟩
 · dsimp only; rw [upd_eq, hdl]; rfl
 · dsimp only; rw [upd_ne _ _ (Ne.symm n1), upd_eq]
 · rw [hdl] at hi
   rw [at_drop (by omega), List.getElem?_set_ne (by omega)]
   exact h.r i (by omega)
 · rw [hdl] at hi
   obtain ⟨g1, g2⟩ := n2 i (by omega)
   rw [at_drop (by omega)]
   dsimp only
   rw [upd_ne _ _ g1, upd_ne _ _ g2]
   exact h.e i (by omega)
 · have hnd := h.nd
   refine List.Nodup.sublist ?_ hnd
   exact (((List.dropLast_sublist es).map _).cons_cons bl).cons_cons bq
 · simp [finB_upd, hf]
 · omega
 · dsimp only; rw [upd_ne _ _ hb1, upd_ne _ _ hb2]
theorem Fq.of {bq bl : Nat} {es : List (Ent Int)} {bx bx' : Boxes} (h : Fr bl es bx bx') : Fq bq (some bl) es bx bx' := fun b _ _ h2 h3 => h b (fun e => h2 (by rw [e])) h3
theorem Try.hpush_c {bx : Boxes} {bq eb : Nat} {ol : Option Nat} {g : FuncId} {lt : Int → Int → Bool} {vm : V} {next h v i : Int} {es : List (Ent Int)} (hlt : Lt Try.prog g lt) (hs : QS bx bq ol g vm next es) (he : bx eb = some (.row 90 3 [entC h v i])) (h1 : eb ≠ bq) (h2 : ol ≠ some eb) (h3 : ∀ e, e ∈ es → e.b ≠ eb) (hlen : es.length < 100000) :
   AbsCall Try.prog 43 [.iface 83 (.ptr bq 4 0 0), .iface 85 (.ptr eb 3 0 0)] bx fun r bx' => ∃ bl R, (bx bl = none ∨ ol = some bl) ∧ HeapS bx' bq bl g vm next (upL lt (es ++ [⟨h, v, eb⟩]) es.length) R ∧ Fq bq ol (es ++ [⟨h, v, eb⟩]) bx bx' := by
 refine Try.ctr43 fun hf => ?_
 simp [go_sem, Try.C43, hf]
 refine invK_abs Try.mPush (by simp [go_sem]) (by simp [go_sem]) (Try.ppush_c hs he h1 h2 h3 hlen) ?_
 rintro r bx1 ⟨bl, R, hb, hs1, hf1⟩
 have hl : (es ++ [⟨h, v, eb⟩] : List (Ent Int)).length = es.length + 1 := by simp
 have cN := Try.len_c hs1.fin hs1.q (.inr ⟨bl, rfl⟩)
 have cU := Try.up_c hlt hs1 (j := es.length) (by omega)
 have w1 : IntKind.i64.wrap ((es.length : Int) + 1 - 1) = (es.length : Int) := by rw [wr64 (by omega)]; omega
 rw [hl] at cN
 simp only [Int.natCast_add, Int.cast_ofNat_Int] at cN
 simp [go_sem, hs1.fin]
 refine invK_pure Try.mLen (by simp [go_sem]) (by simp [go_sem]) (by simpa [go_sem] using cN) ?_
 have w2 : IntKind.i64.wrap (es.length : Int) = (es.length : Int) := wr64 (by omega)
 simp [go_sem, w1, w2]
 refine callK_abs cU ?_
 rintro r bx2 ⟨⟨R2, _, hs2⟩, hf2, hp2⟩
 simp [go_sem]
 refine ret_pure (by simp [go_sem]) ⟨bl, hb, ⟨R2, hs2⟩, fun b k1 k2 k3 k4 => ?_⟩
 have k5 : b ≠ bl := fun e => by
   subst e
   rcases hb with hb | hb
   · exact k1 hb
   · exact k3 hb
 dsimp only
 rw [hf2 b k5 k4]
 exact hf1 b k1 k2 k3 k4
theorem Try.hpop_c {bx : Boxes} {bq bl : Nat} {g : FuncId} {lt : Int → Int → Bool} {vm : V} {next : Int} {es : List (Ent Int)} {R : List V} (hlt : Lt Try.prog g lt) (h : HeapS bx bq bl g vm next es R) (hne : es ≠ []) :
   AbsCall Try.prog 37 [.iface 83 (.ptr bq 4 0 0)] bx fun r bx' => r = .iface 85 (.ptr (at_ es 0).b 3 0 0) ∧ (∃ R', HeapS bx' bq bl g vm next (popL lt es) R') ∧ Fq bq (some bl) es bx bx' := by
 refine Try.ctr37 fun hf => ?_
 have hpos : 0 < es.length := List.length_pos_iff.2 hne
 have hlen := h.len
 have cN := Try.len_c h.fin h.q (.inr ⟨bl, rfl⟩)
 have cS := Try.swap_c h (i := 0) (k := es.length - 1) (by omega) (by omega)
 have w1 : IntKind.i64.wrap ((es.length : Int) - 1) = ((es.length - 1 : Nat) : Int) := by rw [wr64 (by omega)]; omega
 simp [go_sem, Try.C37, hf]
 refine invK_pure Try.mLen (by simp [go_sem]) (by simp [go_sem]) cN ?_
 simp [go_sem, w1]
 refine invK_abs Try.mSwap (by simp [go_sem]) (by simp [go_sem]) cS ?_
 rintro r bx1 ⟨R1, hR1, hs1, hf1⟩
 have hl1 := swp_len es 0 (es.length - 1)
 have cD := Try.down_c hlt hs1 (i := 0) (n := es.length - 1) (by omega) (by omega)
 simp [go_sem]
 refine callK_abs cD ?_
 rintro r bx2 ⟨rfl, ⟨R2, _, hs2⟩, hf2, hp2⟩
 have hl2 := downL_len lt (es.length - 1) (es.length - 1) 0 (swp es 0 (es.length - 1)) (by omega)
 have hd2 := (downL_perm lt (es.length - 1) (es.length - 1) 0 (swp es 0 (es.length - 1)) (by omega) (by omega)).2 (es.length - 1) (by omega)
 rw [swp_at _ _ _ _ (by omega) (by omega), if_pos rfl] at hd2
 have cP := Try.ppop_c hs2 (fun e => by rw [e] at hl2; simp at hl2; omega)
 rw [hl2, hl1, hd2] at cP
 simp [go_sem]
 refine invK_abs Try.mPop (by simp [go_sem]) (by simp [go_sem]) cP ?_
 rintro r bx3 ⟨rfl, ⟨R3, hs3⟩, hf3⟩
 simp [go_sem]
 refine ret_pure (by simp [go_sem]) ⟨by simp [go_sem], ⟨R3, hs3⟩, fun b k1 k2 k3 k4 => ?_⟩
 have k5 : b ≠ bl := fun e => k3 (by rw [e])
 dsimp only
 rw [hf3 b k2 k5, hf2 b k5 (fun e he => k4 e ((swp_perm es 0 _ (by omega) (by omega)).mem_iff.1 he)), hf1 b k5 k4]
theorem Try.hfix_c {bx : Boxes} {bq bl : Nat} {g : FuncId} {lt : Int → Int → Bool} {vm : V} {next : Int} {es : List (Ent Int)} {R : List V} (hlt : Lt Try.prog g lt) (h : HeapS bx bq bl g vm next es R) {i : Nat} (hi : i < es.length) :
   AbsCall Try.prog 44 [.iface 83 (.ptr bq 4 0 0), .int .i64 i] bx fun r bx' => (∃ R', HeapS bx' bq bl g vm next (fixS lt es i es.length) R') ∧ Fr bl es bx bx' := by
 refine Try.ctr44 fun hf => ?_
 have cN := Try.len_c h.fin h.q (.inr ⟨bl, rfl⟩)
 have cD := Try.down_c hlt h hi (Nat.le_refl _)
 simp [go_sem, Try.C44, hf]
 refine invK_pure Try.mLen (by simp [go_sem]) (by simp [go_sem]) cN ?_
 simp [go_sem]
 refine callK_abs cD ?_
 rintro r bx1 ⟨rfl, ⟨R1, _, hs1⟩, hf1, hp1⟩
 simp [go_sem]
 unfold fixS
 refine ⟨fun hh => ?_, fun hh => ?_⟩
 · rw [if_neg (by omega)]
   have cU := Try.up_c hlt hs1 (j := i) (by rw [hp1.length_eq]; exact hi)
   refine callK_abs cU ?_
   rintro r bx2 ⟨⟨R2, _, hs2⟩, hf2, hp2⟩
   simp [go_sem]
   exact ret_pure (by simp [go_sem]) ⟨⟨R2, hs2⟩, fun b k1 k2 => by dsimp only; rw [hf2 b k1 (fun e he => k2 e (hp1.mem_iff.1 he)), hf1 b k1 k2]⟩
 · rw [if_pos (by omega)]
   exact ret_pure (by simp [go_sem]) ⟨⟨R1, hs1⟩, hf1⟩
theorem Try.hrem_c {bx : Boxes} {bq bl : Nat} {g : FuncId} {lt : Int → Int → Bool} {vm : V} {next : Int} {es : List (Ent Int)} {R : List V} (hlt : Lt Try.prog g lt) (h : HeapS bx bq bl g vm next es R) {i : Nat} (hi : i < es.length) :
   AbsCall Try.prog 42 [.iface 83 (.ptr bq 4 0 0), .int .i64 i] bx fun r bx' => r = .iface 85 (.ptr (at_ es i).b 3 0 0) ∧ (∃ R', HeapS bx' bq bl g vm next (remL lt es i) R') ∧ Fq bq (some bl) es bx bx' ∧ ∃ k : Int, bx' (at_ es i).b = some (.row 90 3 [entC (at_ es i).h (at_ es i).v k]) := by
 refine Try.ctr42 fun hf => ?_
 have hlen := h.len
 have cN := Try.len_c h.fin h.q (.inr ⟨bl, rfl⟩)
 have w1 : IntKind.i64.wrap ((es.length : Int) - 1) = ((es.length - 1 : Nat) : Int) := by rw [wr64 (by omega)]; omega
 have fin : ∀ {bx2 : Boxes} {es2 : List (Ent Int)} {R2 : List V} (hs2 : HeapS bx2 bq bl g vm next es2 R2) (hl2 : es2.length = es.length) (ha : at_ es2 (es.length - 1) = at_ es i) (hf2 : Fr bl es bx bx2) (r : V) (bx3 : Boxes), (r = .iface 85 (.ptr (at_ es2 (es2.length - 1)).b 3 0 0) ∧ (∃ R', HeapS bx3 bq bl g vm next es2.dropLast R') ∧ (∀ b, b ≠ bq → b ≠ bl → bx3 b = bx2 b)) →
     r = .iface 85 (.ptr (at_ es i).b 3 0 0) ∧ (∃ R', HeapS bx3 bq bl g vm next es2.dropLast R') ∧ Fq bq (some bl) es bx bx3 ∧ ∃ k : Int, bx3 (at_ es i).b = some (.row 90 3 [entC (at_ es i).h (at_ es i).v k]) := by
   rintro bx2 es2 R2 hs2 hl2 ha hf2 r bx3 ⟨h1, h2, h3⟩
   have hn2 := hs2.ne.2.1 (es.length - 1) (by omega)
   have he2 := hs2.e (es.length - 1) (by omega)
   rw [ha] at hn2 he2
   refine ⟨by rw [h1, hl2, ha], h2, fun b k1 k2 k3 k4 => ?_, _, by rw [h3 _ hn2.1 hn2.2]; exact he2⟩
   have k5 : b ≠ bl := fun e => k3 (by rw [e])
   rw [h3 b k2 k5, hf2 b k5 k4]
 simp [go_sem, Try.C42, hf]
 refine invK_pure Try.mLen (by simp [go_sem]) (by simp [go_sem]) cN ?_
 simp [go_sem, w1]
 refine ⟨fun hne => ?_, fun heq => ?_⟩
 · have hne' : es.length - 1 ≠ i := by omega
   have cS := Try.swap_c h (i := i) (k := es.length - 1) hi (by omega)
   refine invK_abs Try.mSwap (by simp [go_sem]) (by simp [go_sem]) cS ?_
   rintro r bx1 ⟨R1, hR1, hs1, hf1⟩
   have hl1 := swp_len es i (es.length - 1)
   have cD := Try.down_c hlt hs1 (i := i) (n := es.length - 1) (by omega) (by omega)
   have hl2 := downL_len lt (es.length - 1) (es.length - 1) i (swp es i (es.length - 1)) (by omega)
   have hd2 := (downL_perm lt (es.length - 1) (es.length - 1) i (swp es i (es.length - 1)) (by omega) (by omega)).2 (es.length - 1) (by omega)
   rw [swp_at _ _ _ _ (by omega) (by omega), if_pos rfl] at hd2
   have hr : remL lt es i = (fixS lt (swp es i (es.length - 1)) i (es.length - 1)).dropLast := by unfold remL; rw [if_pos hne']
   rw [hr]
   simp [go_sem]
   refine callK_abs cD ?_
   rintro r bx2 ⟨rfl, ⟨R2, _, hs2⟩, hf2, hp2⟩
   have hf12 : Fr bl es bx bx2 := fun b k1 k2 => by rw [hf2 b k1 (fun e he => k2 e ((swp_perm es i _ hi (by omega)).mem_iff.1 he)), hf1 b k1 k2]
   simp [go_sem]
   unfold fixS
   refine ⟨fun hh => ?_, fun hh => ?_⟩
   · rw [if_neg (by omega)]
     have cU := Try.up_c hlt hs2 (j := i) (by omega)
     refine callK_abs cU ?_
     rintro r bx4 ⟨⟨R4, _, hs4⟩, hf4, hp4⟩
     have hl4 := upL_len lt i (downL lt (swp es i (es.length - 1)) i (es.length - 1)).1
     have ha4 := upL_at lt i (downL lt (swp es i (es.length - 1)) i (es.length - 1)).1 (es.length - 1) (by omega) (by omega)
     have hf14 : Fr bl es bx bx4 := fun b k1 k2 => by rw [hf4 b k1 (fun e he => k2 e ((swp_perm es i _ hi (by omega)).mem_iff.1 (hp2.mem_iff.1 he))), hf12 b k1 k2]
     have cP := Try.ppop_c hs4 (fun e => by rw [e] at hl4; simp at hl4; omega)
     simp [go_sem]
     refine invK_abs Try.mPop (by simp [go_sem]) (by simp [go_sem]) cP ?_
     intro r bx3 hh
     obtain ⟨g1, g2, g3⟩ := fin hs4 (by omega) (by rw [ha4, hd2]) hf14 r bx3 hh
     subst g1
     simp [go_sem]
     exact ret_pure (by simp [go_sem]) ⟨by simp [go_sem], g2, g3⟩
   · rw [if_pos (by omega)]
     have cP := Try.ppop_c hs2 (fun e => by rw [e] at hl2; simp at hl2; omega)
     refine invK_abs Try.mPop (by simp [go_sem]) (by simp [go_sem]) cP ?_
     intro r bx3 hh
     obtain ⟨g1, g2, g3⟩ := fin hs2 (by omega) hd2 hf12 r bx3 hh
     subst g1
     simp [go_sem]
     exact ret_pure (by simp [go_sem]) ⟨by simp [go_sem], g2, g3⟩
 · have heq' : ¬ es.length - 1 ≠ i := by omega
   have hr : remL lt es i = es.dropLast := by unfold remL; rw [if_neg heq']
   rw [hr]
   have cP := Try.ppop_c h (fun e => by rw [e] at hi; simp at hi)
   refine invK_abs Try.mPop (by simp [go_sem]) (by simp [go_sem]) cP ?_
   intro r bx3 hh
   obtain ⟨g1, g2, g3⟩ := fin h rfl (by congr 1; omega) (Fr.refl _ _ _) r bx3 hh
   subst g1
   simp [go_sem]
   exact ret_pure (by simp [go_sem]) ⟨by simp [go_sem], g2, g3⟩
end Go.Proofs

set_option linter.unusedSimpArgs false
set_option linter.unusedVariables false
set_option maxRecDepth 100000
namespace Go.Proofs
open Go Go.Pl Go.Hp
def mpV (ms : List (Int × Nat)) : List (V × V) := ms.map fun p => (.int .i64 p.1, .ptr p.2 3 0 0)
def pr (e : Ent Int) : Int × Nat := (e.h, e.b)
structure QM (bx : Boxes) (bq : Nat) (ol : Option Nat) (g : FuncId) (bm : Nat) (next : Int) (es : List (Ent Int)) : Prop where
 s : QS bx bq ol g (.mp bm) next es
 m : ∃ ms, ms.Perm (es.map pr) ∧ bx bm = some (.map (mpV ms))
 h : ∀ e, e ∈ es → 1 ≤ e.h ∧ e.h < next
 hd : (es.map (·.h)).Nodup
 d : bm ≠ bq ∧ ol ≠ some bm ∧ ∀ e, e ∈ es → e.b ≠ bm
 n : 1 ≤ next ∧ next ≤ 1000000000000000
theorem QS.q {bx : Boxes} {bq : Nat} {ol : Option Nat} {g : FuncId} {vm : V} {next : Int} {es : List (Ent Int)} (h : QS bx bq ol g vm next es) : ∃ sv, bx bq = some (.row 79 4 [qV sv g vm next]) ∧ ((es = [] ∧ sv = .nils) ∨ ∃ bl, ol = some bl ∧ sv = .own bl 1 0 es.length) := by
 rcases h with ⟨h1, _, h2, _⟩ | ⟨bl, R, h1, h2⟩
 · exact ⟨_, h2, .inl ⟨h1, rfl⟩⟩
 · exact ⟨_, h2.q, .inr ⟨bl, h1, rfl⟩⟩
theorem findV_at (h : Int) : ∀ (ms : List (Int × Nat)) (k : Nat), (ms.map (·.1)).Nodup → (∀ b, (h, b) ∈ ms → ∃ i, ms[i]? = some (h, b) ∧ findV (.int .i64 h) (mpV ms) k = some (some (k + i, .ptr b 3 0 0))) ∧ ((∀ b, (h, b) ∉ ms) → findV (.int .i64 h) (mpV ms) k = some none)
 | [], k, _ => ⟨fun b hb => (by cases hb), fun _ => rfl⟩
 | (h', b') :: ms, k, hn => by
   rw [List.map_cons, List.nodup_cons] at hn
   obtain ⟨ih1, ih2⟩ := findV_at h ms (k + 1) hn.2
   have hst : findV (.int .i64 h) (mpV ((h', b') :: ms)) k = if h = h' then some (some (k, .ptr b' 3 0 0)) else findV (.int .i64 h) (mpV ms) (k + 1) := by
     show findV (.int .i64 h) ((.int .i64 h', .ptr b' 3 0 0) :: mpV ms) k = _
     rw [findV]
     by_cases e : h = h'
     · simp [sameK, e]
     · have : (h == h') = false := by simp [e]
       simp [sameK, this, e]
   rw [hst]
   refine ⟨fun b hb => ?_, fun hno => ?_⟩
   · rcases List.mem_cons.1 hb with e | e
     · injection e with e1 e2
       subst e1 e2
       exact ⟨0, rfl, by simp⟩
     · have : h ≠ h' := fun e2 => hn.1 (by rw [← e2]; exact List.mem_map.2 ⟨_, e, rfl⟩)
       rw [if_neg this]
       obtain ⟨i, h1, h2⟩ := ih1 b e
       exact ⟨i + 1, h1, by rw [h2]; congr 3; omega⟩
   · have : h ≠ h' := fun e => hno b' (by simp [e])
     rw [if_neg this]
     exact ih2 fun b hb => hno b (List.mem_cons_of_mem _ hb)
theorem Try.made_c {bx : Boxes} {bq : Nat} {sv : V} {g : FuncId} {bm : Nat} {next : Int} (hf : FinB bx) (hq : bx bq = some (.row 79 4 [qV sv g (.mp bm) next])) :
   PureCall Try.prog 38 [.ptr bq 4 0 0] bx (.bool true) := by
 refine Try.ctr38 fun hf => ?_
 simp only [qV] at hq
 simp [go_sem, Try.C38, hf, hq]
 exact ret_pure (by simp [go_sem]) (by simp [go_sem])
theorem Try.New_c (g : FuncId) (bx : Boxes) :
   AbsCall Try.prog 31 [.fn (.func g) []] bx fun r bx' => ∃ bq bm, bx bq = none ∧ bx bm = none ∧ r = .ptr bq 4 0 0 ∧ QM bx' bq none g bm 1 [] ∧ Ext bx bx' := by
 refine Try.ctr31 fun hf => ?_
 simp [go_sem, Try.C31, hf]
 intro bm hbm bq hbq
 obtain ⟨hn, hbq'⟩ := new_ne hbq
 refine ret_pure (by simp [go_sem]) ⟨bq, hbq', bm, hbm, by simp [go_sem], ⟨.inl ⟨rfl, rfl, ?_, ?_⟩, ⟨[], List.Perm.refl _, ?_⟩, fun e he => (by cases he), List.nodup_nil, ⟨Ne.symm hn, by simp, fun e he => (by cases he)⟩, by decide⟩, ?_⟩
 · dsimp only; rw [upd_eq]; rfl
 · simp [finB_upd, hf]
 · dsimp only; rw [upd_ne _ _ (Ne.symm hn), upd_eq]; rfl
 · exact ((Ext.refl _).new hbm _).new hbq _
def FQ (bq : Nat) (ol : Option Nat) (bm : Nat) (es : List (Ent Int)) (bx bx' : Boxes) : Prop := ∀ b, bx b ≠ none → b ≠ bq → ol ≠ some b → b ≠ bm → (∀ e, e ∈ es → b ≠ e.b) → bx' b = bx b
def full (next : Int) (es : List (Ent Int)) : Bool := decide (5000 ≤ es.length) || decide (1000000000000000 ≤ next)
theorem HeapS.vm {bx : Boxes} {bq bl bm : Nat} {g : FuncId} {vm : V} {next : Int} {es : List (Ent Int)} {R : List V} {x : Box} (h : HeapS bx bq bl g vm next es R) (h1 : bm ≠ bq) (h2 : bm ≠ bl) (h3 : ∀ e, e ∈ es → e.b ≠ bm) : HeapS (upd bx bm (some x)) bq bl g vm next es R := by
 have hm : ∀ i, i < es.length → at_ es i ∈ es := fun i hi => by rw [at_get hi]; exact List.getElem_mem hi
 exact ⟨by rw [upd_ne _ _ (Ne.symm h1)]; exact h.q, by rw [upd_ne _ _ (Ne.symm h2)]; exact h.l, h.r, fun i hi => by rw [upd_ne _ _ (h3 _ (hm i hi))]; exact h.e i hi, h.nd, (finB_upd _ _ _).2 h.fin, h.len⟩
theorem QS.next {bx bx2 : Boxes} {bq bm : Nat} {ol : Option Nat} {g : FuncId} {vm : V} {next next' : Int} {es : List (Ent Int)} (h : QS bx bq ol g vm next es)
   (hq : ∀ sv, bx bq = some (.row 79 4 [qV sv g vm next]) → bx2 bq = some (.row 79 4 [qV sv g vm next'])) (ho : ∀ b, bx b ≠ none → b ≠ bq → b ≠ bm → bx2 b = bx b) (hd : ol ≠ some bm ∧ ∀ e, e ∈ es → e.b ≠ bm) (hf : FinB bx2) : QS bx2 bq ol g vm next' es := by
 rcases h with ⟨h1, h2, h3, _⟩ | ⟨bl, R, rfl, hp⟩
 · exact .inl ⟨h1, h2, hq _ h3, hf⟩
 · obtain ⟨n1, n2, _⟩ := hp.ne
   have hm : ∀ i, i < es.length → at_ es i ∈ es := fun i hi => by rw [at_get hi]; exact List.getElem_mem hi
   refine .inr ⟨bl, R, rfl, ⟨hq _ hp.q, ?_, hp.r, fun i hi => ?_, hp.nd, hf, hp.len⟩⟩
   · rw [ho bl (by rw [hp.l]; simp) (Ne.symm n1) (fun e => hd.1 (by rw [e]))]; exact hp.l
   · rw [ho _ (by rw [hp.e i hi]; simp) (n2 i hi).1 (hd.2 _ (hm i hi))]; exact hp.e i hi
theorem Try.PushF_c {bx : Boxes} {bq bm : Nat} {ol : Option Nat} {g : FuncId} {next : Int} {es : List (Ent Int)} (v : Int) (h : QM bx bq ol g bm next es) (hfu : full next es = true) :
   PureCall Try.prog 17 [.ptr bq 4 0 0, .int .i64 v] bx (.tup [.int .i64 0, .int .i64 5]) := by
 refine Try.ctr17 fun hf => ?_
 obtain ⟨sv, hq, hsv⟩ := h.s.q
 have hmd := Try.made_c hf hq
 obtain ⟨ms, hms, hbm⟩ := h.m
 obtain ⟨d1, d2, d3⟩ := h.d
 obtain ⟨hn1, hn2⟩ := h.n
 simp only [qV] at hq
 have hqs := h.s
 have hfu' : 5000 ≤ es.length ∨ 1000000000000000 ≤ next := by simpa [full] using hfu
 have hg : (5000 ≤ (es.length : Int)) ∨ 1000000000000000 ≤ next := by omega
 rcases hsv with ⟨rfl, rfl⟩ | ⟨bl, rfl, rfl⟩
 · have hg : 1000000000000000 ≤ next := by simpa using hg
   simp [go_sem, Try.C17, hf, hq]
   refine callK_pure hmd ?_
   simp [go_sem, hf, hq, hg]
   exact ret_pure (by simp [go_sem]) (by simp [go_sem])
 · by_cases h5 : 5000 ≤ (es.length : Int)
   · simp [go_sem, Try.C17, hf, hq]
     refine callK_pure hmd ?_
     simp [go_sem, hf, hq, h5]
     exact ret_pure (by simp [go_sem]) (by simp [go_sem])
   · have hg : 1000000000000000 ≤ next := by omega
     simp [go_sem, Try.C17, hf, hq]
     refine callK_pure hmd ?_
     simp [go_sem, hf, hq, h5, hg]
     exact ret_pure (by simp [go_sem]) (by simp [go_sem])
theorem QS.live {bx : Boxes} {bq : Nat} {ol : Option Nat} {g : FuncId} {vm : V} {next : Int} {es : List (Ent Int)} (h : QS bx bq ol g vm next es) : (∀ bl, ol = some bl → bx bl ≠ none) ∧ ∀ e, e ∈ es → bx e.b ≠ none := by
 rcases h with ⟨rfl, rfl, _, _⟩ | ⟨bl, R, rfl, hp⟩
 · exact ⟨fun bl hb => (by cases hb), fun e he => (by cases he)⟩
 · refine ⟨fun bl' hb => ?_, fun e he => ?_⟩
   · injection hb with hb
     subst hb
     rw [hp.l]; simp
   · obtain ⟨i, hi, rfl⟩ := List.getElem_of_mem he
     have := hp.e i hi
     rw [at_get hi] at this
     rw [this]; simp
theorem Try.Push_c {bx : Boxes} {bq bm : Nat} {ol : Option Nat} {g : FuncId} {lt : Int → Int → Bool} {next : Int} {es : List (Ent Int)} (v : Int) (hlt : Lt Try.prog g lt) (h : QM bx bq ol g bm next es) (hfu : full next es = false)
   {Kc : V → Boxes → Prop} (hK : ∀ eb bl bx', bx eb = none → (bx bl = none ∨ ol = some bl) → QM bx' bq (some bl) g bm (next + 1) (upL lt (es ++ [⟨next, v, eb⟩]) es.length) → FQ bq ol bm es bx bx' → Kc (.tup [.int .i64 next, .int .i64 0]) bx') :
   AbsCall Try.prog 17 [.ptr bq 4 0 0, .int .i64 v] bx Kc := by
 refine Try.ctr17 fun hf => ?_
 obtain ⟨sv, hq, hsv⟩ := h.s.q
 have hmd := Try.made_c hf hq
 obtain ⟨ms, hms, hbm⟩ := h.m
 obtain ⟨d1, d2, d3⟩ := h.d
 obtain ⟨hn1, hn2⟩ := h.n
 simp only [qV] at hq
 have hqs := h.s
 have hfu' : ¬ (5000 ≤ es.length ∨ 1000000000000000 ≤ next) := by simpa [full] using hfu
 have hg1 : ¬ (5000 ≤ (es.length : Int)) := by omega
 have hg2 : ¬ 1000000000000000 ≤ next := by omega
 have w1 : IntKind.i64.wrap (next + 1) = next + 1 := wr64 (by omega)
 have hkeys : (ms.map (·.1)).Nodup := by
   have := (hms.map (·.1)).nodup_iff.2 (by rw [List.map_map]; exact h.hd)
   exact this
 have hnot : ∀ b, (next, b) ∉ ms := fun b hb => by
   obtain ⟨e, he, hee⟩ := List.mem_map.1 (hms.mem_iff.1 hb)
   have := (h.h e he).2
   have : e.h = next := congrArg Prod.fst hee
   omega
 have hfind := (findV_at next ms 0 hkeys).2 hnot
 obtain ⟨lv1, lv2⟩ := hqs.live
 have hpush : ∀ eb, bx eb = none → eb ≠ bq → eb ≠ bm → AbsCall Try.prog 43 [.iface 83 (.ptr bq 4 0 0), .iface 85 (.ptr eb 3 0 0)] (upd (upd (upd bx eb (some (.row 90 3 [.agg [.int .i64 next, .int .i64 v, .int .i64 0]]))) bq (some (.row 79 4 [.agg [sv, .fn (.func g) [], .mp bm, .int .i64 (next + 1)]]))) bm (some (.map (mpV ms ++ [(.int .i64 next, .ptr eb 3 0 0)])))) fun r bx' =>
     ∃ i : Int, bx' eb = some (.row 90 3 [entC next v i]) ∧ ∃ bl, (bx bl = none ∨ ol = some bl) ∧ QM bx' bq (some bl) g bm (next + 1) (upL lt (es ++ [⟨next, v, eb⟩]) es.length) ∧ FQ bq ol bm es bx bx' := by
   intro eb heb hebq hebm
   have hs2 : QS (upd (upd (upd bx eb (some (.row 90 3 [.agg [.int .i64 next, .int .i64 v, .int .i64 0]]))) bq (some (.row 79 4 [.agg [sv, .fn (.func g) [], .mp bm, .int .i64 (next + 1)]]))) bm (some (.map (mpV ms ++ [(.int .i64 next, .ptr eb 3 0 0)])))) bq ol g (.mp bm) (next + 1) es := by
     refine hqs.next (bm := bm) (fun sv' hsv' => ?_) (fun b k1 k2 k3 => ?_) ⟨d2, d3⟩ (by simp [finB_upd, hf])
     · rw [upd_ne _ _ (Ne.symm d1), upd_eq]
       rw [hq] at hsv'
       simp only [qV, Option.some.injEq, Box.row.injEq, List.cons.injEq, V.agg.injEq, and_true, true_and] at hsv'
       rw [qV, hsv']
     · rw [upd_ne _ _ k3, upd_ne _ _ k2, upd_ne _ _ (fun e => k1 (by rw [e]; exact heb))]
   have hol : ol ≠ some eb := fun e => lv1 eb e heb
   have hee : ∀ e, e ∈ es → e.b ≠ eb := fun e he e2 => lv2 e he (by rw [e2]; exact heb)
   refine (Try.hpush_c hlt hs2 (h := next) (v := v) (i := 0) (by rw [upd_ne _ _ hebm, upd_ne _ _ hebq, upd_eq]; rfl) hebq hol hee (by omega)).mono ?_
   rintro r bx3 ⟨bl', R', hbl', hs3, hf3⟩
   have hp3 : (upL lt (es ++ [⟨next, v, eb⟩]) es.length).Perm (es ++ [⟨next, v, eb⟩]) := upL_perm lt _ _ (by simp)
   have hbl2 : bx bl' = none ∨ ol = some bl' := by
     rcases hbl' with e | e
     · left
       by_cases e1 : bl' = bm
       · subst e1; rw [upd_eq] at e; cases e
       · rw [upd_ne _ _ e1] at e
         by_cases e2 : bl' = bq
         · subst e2; rw [upd_eq] at e; cases e
         · rw [upd_ne _ _ e2] at e
           by_cases e3 : bl' = eb
           · subst e3; exact heb
           · rwa [upd_ne _ _ e3] at e
     · exact .inr e
   have hbm3 : bx3 bm = some (.map (mpV (ms ++ [(next, eb)]))) := by
     rw [hf3 bm (by rw [upd_eq]; simp) d1 d2 (fun e he => ?_), upd_eq]
     · simp [mpV]
     · rcases List.mem_append.1 he with he | he
       · exact Ne.symm (d3 e he)
       · simp at he; subst he; exact Ne.symm hebm
   have hmem : (⟨next, v, eb⟩ : Ent Int) ∈ upL lt (es ++ [⟨next, v, eb⟩]) es.length := hp3.mem_iff.2 (by simp)
   obtain ⟨i, hi, hie⟩ := List.getElem_of_mem hmem
   have hei := hs3.e i hi
   rw [at_get hi, hie] at hei
   refine ⟨i, hei, bl', hbl2, ⟨.inr ⟨bl', R', rfl, hs3⟩, ⟨ms ++ [(next, eb)], ?_, hbm3⟩, fun e he => ?_, ?_, ⟨d1, fun e => ?_, fun e he => ?_⟩, ⟨by omega, by omega⟩⟩, fun b k1 k2 k3 k4 k5 => ?_⟩
   · refine List.Perm.trans ?_ (hp3.map pr).symm
     rw [List.map_append]
     exact hms.append_right _
   · rcases List.mem_append.1 (hp3.mem_iff.1 he) with he | he
     · have := h.h e he; omega
     · simp at he; subst he; exact ⟨by dsimp only; omega, by dsimp only; omega⟩
   · refine ((hp3.map (·.h)).nodup_iff).2 ?_
     rw [List.map_append, List.nodup_append]
     refine ⟨h.hd, by simp, fun x hx y hy => ?_⟩
     obtain ⟨e, he, rfl⟩ := List.mem_map.1 hx
     simp at hy
     subst hy
     have := (h.h e he).2
     omega
   · injection e with e
     rcases hbl2 with e2 | e2
     · rw [e, hbm] at e2; cases e2
     · exact d2 (by rw [e2, e])
   · rcases List.mem_append.1 (hp3.mem_iff.1 he) with he | he
     · exact d3 e he
     · simp at he; subst he; exact hebm
   · have k6 : b ≠ eb := fun e => k1 (by rw [e]; exact heb)
     rw [hf3 b (by rw [upd_ne _ _ k4, upd_ne _ _ k2, upd_ne _ _ k6]; exact k1) k2 k3 (fun e he => ?_), upd_ne _ _ k4, upd_ne _ _ k2, upd_ne _ _ k6]
     rcases List.mem_append.1 he with he | he
     · exact k5 e he
     · simp at he; subst he; exact k6
 rcases hsv with ⟨rfl, rfl⟩ | ⟨bl, rfl, rfl⟩
 · simp [go_sem, Try.C17, hf, hq]
   refine callK_pure hmd ?_
   simp [go_sem, hf, hq, hg2]
   intro eb heb
   have hebq : eb ≠ bq := fun e => by rw [e, hq] at heb; cases heb
   have hebm : eb ≠ bm := fun e => by rw [e, hbm] at heb; cases heb
   simp [go_sem, hf, hq, hbm, upd_ne, hebq, Ne.symm hebq, hebm, Ne.symm hebm, d1, Ne.symm d1, w1, hfind]
   refine callK_abs (hpush eb heb hebq hebm) ?_
   rintro r bx3 ⟨i, hb3, bl', g1, g2, g3⟩
   simp only [entC] at hb3
   simp [go_sem, hb3]
   exact ret_pure (by simp [go_sem]) (by simpa [go_sem] using hK eb bl' bx3 heb g1 g2 g3)
 · simp [go_sem, Try.C17, hf, hq]
   refine callK_pure hmd ?_
   simp [go_sem, hf, hq, hg1, hg2]
   intro eb heb
   have hebq : eb ≠ bq := fun e => by rw [e, hq] at heb; cases heb
   have hebm : eb ≠ bm := fun e => by rw [e, hbm] at heb; cases heb
   simp [go_sem, hf, hq, hbm, upd_ne, hebq, Ne.symm hebq, hebm, Ne.symm hebm, d1, Ne.symm d1, w1, hfind]
   refine callK_abs (hpush eb heb hebq hebm) ?_
   rintro r bx3 ⟨i, hb3, bl', g1, g2, g3⟩
   simp only [entC] at hb3
   simp [go_sem, hb3]
   exact ret_pure (by simp [go_sem]) (by simpa [go_sem] using hK eb bl' bx3 heb g1 g2 g3)
end Go.Proofs

set_option linter.unusedSimpArgs false
set_option linter.unusedVariables false
set_option maxRecDepth 100000
namespace Go.Proofs
open Go Go.Pl Go.Hp
theorem QM.sub {bx bx' : Boxes} {bq bm : Nat} {ol : Option Nat} {g : FuncId} {next : Int} {es es' : List (Ent Int)} (h : QM bx bq ol g bm next es) (hs : QS bx' bq ol g (.mp bm) next es') {R : List (Int × Nat)} (hp : (R ++ es'.map pr).Perm (es.map pr)) {ms : List (Int × Nat)} (hm : ms.Perm (es'.map pr)) (hb : bx' bm = some (.map (mpV ms))) : QM bx' bq ol g bm next es' := by
 have hmem : ∀ e, e ∈ es' → ∃ e0, e0 ∈ es ∧ e0.h = e.h ∧ e0.b = e.b := fun e he => by
   have := hp.mem_iff.1 (List.mem_append_right R (List.mem_map.2 ⟨e, he, rfl⟩))
   obtain ⟨e0, h0, h1⟩ := List.mem_map.1 this
   exact ⟨e0, h0, congrArg Prod.fst h1, congrArg Prod.snd h1⟩
 refine ⟨hs, ⟨ms, hm, hb⟩, fun e he => ?_, ?_, ⟨h.d.1, h.d.2.1, fun e he => ?_⟩, h.n⟩
 · obtain ⟨e0, h0, h1, _⟩ := hmem e he
   rw [← h1]; exact h.h e0 h0
 · have h1 := h.hd
   have h2 : es.map (·.h) = (es.map pr).map (·.1) := by rw [List.map_map]; rfl
   rw [h2] at h1
   have h3 := (hp.map (·.1)).nodup_iff.2 h1
   rw [List.map_append, List.nodup_append] at h3
   have h4 := h3.2.1
   rw [List.map_map] at h4
   exact h4
 · obtain ⟨e0, h0, _, h1⟩ := hmem e he
   rw [← h1]; exact h.d.2.2 e0 h0
theorem erase_perm {β : Type} (l : List β) (i : Nat) (h : i < l.length) : (l[i] :: l.eraseIdx i).Perm l := by
 rw [List.eraseIdx_eq_take_drop_succ]
 have e : l = l.take i ++ l[i] :: l.drop (i + 1) := by rw [List.getElem_cons_drop, List.take_append_drop]
 conv => rhs; rw [e]
 exact List.perm_middle.symm
theorem mpV_erase : ∀ (ms : List (Int × Nat)) (i : Nat), (mpV ms).eraseIdx i = mpV (ms.eraseIdx i)
 | [], i => by simp [mpV]
 | x :: ms, 0 => by simp [mpV]
 | x :: ms, i + 1 => by
   have := mpV_erase ms i
   simp only [mpV, List.map_cons, List.eraseIdx_cons_succ] at this ⊢
   rw [this]
theorem QM.keys {bx : Boxes} {bq bm : Nat} {ol : Option Nat} {g : FuncId} {next : Int} {es : List (Ent Int)} (h : QM bx bq ol g bm next es) {ms : List (Int × Nat)} (hms : ms.Perm (es.map pr)) : (ms.map (·.1)).Nodup := by
 have := (hms.map (·.1)).nodup_iff.2 (by rw [List.map_map]; exact h.hd)
 exact this
theorem QM.heap {bx : Boxes} {bq bm : Nat} {ol : Option Nat} {g : FuncId} {next : Int} {es : List (Ent Int)} (h : QM bx bq ol g bm next es) (hne : es ≠ []) : ∃ bl R, ol = some bl ∧ HeapS bx bq bl g (.mp bm) next es R := by
 rcases h.s with ⟨h1, _⟩ | ⟨bl, R, h1, h2⟩
 · exact absurd h1 hne
 · exact ⟨bl, R, h1, h2⟩
theorem QM.fin {bx : Boxes} {bq bm : Nat} {ol : Option Nat} {g : FuncId} {next : Int} {es : List (Ent Int)} (h : QM bx bq ol g bm next es) : FinB bx := by
 rcases h.s with ⟨_, _, _, h4⟩ | ⟨bl, R, h1, h2⟩
 · exact h4
 · exact h2.fin
theorem Try.Len_c {bx : Boxes} {bq bm : Nat} {ol : Option Nat} {g : FuncId} {next : Int} {es : List (Ent Int)} (h : QM bx bq ol g bm next es) :
   PureCall Try.prog 14 [.ptr bq 4 0 0] bx (.int .i64 es.length) := by
 refine Try.ctr14 fun hf => ?_
 obtain ⟨sv, hq, hsv⟩ := h.s.q
 have hmd := Try.made_c hf hq
 simp only [qV] at hq
 rcases hsv with ⟨rfl, rfl⟩ | ⟨bl, rfl, rfl⟩ <;>
 · simp [go_sem, Try.C14, hf, hq]
   refine callK_pure hmd ?_
   simp [go_sem, hf, hq]
   exact ret_pure (by simp [go_sem]) (by simp [go_sem])
theorem Try.Peek0_c {bx : Boxes} {bq bm : Nat} {ol : Option Nat} {g : FuncId} {next : Int} (h : QM bx bq ol g bm next []) :
   PureCall Try.prog 35 [.ptr bq 4 0 0] bx (.tup [.int .i64 0, .int .i64 0, .int .i64 4]) := by
 refine Try.ctr35 fun hf => ?_
 obtain ⟨sv, hq, hsv⟩ := h.s.q
 have hmd := Try.made_c hf hq
 simp only [qV] at hq
 rcases hsv with ⟨_, rfl⟩ | ⟨bl, rfl, rfl⟩ <;>
 · simp [go_sem, Try.C35, hf, hq]
   refine callK_pure hmd ?_
   simp [go_sem, hf, hq]
   exact ret_pure (by simp [go_sem]) (by simp [go_sem])
theorem Try.Peek_c {bx : Boxes} {bq bm : Nat} {ol : Option Nat} {g : FuncId} {next : Int} {es : List (Ent Int)} (h : QM bx bq ol g bm next es) (hne : es ≠ []) :
   PureCall Try.prog 35 [.ptr bq 4 0 0] bx (.tup [.int .i64 (at_ es 0).h, .int .i64 (at_ es 0).v, .int .i64 0]) := by
 refine Try.ctr35 fun hf => ?_
 obtain ⟨bl, R, rfl, hs⟩ := h.heap hne
 have hmd := Try.made_c hf hs.q
 have hq := hs.q
 have hl := hs.l
 have hpos : 0 < es.length := List.length_pos_iff.2 hne
 have hp : ¬ es.length = 0 := by omega
 obtain ⟨i1, i2⟩ := hs.rlt hpos
 have he := hs.e 0 hpos
 simp only [qV] at hq
 simp only [entC] at he
 simp [go_sem, Try.C35, hf, hq]
 refine callK_pure hmd ?_
 simp [go_sem, hf, hq, hl, he, i1, i2, hpos, hne, hp]
 exact ret_pure (by simp [go_sem]) (by simp [go_sem])
theorem Try.Pop0_c {bx : Boxes} {bq bm : Nat} {ol : Option Nat} {g : FuncId} {next : Int} (h : QM bx bq ol g bm next []) :
   PureCall Try.prog 13 [.ptr bq 4 0 0] bx (.tup [.int .i64 0, .int .i64 0, .int .i64 4]) := by
 refine Try.ctr13 fun hf => ?_
 simp [go_sem, Try.C13, hf]
 refine callK_pure (Try.Peek0_c h) ?_
 simp [go_sem, hf]
 exact ret_pure (by simp [go_sem]) (by simp [go_sem])
theorem Try.Pop_c {bx : Boxes} {bq bm : Nat} {ol : Option Nat} {g : FuncId} {lt : Int → Int → Bool} {next : Int} {es : List (Ent Int)} (hlt : Lt Try.prog g lt) (h : QM bx bq ol g bm next es) (hne : es ≠ []) :
   AbsCall Try.prog 13 [.ptr bq 4 0 0] bx fun r bx' => r = .tup [.int .i64 (at_ es 0).h, .int .i64 (at_ es 0).v, .int .i64 0] ∧ QM bx' bq ol g bm next (popL lt es) ∧ FQ bq ol bm es bx bx' := by
 refine Try.ctr13 fun hf => ?_
 have hpk := Try.Peek_c h hne
 obtain ⟨bl, R, rfl, hs⟩ := h.heap hne
 have hq := hs.q
 obtain ⟨ms, hms, hbm⟩ := h.m
 obtain ⟨d1, d2, d3⟩ := h.d
 have hpos : 0 < es.length := List.length_pos_iff.2 hne
 have hpp := popL_perm (lt := lt) hne
 have hkeys := h.keys hms
 have h0 : at_ es 0 ∈ es := by rw [at_get hpos]; exact List.getElem_mem _
 obtain ⟨i, hi, hfi⟩ := (findV_at (at_ es 0).h ms 0 hkeys).1 (at_ es 0).b (hms.mem_iff.2 (List.mem_map.2 ⟨_, h0, rfl⟩))
 have hi' := List.getElem?_eq_some_iff.1 hi
 obtain ⟨hil, hie⟩ := hi'
 simp only [qV] at hq
 simp [go_sem, Try.C13, hf]
 refine callK_pure hpk ?_
 simp [go_sem, hf, hq]
 refine callK_abs (Try.hpop_c hlt hs hne) ?_
 rintro r bx2 ⟨rfl, ⟨R2, hs2⟩, hf2⟩
 have hq2 := hs2.q
 have hbm2 : bx2 bm = some (.map (mpV ms)) := by rw [hf2 bm (by dsimp only; rw [hbm]; simp) d1 d2 fun e he => Ne.symm (d3 e he)]; exact hbm
 simp only [qV] at hq2
 simp [go_sem, hs2.fin, hq2, hbm2, hfi]
 rw [mpV_erase]
 have hm2 : (ms.eraseIdx i).Perm ((popL lt es).map pr) := by
   have a := erase_perm ms i hil
   rw [hie] at a
   have b := a.trans (hms.trans (hpp.map pr))
   exact b.cons_inv
 refine ret_pure (by simp [go_sem]) ⟨by simp [go_sem], ?_, fun b k1 k2 k3 k4 k5 => ?_⟩
 · refine h.sub (R := [pr (at_ es 0)]) (.inr ⟨bl, R2, rfl, ?_⟩) (hpp.map pr).symm hm2 ?_
   · exact hs2.vm d1 (fun e => d2 (by rw [e])) fun e he => d3 e (hpp.mem_iff.2 (List.mem_cons_of_mem _ he))
   · dsimp only; rw [upd_eq]
 · dsimp only
   rw [upd_ne _ _ k4]
   exact hf2 b k1 k2 k3 k5
theorem Try.find0_c {bx : Boxes} {bq bm : Nat} {ol : Option Nat} {g : FuncId} {next : Int} {es : List (Ent Int)} (h : QM bx bq ol g bm next es) (k : Int) (hk : ∀ e, e ∈ es → e.h ≠ k) :
   PureCall Try.prog 41 [.ptr bq 4 0 0, .int .i64 k] bx (.tup [.nilp, .int .i64 4]) := by
 refine Try.ctr41 fun hf => ?_
 obtain ⟨sv, hq, hsv⟩ := h.s.q
 have hmd := Try.made_c hf hq
 obtain ⟨ms, hms, hbm⟩ := h.m
 have hfi := (findV_at k ms 0 (h.keys hms)).2 fun b hb => by
   obtain ⟨e, he, hee⟩ := List.mem_map.1 (hms.mem_iff.1 hb)
   exact hk e he (congrArg Prod.fst hee)
 simp only [qV] at hq
 simp [go_sem, Try.C41, hf, hq]
 refine callK_pure hmd ?_
 simp [go_sem, hf, hq, hbm, hfi]
 exact ret_pure (by simp [go_sem]) (by simp [go_sem])
theorem Try.find_c {bx : Boxes} {bq bm : Nat} {ol : Option Nat} {g : FuncId} {next : Int} {es : List (Ent Int)} (h : QM bx bq ol g bm next es) {i : Nat} (hi : i < es.length) :
   PureCall Try.prog 41 [.ptr bq 4 0 0, .int .i64 (at_ es i).h] bx (.tup [.ptr (at_ es i).b 3 0 0, .int .i64 0]) := by
 refine Try.ctr41 fun hf => ?_
 obtain ⟨sv, hq, hsv⟩ := h.s.q
 have hmd := Try.made_c hf hq
 obtain ⟨ms, hms, hbm⟩ := h.m
 have h0 : at_ es i ∈ es := by rw [at_get hi]; exact List.getElem_mem _
 obtain ⟨j, hj, hfi⟩ := (findV_at (at_ es i).h ms 0 (h.keys hms)).1 (at_ es i).b (hms.mem_iff.2 (List.mem_map.2 ⟨_, h0, rfl⟩))
 simp only [qV] at hq
 simp [go_sem, Try.C41, hf, hq]
 refine callK_pure hmd ?_
 simp [go_sem, hf, hq, hbm, hfi]
 exact ret_pure (by simp [go_sem]) (by simp [go_sem])
end Go.Proofs

set_option linter.unusedSimpArgs false
set_option linter.unusedVariables false
set_option maxRecDepth 100000
namespace Go.Proofs
open Go Go.Pl Go.Hp
theorem at_set {es : List (Ent Int)} {i : Nat} (hi : i < es.length) (x : Ent Int) (k : Nat) : at_ (es.set i x) k = if k = i then x else at_ es k := by
 unfold at_
 rw [List.getD_eq_getElem?_getD, List.getD_eq_getElem?_getD, List.getElem?_set]
 by_cases e : i = k
 · subst e; simp [hi]
 · rw [if_neg e, if_neg (Ne.symm e)]
theorem HeapS.setv {bx : Boxes} {bq bl : Nat} {g : FuncId} {vm : V} {next : Int} {es : List (Ent Int)} {R : List V} (h : HeapS bx bq bl g vm next es R) {i : Nat} (hi : i < es.length) (v : Int) :
   HeapS (upd bx (at_ es i).b (some (.row 90 3 [entC (at_ es i).h v i]))) bq bl g vm next (es.set i ⟨(at_ es i).h, v, (at_ es i).b⟩) R := by
 obtain ⟨n1, n2, n3⟩ := h.ne
 obtain ⟨m1, m2⟩ := n2 i hi
 have hb : ∀ k, (at_ (es.set i ⟨(at_ es i).h, v, (at_ es i).b⟩) k).b = (at_ es k).b := fun k => by
   rw [at_set hi]; split
   · rename_i e; rw [e]
   · rfl
 refine ⟨?_, ?_, fun k hk => ?_, fun k hk => ?_, ?_, (finB_upd _ _ _).2 h.fin, by simpa using h.len⟩
 · rw [upd_ne _ _ (Ne.symm m1), List.length_set]; exact h.q
 · rw [upd_ne _ _ (Ne.symm m2)]; exact h.l
 · rw [List.length_set] at hk
   rw [hb]; exact h.r k hk
 · rw [List.length_set] at hk
   rw [hb]
   by_cases e : k = i
   · subst e
     rw [upd_eq, at_set hi, if_pos rfl]
   · rw [upd_ne _ _ (fun e2 => e (n3 k i hk hi e2)), at_set hi, if_neg e]
     exact h.e k hk
 · have : (es.set i ⟨(at_ es i).h, v, (at_ es i).b⟩).map (·.b) = es.map (·.b) := by
     apply List.ext_getElem
     · simp
     · intro k h1 h2
       have hk : k < es.length := by simpa using h2
       have := hb k
       rw [at_get (by simpa using hk), at_get hk] at this
       rw [List.getElem_map, List.getElem_map]
       exact this
   rw [this]; exact h.nd
theorem Try.Set0_c {bx : Boxes} {bq bm : Nat} {ol : Option Nat} {g : FuncId} {next : Int} {es : List (Ent Int)} (h : QM bx bq ol g bm next es) (k v : Int) (hk : ∀ e, e ∈ es → e.h ≠ k) :
   PureCall Try.prog 18 [.ptr bq 4 0 0, .int .i64 k, .int .i64 v] bx (.int .i64 4) := by
 refine Try.ctr18 fun hf => ?_
 simp [go_sem, Try.C18, hf]
 refine callK_pure (Try.find0_c h k hk) ?_
 simp [go_sem, hf]
 exact ret_pure (by simp [go_sem]) (by simp [go_sem])
theorem Try.Set_c {bx : Boxes} {bq bm : Nat} {ol : Option Nat} {g : FuncId} {lt : Int → Int → Bool} {next : Int} {es : List (Ent Int)} (hlt : Lt Try.prog g lt) (h : QM bx bq ol g bm next es) {i : Nat} (hi : i < es.length) (v : Int) :
   AbsCall Try.prog 18 [.ptr bq 4 0 0, .int .i64 (at_ es i).h, .int .i64 v] bx fun r bx' => r = .int .i64 0 ∧ QM bx' bq ol g bm next (fixS lt (es.set i ⟨(at_ es i).h, v, (at_ es i).b⟩) i es.length) ∧ FQ bq ol bm es bx bx' := by
 refine Try.ctr18 fun hf => ?_
 obtain ⟨bl, R, rfl, hs⟩ := h.heap (fun e => by rw [e] at hi; simp at hi)
 have he := hs.e i hi
 have hsv := hs.setv hi v
 have hq := hs.q
 obtain ⟨ms, hms, hbm⟩ := h.m
 obtain ⟨d1, d2, d3⟩ := h.d
 obtain ⟨n1, n2, n3⟩ := hs.ne
 obtain ⟨m1, m2⟩ := n2 i hi
 have h0 : at_ es i ∈ es := by rw [at_get hi]; exact List.getElem_mem _
 have hbmi : bm ≠ (at_ es i).b := Ne.symm (d3 _ h0)
 have hle : (es.set i ⟨(at_ es i).h, v, (at_ es i).b⟩).length = es.length := List.length_set
 have cF := Try.hfix_c hlt hsv (i := i) (by rw [hle]; exact hi)
 rw [hle] at cF
 have hpr : (es.set i ⟨(at_ es i).h, v, (at_ es i).b⟩).map pr = es.map pr := by
   apply List.ext_getElem
   · simp
   · intro k h1 h2
     have hk : k < es.length := by simpa using h2
     have := at_set hi ⟨(at_ es i).h, v, (at_ es i).b⟩ k
     rw [at_get (by rw [hle]; exact hk), at_get hk] at this
     rw [List.getElem_map, List.getElem_map, this]
     split
     · rename_i e
       subst e
       rw [at_get hk]; rfl
     · rfl
 have hfp := (fixS_perm (lt := lt) (l := es.set i ⟨(at_ es i).h, v, (at_ es i).b⟩) (i := i) (n := es.length) (by rw [hle]; exact Nat.le_refl _) (by rw [hle]; exact hi)).map pr
 rw [hpr] at hfp
 simp only [qV] at hq
 simp only [entC] at he
 simp [go_sem, Try.C18, hf]
 refine callK_pure (Try.find_c h hi) ?_
 simp [go_sem, hf, hq, he]
 refine callK_abs cF ?_
 rintro r bx2 ⟨⟨R2, hs2⟩, hf2⟩
 simp [go_sem]
 have hfr : ∀ b, b ≠ bl → (∀ e, e ∈ es → b ≠ e.b) → bx2 b = bx b := fun b k1 k2 => by
   rw [hf2 b k1 fun e he => ?_]
   · rw [upd_ne _ _ (k2 _ h0)]
   · have : pr e ∈ es.map pr := by rw [← hpr]; exact List.mem_map.2 ⟨e, he, rfl⟩
     obtain ⟨e0, he0, he1⟩ := List.mem_map.1 this
     rw [show e.b = e0.b from (congrArg Prod.snd he1).symm]
     exact k2 e0 he0
 refine ret_pure (by simp [go_sem]) ⟨by simp [go_sem], h.sub (R := []) (.inr ⟨bl, R2, rfl, hs2⟩) hfp (hms.trans hfp.symm) ?_, fun b k1 k2 k3 k4 k5 => ?_⟩
 · dsimp only
   rw [hfr bm (fun e => d2 (by rw [e])) fun e he => Ne.symm (d3 e he)]
   exact hbm
 · exact hfr b (fun e => k3 (by rw [e])) k5
theorem Try.Remove0_c {bx : Boxes} {bq bm : Nat} {ol : Option Nat} {g : FuncId} {next : Int} {es : List (Ent Int)} (h : QM bx bq ol g bm next es) (k : Int) (hk : ∀ e, e ∈ es → e.h ≠ k) :
   PureCall Try.prog 16 [.ptr bq 4 0 0, .int .i64 k] bx (.tup [.int .i64 0, .int .i64 4]) := by
 refine Try.ctr16 fun hf => ?_
 simp [go_sem, Try.C16, hf]
 refine callK_pure (Try.find0_c h k hk) ?_
 simp [go_sem, hf]
 exact ret_pure (by simp [go_sem]) (by simp [go_sem])
theorem Try.Remove_c {bx : Boxes} {bq bm : Nat} {ol : Option Nat} {g : FuncId} {lt : Int → Int → Bool} {next : Int} {es : List (Ent Int)} (hlt : Lt Try.prog g lt) (h : QM bx bq ol g bm next es) {i : Nat} (hi : i < es.length) :
   AbsCall Try.prog 16 [.ptr bq 4 0 0, .int .i64 (at_ es i).h] bx fun r bx' => r = .tup [.int .i64 (at_ es i).v, .int .i64 0] ∧ QM bx' bq ol g bm next (remL lt es i) ∧ FQ bq ol bm es bx bx' := by
 refine Try.ctr16 fun hf => ?_
 obtain ⟨bl, R, rfl, hs⟩ := h.heap (fun e => by rw [e] at hi; simp at hi)
 have he := hs.e i hi
 have hq := hs.q
 obtain ⟨ms, hms, hbm⟩ := h.m
 obtain ⟨d1, d2, d3⟩ := h.d
 obtain ⟨n1, n2, n3⟩ := hs.ne
 obtain ⟨m1, m2⟩ := n2 i hi
 have h0 : at_ es i ∈ es := by rw [at_get hi]; exact List.getElem_mem _
 have hbmi : (at_ es i).b ≠ bm := d3 _ h0
 have hpp := remL_perm (lt := lt) hi
 obtain ⟨j, hj, hfi⟩ := (findV_at (at_ es i).h ms 0 (h.keys hms)).1 (at_ es i).b (hms.mem_iff.2 (List.mem_map.2 ⟨_, h0, rfl⟩))
 obtain ⟨hjl, hje⟩ := List.getElem?_eq_some_iff.1 hj
 simp only [qV] at hq
 simp only [entC] at he
 simp [go_sem, Try.C16, hf]
 refine callK_pure (Try.find_c h hi) ?_
 simp [go_sem, hf, hq, he]
 refine callK_abs (Try.hrem_c hlt hs hi) ?_
 rintro r bx2 ⟨rfl, ⟨R2, hs2⟩, hf2, k2, he2⟩
 have hq2 := hs2.q
 have hbm2 : bx2 bm = some (.map (mpV ms)) := by rw [hf2 bm (by rw [hbm]; simp) d1 d2 fun e he => Ne.symm (d3 e he)]; exact hbm
 simp only [qV] at hq2
 simp only [entC] at he2
 simp [go_sem, hs2.fin, hq2, hbm2, hfi, he2, upd_ne, hbmi]
 rw [mpV_erase]
 have hm2 : (ms.eraseIdx j).Perm ((remL lt es i).map pr) := by
   have a := erase_perm ms j hjl
   rw [hje] at a
   have b := a.trans (hms.trans (hpp.map pr))
   exact b.cons_inv
 refine ret_pure (by simp [go_sem]) ⟨by simp [go_sem], ?_, fun b k1 k2 k3 k4 k5 => ?_⟩
 · refine h.sub (R := [pr (at_ es i)]) (.inr ⟨bl, R2, rfl, ?_⟩) (hpp.map pr).symm hm2 ?_
   · exact hs2.vm d1 (fun e => d2 (by rw [e])) fun e he => d3 e (hpp.mem_iff.2 (List.mem_cons_of_mem _ he))
   · dsimp only; rw [upd_eq]
 · dsimp only
   rw [upd_ne _ _ k4]
   exact hf2 b k1 k2 k3 k5
end Go.Proofs

set_option linter.unusedSimpArgs false
set_option linter.unusedVariables false
set_option maxRecDepth 100000
namespace Go.Proofs
open Go Go.Pl Go.Hp
structure Qu (bx : Boxes) (bq : Nat) (g : FuncId) (lt : Int → Int → Bool) (next : Int) (its : List (Int × Int)) (D : Nat → Prop) : Prop where
 ex : ∃ ol bm es, QM bx bq ol g bm next es ∧ HeapOK lt es es.length ∧ its.Perm (es.map hv) ∧ ∀ b, D b ↔ b = bq ∨ b = bm ∨ ol = some b ∨ ∃ e, e ∈ es ∧ b = e.b
 s : Srt lt its
def Frm (D D' : Nat → Prop) (bx bx' : Boxes) : Prop := (∀ b, bx b ≠ none → ¬ D b → bx' b = bx b) ∧ ∀ b, D' b → D b ∨ bx b = none
theorem Frm.refl (D : Nat → Prop) (bx : Boxes) : Frm D D bx bx := ⟨fun _ _ _ => rfl, fun _ h => .inl h⟩
theorem Frm.trans {D D' D'' : Nat → Prop} {bx bx' bx'' : Boxes} (h : Frm D D' bx bx') (h' : Frm D' D'' bx' bx'') (hl : ∀ b, bx' b = none → bx b = none) : Frm D D'' bx bx'' := by
 refine ⟨fun b h1 h2 => ?_, fun b hb => ?_⟩
 · rw [h'.1 b (fun e => h1 (hl b e)) fun e => ?_, h.1 b h1 h2]
   rcases h.2 b e with e | e
   · exact h2 e
   · exact h1 e
 · rcases h'.2 b hb with e | e
   · exact h.2 b e
   · exact .inr (hl b e)
def look (k : Int) (its : List (Int × Int)) : Option Int := (its.find? fun p => decide (p.1 = k)).map (·.2)
theorem Qu.live {bx : Boxes} {bq : Nat} {g : FuncId} {lt : Int → Int → Bool} {next : Int} {its : List (Int × Int)} {D : Nat → Prop} (h : Qu bx bq g lt next its D) : ∀ b, D b → bx b ≠ none := by
 obtain ⟨ol, bm, es, hm, _, _, hD⟩ := h.ex
 intro b hb
 obtain ⟨lv1, lv2⟩ := hm.s.live
 rcases (hD b).1 hb with rfl | rfl | e | ⟨e, he, rfl⟩
 · obtain ⟨sv, hq, _⟩ := hm.s.q
   rw [hq]; simp
 · obtain ⟨ms, _, hbm⟩ := hm.m
   rw [hbm]; simp
 · exact lv1 _ e
 · exact lv2 e he
theorem Qu.keys {bx : Boxes} {bq : Nat} {g : FuncId} {lt : Int → Int → Bool} {next : Int} {its : List (Int × Int)} {D : Nat → Prop} (h : Qu bx bq g lt next its D) : (its.map (·.1)).Nodup := by
 obtain ⟨ol, bm, es, hm, _, hp, hD⟩ := h.ex
 refine (hp.map (·.1)).nodup_iff.2 ?_
 rw [List.map_map]
 exact hm.hd
theorem Qu.range {bx : Boxes} {bq : Nat} {g : FuncId} {lt : Int → Int → Bool} {next : Int} {its : List (Int × Int)} {D : Nat → Prop} (h : Qu bx bq g lt next its D) : ∀ p, p ∈ its → 1 ≤ p.1 ∧ p.1 < next := by
 obtain ⟨ol, bm, es, hm, _, hp, hD⟩ := h.ex
 intro p hpi
 obtain ⟨e, he, rfl⟩ := List.mem_map.1 (hp.mem_iff.1 hpi)
 exact hm.h e he
theorem Qu.nx {bx : Boxes} {bq : Nat} {g : FuncId} {lt : Int → Int → Bool} {next : Int} {its : List (Int × Int)} {D : Nat → Prop} (h : Qu bx bq g lt next its D) : 1 ≤ next ∧ next ≤ 1000000000000000 := by
 obtain ⟨ol, bm, es, hm, _, hp, hD⟩ := h.ex
 exact hm.n
theorem Qu.fin {bx : Boxes} {bq : Nat} {g : FuncId} {lt : Int → Int → Bool} {next : Int} {its : List (Int × Int)} {D : Nat → Prop} (h : Qu bx bq g lt next its D) : FinB bx := by
 obtain ⟨ol, bm, es, hm, _, hp, hD⟩ := h.ex
 exact hm.fin
theorem Qu.D0 {bx : Boxes} {bq : Nat} {g : FuncId} {lt : Int → Int → Bool} {next : Int} {its : List (Int × Int)} {D : Nat → Prop} (h : Qu bx bq g lt next its D) : D bq := by
 obtain ⟨ol, bm, es, hm, _, hp, hD⟩ := h.ex
 exact (hD bq).2 (.inl rfl)
theorem look_none {k : Int} {its : List (Int × Int)} {es : List (Ent Int)} (hp : its.Perm (es.map hv)) (h : look k its = none) : ∀ e, e ∈ es → e.h ≠ k := by
 intro e he heq
 unfold look at h
 rw [Option.map_eq_none_iff, List.find?_eq_none] at h
 have := h (hv e) (hp.mem_iff.2 (List.mem_map.2 ⟨e, he, rfl⟩))
 simp [hv, heq] at this
theorem look_mem {k v : Int} {its : List (Int × Int)} (h : look k its = some v) : (k, v) ∈ its := by
 unfold look at h
 rw [Option.map_eq_some_iff] at h
 obtain ⟨p, h1, h2⟩ := h
 have h3 := List.find?_some h1
 have h4 := List.mem_of_find?_eq_some h1
 simp at h3
 rw [← h3, ← h2]; exact h4
theorem look_some {k v : Int} {its : List (Int × Int)} {es : List (Ent Int)} (hp : its.Perm (es.map hv)) (h : look k its = some v) : ∃ i, i < es.length ∧ (at_ es i).h = k ∧ (at_ es i).v = v := by
 obtain ⟨e, he, hee⟩ := List.mem_map.1 (hp.mem_iff.1 (look_mem h))
 obtain ⟨i, hi, rfl⟩ := List.getElem_of_mem he
 refine ⟨i, hi, ?_, ?_⟩ <;> rw [at_get hi]
 · exact congrArg Prod.fst hee
 · exact congrArg Prod.snd hee
theorem del_none {k : Int} {its : List (Int × Int)} (h : look k its = none) : del k its = its := by
 unfold look at h
 rw [Option.map_eq_none_iff, List.find?_eq_none] at h
 unfold del
 rw [List.filter_eq_self]
 intro p hp
 have := h p hp
 simpa using this
theorem FQ.frm {bx bx' : Boxes} {bq bm : Nat} {ol ol' : Option Nat} {es es' : List (Ent Int)} {D : Nat → Prop} (hf : FQ bq ol bm es bx bx') (hD : ∀ b, D b ↔ b = bq ∨ b = bm ∨ ol = some b ∨ ∃ e, e ∈ es ∧ b = e.b)
   (hl : ∀ bl, ol' = some bl → ol = some bl ∨ bx bl = none) (he : ∀ e, e ∈ es' → (∃ e0, e0 ∈ es ∧ e0.b = e.b) ∨ bx e.b = none) : Frm D (fun b => b = bq ∨ b = bm ∨ ol' = some b ∨ ∃ e, e ∈ es' ∧ b = e.b) bx bx' := by
 refine ⟨fun b h1 h2 => ?_, fun b hb => ?_⟩
 · rw [hD] at h2
   exact hf b h1 (fun e => h2 (.inl e)) (fun e => h2 (.inr (.inr (.inl e)))) (fun e => h2 (.inr (.inl e))) fun e he heq => h2 (.inr (.inr (.inr ⟨e, he, heq⟩)))
 · rcases hb with e | e | e | ⟨e, h1, h2⟩
   · exact .inl ((hD b).2 (.inl e))
   · exact .inl ((hD b).2 (.inr (.inl e)))
   · rcases hl b e with e | e
     · exact .inl ((hD b).2 (.inr (.inr (.inl e))))
     · exact .inr e
   · rcases he e h1 with ⟨e0, h3, h4⟩ | h3
     · exact .inl ((hD b).2 (.inr (.inr (.inr ⟨e0, h3, by rw [h2, h4]⟩))))
     · exact .inr (by rw [h2]; exact h3)
def pushN (next : Int) (its : List (Int × Int)) : Int := if 5000 ≤ its.length ∨ 1000000000000000 ≤ next then next else next + 1
def pushI (lt : Int → Int → Bool) (next : Int) (its : List (Int × Int)) (v : Int) : List (Int × Int) := if 5000 ≤ its.length ∨ 1000000000000000 ≤ next then its else ins lt (next, v) its
def pushR (next : Int) (its : List (Int × Int)) : V := if 5000 ≤ its.length ∨ 1000000000000000 ≤ next then .tup [.int .i64 0, .int .i64 5] else .tup [.int .i64 next, .int .i64 0]
variable {bx : Boxes} {bq : Nat} {g : FuncId} {lt : Int → Int → Bool} {key : Int → Int} {next : Int} {its : List (Int × Int)} {D : Nat → Prop}
theorem Try.New_q (g : FuncId) (lt : Int → Int → Bool) (bx : Boxes) :
   AbsCall Try.prog 31 [.fn (.func g) []] bx fun r bx' => ∃ bq D, r = .ptr bq 4 0 0 ∧ Qu bx' bq g lt 1 [] D ∧ (∀ b, bx b ≠ none → bx' b = bx b) ∧ ∀ b, D b → bx b = none := by
 refine (Try.New_c g bx).mono ?_
 rintro r bx' ⟨bq, bm, h1, h2, rfl, hm, he⟩
 refine ⟨bq, fun b => b = bq ∨ b = bm ∨ (none : Option Nat) = some b ∨ ∃ e, e ∈ ([] : List (Ent Int)) ∧ b = e.b, rfl, ⟨⟨none, bm, [], hm, fun i _ h => by simp at h, List.Perm.refl _, fun b => Iff.rfl⟩, List.Pairwise.nil⟩, he, fun b hb => ?_⟩
 rcases hb with rfl | rfl | e | ⟨e, he, _⟩
 · exact h1
 · exact h2
 · cases e
 · cases he
theorem Try.Push_q (hk : ByKey lt key) (hlt : Lt Try.prog g lt) (h : Qu bx bq g lt next its D) (v : Int) :
   AbsCall Try.prog 17 [.ptr bq 4 0 0, .int .i64 v] bx fun r bx' => r = pushR next its ∧ ∃ D', Qu bx' bq g lt (pushN next its) (pushI lt next its v) D' ∧ Frm D D' bx bx' := by
 obtain ⟨ol, bm, es, hm, hh, hp, hD⟩ := h.ex
 have hl := hp.length_eq
 rw [List.length_map] at hl
 unfold pushR pushN pushI
 by_cases hfu : 5000 ≤ its.length ∨ 1000000000000000 ≤ next
 · rw [if_pos hfu, if_pos hfu, if_pos hfu]
   refine AbsCall.mono (Try.PushF_c v hm (by simp [full]; omega)) ?_
   rintro r bx' ⟨rfl, rfl⟩
   exact ⟨rfl, D, h, Frm.refl _ _⟩
 · rw [if_neg hfu, if_neg hfu, if_neg hfu]
   refine Try.Push_c v hlt hm (by simp [full]; omega) fun eb bl bx' h1 h2 h3 h4 => ?_
   have hpp := upL_perm lt es.length (es ++ [⟨next, v, eb⟩]) (by simp)
   refine ⟨rfl, _, ⟨⟨some bl, bm, _, h3, ?_, ?_, fun b => Iff.rfl⟩, srt_ins hk h.s fun p hpi => ?_⟩, h4.frm hD (fun b e => ?_) fun e he => ?_⟩
   · rw [upL_len, List.length_append]; exact pushL_heap hk hh _
   · refine (ins_perm _ _).trans ?_
     refine List.Perm.trans ?_ (hpp.map hv).symm
     rw [List.map_append]
     exact (List.Perm.cons _ hp).trans (List.perm_append_singleton (hv ⟨next, v, eb⟩) (es.map hv)).symm
   · have := (h.range p hpi).2
     show p.1 ≠ next
     omega
   · injection e with e
     rw [← e]
     exact h2.symm
   · rcases List.mem_append.1 (hpp.mem_iff.1 he) with he | he
     · exact .inl ⟨e, he, rfl⟩
     · simp at he; subst he; exact .inr h1
theorem Try.Len_q (h : Qu bx bq g lt next its D) : PureCall Try.prog 14 [.ptr bq 4 0 0] bx (.int .i64 its.length) := by
 obtain ⟨ol, bm, es, hm, hh, hp, hD⟩ := h.ex
 have hl := hp.length_eq
 rw [List.length_map] at hl
 rw [hl]
 exact Try.Len_c hm
def peekR (its : List (Int × Int)) : V := match its with
 | [] => .tup [.int .i64 0, .int .i64 0, .int .i64 4]
 | p :: _ => .tup [.int .i64 p.1, .int .i64 p.2, .int .i64 0]
theorem Try.Peek_q (hk : ByKey lt key) (h : Qu bx bq g lt next its D) : PureCall Try.prog 35 [.ptr bq 4 0 0] bx (peekR its) := by
 obtain ⟨ol, bm, es, hm, hh, hp, hD⟩ := h.ex
 cases its with
 | nil =>
   have : es = [] := by have := hp.length_eq; simpa using this.symm
   subst this
   exact Try.Peek0_c hm
 | cons p l =>
   obtain ⟨h1, h2⟩ := head_eq hk hh h.s hp
   have := Try.Peek_c hm h1
   rw [← h2]
   exact this
theorem Try.Pop_q (hk : ByKey lt key) (hlt : Lt Try.prog g lt) (h : Qu bx bq g lt next its D) :
   AbsCall Try.prog 13 [.ptr bq 4 0 0] bx fun r bx' => r = peekR its ∧ ∃ D', Qu bx' bq g lt next its.tail D' ∧ Frm D D' bx bx' := by
 obtain ⟨ol, bm, es, hm, hh, hp, hD⟩ := h.ex
 cases its with
 | nil =>
   have : es = [] := by have := hp.length_eq; simpa using this.symm
   subst this
   refine AbsCall.mono (Try.Pop0_c hm) ?_
   rintro r bx' ⟨rfl, rfl⟩
   exact ⟨rfl, D, h, Frm.refl _ _⟩
 | cons p l =>
   obtain ⟨h1, h2⟩ := head_eq hk hh h.s hp
   have hpp := popL_perm (lt := lt) h1
   refine (Try.Pop_c hlt hm h1).mono ?_
   rintro r bx' ⟨rfl, h3, h4⟩
   refine ⟨by rw [← h2]; rfl, _, ⟨⟨ol, bm, _, h3, popL_heap hk hh, ?_, fun b => Iff.rfl⟩, (List.pairwise_cons.1 h.s).2⟩, h4.frm hD (fun b e => .inl e) fun e he => .inl ⟨e, hpp.mem_iff.2 (List.mem_cons_of_mem _ he), rfl⟩⟩
   have := hp.trans (hpp.map hv)
   rw [List.map_cons, h2] at this
   exact this.cons_inv
def getR (k : Int) (its : List (Int × Int)) : V := match look k its with
 | none => .tup [.int .i64 0, .int .i64 4]
 | some v => .tup [.int .i64 v, .int .i64 0]
theorem Try.Remove_q (hk : ByKey lt key) (hlt : Lt Try.prog g lt) (h : Qu bx bq g lt next its D) (k : Int) :
   AbsCall Try.prog 16 [.ptr bq 4 0 0, .int .i64 k] bx fun r bx' => r = getR k its ∧ ∃ D', Qu bx' bq g lt next (del k its) D' ∧ Frm D D' bx bx' := by
 have hn := h.keys
 obtain ⟨ol, bm, es, hm, hh, hp, hD⟩ := h.ex
 unfold getR
 cases hl : look k its with
 | none =>
   refine AbsCall.mono (Try.Remove0_c hm k (look_none hp hl)) ?_
   rintro r bx' ⟨rfl, rfl⟩
   refine ⟨rfl, D, ?_, Frm.refl _ _⟩
   rw [del_none hl]; exact h
 | some v =>
   obtain ⟨i, hi, rfl, rfl⟩ := look_some hp hl
   have hpp := remL_perm (lt := lt) hi
   refine (Try.Remove_c hlt hm hi).mono ?_
   rintro r bx' ⟨rfl, h3, h4⟩
   refine ⟨rfl, _, ⟨⟨ol, bm, _, h3, remL_heap hk hi hh, ?_, fun b => Iff.rfl⟩, srt_del h.s _⟩, h4.frm hD (fun b e => .inl e) fun e he => .inl ⟨e, hpp.mem_iff.2 (List.mem_cons_of_mem _ he), rfl⟩⟩
   have := hp.trans (hpp.map hv)
   exact del_perm (x := hv (at_ es i)) this hn
def setR (k : Int) (its : List (Int × Int)) : V := match look k its with
 | none => .int .i64 4
 | some v => .int .i64 0
def setI (lt : Int → Int → Bool) (k v : Int) (its : List (Int × Int)) : List (Int × Int) := match look k its with
 | none => its
 | some _ => ins lt (k, v) (del k its)
theorem set_split {es : List (Ent Int)} {i : Nat} (hi : i < es.length) (x : Ent Int) : ∃ l, es.Perm (at_ es i :: l) ∧ (es.set i x).Perm (x :: l) := by
 refine ⟨es.eraseIdx i, ?_, ?_⟩
 · rw [at_get hi]; exact (erase_perm es i hi).symm
 · have := erase_perm (es.set i x) i (by simpa using hi)
   rw [List.getElem_set_self, List.eraseIdx_set_eq] at this
   exact this.symm
theorem Try.Set_q (hk : ByKey lt key) (hlt : Lt Try.prog g lt) (h : Qu bx bq g lt next its D) (k v : Int) :
   AbsCall Try.prog 18 [.ptr bq 4 0 0, .int .i64 k, .int .i64 v] bx fun r bx' => r = setR k its ∧ ∃ D', Qu bx' bq g lt next (setI lt k v its) D' ∧ Frm D D' bx bx' := by
 have hn := h.keys
 obtain ⟨ol, bm, es, hm, hh, hp, hD⟩ := h.ex
 unfold setR setI
 cases hl : look k its with
 | none =>
   refine AbsCall.mono (Try.Set0_c hm k v (look_none hp hl)) ?_
   rintro r bx' ⟨rfl, rfl⟩
   exact ⟨rfl, D, h, Frm.refl _ _⟩
 | some w =>
   obtain ⟨i, hi, rfl, rfl⟩ := look_some hp hl
   obtain ⟨l, hl1, hl2⟩ := set_split hi ⟨(at_ es i).h, v, (at_ es i).b⟩
   have hfp := fixS_perm (lt := lt) (l := es.set i ⟨(at_ es i).h, v, (at_ es i).b⟩) (i := i) (n := es.length) (by simp) (by simpa using hi)
   refine (Try.Set_c hlt hm hi v).mono ?_
   rintro r bx' ⟨rfl, h3, h4⟩
   have hd := del_perm (x := hv (at_ es i)) (hp.trans (hl1.map hv)) hn
   refine ⟨rfl, _, ⟨⟨ol, bm, _, h3, ?_, ?_, fun b => Iff.rfl⟩, srt_ins hk (srt_del h.s _) fun p hpi => ?_⟩, h4.frm hD (fun b e => .inl e) fun e he => .inl ?_⟩
   · rw [fixS_len, List.length_set]; exact setL_heap hk hi hh _
   · refine (ins_perm _ _).trans ?_
     refine List.Perm.trans ?_ ((hfp.trans hl2).map hv).symm
     exact List.Perm.cons _ hd
   · have := (List.mem_filter.1 hpi).2
     simpa using this
   · rcases List.mem_cons.1 (hl2.mem_iff.1 (hfp.mem_iff.1 he)) with rfl | he
     · exact ⟨at_ es i, by rw [at_get hi]; exact List.getElem_mem _, rfl⟩
     · exact ⟨e, hl1.mem_iff.2 (List.mem_cons_of_mem _ he), rfl⟩
end Go.Proofs

set_option linter.unusedSimpArgs false
set_option linter.unusedVariables false
set_option maxRecDepth 20000
namespace Go.Proofs
open Go Go.Pl Go.Hp Go.Sort Go.Shelf Go.Lib
def Try.laySf_ren : Ren := { f := fun x => match x with | 6 => 57 | 15 => 66 | 14 => 65 | 28 => 75 | 29 => 76 | 20 => 67 | 21 => 68 | 22 => 69 | 23 => 70 | 24 => 71 | 25 => 72 | 26 => 73 | 27 => 74 | 46 => 77 | 47 => 78 | 48 => 79 | 49 => 80 | 50 => 81 | 57 => 82 | n => n, t := fun x => match x with | 22 => 74 | 24 => 85 | 25 => 124 | 3 => 3 | 39 => 132 | 0 => 0 | 53 => 142 | 55 => 144 | 4 => 4 | 46 => 135 | 45 => 134 | 50 => 139 | 5 => 5 | 9 => 9 | 66 => 145 | 70 => 149 | 76 => 151 | 77 => 152 | n => n, g := fun x => x }
theorem Try.laySf : SlLaysF.n6 Try.prog Try.laySf_ren where
 mixed := by kernel_rfl
 f6 := ⟨Try.f57.name, by kernel_rfl, Try.func57.trans (congrArg some (by kernel_rfl))⟩
 f14 := ⟨Try.f65.name, by kernel_rfl, Try.func65.trans (congrArg some (by kernel_rfl))⟩
 f15 := Try.func66.trans (congrArg some (by kernel_rfl))
 f20 := ⟨Try.f67.name, by kernel_rfl, Try.func67.trans (congrArg some (by kernel_rfl))⟩
 f21 := ⟨Try.f68.name, by kernel_rfl, Try.func68.trans (congrArg some (by kernel_rfl))⟩
 f22 := ⟨Try.f69.name, by kernel_rfl, Try.func69.trans (congrArg some (by kernel_rfl))⟩
 f23 := ⟨Try.f70.name, by kernel_rfl, Try.func70.trans (congrArg some (by kernel_rfl))⟩
 f24 := ⟨Try.f71.name, by kernel_rfl, Try.func71.trans (congrArg some (by kernel_rfl))⟩
 f25 := ⟨Try.f72.name, by kernel_rfl, Try.func72.trans (congrArg some (by kernel_rfl))⟩
 f26 := ⟨Try.f73.name, by kernel_rfl, Try.func73.trans (congrArg some (by kernel_rfl))⟩
 f27 := ⟨Try.f74.name, by kernel_rfl, Try.func74.trans (congrArg some (by kernel_rfl))⟩
 f28 := Try.func75.trans (congrArg some (by kernel_rfl))
 f29 := Try.func76.trans (congrArg some (by kernel_rfl))
 f46 := ⟨Try.f77.name, by kernel_rfl, Try.func77.trans (congrArg some (by kernel_rfl))⟩
 f47 := Try.func78.trans (congrArg some (by kernel_rfl))
 f48 := Try.func79.trans (congrArg some (by kernel_rfl))
 f49 := ⟨Try.f80.name, by kernel_rfl, Try.func80.trans (congrArg some (by kernel_rfl))⟩
 f50 := ⟨Try.f81.name, by kernel_rfl, Try.func81.trans (congrArg some (by kernel_rfl))⟩
 f57 := ⟨Try.f82.name, by kernel_rfl, Try.func82.trans (congrArg some (by kernel_rfl))⟩
 t0 := Try.underlying0
 a0 := Try.isAgg0
 z0 := Try.sizeOf0
 v0 := Try.zeroValue0
 t3 := Try.underlying3
 a3 := Try.isAgg3
 z3 := Try.sizeOf3
 v3 := Try.zeroValue3
 t4 := Try.underlying4
 a4 := Try.isAgg4
 z4 := Try.sizeOf4
 v4 := Try.zeroValue4
 t5 := Try.underlying5
 a5 := Try.isAgg5
 z5 := Try.sizeOf5
 v5 := Try.zeroValue5
 t9 := Try.underlying9
 a9 := Try.isAgg9
 z9 := Try.sizeOf9
 v9 := Try.zeroValue9
 t22 := Try.underlying74
 a22 := Try.isAgg74
 z22 := Try.sizeOf74
 v22 := Try.zeroValue74
 a24 := Try.isAgg85
 z24 := Try.sizeOf85
 t25 := Try.underlying124
 a25 := Try.isAgg124
 z25 := Try.sizeOf124
 v25 := Try.zeroValue124
 t39 := Try.underlying132
 a39 := Try.isAgg132
 z39 := Try.sizeOf132
 v39 := Try.zeroValue132
 t45 := Try.underlying134
 a45 := Try.isAgg134
 z45 := Try.sizeOf134
 v45 := Try.zeroValue134
 t46 := Try.underlying135
 a46 := Try.isAgg135
 z46 := Try.sizeOf135
 v46 := Try.zeroValue135
 t50 := Try.underlying139
 a50 := Try.isAgg139
 z50 := Try.sizeOf139
 v50 := Try.zeroValue139
 t53 := Try.underlying142
 a53 := Try.isAgg142
 z53 := Try.sizeOf142
 v53 := Try.zeroValue142
 t55 := Try.underlying144
 a55 := Try.isAgg144
 z55 := Try.sizeOf144
 v55 := Try.zeroValue144
 t66 := Try.underlying145
 a66 := Try.isAgg145
 z66 := Try.sizeOf145
 v66 := Try.zeroValue145
 t70 := Try.underlying149
 a70 := Try.isAgg149
 z70 := Try.sizeOf149
 v70 := Try.zeroValue149
 t76 := Try.underlying151
 a76 := Try.isAgg151
 z76 := Try.sizeOf151
 v76 := Try.zeroValue151
 t77 := Try.underlying152
 a77 := Try.isAgg152
 z77 := Try.sizeOf152
 v77 := Try.zeroValue152
theorem Try.tyE : ∃ j, Try.prog.info? 90 = some j ∧ j.size ≠ 0 := by
 have h : (Try.prog.info? 90).map (fun j => j.size) = some 3 := by kernel_rfl
 obtain ⟨j, h1, h2⟩ := Option.map_eq_some_iff.1 h
 exact ⟨j, h1, by rw [h2]; decide⟩
theorem Try.undE : Try.prog.underlying 85 = some (.pointer 90) := by kernel_rfl
theorem Try.cmp_same (W : World) (k : Nat) (ac : Addr) : Calls Try.prog 58 #[.pointer (some ⟨k, 0, none⟩), .pointer (some ⟨k, 0, none⟩), .pointer (some ac)] W fun e w' => e = .returned (.int .i64 0) ∧ w' = W := by
 obtain ⟨j, hj, _⟩ := Try.tyE
 have heq := run_eql_ptr_same (P := Try.prog) W ⟨k, 0, none⟩ Try.undE hj
 go_enter Try.func58, Try.ntmps58
 go_wp2
 go_ret
 exact ⟨rfl, rfl⟩
theorem Try.cmp_other (W : World) (k k2 kq : Nat) (b : Bool) (ac : Addr) (hc : W.cell? ac = some (.pointer (some ⟨kq, 0, none⟩))) (hne : k ≠ k2) {ca cb : Array Value} {ta tb : TypeId} (h1 : W.heap[k]? = some (.cells ca ta (0, 0))) (h2 : W.heap[k2]? = some (.cells cb tb (0, 0)))
   (hb : Calls Try.prog 59 #[.pointer (some ⟨kq, 0, none⟩), .pointer (some ⟨k, 0, none⟩), .pointer (some ⟨k2, 0, none⟩)] W fun e w' => e = .returned (.bool b) ∧ ∃ q os, w' = grow (W.drewN q) os) :
   Calls Try.prog 58 #[.pointer (some ⟨k, 0, none⟩), .pointer (some ⟨k2, 0, none⟩), .pointer (some ac)] W fun e w' => e = .returned (.int .i64 (if b then -1 else 1)) ∧ ∃ q os, w' = grow (W.drewN q) os := by
 obtain ⟨j, hj, hs⟩ := Try.tyE
 have heq := run_eql_ptr_other (P := Try.prog) W (a := ⟨k, 0, none⟩) (b := ⟨k2, 0, none⟩) Try.undE hj hs (by intro e; injection e; contradiction) h1 h2
 go_enter Try.func58, Try.ntmps58
 cases b
 · go_wp2_with (go_at_call 59; refine hb.mono ?_; rintro e w' ⟨rfl, q, os, rfl⟩)
   go_ret
   exact ⟨rfl, q, os, rfl⟩
 · go_wp2_with (go_at_call 59; refine hb.mono ?_; rintro e w' ⟨rfl, q, os, rfl⟩)
   go_ret
   exact ⟨rfl, q, os, rfl⟩
theorem Try.before_f {g : FuncId} {lt : Int → Int → Bool} (hl : Lt Try.prog g lt) (x y : Ent Int) (i j : Int) (bx : Boxes) :
   PureCall Try.prog 59 [.ep (.agg [.unk, .fn (.func g) [], .unk, .unk]) 0, .ep (entC x.h x.v i) 0, .ep (entC y.h y.v j) 0] bx (.bool (bef lt x y)) := by
 refine Try.ctr59 fun hf => ?_
 simp [go_sem, Try.C59, hf, entC]
 refine callK_pure (hl x.v y.v bx) ?_
 simp [go_sem, hf]
 refine ⟨fun h => ret_pure (by simp [go_sem]) (by simp [go_sem, bef, h]), fun h => ?_⟩
 refine callK_pure (hl y.v x.v bx) ?_
 simp [go_sem, hf]
 refine ⟨fun h2 => ret_pure (by simp [go_sem]) (by simp [go_sem, bef, h, h2]), fun h2 => ?_⟩
 exact ret_pure (by simp [go_sem]) (by simp [go_sem, bef, h, h2])
def cmpE (lt : Int → Int → Bool) (es : List (Ent Int)) (m : Nat) (i j : Fin (m + 1)) : Int := if i = j then 0 else if bef lt (at_ es i) (at_ es j) then -1 else 1
theorem swo_cmpE {lt : Int → Int → Bool} {key : Int → Int} (hk : ByKey lt key) (es : List (Ent Int)) (m : Nat) : SWO (ltOf (cmpE lt es m)) := by
 have e : ∀ i j, ltOf (cmpE lt es m) i j = true ↔ i ≠ j ∧ bef lt (at_ es i) (at_ es j) = true := by
   intro i j
   unfold ltOf cmpE
   by_cases h : i = j
   · simp [h]
   · by_cases h2 : bef lt (at_ es i) (at_ es j) = true <;> simp [h, h2]
 have e2 : ∀ i j, ltOf (cmpE lt es m) i j = false ↔ i = j ∨ bef lt (at_ es i) (at_ es j) = false := by
   intro i j
   have := e i j
   by_cases h : i = j
   · simp only [h, true_or, iff_true]
     cases hh : ltOf (cmpE lt es m) j j with
     | false => rfl
     | true => exact absurd rfl ((e j j).1 hh).1
   · simp only [h, false_or]
     cases hh : ltOf (cmpE lt es m) i j <;> cases hb : bef lt (at_ es i) (at_ es j) <;> simp_all
 refine ⟨fun x => (e2 x x).2 (.inl rfl), fun x y z h1 h2 => ?_, fun x y z h1 h2 => ?_⟩
 · obtain ⟨a1, a2⟩ := (e x y).1 h1
   obtain ⟨b1, b2⟩ := (e y z).1 h2
   rw [bef_key hk, decide_eq_true_eq] at a2 b2
   refine (e x z).2 ⟨fun h => ?_, ?_⟩
   · subst h; omega
   · rw [bef_key hk, decide_eq_true_eq]; omega
 · refine (e2 x z).2 ?_
   rcases (e2 x y).1 h1 with rfl | a2
   · exact (e2 _ _).1 h2
   · rcases (e2 y z).1 h2 with rfl | b2
     · exact .inr a2
     · rw [bef_key hk, decide_eq_false_iff_not] at a2 b2
       refine .inr ?_
       rw [bef_key hk, decide_eq_false_iff_not]
       omega
theorem Try.cmp_lays {β : Beta} {M : Off} {bx : Boxes} {w : World} (hok : WOk β M bx w) (hgl : GlOk Try.prog β w (Fz β M bx w)) {b blk : Nat} (hb : bx b ≠ none) (hβ : β b = some (some blk)) {g : FuncId} {lt : Int → Int → Bool} (hl : Lt Try.prog g lt) {bq : Nat} {sv vm : V} {next : Int}
   (hq : bx bq = some (.row 79 4 [qV sv g vm next])) (hbq : bq ≠ b) {es : List (Ent Int)} {m : Nat} (he : ∀ i : Fin (m + 1), ∃ k : Int, bx (at_ es i).b = some (.row 90 3 [entC (at_ es i).h (at_ es i).v k])) (hbe : ∀ i : Fin (m + 1), (at_ es i).b ≠ b)
   (hinj : ∀ i j : Fin (m + 1), (at_ es i).b = (at_ es j).b → i = j) {u : Value} (hu : Rep β w (Fz β M bx w) (.ep (.ptr bq 4 0 0) 0) u) (size : Nat) :
   CmpLays1 Try.prog 58 #[u] (encP β fun i : Fin (m + 1) => (at_ es i).b) (cmpE lt es m) blk 0 size w := by
 intro mm os dk hs x y
 obtain ⟨w1, w2, w3⟩ := sortWorld_old (enc := encP β fun i : Fin (m + 1) => (at_ es i).b) (w := w) (blk := blk) (m := mm) (dk := dk) (os := os)
 generalize sortWorld (encP β fun i : Fin (m + 1) => (at_ es i).b) w blk 0 mm dk os = W at w1 w2 w3
 obtain ⟨kx, x1, x2, x3, x4⟩ : ∃ k, β (at_ es x).b = some (some k) ∧ k < w.heap.size ∧ M k = none ∧ ∃ i : Int, RowAt β w (Fz β M bx w) k 90 3 [entC (at_ es x).h (at_ es x).v i] := by
   obtain ⟨i, hi⟩ := he x
   obtain ⟨k, h1, h2, h3, h4⟩ := live_k hok hi (by simp)
   exact ⟨k, h1, h2, h3, i, h4⟩
 obtain ⟨ky, y1, y2, y3, y4⟩ : ∃ k, β (at_ es y).b = some (some k) ∧ k < w.heap.size ∧ M k = none ∧ ∃ i : Int, RowAt β w (Fz β M bx w) k 90 3 [entC (at_ es y).h (at_ es y).v i] := by
   obtain ⟨i, hi⟩ := he y
   obtain ⟨k, h1, h2, h3, h4⟩ := live_k hok hi (by simp)
   exact ⟨k, h1, h2, h3, i, h4⟩
 obtain ⟨kq, q1, q2, q3, q4⟩ := live_k hok hq (by simp)
 have ne : ∀ {b' k' : Nat}, bx b' ≠ none → b' ≠ b → β b' = some (some k') → k' ≠ blk := fun {b' k'} h1 h2 h3 e => h2 (hok.inj b' b k' h1 hb h3 (by rw [e]; exact hβ))
 have nx : kx ≠ blk := ne (by obtain ⟨i, hi⟩ := he x; rw [hi]; simp) (hbe x) x1
 have ny : ky ≠ blk := ne (by obtain ⟨i, hi⟩ := he y; rw [hi]; simp) (hbe y) y1
 have nq : kq ≠ blk := ne (by rw [hq]; simp) hbq q1
 cases hu with
 | ep e o a us hc hr =>
   obtain ⟨a', ha1, ha2, ha3, ha4⟩ := hc 0 _ rfl
   injection ha1 with ha1
   subst ha1
   have hr0 := hr 0 _ rfl
   have ha5 : us 0 = .pointer (some ⟨kq, 0, none⟩) := by
     generalize us 0 = u0 at hr0
     cases hr0 with
     | ptr _ _ _ _ k hk =>
       rw [q1] at hk
       injection hk with hk
       injection hk with hk
       rw [hk]
   rw [ha5] at ha3
   have hab : (a.add 0).block = a.block := by unfold Addr.add; split <;> rfl
   have hcW : W.cell? (a.add 0) = some (.pointer (some ⟨kq, 0, none⟩)) := by
     rw [← ha3]
     refine World.cell?_of_block (w := w) ?_
     rw [hab]
     exact w2 _ ha2.1 fun e => ha2.2.2 b hb (by rw [hβ, e])
   show Calls Try.prog _ #[.pointer (some ⟨kOf β (at_ es x).b, 0, none⟩), .pointer (some ⟨kOf β (at_ es y).b, 0, none⟩), .pointer (some (a.add 0))] W _
   rw [kOf_eq x1, kOf_eq y1]
   by_cases exy : x = y
   · subst exy
     rw [x1] at y1
     injection y1 with y1
     injection y1 with y1
     subst y1
     refine (Try.cmp_same W kx _).mono ?_
     rintro e w' ⟨rfl, rfl⟩
     exact ⟨by simp [cmpE], 0, #[], by simp [World.drewN]⟩
   · have hne : kx ≠ ky := fun e => exy (hinj x y (hok.inj _ _ kx (by obtain ⟨i, hi⟩ := he x; rw [hi]; simp) (by obtain ⟨i, hi⟩ := he y; rw [hi]; simp) x1 (by rw [y1, e])))
     obtain ⟨ix, curx, hcx, x5⟩ := x4
     obtain ⟨iy, cury, hcy, y5⟩ := y4
     have e1 := w2 kx x2 nx
     have e2 := w2 ky y2 ny
     have e3 := w2 kq q2 nq
     have intc : ∀ {k : IntKind} {n : Int} {F F' : Nat → Prop} {β' : Beta} {w' : World} (u : Value), Rep β w F (.int k n) u → Rep β' w' F' (.int k n) u := fun u h => by rw [h.int_inv]; exact .int _ _
     have hent : ∀ {k : Nat} {h v i : Int}, RowAt β w (Fz β M bx w) k 90 3 [entC h v i] → W.heap[k]? = w.heap[k]? → k < W.heap.size → Rep β W (fun q => q < W.heap.size) (.ep (entC h v i) 0) (.pointer (some ⟨k, 0, none⟩)) := by
       intro k h v i h1 h2 h3
       refine ep_of_row h1 h2 h3 fun j c' hj => ?_
       rcases j with _ | _ | _ | j
       · simp [entC, V.cells] at hj; subst hj; exact ⟨_, rfl, intc⟩
       · simp [entC, V.cells] at hj; subst hj; exact ⟨_, rfl, intc⟩
       · simp [entC, V.cells] at hj; subst hj; exact ⟨_, rfl, intc⟩
       · simp [entC, V.cells] at hj
     have hb' := grown_of (u := .bool (bef lt (at_ es x) (at_ es y))) (us := #[.pointer (some ⟨kq, 0, none⟩), .pointer (some ⟨kx, 0, none⟩), .pointer (some ⟨ky, 0, none⟩)]) (Try.before_f hl (at_ es x) (at_ es y) ix iy (fun _ => none)) (fun β w F u' h => by cases h; rfl) (β := β) (W := W) hok.fin
       (hgl.imp fun _ _ hh => hh.mono (fun _ _ h => h) (fun q hq => ⟨Nat.lt_of_lt_of_le hq.1 w1, w2 q hq.1 fun e => hq.2.2 b hb (by rw [hβ, e])⟩) w3) rfl (fun i c hi => by
         rcases i with _ | _ | _ | i
         · simp at hi; subst hi
           refine ep_of_row q4 e3 (by show kq < _; omega) fun j c' hj => ?_
           rcases j with _ | _ | _ | _ | j
           · simp [V.cells] at hj; subst hj; exact ⟨_, rfl, fun u _ => .unk u⟩
           · simp [V.cells] at hj; subst hj
             refine ⟨_, rfl, fun u h => ?_⟩
             generalize hvv : V.fn (.func g) [] = vv at h
             cases h <;> cases hvv
             rename_i us2 hl2 hr2
             exact .fn _ _ _ hl2 (fun i c hi => by simp at hi)
           · simp [V.cells] at hj; subst hj; exact ⟨_, rfl, fun u _ => .unk u⟩
           · simp [V.cells] at hj; subst hj; exact ⟨_, rfl, fun u _ => .unk u⟩
           · simp [V.cells] at hj
         · simp at hi; subst hi; exact hent ⟨curx, hcx, x5⟩ e1 (by omega)
         · simp at hi; subst hi; exact hent ⟨cury, hcy, y5⟩ e2 (by omega)
         · simp at hi)
     refine (Try.cmp_other W kx ky kq (bef lt (at_ es x) (at_ es y)) (a.add 0) hcW hne (e1.trans hcx) (e2.trans hcy) hb').mono ?_
     rintro e w' ⟨rfl, q, os', rfl⟩
     exact ⟨by simp [cmpE, exy], q, os', rfl⟩
end Go.Proofs

set_option linter.unusedSimpArgs false
set_option linter.unusedVariables false
set_option maxRecDepth 100000
namespace Go.Proofs
open Go Go.Pl Go.Hp Go.Sort Go.Shelf Go.Lib
theorem ids_nodup (n : Nat) : (List.ofFn (fun i : Fin n => i)).Nodup := by
 rw [List.Nodup, List.pairwise_iff_getElem]
 intro i j hi hj hij
 simp only [List.getElem_ofFn]
 intro e
 injection e with e
 omega
theorem ids_map (es : List (Ent Int)) : (List.ofFn (fun i : Fin es.length => i)).map (fun i => at_ es i.1) = es := by
 apply List.ext_getElem
 · simp
 · intro i h1 h2
   simp [at_get h2]
theorem sorted_of {lt : Int → Int → Bool} {key : Int → Int} (hk : ByKey lt key) {es : List (Ent Int)} {m : Nat} (hm : es.length = m + 1) (hd : (es.map (·.h)).Nodup) {d' : Array (Fin (m + 1))} (hp : PermIn 0 (m + 1) (Array.ofFn fun i : Fin (m + 1) => i) d') (hs : SortedIn (ltOf (cmpE lt es m)) 0 (m + 1) d') :
   d'.size = m + 1 ∧ (d'.toList.map fun i => at_ es i.1).Perm es ∧ Srt lt ((d'.toList.map fun i => at_ es i.1).map hv) := by
 obtain ⟨p1, _, p3⟩ := hp
 have hsz : d'.size = m + 1 := by rw [p1]; simp
 have e1 : d'.extract 0 (m + 1) = d' := by
   apply Array.ext
   · simp [hsz]
   · intro i h1 h2; simp
 have e2 : (Array.ofFn fun i : Fin (m + 1) => i).extract 0 (m + 1) = Array.ofFn fun i : Fin (m + 1) => i := by
   apply Array.ext
   · simp
   · intro i h1 h2; simp
 rw [e1, e2, Array.toList_ofFn] at p3
 have hnd : d'.toList.Nodup := p3.nodup_iff.2 (ids_nodup _)
 have hperm : (d'.toList.map fun i => at_ es i.1).Perm es := by
   have := p3.map fun i : Fin (m + 1) => at_ es i.1
   refine this.trans ?_
   have h := ids_map es
   have h2 : (List.ofFn fun i : Fin (m + 1) => i).map (fun i => at_ es i.1) = (List.ofFn fun i : Fin es.length => i).map (fun i => at_ es i.1) := by
     apply List.ext_getElem
     · simp [hm]
     · intro i h1 h2
       simp only [List.getElem_map, List.getElem_ofFn]
   rw [h2, h]
 refine ⟨hsz, hperm, ?_⟩
 unfold Srt
 rw [List.map_map, List.pairwise_iff_getElem]
 intro i j hi hj hij
 simp only [List.length_map, Array.length_toList] at hi hj
 simp only [List.getElem_map, Function.comp_apply, Array.getElem_toList]
 have h1 := hs i j (Nat.zero_le _) hij (by omega)
 rw [getElem!_pos d' i hi, getElem!_pos d' j hj] at h1
 have hne : d'[i] ≠ d'[j] := by
   have := List.pairwise_iff_getElem.1 hnd i j (by simpa using hi) (by simpa using hj) hij
   simpa using this
 generalize d'[i] = a at h1 hne
 generalize d'[j] = c at h1 hne
 have h2 : bef lt (at_ es c) (at_ es a) = false := by
   unfold ltOf cmpE at h1
   rw [if_neg (Ne.symm hne)] at h1
   cases hb : bef lt (at_ es c) (at_ es a) with
   | false => rfl
   | true => rw [hb] at h1; simp at h1
 have hh : (at_ es a).h ≠ (at_ es c).h := by
   intro e
   refine hne (Fin.ext ?_)
   have ha : a.1 < es.length := by rw [hm]; exact a.2
   have hc : c.1 < es.length := by rw [hm]; exact c.2
   rw [at_get ha, at_get hc] at e
   refine (List.getElem_inj (h₀ := by simpa using ha) (h₁ := by simpa using hc) hd).1 ?_
   simpa using e
 rw [bf_key hk]
 rw [bef_key hk, decide_eq_false_iff_not] at h2
 show key (at_ es a).v < key (at_ es c).v ∨ (key (at_ es a).v = key (at_ es c).v ∧ (at_ es a).h < (at_ es c).h)
 omega
theorem Try.sort_c {bx : Boxes} {bq bl b : Nat} {g : FuncId} {lt : Int → Int → Bool} {key : Int → Int} {vm : V} {next : Int} {es : List (Ent Int)} {R : List V} (hk : ByKey lt key) (hl : Lt Try.prog g lt) (h : HeapS bx bq bl g vm next es R) (hd : (es.map (·.h)).Nodup) (hne : es ≠ [])
   (hb : bx b = some (.row 85 1 (es.map fun e => .ptr e.b 3 0 0))) (hbq : bq ≠ b) (hbe : ∀ e, e ∈ es → e.b ≠ b) :
   AbsCall Try.prog 57 [.own b 1 0 es.length, .fn (.func 58) [.ep (.ptr bq 4 0 0) 0]] bx fun r bx' => r = .tup [] ∧ ∃ es' : List (Ent Int), es'.Perm es ∧ Srt lt (es'.map hv) ∧ bx' = upd bx b (some (.row 85 1 (es'.map fun e => .ptr e.b 3 0 0))) := by
 obtain ⟨m, hm⟩ : ∃ m, es.length = m + 1 := ⟨es.length - 1, by have := List.length_pos_iff.2 hne; omega⟩
 have hmem : ∀ i : Fin (m + 1), at_ es i ∈ es := fun i => by rw [at_get (by rw [hm]; exact i.2)]; exact List.getElem_mem _
 have hsz : (Array.ofFn fun i : Fin (m + 1) => i).size = m + 1 := by simp
 have hrow : (Array.ofFn fun i : Fin (m + 1) => i).toList.map (fun x => V.ptr (at_ es x.1).b 3 0 0) = es.map fun e => .ptr e.b 3 0 0 := by
   rw [Array.toList_ofFn]
   apply List.ext_getElem
   · simp [hm]
   · intro i h1 h2
     have h3 : i < es.length := by simpa using h2
     simp only [List.getElem_map, List.getElem_ofFn]
     rw [at_get h3]
 have hc := sort_ptrs (P := Try.prog) (f := 57) (rest := [.fn (.func 58) [.ep (.ptr bq 4 0 0) 0]]) (enters_of Try.func57 (by kernel_rfl) rfl) (pb := fun i : Fin (m + 1) => (at_ es i).b) (sz := 3)
   (Q := fun d' => PermIn 0 (m + 1) (Array.ofFn fun i : Fin (m + 1) => i) d' ∧ SortedIn (ltOf (cmpE lt es m)) 0 (m + 1) d') (d := Array.ofFn fun i : Fin (m + 1) => i) (fun d' hq => hq.1.1) (by rw [hsz]; omega) (bx := bx) (fun x => ⟨_, _, h.e x.1 (by rw [hm]; exact x.2), by simp⟩) (b := b) (ty := 85) (by rw [hrow]; exact hb)
   (fun β M w blk cap rs hok hgl hβ hrs hrr hH hlt => by
     obtain ⟨u, rfl⟩ : ∃ u, rs = #[u] := by
       rcases rs with ⟨_ | ⟨u, _ | ⟨v, l⟩⟩⟩
       · simp at hrs
       · exact ⟨u, rfl⟩
       · simp at hrs
     have h0 := hrr 0 _ rfl
     simp only [List.getElem?_toArray, Array.getD_eq_getD_getElem?, List.getElem?_cons_zero, Option.getD_some] at h0
     cases h0 with
     | fn _ _ us hul hur =>
       obtain ⟨uc, rfl⟩ : ∃ uc, us = #[uc] := by
         rcases us with ⟨_ | ⟨u, _ | ⟨v, l⟩⟩⟩
         · simp at hul
         · exact ⟨u, rfl⟩
         · simp at hul
       have hu := hur 0 _ rfl
       simp only [List.getElem?_toArray, Array.getD_eq_getD_getElem?, List.getElem?_cons_zero, Option.getD_some] at hu
       have hlays := Try.cmp_lays hok hgl (b := b) (by rw [hb]; simp) hβ hl h.q hbq (es := es) (m := m) (fun i => ⟨_, h.e i.1 (by rw [hm]; exact i.2)⟩) (fun i => hbe _ (hmem i)) (fun i j e => Fin.ext (h.ne.2.2 i.1 j.1 (by rw [hm]; exact i.2) (by rw [hm]; exact j.2) e)) hu (m + 1)
       have := Any.slices_SortFunc (P := Try.prog) (ρ := Try.laySf_ren) Try.laySf (encP β fun i : Fin (m + 1) => (at_ es i).b) (fun _ => rfl) (cmpE lt es m) (swo_cmpE hk es m) 58 #[uc] blk 0 cap (Array.ofFn fun i : Fin (m + 1) => i) w Try.en58 (by rw [hsz]; exact hlays) hH hlt (by have := h.len; rw [hsz]; omega)
       refine Calls.mono this ?_
       rintro e w' ⟨rfl, d', n, os, hp, hs, rfl⟩
       rw [hsz] at hp hs
       exact ⟨rfl, d', n, os, ⟨hp, hs⟩, rfl⟩)
 rw [hsz] at hc
 rw [hm]
 refine hc.mono ?_
 rintro r bx' ⟨rfl, d', ⟨hp, hs⟩, rfl⟩
 obtain ⟨s1, s2, s3⟩ := sorted_of hk hm hd hp hs
 refine ⟨rfl, _, s2, s3, ?_⟩
 rw [List.map_map]
 rfl
end Go.Proofs

set_option linter.unusedSimpArgs false
set_option linter.unusedVariables false
set_option maxRecDepth 100000
namespace Go.Proofs
open Go Go.Pl Go.Hp
theorem Try.Clone_c {bx : Boxes} {bl n : Nat} {R : List V} (hf : FinB bx) (hR : bx bl = some (.row 85 1 R)) (hn : n ≤ R.length) (h3 : n ≤ 100000) :
   AbsCall Try.prog 56 [.own bl 1 0 n] bx fun r bx' => Acc bx 85 1 (R.take n) r bx' := by
 refine Try.ctr56 fun hf => ?_
 simp [go_sem, Try.C56, hf, hR]
 refine ⟨fun b hb => ?_, fun h0 => ?_⟩
 · have hne : bl ≠ b := fun e => by rw [e, hb] at hR; cases hR
   refine acc_append (.pointer none) (acc_new hb hf _ 1 [] 0 rfl) (Ext.refl _) ((finB_upd _ _ _).2 hf) Try.knd74 Try.tsz85 (news := R.take n) ?_ Try.tzero85 (by simp [go_sem]) (by decide) ?_ ?_ (by simp [go_sem]) fun v' bx3 ha => ?_
   · simp [srcEls, upd_ne _ _ hne, hR, hn]
   · simp [Try.tby85]; omega
   · simp; omega
   · simp only [List.nil_append] at ha
     simp [go_sem]
     refine ret_keep (by simp [go_sem, ha.live]) ?_
     simpa [go_sem, ha.strip] using ha
 · subst h0
   refine ret_keep (by simp [go_sem]) ?_
   simpa [go_sem] using acc_nil hf _ 1
theorem Try.Clone0_c {bx : Boxes} (hf : FinB bx) :
   AbsCall Try.prog 56 [.nils] bx fun r bx' => Acc bx 85 1 [] r bx' := by
 refine Try.ctr56 fun hf => ?_
 simp [go_sem, Try.C56, hf]
 refine ret_keep (by simp [go_sem]) ?_
 simpa [go_sem] using acc_nil hf _ 1
theorem Try.sort0_c {v c : V} {bx : Boxes} (hv : v = .nils ∨ ∃ b sz o, v = .own b sz o 0) : AbsCall Try.prog 57 [v, c] bx fun r bx' => r = .tup [] ∧ bx' = bx :=
 sort_none (enters_of Try.func57 (by kernel_rfl) rfl) hv fun p cap fv w => AnyF.slices_SortFunc_none (P := Try.prog) (ρ := Try.laySf_ren) { Try.laySf with } p cap fv w
end Go.Proofs

set_option linter.unusedSimpArgs false
set_option linter.unusedVariables false
set_option maxRecDepth 100000
namespace Go.Proofs
open Go Go.Pl Go.Hp
def itV (p : Int × Int) : V := .agg [.int .i64 p.1, .int .i64 p.2]
def peV (e : Ent Int) : V := .ptr e.b 3 0 0
theorem HeapS.ext {bx bx' : Boxes} {bq bl : Nat} {g : FuncId} {vm : V} {next : Int} {es : List (Ent Int)} {R : List V} (h : HeapS bx bq bl g vm next es R) (he : Ext bx bx') (hf : FinB bx') : HeapS bx' bq bl g vm next es R :=
 ⟨by rw [he bq (by rw [h.q]; simp)]; exact h.q, by rw [he bl (by rw [h.l]; simp)]; exact h.l, h.r, fun i hi => by rw [he _ (by rw [h.e i hi]; simp)]; exact h.e i hi, h.nd, hf, h.len⟩
variable {bx : Boxes} {bq : Nat} {g : FuncId} {lt : Int → Int → Bool} {key : Int → Int} {next : Int} {its : List (Int × Int)} {D : Nat → Prop}
theorem Try.sortA_c {bx1 : Boxes} {ol : Option Nat} {vm v : V} {es : List (Ent Int)} (hk : ByKey lt key) (hlt : Lt Try.prog g lt) (h : QS bx bq ol g vm next es) (hd : (es.map (·.h)).Nodup) (ha : Acc bx 85 1 (es.map peV) v bx1) :
   AbsCall Try.prog 57 [v, .fn (.func 58) [.ep (.ptr bq 4 0 0) 0]] bx1 fun r bx2 => r = .tup [] ∧ ∃ es' : List (Ent Int), es'.Perm es ∧ Srt lt (es'.map hv) ∧ Acc bx 85 1 (es'.map peV) v bx2 := by
 by_cases hne : es = []
 · subst hne
   refine (Try.sort0_c ?_).mono ?_
   · rcases ha.is with ⟨_, rfl⟩ | ⟨b, _, rfl, _⟩
     · exact .inl rfl
     · exact .inr ⟨b, 1, 0, rfl⟩
   · rintro r bx2 ⟨rfl, rfl⟩
     exact ⟨rfl, [], List.Perm.refl _, List.Pairwise.nil, ha⟩
 · rcases h with ⟨h1, _⟩ | ⟨bl, R, h1, h2⟩
   · exact absurd h1 hne
   · obtain ⟨b, hb, rfl, hb1⟩ := ha.row (by simpa using hne)
     have h3 := h2.ext ha.ext ha.fin
     have e1 : (es.map peV).length = es.length := by simp
     rw [e1]
     refine (Try.sort_c hk hlt h3 hd hne (b := b) hb1 (fun e => ?_) fun e he heq => ?_).mono ?_
     · have := h2.q
       rw [e, hb] at this; cases this
     · obtain ⟨i, hi, rfl⟩ := List.getElem_of_mem he
       have := h2.e i hi
       rw [at_get hi, heq, hb] at this; cases this
     · rintro r bx2 ⟨rfl, es', p1, p2, rfl⟩
       refine ⟨rfl, es', p1, p2, fun y hy => ?_, (finB_upd _ _ _).2 ha.fin, .inr ⟨b, hb, ?_, upd_eq _ _ _⟩⟩
       · have : y ≠ b := fun e => hy (by rw [e]; exact hb)
         rw [upd_ne _ _ this]
         exact ha.ext y hy
       · rw [List.length_map, p1.length_eq]
theorem Try.CloneA_c {ol : Option Nat} {vm : V} {es : List (Ent Int)} (h : QS bx bq ol g vm next es) : ∃ sv, bx bq = some (.row 79 4 [qV sv g vm next]) ∧ sv.cells = [sv] ∧ sv.strip = sv ∧ sv.liveB = true ∧
   AbsCall Try.prog 56 [sv] bx fun r bx' => Acc bx 85 1 (es.map peV) r bx' := by
 rcases h with ⟨rfl, h2, h3, h4⟩ | ⟨bl, R, h1, h2⟩
 · exact ⟨_, h3, rfl, rfl, rfl, Try.Clone0_c h4⟩
 · have hl : es.length ≤ R.length := by
     rcases Nat.eq_zero_or_pos es.length with e | e
     · omega
     · obtain ⟨h, _⟩ := h2.rlt (i := es.length - 1) (by omega)
       omega
   refine ⟨_, h2.q, rfl, rfl, rfl, ?_⟩
   have := Try.Clone_c h2.fin h2.l hl h2.len
   have e : R.take es.length = es.map peV := by
     apply List.ext_getElem
     · simp [hl]
     · intro i i1 i2
       have i3 : i < es.length := by simpa using i2
       obtain ⟨hR, e⟩ := h2.rlt i3
       simp only [List.getElem_take, List.getElem_map]
       rw [e, at_get i3]; rfl
   rw [e] at this
   exact this
theorem Try.sorted_q (hk : ByKey lt key) (hlt : Lt Try.prog g lt) (h : Qu bx bq g lt next its D) :
   PureCall Try.prog 40 [.ptr bq 4 0 0] bx (.sl 2 (its.map itV)) := by
 obtain ⟨ol, bm, es, hm, hh, hp, hD⟩ := h.ex
 have hf := h.fin
 have hn : es.length ≤ 100000 := by
   rcases hm.s with ⟨h1, _⟩ | ⟨bl, R, h1, h2⟩
   · rw [h1]; simp
   · exact h2.len
 refine PureCall.wk (Try.ctr40 fun hb => ?_)
 obtain ⟨sv, hq, hc, hst, hlv, hcl⟩ := Try.CloneA_c hm.s
 simp [go_sem, Try.C40, hb, hq, qV, hc, hst, hlv]
 refine callK_abs hcl ?_
 rintro v bx1 ha
 simp [go_sem, ha.fin, ha.live, ha.strip]
 refine callK_abs (Try.sortA_c hk hlt hm.s hm.hd ha) ?_
 rintro r bx2 ⟨rfl, es', p1, p2, ha2⟩
 have hits : its = es'.map hv := srt_eq hk h.s p2 (hp.trans (p1.map hv).symm)
 subst hits
 rcases ha2.is with ⟨e0, rfl⟩ | ⟨b, hbb, rfl, hb2⟩
 · have e1 : es' = [] := by simpa using e0
   subst e1
   simp [go_sem, ha2.fin]
   refine pw_upto 0 (fun k => ⟨36, slk [(4, .nils), (16, .nils), (17, .int .i64 0), (18, .int .i64 0)], bx2⟩) (cov_look (by simp [go_sem])) (fun k hk => absurd hk (by omega)) fun N => ?_
   simp [go_sem, Try.L40_0, ha2.fin]
   exact ret_drop (by simp [go_sem]) ha2.ext ⟨by simpa [go_sem] using wk_nils 2, rfl⟩
 · simp [go_sem, ha2.fin]
   refine pw_for (ι := V × Boxes) es'.length (fun k i => Acc bx2 49 2 ((es'.take k).map (itV ∘ hv)) i.1 i.2) (fun k i => ⟨36, slk [(4, i.1), (16, .own b 1 0 es'.length), (17, .int .i64 es'.length), (18, .int .i64 k)], i.2⟩) (.nils, bx2) ?_ (cov_look (by simp [go_sem])) (fun k i hk hj N hN => ?_) fun i hj N => ?_
   · simpa using acc_nil ha2.fin 49 2
   · obtain ⟨v', bx3⟩ := i
     dsimp only at hj hN ⊢
     have hb3 : bx3 b = some (.row 85 1 (es'.map peV)) := by rw [hj.ext b (by rw [hb2]; simp), hb2]
     obtain ⟨i, he⟩ : ∃ i : Int, bx3 es'[k].b = some (.row 90 3 [entC es'[k].h es'[k].v i]) := by
       obtain ⟨j, hj1, hj2⟩ := List.getElem_of_mem (p1.mem_iff.1 (List.getElem_mem hk))
       rcases hm.s with ⟨q1, _⟩ | ⟨bl, R, q1, q2⟩
       · rw [q1] at hj1; simp at hj1
       · have q3 := q2.e j hj1
         rw [at_get hj1, hj2] at q3
         have q4 := ha2.ext _ (by rw [q3]; simp)
         rw [q3] at q4
         exact ⟨j, by rw [hj.ext _ (by rw [q4]; simp), q4]⟩
     simp only [entC] at he
     simp [go_sem, Try.L40_0, hj.fin, hk, hb3, peV, he]
     intro b1 hb1
     refine acc_append (.agg #[.int .i64 0, .int .i64 0]) hj ((Ext.refl _).new hb1 _) ((finB_upd _ _ _).2 hj.fin) Try.knd46 Try.tsz49 (news := [itV (hv es'[k])]) (by simp [srcEls, upd_eq, itV, hv]) Try.tzero49 (by simp [go_sem]) (by decide) ?_ ?_ (by simp [go_sem]) fun v2 bx4 ha4 => ?_
     · have := p1.length_eq
       simp [Try.tby49]; omega
     · have := p1.length_eq
       simp; omega
     · have hw := wr_succ (k := k) (by have := p1.length_eq; omega)
       simp [go_sem, ha4.fin, hw]
       refine hN _ (v2, bx4) ?_ (cov_look (by simp [go_sem]))
       have e : (es'.take k).map (itV ∘ hv) ++ [itV (hv es'[k])] = (es'.take (k + 1)).map (itV ∘ hv) := by
         rw [List.take_succ_eq_append_getElem hk, List.map_append]; rfl
       rw [← e]
       exact ha4
   · obtain ⟨v', bx3⟩ := i
     dsimp only at hj ⊢
     simp [go_sem, Try.L40_0, hj.fin]
     refine ret_accw (by simp [go_sem, hj.live]) ?_ (e := 49) (by decide)
     have h9 := hj.base ha2.ext
     rw [List.take_length] at h9
     simpa [go_sem, hj.strip] using h9
end Go.Proofs

set_option linter.unusedSimpArgs false
set_option linter.unusedVariables false
set_option maxRecDepth 100000
namespace Go.Proofs
open Go Go.Pl Go.Hp
def ltL (a b : Int) : Bool := decide (a < b)
def tenK (a : Int) : Int := (if a < 0 then 0 else a).tmod 10
def ltT (a b : Int) : Bool := decide (tenK b < tenK a)
def oddB (by_ : Int) : Bool := decide (by_.tmod 2 = 1)
def ordF (by_ : Int) : FuncId := if oddB by_ then 36 else 28
def ordL (by_ : Int) : Int → Int → Bool := if oddB by_ then ltT else ltL
def ordK (by_ : Int) : Int → Int := if oddB by_ then fun a => - tenK a else fun a => a
theorem ordL_key (by_ : Int) : ByKey (ordL by_) (ordK by_) := by
 unfold ordL ordK
 split
 · intro a b
   show decide _ = decide _
   rw [decide_eq_decide]; dsimp only; omega
 · intro a b; rfl
theorem ltL_key : ByKey ltL fun a => a := fun a b => rfl
theorem Try.lt_c : Lt Try.prog 28 ltL := by
 intro a b bx
 refine Try.ctr28 fun hf => ?_
 simp [go_sem, Try.C28, hf]
 exact ret_pure (by simp [go_sem]) (by simp [go_sem, ltL])
theorem Try.tens_c : Lt Try.prog 36 ltT := by
 intro a b bx
 refine Try.ctr36 fun hf => ?_
 simp [go_sem, Try.C36, hf]
 exact ret_pure (by simp [go_sem]) (by simp [go_sem, ltT, tenK]; exact decide_eq_decide.2 Iff.rfl)
theorem Try.order_c (by_ : Int) (h : 0 ≤ by_ ∧ by_ < 256) (bx : Boxes) : PureCall Try.prog 12 [.int .u8 by_] bx (.fn (.func (ordF by_)) []) := by
 refine Try.ctr12 fun hf => ?_
 have w : IntKind.u8.wrap (by_.tmod 2) = by_.tmod 2 := by
   have h1 : by_.tmod 2 = by_ % 2 := Int.tmod_eq_emod_of_nonneg h.1
   rw [h1]
   have : 0 ≤ by_ % 2 ∧ by_ % 2 < 2 := by omega
   rcases (show by_ % 2 = 0 ∨ by_ % 2 = 1 by omega) with e | e <;> rw [e] <;> decide
 unfold ordF oddB
 by_cases e : by_.tmod 2 = 1
 · simp [go_sem, Try.C12, hf, w, e]
   exact ret_pure (by simp [go_sem]) (by simp [go_sem])
 · simp [go_sem, Try.C12, hf, w, e]
   exact ret_pure (by simp [go_sem]) (by simp [go_sem])
theorem Try.ord_lt (by_ : Int) : Lt Try.prog (ordF by_) (ordL by_) := by
 unfold ordF ordL
 split
 · exact Try.tens_c
 · exact Try.lt_c
structure QF (bx bx' : Boxes) (bq : Nat) (g : FuncId) (lt : Int → Int → Bool) (next : Int) (its : List (Int × Int)) (D : Nat → Prop) : Prop where
 q : Qu bx' bq g lt next its D
 f : ∀ b, bx b ≠ none → bx' b = bx b
 n : ∀ b, D b → bx b = none
theorem Try.qf {bx bx' : Boxes} {bq : Nat} {g : FuncId} {lt : Int → Int → Bool} {next : Int} {its : List (Int × Int)} {D : Nat → Prop} (h : Qu bx' bq g lt next its D) (f : ∀ b, bx b ≠ none → bx' b = bx b) (n : ∀ b, D b → bx b = none) : QF bx bx' bq g lt next its D := ⟨h, f, n⟩
theorem QF.step {bx bx1 bx2 : Boxes} {bq : Nat} {g : FuncId} {lt : Int → Int → Bool} {next next' : Int} {its its' : List (Int × Int)} {D D' : Nat → Prop} (h : QF bx bx1 bq g lt next its D) (h2 : Qu bx2 bq g lt next' its' D') (hf : Frm D D' bx1 bx2) : QF bx bx2 bq g lt next' its' D' := by
 refine ⟨h2, fun b hb => ?_, fun b hb => ?_⟩
 · rw [hf.1 b (by rw [h.f b hb]; exact hb) (fun e => hb (h.n b e)), h.f b hb]
 · rcases hf.2 b hb with e | e
   · exact h.n b e
   · by_cases hh : bx b = none
     · exact hh
     · rw [h.f b hh] at e; exact e
theorem Try.three_c (bx : Boxes) : AbsCall Try.prog 19 [] bx fun r bx' => ∃ bq, r = .ptr bq 4 0 0 ∧ ∃ D, QF bx bx' bq 28 ltL 4 [(2, 3), (3, 3), (1, 5)] D := by
 refine Try.ctr19 fun hf => ?_
 simp [go_sem, Try.C19, hf]
 refine callK_abs (Try.New_q 28 ltL bx) ?_
 rintro r bx0 ⟨bq, D0, rfl, h0, f0, e0⟩
 simp [go_sem, h0.fin]
 intro b hb
 rw [upd_self hb]
 refine pw_unroll 4 ?_
 simp [go_sem, Try.L19_0, h0.fin]
 refine callK_abs (Try.Push_q ltL_key Try.lt_c h0 5) ?_
 rintro r bx1 ⟨rfl, D1, h1, f1⟩
 rw [show pushN 1 [] = 2 by decide +kernel, show pushI ltL 1 [] 5 = [(1, 5)] by decide +kernel] at h1
 rw [show pushR 1 [] = .tup [.int .i64 1, .int .i64 0] by rfl]
 simp [go_sem, h1.fin, (by decide : IntKind.i64.wrap 1 = 1)]
 refine left_step ?_
 simp [go_sem, Try.L19_0, h1.fin]
 refine callK_abs (Try.Push_q ltL_key Try.lt_c h1 3) ?_
 rintro r bx2 ⟨rfl, D2, h2, f2⟩
 rw [show pushN 2 [(1, 5)] = 3 by decide +kernel, show pushI ltL 2 [(1, 5)] 3 = [(2, 3), (1, 5)] by decide +kernel] at h2
 rw [show pushR 2 [(1, 5)] = .tup [.int .i64 2, .int .i64 0] by rfl]
 simp [go_sem, h2.fin, (by decide : IntKind.i64.wrap 2 = 2)]
 refine left_step ?_
 simp [go_sem, Try.L19_0, h2.fin]
 refine callK_abs (Try.Push_q ltL_key Try.lt_c h2 3) ?_
 rintro r bx3 ⟨rfl, D3, h3, f3⟩
 rw [show pushN 3 [(2, 3), (1, 5)] = 4 by decide +kernel, show pushI ltL 3 [(2, 3), (1, 5)] 3 = [(2, 3), (3, 3), (1, 5)] by decide +kernel] at h3
 rw [show pushR 3 [(2, 3), (1, 5)] = .tup [.int .i64 3, .int .i64 0] by rfl]
 simp [go_sem, h3.fin, (by decide : IntKind.i64.wrap 3 = 3)]
 refine left_step ?_
 simp [go_sem, Try.L19_0, h3.fin]
 have k3 := ((((Try.qf h0 f0 e0).step h1 f1).step h2 f2).step h3 f3)
 exact ret_pure (by simp [go_sem]) ⟨bq, by simp [go_sem], D3, k3⟩
theorem Try.awake_c (bx : Boxes) : AbsCall Try.prog 10 [] bx fun r bx' => r = .bool true ∧ Ext bx bx' := by
 refine Try.ctr10 fun hf => ?_
 simp [go_sem, Try.C10, hf]
 refine callK_abs (Try.three_c bx) ?_
 rintro r bx0 ⟨bq, rfl, D0, k0⟩
 simp [go_sem, k0.q.fin]
 refine callK_pure (Try.Peek_q ltL_key k0.q) ?_
 rw [show peekR [(2, 3), (3, 3), (1, 5)] = .tup [.int .i64 2, .int .i64 3, .int .i64 0] by rfl]
 simp [go_sem, k0.q.fin]
 refine callK_abs (Try.Set_q ltL_key Try.lt_c k0.q 1 3) ?_
 rintro r bx1 ⟨rfl, D1, h1, f1⟩
 rw [show setI ltL 1 3 [(2, 3), (3, 3), (1, 5)] = [(1, 3), (2, 3), (3, 3)] by decide +kernel] at h1
 rw [show setR 1 [(2, 3), (3, 3), (1, 5)] = .int .i64 0 by rfl]
 simp [go_sem, h1.fin]
 refine callK_abs (Try.Remove_q ltL_key Try.lt_c h1 2) ?_
 rintro r bx2 ⟨rfl, D2, h2, f2⟩
 rw [show del 2 [((1 : Int), (3 : Int)), (2, 3), (3, 3)] = [(1, 3), (3, 3)] by decide +kernel] at h2
 rw [show getR 2 [(1, 3), (2, 3), (3, 3)] = .tup [.int .i64 3, .int .i64 0] by rfl]
 simp [go_sem, h2.fin]
 refine callK_abs (Try.Pop_q ltL_key Try.lt_c h2) ?_
 rintro r bx3 ⟨rfl, D3, h3, f3⟩
 rw [List.tail_cons] at h3
 rw [show peekR [(1, 3), (3, 3)] = .tup [.int .i64 1, .int .i64 3, .int .i64 0] by rfl]
 simp [go_sem, h3.fin]
 refine gK_pure (Try.Len_q h3) (by simp) (by simp [go_sem]) ?_
 simp [go_sem, h3.fin]
 have k3 := (((k0.step h1 f1).step h2 f2).step h3 f3)
 exact ret_pure (by simp [go_sem]) ⟨by simp [go_sem], k3.f⟩
end Go.Proofs

set_option linter.unusedSimpArgs false
set_option linter.unusedVariables false
set_option maxRecDepth 100000
namespace Go.Proofs
open Go Go.Pl Go.Hp
def mkI (lt : Int → Int → Bool) (l : List Int) : Nat → List (Int × Int)
 | 0 => []
 | k + 1 => ins lt ((k : Int) + 1, l.getD k 0) (mkI lt l k)
def numb (l : List Int) (k : Nat) : List (Int × Int) := (List.range k).map fun (i : Nat) => ((i : Int) + 1, l.getD i 0)
theorem mkI_perm (lt : Int → Int → Bool) (l : List Int) : ∀ k, (mkI lt l k).Perm (numb l k)
 | 0 => List.Perm.refl _
 | k + 1 => by
   unfold mkI numb
   rw [List.range_succ, List.map_append]
   exact (ins_perm _ _).trans (((mkI_perm lt l k).cons _).trans (List.perm_append_singleton _ _).symm)
theorem mkI_len (lt : Int → Int → Bool) (l : List Int) (k : Nat) : (mkI lt l k).length = k := by
 rw [(mkI_perm lt l k).length_eq]; simp [numb]
theorem QM.same {bx bx' : Boxes} {bq bm : Nat} {ol : Option Nat} {g : FuncId} {next : Int} {es : List (Ent Int)} (h : QM bx bq ol g bm next es) (hs : ∀ b, (b = bq ∨ b = bm ∨ ol = some b ∨ ∃ e, e ∈ es ∧ b = e.b) → bx' b = bx b) (hf : FinB bx') : QM bx' bq ol g bm next es := by
 refine ⟨?_, ?_, h.h, h.hd, h.d, h.n⟩
 · rcases h.s with ⟨h1, h2, h3, h4⟩ | ⟨bl, R, h1, h2⟩
   · exact .inl ⟨h1, h2, by rw [hs bq (.inl rfl)]; exact h3, hf⟩
   · refine .inr ⟨bl, R, h1, ⟨by rw [hs bq (.inl rfl)]; exact h2.q, by rw [hs bl (.inr (.inr (.inl h1)))]; exact h2.l, h2.r, fun i hi => ?_, h2.nd, hf, h2.len⟩⟩
     rw [hs _ (.inr (.inr (.inr ⟨at_ es i, by rw [at_get hi]; exact List.getElem_mem _, rfl⟩)))]
     exact h2.e i hi
 · obtain ⟨ms, h1, h2⟩ := h.m
   exact ⟨ms, h1, by rw [hs bm (.inr (.inl rfl))]; exact h2⟩
variable {bx bx' : Boxes} {bq : Nat} {g : FuncId} {lt : Int → Int → Bool} {next : Int} {its : List (Int × Int)} {D : Nat → Prop}
theorem Qu.same (h : Qu bx bq g lt next its D) (hs : ∀ b, D b → bx' b = bx b) (hf : FinB bx') : Qu bx' bq g lt next its D := by
 obtain ⟨⟨ol, bm, es, hm, hh, hp, hD⟩, hS⟩ := h
 exact ⟨⟨ol, bm, es, hm.same (fun b hb => hs b ((hD b).2 hb)) hf, hh, hp, hD⟩, hS⟩
theorem QF.upd (h : QF bx bx' bq g lt next its D) {b : Nat} {o : Option Box} (hb : bx b = none) (hd : ¬ D b) : QF bx (upd bx' b o) bq g lt next its D := by
 refine ⟨h.q.same (fun c hc => upd_ne _ _ fun e => hd (by rw [← e]; exact hc)) ((finB_upd _ _ _).2 h.q.fin), fun c hc => ?_, h.n⟩
 rw [upd_ne _ _ fun e => hc (by rw [e]; exact hb)]
 exact h.f c hc
theorem QF.live (h : QF bx bx' bq g lt next its D) {b : Nat} (hb : bx' b = none) : bx b = none ∧ ¬ D b := by
 refine ⟨?_, fun e => h.q.live b e hb⟩
 by_cases e : bx b = none
 · exact e
 · exact absurd ((h.f b e).symm.trans hb) e
theorem Try.made_l (by_ : Int) (hb : 0 ≤ by_ ∧ by_ < 256) (l : List Int) (hl : l.length ≤ 300) (bx : Boxes) (hfin : FinB bx) :
   AbsCall Try.prog 11 [.int .u8 by_, .sl 1 (l.map (.int .i64))] bx fun r bx' => ∃ bq, r = .ptr bq 4 0 0 ∧ ∃ D, QF bx bx' bq (ordF by_) (ordL by_) ((l.length : Int) + 1) (mkI (ordL by_) l l.length) D := by
 refine Try.ctr11 fun hf => ?_
 simp [go_sem, Try.C11, hf]
 refine callK_pure (Try.order_c by_ hb bx) ?_
 simp [go_sem]
 refine callK_abs (Try.New_q (ordF by_) (ordL by_) bx) ?_
 rintro r bx0 ⟨bq, D0, rfl, h0, f0, e0⟩
 have hl' : (l.length : Int) ≤ 300 := by omega
 simp [go_sem, h0.fin, hl']
 refine ⟨fun e => absurd e (by omega), ?_⟩
 refine pw_for (ι := Boxes) l.length (fun k bx' => ∃ D, QF bx bx' bq (ordF by_) (ordL by_) ((k : Int) + 1) (mkI (ordL by_) l k) D) (fun k bx' => ⟨37, slk [(1, .sl 1 (l.map (.int .i64))), (5, .ptr bq 4 0 0), (6, .int .i64 k)], bx'⟩) bx0 ⟨D0, by simpa [mkI] using Try.qf h0 f0 e0⟩ (cov_look (by simp [go_sem])) (fun k bx1 hk hJ N hN => ?_) (fun bx1 hJ N => ?_)
 · obtain ⟨D, hq⟩ := hJ
   have hw := wr_succ (k := k) (by omega)
   simp [go_sem, Try.L11_0, hk, hq.q.fin]
   have cP := Try.Push_q (ordL_key by_) (Try.ord_lt by_) hq.q l[k]
   refine callK_abs cP ?_
   rintro r bx2 ⟨rfl, D2, h2, f2⟩
   have hnf : ¬ (5000 ≤ (mkI (ordL by_) l k).length ∨ 1000000000000000 ≤ (k : Int) + 1) := by rw [mkI_len]; omega
   unfold pushN pushI at h2
   rw [if_neg hnf, if_neg hnf] at h2
   unfold pushR
   rw [if_neg hnf]
   have hg : l[k] = l.getD k 0 := by rw [List.getD_eq_getElem?_getD, List.getElem?_eq_getElem hk]; rfl
   rw [hg] at h2
   simp [go_sem, h2.fin, hw]
   refine hN _ bx2 ⟨D2, ?_⟩ (cov_look (by simp [go_sem]))
   have := hq.step h2 f2
   rw [show (((k + 1 : Nat) : Int) + 1) = (k : Int) + 1 + 1 by omega]
   exact this
 · obtain ⟨D, hq⟩ := hJ
   simp [go_sem, Try.L11_0, hq.q.fin]
   exact ret_pure (by simp [go_sem]) ⟨bq, by simp [go_sem], D, hq⟩
end Go.Proofs

set_option linter.unusedSimpArgs false
set_option linter.unusedVariables false
set_option maxRecDepth 100000
namespace Go.Proofs
open Go Go.Pl Go.Hp
variable {bx : Boxes} {bq : Nat} {g : FuncId} {lt : Int → Int → Bool} {key : Int → Int} {next : Int} {its : List (Int × Int)} {D : Nat → Prop}
theorem Qu.new (h : Qu bx bq g lt next its D) {b : Nat} (hb : bx b = none) (x : Box) : Qu (upd bx b (some x)) bq g lt next its D :=
 h.same (fun c hc => upd_ne _ _ fun e => h.live c hc (by rw [e]; exact hb)) ((finB_upd _ _ _).2 h.fin)
theorem Try.made_q (h : Qu bx bq g lt next its D) : PureCall Try.prog 38 [.ptr bq 4 0 0] bx (.bool true) := by
 obtain ⟨ol, bm, es, hm, hh, hp, hD⟩ := h.ex
 obtain ⟨sv, hq, _⟩ := hm.s.q
 exact Try.made_c h.fin hq
def stV (next : Int) (its : List (Int × Int)) : V := .agg [.int .i64 next, .sl 2 (its.map itV)]
theorem Try.Save_q (hk : ByKey lt key) (hlt : Lt Try.prog g lt) (h : Qu bx bq g lt next its D) :
   PureCall Try.prog 23 [.ptr bq 4 0 0] bx (stV next its) := by
 obtain ⟨ol, bm, es, hm, hh, hp, hD⟩ := h.ex
 obtain ⟨sv, hq, _⟩ := hm.s.q
 refine PureCall.wk (Try.ctr23 fun hb => ?_)
 simp [go_sem, Try.C23, hb, hq, qV]
 intro b hb2
 have hne : bq ≠ b := fun e => by rw [e, hb2] at hq; cases hq
 have h2 := h.new hb2 (.row 52 2 [.agg [.int .i64 0, .nils]])
 refine callK_pure (Try.made_q h2) ?_
 simp [go_sem, hb, hq, qV, upd_ne, hne]
 refine callK_pure (Try.sorted_q hk hlt h2) ?_
 simp [go_sem, hb, hq, qV, upd_ne, hne, upd_upd]
 exact ret_drop (by simp [go_sem]) ((Ext.refl _).new hb2 _) ⟨by simp [go_sem, upd_eq]; exact Wk.refl _, rfl⟩
end Go.Proofs

set_option linter.unusedSimpArgs false
set_option linter.unusedVariables false
set_option maxRecDepth 100000
namespace Go.Proofs
open Go Go.Pl Go.Hp
end Go.Proofs

set_option linter.unusedSimpArgs false
set_option linter.unusedVariables false
set_option maxRecDepth 100000
namespace Go.Proofs
open Go Go.Pl Go.Hp
theorem mkI_srt {lt : Int → Int → Bool} {key : Int → Int} (hk : ByKey lt key) (l : List Int) : ∀ k, Srt lt (mkI lt l k)
 | 0 => List.Pairwise.nil
 | k + 1 => by
   refine srt_ins hk (mkI_srt hk l k) fun p hp => ?_
   have h1 := (mkI_perm lt l k).mem_iff.1 hp
   unfold numb at h1
   rw [List.mem_map] at h1
   obtain ⟨j, h2, rfl⟩ := h1
   rw [List.mem_range] at h2
   dsimp only
   omega
variable {bx bx' : Boxes} {bq : Nat} {g : FuncId} {lt : Int → Int → Bool} {next : Int} {its : List (Int × Int)} {D : Nat → Prop}
end Go.Proofs

set_option linter.unusedSimpArgs false
set_option linter.unusedVariables false
set_option maxRecDepth 100000
namespace Go.Proofs
open Go Go.Pl Go.Hp
variable {bx : Boxes} {bq : Nat} {g : FuncId} {lt : Int → Int → Bool} {key : Int → Int} {next : Int} {its : List (Int × Int)} {D : Nat → Prop}
end Go.Proofs

set_option linter.unusedSimpArgs false
set_option linter.unusedVariables false
set_option maxRecDepth 100000
namespace Go.Proofs
open Go Go.Pl Go.Hp
end Go.Proofs
