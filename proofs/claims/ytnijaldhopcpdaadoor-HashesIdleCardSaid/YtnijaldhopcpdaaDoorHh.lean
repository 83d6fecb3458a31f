/- Texts of the proof, put together: Ra, Rl, Rb, Rc, Rd, Re, Rf, Rg, Rh, Ri, Rj, Y, Rs, Ru, Rx, Rz, Rad, Rq, Rae. -/
import Derived.Test.YtnijaldhopcpdaaDoorHg
import Derived.Test.YtnijaldhopcpdaaDoorHc
import Derived.Test.YtnijaldhopcpdaaDoorHd
import Derived.Test.YtnijaldhopcpdaaDoorHf
import Derived.Shelf.SlGeneric
import Derived.Ground.SlsfProg
import Derived.Ground.NamesProg
import Derived.Ground.Names8Prog
import Derived.Test.YtnijaldhopcpdaaDoorRows
import Derived.Test.YtnijaldhopcpdaaDoorCards
import Derived.Test.YtnijaldhopcpdaaDoorTie
import Derived.WalkKit
import Derived.ProofKit
import Derived.OpenShut
import Derived.Deep.DeepHandedRow

/- Contracts: hashes of bytes, comparisons. -/
set_option linter.unusedSimpArgs false
namespace Go.Proofs
open Go Go.Pl Go.Hs

theorem take_foldl {α β : Type} (f : β → α → β) (b : β) {l : List α} {k : Nat} (h : k < l.length) : (l.take (k + 1)).foldl f b = f ((l.take k).foldl f b) l[k] := by
  rw [take_snoc h, List.foldl_append]; rfl

theorem Tryd.onu32_c (h : Int) (l : Bs) (bx : Boxes) (hl : l.length ≤ 1000000) : PureCall Tryd.prog 25 [.int .u32 h, .int .u32 16777619, .sl 1 (bytesV l)] bx (.int .u32 (on32 h l)) := by
  refine Tryd.ctr25 fun hb => ?_
  simp [go_sem, Tryd.C25, hb, bytesV]
  refine pw_upto l.length (fun k => ⟨24, slk [(0, .int .u32 ((l.take k).foldl step32 h)), (1, .int .u32 16777619), (9, V.sl 1 (bytesV l)), (10, .int .i64 l.length), (11, .int .i64 k)], bx⟩) (cov_look (by simp [go_sem, bytesV])) ?_ ?_
  · intro k hk N hN
    have hw := wr_succ (k := k) (by omega)
    have hc8 := (l[k]).toNat_lt
    have hw8 : IntKind.u32.wrap ((l[k]).toNat : Int) = (l[k]).toNat := wru32 (by omega)
    simp [go_sem, Tryd.L25_0, hk, hb, bytesV, hw8]
    refine hN _ (cov_look (by simp [go_sem, bytesV, hw, take_foldl _ _ hk, step32]))
  · intro N
    simp [go_sem, Tryd.L25_0]
    refine ret_pure ?_ ?_ <;> simp [go_sem, on32]

theorem Tryd.onu64_c (h : Int) (l : Bs) (bx : Boxes) (hl : l.length ≤ 1000000) : PureCall Tryd.prog 26 [.int .u64 h, .int .u64 1099511628211, .sl 1 (bytesV l)] bx (.int .u64 (on64 h l)) := by
  refine Tryd.ctr26 fun hb => ?_
  simp [go_sem, Tryd.C26, hb, bytesV]
  refine pw_upto l.length (fun k => ⟨24, slk [(0, .int .u64 ((l.take k).foldl step64 h)), (1, .int .u64 1099511628211), (9, V.sl 1 (bytesV l)), (10, .int .i64 l.length), (11, .int .i64 k)], bx⟩) (cov_look (by simp [go_sem, bytesV])) ?_ ?_
  · intro k hk N hN
    have hw := wr_succ (k := k) (by omega)
    have hc8 := (l[k]).toNat_lt
    have hw8 : IntKind.u64.wrap ((l[k]).toNat : Int) = (l[k]).toNat := wru64 (by omega)
    simp [go_sem, Tryd.L26_0, hk, hb, bytesV, hw8]
    refine hN _ (cov_look (by simp [go_sem, bytesV, hw, take_foldl _ _ hk, step64]))
  · intro N
    simp [go_sem, Tryd.L26_0]
    refine ret_pure ?_ ?_ <;> simp [go_sem, on64]

theorem Tryd.on32_c (h : Int) (l : Bs) (bx : Boxes) (hl : l.length ≤ 1000000) : PureCall Tryd.prog 13 [.int .u32 h, .sl 1 (bytesV l)] bx (.int .u32 (on32 h l)) := by
  refine Tryd.ctr13 fun hb => ?_
  simp [go_sem, Tryd.C13]
  refine callK_pure (Tryd.onu32_c h l bx hl) ?_
  simp [go_sem]
  refine ret_pure ?_ ?_ <;> simp [go_sem]
theorem Tryd.on64_c (h : Int) (l : Bs) (bx : Boxes) (hl : l.length ≤ 1000000) : PureCall Tryd.prog 15 [.int .u64 h, .sl 1 (bytesV l)] bx (.int .u64 (on64 h l)) := by
  refine Tryd.ctr15 fun hb => ?_
  simp [go_sem, Tryd.C15]
  refine callK_pure (Tryd.onu64_c h l bx hl) ?_
  simp [go_sem]
  refine ret_pure ?_ ?_ <;> simp [go_sem]
theorem Tryd.sum32_c (l : Bs) (bx : Boxes) (hl : l.length ≤ 1000000) : PureCall Tryd.prog 9 [.sl 1 (bytesV l)] bx (.int .u32 (sum32 l)) := by
  refine Tryd.ctr9 fun hb => ?_
  simp [go_sem, Tryd.C9]
  refine callK_pure (Tryd.on32_c _ l bx hl) ?_
  simp [go_sem]
  refine ret_pure ?_ ?_ <;> simp [go_sem, sum32]
theorem Tryd.sum64_c (l : Bs) (bx : Boxes) (hl : l.length ≤ 1000000) : PureCall Tryd.prog 11 [.sl 1 (bytesV l)] bx (.int .u64 (sum64 l)) := by
  refine Tryd.ctr11 fun hb => ?_
  simp [go_sem, Tryd.C11]
  refine callK_pure (Tryd.on64_c _ l bx hl) ?_
  simp [go_sem]
  refine ret_pure ?_ ?_ <;> simp [go_sem, sum64]

theorem Tryd.nan32_c (x : Int) (bx : Boxes) : PureCall Tryd.prog 53 [.int .u32 x] bx (.bool false) := by
  refine Tryd.ctr53 fun hb => ?_
  simp [go_sem, Tryd.C53]
  refine ret_pure ?_ ?_ <;> simp [go_sem]
theorem Tryd.nani_c (x : Int) (bx : Boxes) : PureCall Tryd.prog 54 [.int .i64 x] bx (.bool false) := by
  refine Tryd.ctr54 fun hb => ?_
  simp [go_sem, Tryd.C54]
  refine ret_pure ?_ ?_ <;> simp [go_sem]
theorem Tryd.cmp32_c (x y : Int) (bx : Boxes) : PureCall Tryd.prog 35 [.int .u32 x, .int .u32 y] bx (.int .i64 (cmpI x y)) := by
  refine Tryd.ctr35 fun hb => ?_
  simp [go_sem, Tryd.C35]
  refine callK_pure (Tryd.nan32_c ..) ?_
  simp [go_sem]
  refine callK_pure (Tryd.nan32_c ..) ?_
  simp [go_sem]
  refine ⟨fun h => ret_pure ?_ ?_, fun h => ⟨fun h2 => ret_pure ?_ ?_, fun h2 => ret_pure ?_ ?_⟩⟩ <;> simp [go_sem, cmpI] <;> omega
theorem Tryd.cmpi_c (x y : Int) (bx : Boxes) : PureCall Tryd.prog 36 [.int .i64 x, .int .i64 y] bx (.int .i64 (cmpI x y)) := by
  refine Tryd.ctr36 fun hb => ?_
  simp [go_sem, Tryd.C36]
  refine callK_pure (Tryd.nani_c ..) ?_
  simp [go_sem]
  refine callK_pure (Tryd.nani_c ..) ?_
  simp [go_sem]
  refine ⟨fun h => ret_pure ?_ ?_, fun h => ⟨fun h2 => ret_pure ?_ ?_, fun h2 => ret_pure ?_ ?_⟩⟩ <;> simp [go_sem, cmpI] <;> omega
theorem Tryd.or2_c (x y : Int) (bx : Boxes) : PureCall Tryd.prog 34 [.sl 1 [.int .i64 x, .int .i64 y]] bx (.int .i64 (if x ≠ 0 then x else y)) := by
  refine Tryd.ctr34 fun hb => ?_
  simp [go_sem, Tryd.C34, hb]
  refine pw_find 2 (fun k => decide ((k = 0 ∧ x ≠ 0) ∨ (k = 1 ∧ y ≠ 0))) (fun k => ⟨18, slk [(3, .int .i64 0), (6, .sl 1 [.int .i64 x, .int .i64 y]), (7, .int .i64 2), (8, .int .i64 k)], bx⟩) (cov_look (by simp [go_sem])) ?_ ?_
  · intro k hk hpre N hN
    rcases (by omega : k = 0 ∨ k = 1) with rfl | rfl
    · simp [go_sem, Tryd.L34_0, hb]
      refine ⟨fun h => ret_pure ?_ ?_, fun h => hN _ (by simp [h]) (cov_look (by simp [go_sem, wr64]))⟩ <;> simp [go_sem, h]
    · have h0 : x = 0 := by have := hpre 0 (by omega); simpa using this
      simp [go_sem, Tryd.L34_0, hb]
      refine ⟨fun h => ret_pure ?_ ?_, fun h => hN _ (by simp [h]) (cov_look (by simp [go_sem, wr64]))⟩ <;> simp [go_sem, h0]
  · intro hpre N
    have h0 : x = 0 := by have := hpre 0 (by omega); simpa using this
    have h1 : y = 0 := by have := hpre 1 (by omega); simpa using this
    simp [go_sem, Tryd.L34_0]
    refine ret_pure ?_ ?_ <;> simp [go_sem, h0, h1]
theorem Tryd.or2O_c (x y : Int) {b : Nat} {bx : Boxes} {ty : TypeId} (hb : bx b = some (.row ty 1 [.int .i64 x, .int .i64 y])) : PureCall Tryd.prog 34 [.own b 1 0 2] bx (.int .i64 (if x ≠ 0 then x else y)) :=
  PureCall.frame 1 (Tryd.or2_c x y _) (by rw [List.map_cons, frz_own1 (n := 2) hb rfl (by decide) rfl]; rfl) rfl

/-- How points are ordered. -/
def cmpP (p q : Pt) : Int := if cmpI p.h q.h ≠ 0 then cmpI p.h q.h else cmpI p.b q.b
theorem Tryd.cmpP_c (p q : Pt) (bx : Boxes) : PureCall Tryd.prog 33 [ptV p, ptV q] bx (.int .i64 (cmpP p q)) := by
  refine Tryd.ctr33 fun hb => ?_
  simp [go_sem, Tryd.C33, hb, ptV]
  refine callK_pure (Tryd.cmp32_c ..) ?_
  simp [go_sem]
  refine callK_pure (Tryd.cmpi_c ..) ?_
  simp [go_sem, hb]
  intro b hb1
  refine callK_pure (Tryd.or2O_c (cmpI p.h q.h) (cmpI p.b q.b) (ty := 3) (by simp [go_sem])) ?_
  simp [go_sem]
  refine ret_drop ?_ ((Ext.refl _).new hb1 _) ?_ <;> simp [go_sem, cmpP]
theorem Tryd.cmph_c (p : Pt) (h : Int) (bx : Boxes) : PureCall Tryd.prog 57 [ptV p, .int .u32 h] bx (.int .i64 (cmpI p.h h)) := by
  refine Tryd.ctr57 fun hb => ?_
  simp [go_sem, Tryd.C57, hb, ptV]
  refine callK_pure (Tryd.cmp32_c ..) ?_
  simp [go_sem]
  refine ret_pure ?_ ?_ <;> simp [go_sem]

theorem Tryd.badW_c (w : Int) (bx : Boxes) : PureCall Tryd.prog 41 [.int .i64 w] bx (.bool (badW w)) := by
  refine Tryd.ctr41 fun hb => ?_
  simp [go_sem, Tryd.C41]
  refine ret_pure ?_ ?_ <;> simp [go_sem, badW]
theorem Tryd.badC_c (c : UInt8) (bx : Boxes) : PureCall Tryd.prog 44 [.int .u8 c.toNat] bx (.bool (badC c)) := by
  refine Tryd.ctr44 fun hb => ?_
  simp [go_sem, Tryd.C44]
  refine ret_pure ?_ ?_ <;> simp [go_sem, badC]

def fiI {α : Type} (p : α → Bool) (l : List α) : Int := match l.findIdx? p with | some i => (i : Int) | none => -1
theorem fiI_any {α : Type} (p : α → Bool) (l : List α) : decide (0 ≤ fiI p l) = l.any p := by
  unfold fiI
  cases h : l.findIdx? p with
  | none =>
    rw [List.findIdx?_eq_none_iff] at h
    have : l.any p = false := by rw [List.any_eq_false]; intro x hx; simp [h x hx]
    simp [this]
  | some i =>
    obtain ⟨h1, h2, _⟩ := List.findIdx?_eq_some_iff_getElem.1 h
    have : l.any p = true := List.any_eq_true.2 ⟨_, List.getElem_mem h1, h2⟩
    simp [this]
def hitAt {α : Type} (p : α → Bool) (l : List α) (j : Nat) : Bool := match l[j]? with | some x => p x | none => false
theorem hitAt_at {α : Type} {p : α → Bool} {l : List α} {k : Nat} (hk : k < l.length) : hitAt p l k = p l[k] := by simp [hitAt, hk]
theorem fiI_hit {α : Type} {p : α → Bool} {l : List α} {k : Nat} (hk : k < l.length) (h : p l[k] = true) (hpre : ∀ j, j < k → hitAt p l j = false) : fiI p l = k := by
  have : l.findIdx? p = some k := by
    rw [List.findIdx?_eq_some_iff_getElem]
    exact ⟨hk, h, fun j hj => by have := hpre j hj; rw [hitAt_at (by omega)] at this; simpa using this⟩
  simp [fiI, this]
theorem fiI_miss {α : Type} {p : α → Bool} {l : List α} (hpre : ∀ j, j < l.length → hitAt p l j = false) : fiI p l = -1 := by
  have : l.findIdx? p = none := by
    rw [List.findIdx?_eq_none_iff]
    intro x hx
    obtain ⟨j, hj, rfl⟩ := List.getElem_of_mem hx
    have := hpre j hj
    rwa [hitAt_at hj] at this
  simp [fiI, this]

theorem Tryd.indexB_c (g : FuncId) (p : UInt8 → Bool) (l : List UInt8) (bx : Boxes) (hl : l.length ≤ 1000000) (hp : ∀ x bx, PureCall Tryd.prog g [.int .u8 (x.toNat : Int)] bx (.bool (p x))) :
    PureCall Tryd.prog 60 [.sl 1 (l.map fun x => .int .u8 (x.toNat : Int)), .fn (.func g) []] bx (.int .i64 (fiI p l)) := by
  refine Tryd.ctr60 fun hb => ?_
  simp [go_sem, Tryd.C60, hb]
  refine pw_find l.length (hitAt p l) (fun k => ⟨19, slk [(0, .sl 1 (l.map fun x => .int .u8 (x.toNat : Int))), (1, .fn (.func g) []), (7, .int .i64 l.length), (8, .int .i64 k)], bx⟩) (cov_look (by simp [go_sem])) ?_ ?_
  · intro k hk hpre N hN
    have hw := wr_succ (k := k) (by omega)
    simp [go_sem, Tryd.L60_0, hk, hb]
    refine callK_pure (hp _ _) ?_
    simp [go_sem]
    refine ⟨fun h => ret_pure ?_ ?_, fun h => hN _ (by simp [hitAt_at hk, h]) (cov_look (by simp [go_sem, hw]))⟩ <;> simp [go_sem, fiI_hit hk h hpre]
  · intro hpre N
    simp [go_sem, Tryd.L60_0]
    refine ret_pure ?_ ?_ <;> simp [go_sem, fiI_miss hpre]
theorem Tryd.anyB_c (g : FuncId) (p : UInt8 → Bool) (l : List UInt8) (bx : Boxes) (hl : l.length ≤ 1000000) (hp : ∀ x bx, PureCall Tryd.prog g [.int .u8 (x.toNat : Int)] bx (.bool (p x))) :
    PureCall Tryd.prog 43 [.sl 1 (l.map fun x => .int .u8 (x.toNat : Int)), .fn (.func g) []] bx (.bool (l.any p)) := by
  refine Tryd.ctr43 fun hb => ?_
  simp [go_sem, Tryd.C43, hb]
  refine callK_pure (Tryd.indexB_c g p l bx hl hp) ?_
  simp [go_sem]
  refine ret_pure ?_ ?_ <;> simp [go_sem, fiI_any]

theorem Tryd.indexI_c (g : FuncId) (p : Int → Bool) (l : List Int) (bx : Boxes) (hl : l.length ≤ 1000000) (hp : ∀ x bx, PureCall Tryd.prog g [.int .i64 x] bx (.bool (p x))) :
    PureCall Tryd.prog 61 [.sl 1 (l.map fun x => .int .i64 x), .fn (.func g) []] bx (.int .i64 (fiI p l)) := by
  refine Tryd.ctr61 fun hb => ?_
  simp [go_sem, Tryd.C61, hb]
  refine pw_find l.length (hitAt p l) (fun k => ⟨19, slk [(0, .sl 1 (l.map fun x => .int .i64 x)), (1, .fn (.func g) []), (7, .int .i64 l.length), (8, .int .i64 k)], bx⟩) (cov_look (by simp [go_sem])) ?_ ?_
  · intro k hk hpre N hN
    have hw := wr_succ (k := k) (by omega)
    simp [go_sem, Tryd.L61_0, hk, hb]
    refine callK_pure (hp _ _) ?_
    simp [go_sem]
    refine ⟨fun h => ret_pure ?_ ?_, fun h => hN _ (by simp [hitAt_at hk, h]) (cov_look (by simp [go_sem, hw]))⟩ <;> simp [go_sem, fiI_hit hk h hpre]
  · intro hpre N
    simp [go_sem, Tryd.L61_0]
    refine ret_pure ?_ ?_ <;> simp [go_sem, fiI_miss hpre]
theorem Tryd.anyI_c (g : FuncId) (p : Int → Bool) (l : List Int) (bx : Boxes) (hl : l.length ≤ 1000000) (hp : ∀ x bx, PureCall Tryd.prog g [.int .i64 x] bx (.bool (p x))) :
    PureCall Tryd.prog 45 [.sl 1 (l.map fun x => .int .i64 x), .fn (.func g) []] bx (.bool (l.any p)) := by
  refine Tryd.ctr45 fun hb => ?_
  simp [go_sem, Tryd.C45, hb]
  refine callK_pure (Tryd.indexI_c g p l bx hl hp) ?_
  simp [go_sem]
  refine ret_pure ?_ ?_ <;> simp [go_sem, fiI_any]

theorem Tryd.indexS_c (g : FuncId) (p : Bs → Bool) (l : List Bs) (bx : Boxes) (hl : l.length ≤ 1000000) (hp : ∀ x bx, PureCall Tryd.prog g [.str x] bx (.bool (p x))) :
    PureCall Tryd.prog 62 [.sl 1 (l.map fun x => .str x), .fn (.func g) []] bx (.int .i64 (fiI p l)) := by
  refine Tryd.ctr62 fun hb => ?_
  simp [go_sem, Tryd.C62, hb]
  refine pw_find l.length (hitAt p l) (fun k => ⟨19, slk [(0, .sl 1 (l.map fun x => .str x)), (1, .fn (.func g) []), (7, .int .i64 l.length), (8, .int .i64 k)], bx⟩) (cov_look (by simp [go_sem])) ?_ ?_
  · intro k hk hpre N hN
    have hw := wr_succ (k := k) (by omega)
    simp [go_sem, Tryd.L62_0, hk, hb]
    refine callK_pure (hp _ _) ?_
    simp [go_sem]
    refine ⟨fun h => ret_pure ?_ ?_, fun h => hN _ (by simp [hitAt_at hk, h]) (cov_look (by simp [go_sem, hw]))⟩ <;> simp [go_sem, fiI_hit hk h hpre]
  · intro hpre N
    simp [go_sem, Tryd.L62_0]
    refine ret_pure ?_ ?_ <;> simp [go_sem, fiI_miss hpre]
theorem Tryd.anyS_c (g : FuncId) (p : Bs → Bool) (l : List Bs) (bx : Boxes) (hl : l.length ≤ 1000000) (hp : ∀ x bx, PureCall Tryd.prog g [.str x] bx (.bool (p x))) :
    PureCall Tryd.prog 46 [.sl 1 (l.map fun x => .str x), .fn (.func g) []] bx (.bool (l.any p)) := by
  refine Tryd.ctr46 fun hb => ?_
  simp [go_sem, Tryd.C46, hb]
  refine callK_pure (Tryd.indexS_c g p l bx hl hp) ?_
  simp [go_sem]
  refine ret_pure ?_ ?_ <;> simp [go_sem, fiI_any]

theorem Tryd.badN_c (s : Bs) (bx : Boxes) : PureCall Tryd.prog 42 [.str s] bx (.bool (badN s)) := by
  refine Tryd.ctr42 fun hb => ?_
  by_cases h1 : s = []
  · subst h1
    simp [go_sem, Tryd.C42]
    refine gK_off (.bool false) (by simp [go_sem]) ?_
    simp [go_sem]
    refine ret_pure ?_ ?_ <;> simp [go_sem, badN]
  have h0 : 1 ≤ s.length := by cases s with | nil => exact absurd rfl h1 | cons => simp
  by_cases h2 : 32 < s.length
  · have h3 : ((32 : Int) < s.length) := by omega
    simp [go_sem, Tryd.C42, h1, h3]
    refine gK_off (.bool false) (by simp [go_sem]) ?_
    simp [go_sem]
    refine ret_pure ?_ ?_ <;> simp [go_sem, badN, h2]
  · have h3 : ¬ ((32 : Int) < s.length) := by omega
    have h4 : s.length ≤ 9223372036854775807 := by omega
    simp [go_sem, Tryd.C42, h1, h3, h4]
    refine gK_pure (Tryd.anyB_c 44 badC s bx (by omega) (fun c bx => Tryd.badC_c c bx)) (by simp) (by simp [go_sem]) ?_
    simp [go_sem]
    have h5 : ¬ s.length < 1 := by omega
    refine ret_pure ?_ ?_ <;> simp [go_sem, badN, h1, h2, h5]
end Go.Proofs

/- The shelf's contracts, laid at this program. -/
set_option linter.unusedSimpArgs false
namespace Go.Proofs
open Go Go.Pl Go.Shelf

def Tryd.laySort_ren : Ren := { f := fun x => match x with | 190 => 64 | 125 => 52 | 258 => 78 | 128 => 75 | 129 => 76 | 302 => 88 | 303 => 89 | 304 => 90 | 305 => 91 | 306 => 92 | 307 => 93 | 308 => 94 | 309 => 95 | 310 => 96 | 333 => 102 | 329 => 84 | 330 => 85 | 334 => 103 | 335 => 104 | 336 => 105 | 344 => 108 | n => n, t := fun x => match x with | 31 => 31 | 9 => 9 | 3 => 3 | 46 => 87 | 0 => 0 | 51 => 25 | 53 => 23 | 4 => 4 | 183 => 102 | 182 => 101 | 131 => 89 | 5 => 5 | 218 => 116 | 222 => 120 | 228 => 132 | 229 => 133 | n => n, g := fun x => x }
theorem Tryd.laySort : Lays.n190 Tryd.prog Tryd.laySort_ren where
  mixed := by kernel_rfl
  f125 := Tryd.func52.trans (congrArg some (by kernel_rfl))
  f128 := Tryd.func75.trans (congrArg some (by kernel_rfl))
  f129 := Tryd.func76.trans (congrArg some (by kernel_rfl))
  f190 := Tryd.func64.trans (congrArg some (by kernel_rfl))
  f258 := Tryd.func78.trans (congrArg some (by kernel_rfl))
  f302 := Tryd.func88.trans (congrArg some (by kernel_rfl))
  f303 := Tryd.func89.trans (congrArg some (by kernel_rfl))
  f304 := Tryd.func90.trans (congrArg some (by kernel_rfl))
  f305 := Tryd.func91.trans (congrArg some (by kernel_rfl))
  f306 := Tryd.func92.trans (congrArg some (by kernel_rfl))
  f307 := Tryd.func93.trans (congrArg some (by kernel_rfl))
  f308 := Tryd.func94.trans (congrArg some (by kernel_rfl))
  f309 := Tryd.func95.trans (congrArg some (by kernel_rfl))
  f310 := Tryd.func96.trans (congrArg some (by kernel_rfl))
  f329 := Tryd.func84.trans (congrArg some (by kernel_rfl))
  f330 := Tryd.func85.trans (congrArg some (by kernel_rfl))
  f333 := Tryd.func102.trans (congrArg some (by kernel_rfl))
  f334 := Tryd.func103.trans (congrArg some (by kernel_rfl))
  f335 := Tryd.func104.trans (congrArg some (by kernel_rfl))
  f336 := Tryd.func105.trans (congrArg some (by kernel_rfl))
  f344 := Tryd.func108.trans (congrArg some (by kernel_rfl))
  t0 := Tryd.underlying0
  a0 := Tryd.isAgg0
  z0 := Tryd.sizeOf0
  v0 := Tryd.zeroValue0
  t3 := Tryd.underlying3
  a3 := Tryd.isAgg3
  z3 := Tryd.sizeOf3
  v3 := Tryd.zeroValue3
  t4 := Tryd.underlying4
  a4 := Tryd.isAgg4
  z4 := Tryd.sizeOf4
  v4 := Tryd.zeroValue4
  t5 := Tryd.underlying5
  a5 := Tryd.isAgg5
  z5 := Tryd.sizeOf5
  v5 := Tryd.zeroValue5
  t9 := Tryd.underlying9
  a9 := Tryd.isAgg9
  z9 := Tryd.sizeOf9
  v9 := Tryd.zeroValue9
  t31 := Tryd.underlying31
  a31 := Tryd.isAgg31
  z31 := Tryd.sizeOf31
  v31 := Tryd.zeroValue31
  t46 := Tryd.underlying87
  a46 := Tryd.isAgg87
  z46 := Tryd.sizeOf87
  v46 := Tryd.zeroValue87
  t51 := Tryd.underlying25
  a51 := Tryd.isAgg25
  z51 := Tryd.sizeOf25
  v51 := Tryd.zeroValue25
  t53 := Tryd.underlying23
  a53 := Tryd.isAgg23
  z53 := Tryd.sizeOf23
  v53 := Tryd.zeroValue23
  t131 := Tryd.underlying89
  a131 := Tryd.isAgg89
  z131 := Tryd.sizeOf89
  v131 := Tryd.zeroValue89
  t182 := Tryd.underlying101
  a182 := Tryd.isAgg101
  z182 := Tryd.sizeOf101
  v182 := Tryd.zeroValue101
  t183 := Tryd.underlying102
  a183 := Tryd.isAgg102
  z183 := Tryd.sizeOf102
  v183 := Tryd.zeroValue102
  t218 := Tryd.underlying116
  a218 := Tryd.isAgg116
  z218 := Tryd.sizeOf116
  v218 := Tryd.zeroValue116
  t222 := Tryd.underlying120
  a222 := Tryd.isAgg120
  z222 := Tryd.sizeOf120
  v222 := Tryd.zeroValue120
  t228 := Tryd.underlying132
  a228 := Tryd.isAgg132
  z228 := Tryd.sizeOf132
  v228 := Tryd.zeroValue132
  t229 := Tryd.underlying133
  a229 := Tryd.isAgg133
  z229 := Tryd.sizeOf133
  v229 := Tryd.zeroValue133
def Tryd.layComp_ren : Ren := { f := fun x => match x with | 194 => 49 | n => n, t := fun x => match x with | 31 => 31 | 9 => 9 | 3 => 3 | 4 => 4 | 0 => 0 | n => n, g := fun x => x }
theorem Tryd.layComp : Lays.n194 Tryd.prog Tryd.layComp_ren where
  mixed := by kernel_rfl
  f194 := Tryd.func49.trans (congrArg some (by kernel_rfl))
  t0 := Tryd.underlying0
  a0 := Tryd.isAgg0
  z0 := Tryd.sizeOf0
  v0 := Tryd.zeroValue0
  t3 := Tryd.underlying3
  a3 := Tryd.isAgg3
  z3 := Tryd.sizeOf3
  v3 := Tryd.zeroValue3
  t4 := Tryd.underlying4
  a4 := Tryd.isAgg4
  z4 := Tryd.sizeOf4
  v4 := Tryd.zeroValue4
  t9 := Tryd.underlying9
  a9 := Tryd.isAgg9
  z9 := Tryd.sizeOf9
  v9 := Tryd.zeroValue9
  t31 := Tryd.underlying31
  a31 := Tryd.isAgg31
  z31 := Tryd.sizeOf31
  v31 := Tryd.zeroValue31
def Tryd.layAI_ren : Ren := { f := fun x => match x with | 176 => 31 | 249 => 50 | 288 => 66 | 283 => 79 | 284 => 80 | 285 => 81 | 286 => 82 | 129 => 76 | 317 => 97 | 318 => 98 | 319 => 99 | 320 => 100 | 337 => 106 | 338 => 107 | n => n, t := fun x => match x with | 37 => 22 | 2 => 2 | 3 => 3 | 53 => 23 | 4 => 4 | 9 => 9 | 171 => 112 | 0 => 0 | 173 => 114 | 212 => 130 | 51 => 25 | 5 => 5 | 20 => 20 | 213 => 131 | 46 => 87 | 232 => 138 | 233 => 139 | n => n, g := fun x => match x with | 17 => 0 | 18 => 1 | 19 => 2 | n => n }
theorem Tryd.layAI : LaysM.n176 Tryd.prog Tryd.layAI_ren where
  mixed := by kernel_rfl
  f129 := Tryd.func76.trans (congrArg some (by kernel_rfl))
  f176 := Tryd.func31.trans (congrArg some (by kernel_rfl))
  f249 := Tryd.func50.trans (congrArg some (by kernel_rfl))
  f283 := Tryd.func79.trans (congrArg some (by kernel_rfl))
  f284 := Tryd.func80.trans (congrArg some (by kernel_rfl))
  f285 := Tryd.func81.trans (congrArg some (by kernel_rfl))
  f286 := Tryd.func82.trans (congrArg some (by kernel_rfl))
  f288 := Tryd.func66.trans (congrArg some (by kernel_rfl))
  f317 := Tryd.func97.trans (congrArg some (by kernel_rfl))
  f318 := Tryd.func98.trans (congrArg some (by kernel_rfl))
  f319 := Tryd.func99.trans (congrArg some (by kernel_rfl))
  f320 := Tryd.func100.trans (congrArg some (by kernel_rfl))
  f337 := Tryd.func106.trans (congrArg some (by kernel_rfl))
  f338 := Tryd.func107.trans (congrArg some (by kernel_rfl))
  t0 := Tryd.underlying0
  a0 := Tryd.isAgg0
  z0 := Tryd.sizeOf0
  v0 := Tryd.zeroValue0
  t2 := Tryd.underlying2
  a2 := Tryd.isAgg2
  z2 := Tryd.sizeOf2
  v2 := Tryd.zeroValue2
  t3 := Tryd.underlying3
  a3 := Tryd.isAgg3
  z3 := Tryd.sizeOf3
  v3 := Tryd.zeroValue3
  t4 := Tryd.underlying4
  a4 := Tryd.isAgg4
  z4 := Tryd.sizeOf4
  v4 := Tryd.zeroValue4
  t5 := Tryd.underlying5
  a5 := Tryd.isAgg5
  z5 := Tryd.sizeOf5
  v5 := Tryd.zeroValue5
  t9 := Tryd.underlying9
  a9 := Tryd.isAgg9
  z9 := Tryd.sizeOf9
  v9 := Tryd.zeroValue9
  t20 := Tryd.underlying20
  a20 := Tryd.isAgg20
  z20 := Tryd.sizeOf20
  v20 := Tryd.zeroValue20
  t37 := Tryd.underlying22
  a37 := Tryd.isAgg22
  z37 := Tryd.sizeOf22
  v37 := Tryd.zeroValue22
  t46 := Tryd.underlying87
  a46 := Tryd.isAgg87
  z46 := Tryd.sizeOf87
  v46 := Tryd.zeroValue87
  t51 := Tryd.underlying25
  a51 := Tryd.isAgg25
  z51 := Tryd.sizeOf25
  v51 := Tryd.zeroValue25
  t53 := Tryd.underlying23
  a53 := Tryd.isAgg23
  z53 := Tryd.sizeOf23
  v53 := Tryd.zeroValue23
  t171 := Tryd.underlying112
  a171 := Tryd.isAgg112
  z171 := Tryd.sizeOf112
  v171 := Tryd.zeroValue112
  t173 := Tryd.underlying114
  a173 := Tryd.isAgg114
  z173 := Tryd.sizeOf114
  v173 := Tryd.zeroValue114
  t212 := Tryd.underlying130
  a212 := Tryd.isAgg130
  z212 := Tryd.sizeOf130
  v212 := Tryd.zeroValue130
  t213 := Tryd.underlying131
  a213 := Tryd.isAgg131
  z213 := Tryd.sizeOf131
  t232 := Tryd.underlying138
  a232 := Tryd.isAgg138
  z232 := Tryd.sizeOf138
  v232 := Tryd.zeroValue138
  t233 := Tryd.underlying139
  a233 := Tryd.isAgg139
  z233 := Tryd.sizeOf139
  v233 := Tryd.zeroValue139
  g17 := by kernel_rfl
  g18 := by kernel_rfl
  g19 := by kernel_rfl
  i0 := by kernel_rfl
  i2 := by kernel_rfl
  i3 := by kernel_rfl
  i4 := by kernel_rfl
  i5 := by kernel_rfl
  i9 := by kernel_rfl
  i20 := by kernel_rfl
  i37 := by kernel_rfl
  i46 := by kernel_rfl
  i51 := by kernel_rfl
  i53 := by kernel_rfl
  i171 := by kernel_rfl
  i173 := by kernel_rfl
  i212 := by kernel_rfl
  i232 := by kernel_rfl
  i233 := by kernel_rfl
  m17 := by kernel_rfl
  m18 := by kernel_rfl
  m19 := by kernel_rfl
def Tryd.laySf_ren : Ren := { f := fun x => match x with | 6 => 32 | 15 => 52 | 14 => 51 | 28 => 75 | 29 => 76 | 20 => 67 | 21 => 68 | 22 => 69 | 23 => 70 | 24 => 71 | 25 => 72 | 26 => 73 | 27 => 74 | 46 => 83 | 47 => 84 | 48 => 85 | 49 => 86 | 50 => 87 | 57 => 101 | n => n, t := fun x => match x with | 22 => 33 | 24 => 57 | 25 => 69 | 3 => 3 | 39 => 87 | 0 => 0 | 53 => 25 | 55 => 23 | 4 => 4 | 46 => 102 | 45 => 101 | 50 => 89 | 5 => 5 | 9 => 9 | 66 => 116 | 70 => 120 | 76 => 132 | 77 => 133 | n => n, g := fun x => x }
theorem Tryd.laySf : SlLaysF0.n6 Tryd.prog Tryd.laySf_ren where
  mixed := by kernel_rfl
  f6 := ⟨Tryd.f32.name, by kernel_rfl, Tryd.func32.trans (congrArg some (by kernel_rfl))⟩
  f14 := ⟨Tryd.f51.name, by kernel_rfl, Tryd.func51.trans (congrArg some (by kernel_rfl))⟩
  f15 := Tryd.func52.trans (congrArg some (by kernel_rfl))
  f20 := ⟨Tryd.f67.name, by kernel_rfl, Tryd.func67.trans (congrArg some (by kernel_rfl))⟩
  f21 := ⟨Tryd.f68.name, by kernel_rfl, Tryd.func68.trans (congrArg some (by kernel_rfl))⟩
  f22 := ⟨Tryd.f69.name, by kernel_rfl, Tryd.func69.trans (congrArg some (by kernel_rfl))⟩
  f23 := ⟨Tryd.f70.name, by kernel_rfl, Tryd.func70.trans (congrArg some (by kernel_rfl))⟩
  f24 := ⟨Tryd.f71.name, by kernel_rfl, Tryd.func71.trans (congrArg some (by kernel_rfl))⟩
  f25 := ⟨Tryd.f72.name, by kernel_rfl, Tryd.func72.trans (congrArg some (by kernel_rfl))⟩
  f26 := ⟨Tryd.f73.name, by kernel_rfl, Tryd.func73.trans (congrArg some (by kernel_rfl))⟩
  f27 := ⟨Tryd.f74.name, by kernel_rfl, Tryd.func74.trans (congrArg some (by kernel_rfl))⟩
  f28 := Tryd.func75.trans (congrArg some (by kernel_rfl))
  f29 := Tryd.func76.trans (congrArg some (by kernel_rfl))
  f46 := ⟨Tryd.f83.name, by kernel_rfl, Tryd.func83.trans (congrArg some (by kernel_rfl))⟩
  f47 := Tryd.func84.trans (congrArg some (by kernel_rfl))
  f48 := Tryd.func85.trans (congrArg some (by kernel_rfl))
  f49 := ⟨Tryd.f86.name, by kernel_rfl, Tryd.func86.trans (congrArg some (by kernel_rfl))⟩
  f50 := ⟨Tryd.f87.name, by kernel_rfl, Tryd.func87.trans (congrArg some (by kernel_rfl))⟩
  f57 := ⟨Tryd.f101.name, by kernel_rfl, Tryd.func101.trans (congrArg some (by kernel_rfl))⟩
  t0 := Tryd.underlying0
  a0 := Tryd.isAgg0
  z0 := Tryd.sizeOf0
  v0 := Tryd.zeroValue0
  t3 := Tryd.underlying3
  a3 := Tryd.isAgg3
  z3 := Tryd.sizeOf3
  v3 := Tryd.zeroValue3
  t4 := Tryd.underlying4
  a4 := Tryd.isAgg4
  z4 := Tryd.sizeOf4
  v4 := Tryd.zeroValue4
  t5 := Tryd.underlying5
  a5 := Tryd.isAgg5
  z5 := Tryd.sizeOf5
  v5 := Tryd.zeroValue5
  t9 := Tryd.underlying9
  a9 := Tryd.isAgg9
  z9 := Tryd.sizeOf9
  v9 := Tryd.zeroValue9
  t22 := Tryd.underlying33
  a22 := Tryd.isAgg33
  z22 := Tryd.sizeOf33
  v22 := Tryd.zeroValue33
  t25 := Tryd.underlying69
  a25 := Tryd.isAgg69
  z25 := Tryd.sizeOf69
  v25 := Tryd.zeroValue69
  t39 := Tryd.underlying87
  a39 := Tryd.isAgg87
  z39 := Tryd.sizeOf87
  v39 := Tryd.zeroValue87
  t45 := Tryd.underlying101
  a45 := Tryd.isAgg101
  z45 := Tryd.sizeOf101
  v45 := Tryd.zeroValue101
  t46 := Tryd.underlying102
  a46 := Tryd.isAgg102
  z46 := Tryd.sizeOf102
  v46 := Tryd.zeroValue102
  t50 := Tryd.underlying89
  a50 := Tryd.isAgg89
  z50 := Tryd.sizeOf89
  v50 := Tryd.zeroValue89
  t53 := Tryd.underlying25
  a53 := Tryd.isAgg25
  z53 := Tryd.sizeOf25
  v53 := Tryd.zeroValue25
  t55 := Tryd.underlying23
  a55 := Tryd.isAgg23
  z55 := Tryd.sizeOf23
  v55 := Tryd.zeroValue23
  t66 := Tryd.underlying116
  a66 := Tryd.isAgg116
  z66 := Tryd.sizeOf116
  v66 := Tryd.zeroValue116
  t70 := Tryd.underlying120
  a70 := Tryd.isAgg120
  z70 := Tryd.sizeOf120
  v70 := Tryd.zeroValue120
  t76 := Tryd.underlying132
  a76 := Tryd.isAgg132
  z76 := Tryd.sizeOf132
  v76 := Tryd.zeroValue132
  t77 := Tryd.underlying133
  a77 := Tryd.isAgg133
  z77 := Tryd.sizeOf133
  v77 := Tryd.zeroValue133


theorem Tryd.sortS_c {bx : Boxes} {b : Nat} {ty : TypeId} {ss : List (List UInt8)} (hb : bx b = some (.row ty 1 (ss.map .str))) (hne : ss ≠ []) (hlen : ss.length < 4611686018427387904) :
    AbsCall Tryd.prog 64 [.own b 1 0 ss.length] bx fun r bx' => r = .tup [] ∧ bx' = upd bx b (some (.row ty 1 ((ss.mergeSort fun x y => decide (x ≤ y)).map .str))) :=
  sortS_abs Tryd.laySort Tryd.en64 hb hne hlen
theorem Tryd.compactS_c {bx : Boxes} {b : Nat} {ty : TypeId} {ss : List (List UInt8)} (hb : bx b = some (.row ty 1 (ss.map .str))) (hne : ss ≠ []) (hlen : ss.length < 4611686018427387904) :
    AbsCall Tryd.prog 49 [.own b 1 0 ss.length] bx fun r bx' => r = .own b 1 0 (Lib.compact ss).length ∧ ∃ es, bx' = upd bx b (some (.row ty 1 es)) :=
  compactS_abs Tryd.layComp Tryd.en49 hb hne hlen
theorem Tryd.pow10_g : Tryd.prog.globalNamed "internal/strconv.uint64pow10" = some 0 := by kernel_rfl
theorem Tryd.appendInt_c {bx : Boxes} (hm : Mk bx) (i : Int) (h0 : -9223372036854775808 ≤ i) (h1 : i ≤ 9223372036854775807) : PureCall Tryd.prog 31 [.nils, .int .i64 i, .int .i64 10] bx (.sl 1 (bytesV (Lib.itoa i))) :=
  appendInt_pure Tryd.layAI Tryd.en31 Tryd.pow10_g hm i h0 h1

def Tryd.layGrow_ren : Ren := { f := fun x => match x with | 4 => 58 | n => n, t := fun x => match x with | 0 => 0 | 3 => 3 | 4 => 4 | 9 => 9 | 20 => 20 | 22 => 33 | 25 => 57 | n => n, g := fun n => n }
theorem Tryd.layGrow : Lays8.n4 Tryd.prog Tryd.layGrow_ren where
  mixed := by kernel_rfl
  f4 := ⟨Tryd.f58.name, by kernel_rfl, Tryd.func58.trans (congrArg some (by kernel_rfl))⟩
  t0 := Tryd.underlying0
  a0 := Tryd.isAgg0
  z0 := Tryd.sizeOf0
  v0 := Tryd.zeroValue0
  t3 := Tryd.underlying3
  a3 := Tryd.isAgg3
  z3 := Tryd.sizeOf3
  v3 := Tryd.zeroValue3
  t4 := Tryd.underlying4
  a4 := Tryd.isAgg4
  z4 := Tryd.sizeOf4
  v4 := Tryd.zeroValue4
  t9 := Tryd.underlying9
  a9 := Tryd.isAgg9
  z9 := Tryd.sizeOf9
  v9 := Tryd.zeroValue9
  t20 := Tryd.underlying20
  a20 := Tryd.isAgg20
  z20 := Tryd.sizeOf20
  v20 := Tryd.zeroValue20
  t22 := Tryd.underlying33
  a22 := Tryd.isAgg33
  z22 := Tryd.sizeOf33
  v22 := Tryd.zeroValue33
set_option maxRecDepth 100000 in
theorem Tryd.growP_c (n : Nat) (bx : Boxes) (hn : n ≤ 1000000) (hb : FinB bx) : AbsCall Tryd.prog 58 [.nils, .int .i64 n] bx fun r bx' => Pl.Acc bx 57 2 [] r bx' :=
  grow_abs (e := 57) (z := .agg #[.int .u32 0, .int .i64 0]) Tryd.layGrow Tryd.en58 rfl Tryd.tsz57 (by decide) Tryd.tzero57 (by simp [go_sem]) n (by rw [Tryd.tby57]; omega) (by omega) bx hb
end Go.Proofs

/- Contracts: names in their order. -/
set_option linter.unusedSimpArgs false
set_option linter.unusedVariables false
namespace Go.Proofs
open Go Go.Pl Go.Hs

theorem Tryd.valuesit (l : List Bs) (hl : l.length ≤ 100000) : Iter Tryd.prog 65 [.ep (.sl 1 (l.map .str)) 0] l.length (fun k => some [.str (l.getD k [])]) := by
  intro b J S hf hy bx h0
  refine Tryd.ctr65 fun hb => ?_
  simp [go_sem, Tryd.C65, hb]
  refine pw_loop (ι := Nat × Boxes) (fun p => p.1 ≤ l.length ∧ J p.1 p.2) (fun p => ⟨16, slk [(0, .yl b), (5, .sl 1 (l.map .str)), (6, .int .i64 l.length), (7, .int .i64 p.1)], p.2⟩) (fun p => l.length - p.1) (0, bx) ⟨by simp, h0⟩ (cov_look (by simp [go_sem])) ?_
  rintro ⟨k, bx1⟩ ⟨hk, hJ⟩
  dsimp only at hk hJ ⊢
  by_cases hlt : k < l.length
  · have hw := wr_succ (k := k) (by omega)
    have hg : l.getD k [] = l[k] := by simp [hlt]
    have hyl := (hy k bx1 hlt hJ).1 _ rfl
    rw [hg] at hyl
    simp [go_sem, Tryd.L65_0, hlt, hf _ _ hJ]
    refine yldK_abs hyl ?_
    rintro r bx' (⟨rfl, h⟩ | ⟨rfl, h⟩)
    · simp [go_sem, hw]
      exact ⟨(k + 1, bx'), ⟨by simp; omega, h⟩, cov_look (by simp [go_sem]), by dsimp only; omega⟩
    · simp [go_sem]
      exact ret_pure (by simp [go_sem]) (.inr h)
  · have hk' : k = l.length := by omega
    subst hk'
    simp [go_sem, Tryd.L65_0]
    exact ret_pure (by simp [go_sem]) (.inl hJ)

theorem acc_dropb {bx bx' : Boxes} {e sz : Nat} {es : List V} {v : V} {b : Nat} {x : Box} (h : Pl.Acc (upd bx b (some x)) e sz es v bx') (hb : bx b = none) : Pl.Acc bx e sz es v (upd bx' b none) := by
  refine ⟨fun q hq => ?_, (finB_upd _ _ _).2 h.fin, ?_⟩
  · have hne : q ≠ b := by rintro rfl; exact hq hb
    rw [upd_ne _ _ hne]
    have := h.ext q (by rw [upd_ne _ _ hne]; exact hq)
    rw [this, upd_ne _ _ hne]
  · rcases h.is with h1 | ⟨c, h1, h2, h3⟩
    · exact .inl h1
    · have hne : c ≠ b := by rintro rfl; rw [upd_eq] at h1; cases h1
      exact .inr ⟨c, by rwa [upd_ne _ _ hne] at h1, h2, by rw [upd_ne _ _ hne]; exact h3⟩

set_option maxRecDepth 100000 in
theorem Tryd.appendseq_c (l : List Bs) (bx : Boxes) (hl : l.length ≤ 100000) :
    AbsCall Tryd.prog 77 [.nils, .fn (.func 65) [.ep (.sl 1 (l.map .str)) 0]] bx fun r bx' => Acc bx 9 1 (l.map .str) r bx' := by
  refine Tryd.ctr77 fun hb => ?_
  simp [go_sem, Tryd.C77, hb]
  intro b2 hb2
  refine pw_iter (by kernel_rfl) (Tryd.valuesit l hl) (fun k bx' => ∃ v, Acc (upd bx b2 (some (.row 31 1 [v]))) 9 1 ((l.take k).map .str) v bx') (by simp [go_sem]) ?_ ?_ ?_ (by simp) (by rfl) (by rfl) ?_ ?_
  · exact ⟨.nils, by simp; exact acc_nil (by simp [finB_upd, hb]) _ _⟩
  · rintro k _ ⟨v, ha⟩; exact ha.fin
  · intro k args hk ha
    obtain rfl : [V.str (l.getD k [])] = args := by injection ha
    rfl
  · rintro k bx1 hk ⟨v, ha⟩
    refine ⟨fun hx => (by cases hx), fun args hx K k1 k2 => ?_⟩
    obtain rfl : [V.str (l.getD k [])] = args := by injection hx
    have hg : l.getD k [] = l[k] := by simp [hk]
    rw [hg]
    have hlk : ((l.take k).map V.str).length = k := by simp; omega
    have hnx : (l.take (k + 1)).map V.str = (l.take k).map V.str ++ [.str l[k]] := by rw [take_snoc hk, List.map_append]; rfl
    rw [hnx] at k1
    generalize (l.take k).map V.str = es at *
    generalize l[k] = s at *
    simp [go_sem, Tryd.L77_0a, setPs, upd_look]
    simp [go_sem, Tryd.L77_0b, ha.cells, ha.fin, ha.at]
    intro b hb1
    have hst : storable Tryd.prog 9 (ofValue (.string ⟨#[]⟩)) := by simp [go_sem]
    have hsr : srcEls ⟨13, slk [(10, V.own b 1 0 1), (9, V.str s), (8, v), (2, V.ptr b2 1 0 0), (5, V.str s)], upd bx1 b (some (Box.row 9 1 [V.str s]))⟩ 1 (V.own b 1 0 1) = some [.str s] := by simp [go_sem, srcEls]
    have hap := fun (K : St → Prop) dst hd hK => acc_append (P := Tryd.prog) (K := K) (dst := dst) (t := 31) (n := 13) (sl := slk [(10, V.own b 1 0 1), (9, V.str s), (8, v), (2, V.ptr b2 1 0 0), (5, V.str s)]) (bx2 := upd bx1 b (some (Box.row 9 1 [V.str s]))) (x := .own b 1 0 1) (es := es) (news := [.str s]) (e := 9) (sz := 1) (.string ⟨#[]⟩) ha ((Ext.refl _).new hb1 _) (by simp [finB_upd, ha.fin]) Tryd.knd31 Tryd.tsz9 hsr Tryd.tzero9 hst (by omega) (by simp [Tryd.tby9]; omega) (by simp; omega) hd hK
    refine hap _ _ (by simp [go_sem]) ?_
    intro v' bx3 ha'
    simp [go_sem, ha'.at, ha.cells, ha'.cells, ha.setC, ha'.okV]
    exact k1 _ ⟨v', ha'.put _⟩
  · rintro bx1 ⟨v, ha⟩
    rw [List.take_length] at ha
    simp [go_sem, ha.cells, ha.at]
    exact ret_drop (bx := upd bx1 b2 none) (by simp [go_sem]) (fun q hq => by
      by_cases e : q = b2
      · subst e; rw [upd_eq] at hq; exact absurd rfl hq
      · rw [upd_ne _ _ e]) (by simpa [go_sem] using acc_dropb ha hb2)
theorem Tryd.collect_c (l : List Bs) (bx : Boxes) (hl : l.length ≤ 100000) :
    AbsCall Tryd.prog 63 [.fn (.func 65) [.ep (.sl 1 (l.map .str)) 0]] bx fun r bx' => Acc bx 9 1 (l.map .str) r bx' := by
  refine Tryd.ctr63 fun hb => ?_
  simp [go_sem, Tryd.C63, hb]
  refine callK_abs (Tryd.appendseq_c l bx hl) ?_
  intro r bx' ha
  simp [go_sem, ha.cells]
  exact ret_pure (by simp [go_sem]) (by simpa [go_sem] using ha)
theorem Tryd.values_c (l : List Bs) (bx : Boxes) : PureCall Tryd.prog 48 [.sl 1 (l.map .str)] bx (.fn (.func 65) [.ep (.sl 1 (l.map .str)) 0]) := by
  refine Tryd.ctr48 fun hb => ?_
  simp [go_sem, Tryd.C48, hb]
  refine ret_pure ?_ ?_ <;> simp [go_sem]
theorem Tryd.sorted_c (l : List Bs) (bx : Boxes) (hl : l.length ≤ 100000) (hne : l ≠ []) :
    AbsCall Tryd.prog 47 [.fn (.func 65) [.ep (.sl 1 (l.map .str)) 0]] bx fun r bx' => Acc bx 9 1 ((l.mergeSort fun x y => decide (x ≤ y)).map .str) r bx' := by
  refine Tryd.ctr47 fun hb => ?_
  simp [go_sem, Tryd.C47, hb]
  refine callK_abs (Tryd.collect_c l bx hl) ?_
  intro r bx' ha
  obtain ⟨b, hb1, rfl, hb2⟩ := ha.row (by simpa using hne)
  simp [go_sem]
  refine callK_abs (Tryd.sortS_c hb2 hne (by omega)) ?_
  rintro r bx2 ⟨rfl, rfl⟩
  simp [go_sem]
  refine ret_pure (by simp [go_sem]) ?_
  simp [go_sem]
  exact ⟨ha.ext.upd_own hb1 _, (finB_upd _ _ _).2 ha.fin, .inr ⟨b, hb1, by simp, upd_eq _ _ _⟩⟩
end Go.Proofs

/- Contracts: what is wrong with a ring's parts. -/
set_option linter.unusedSimpArgs false
set_option linter.unusedVariables false
namespace Go.Proofs
open Go Go.Pl Go.Hs

theorem wsum_take {ws : List Int} {nodes : Int} {k : Nat} (hk : k < ws.length) : wsum (ws.take (k + 1)) nodes = wsum (ws.take k) nodes + ws[k] * nodes := by
  unfold wsum
  rw [take_snoc hk, List.map_append, List.sum_append]; simp
theorem wsum_le {ws : List Int} {nodes : Int} (h1 : ws.any badW = false) (h2 : 1 ≤ nodes) (h3 : nodes ≤ 100) : 0 ≤ wsum ws nodes ∧ wsum ws nodes ≤ 2000 * ws.length := by
  induction ws with
  | nil => simp [wsum]
  | cons w ws ih =>
    simp only [List.any_cons, Bool.or_eq_false_iff] at h1
    obtain ⟨i1, i2⟩ := ih h1.2
    have hw := h1.1
    simp [badW] at hw
    have e : wsum (w :: ws) nodes = w * nodes + wsum ws nodes := by simp [wsum]
    have h4 : 0 ≤ w * nodes := Int.mul_nonneg hw.1 (by omega)
    have h5 : w * nodes ≤ 20 * 100 := Int.mul_le_mul hw.2 h3 (by omega) (by omega)
    simp only [List.length_cons]
    omega

set_option maxRecDepth 100000 in
theorem Tryd.wrong_c (names : List Bs) (wts : List Int) (nodes : Int) (bx : Boxes) (hl : wts.length ≤ 9223372036854775807) (hl2 : names.length ≤ 9223372036854775807) : PureCall Tryd.prog 28 [strsV names, intsV wts, .int .i64 nodes] bx (.int .i64 (wrong names wts nodes)) := by
  refine Tryd.ctr28 fun hb => ?_
  unfold strsV intsV
  by_cases h1 : names.length < 1 ∨ 16 < names.length
  · have hw : wrong names wts nodes = 3 := by unfold wrong; rw [if_pos h1]
    have h2 : (decide (names = []) || decide (16 < (names.length : Int))) = true := by
      rcases h1 with h | h
      · have : names = [] := List.eq_nil_of_length_eq_zero (by omega)
        simp [this]
      · simp; omega
    simp [go_sem, Tryd.C28, hb, h2]
    refine ret_pure ?_ ?_ <;> simp [go_sem, hw]
  have hne : names ≠ [] := by rintro rfl; simp at h1
  have h2 : (decide (names = []) || decide (16 < (names.length : Int))) = false := by
    simp [hne]; omega
  by_cases h3 : ¬ wts.length = names.length
  · have hw : wrong names wts nodes = 2 := by unfold wrong; rw [if_neg h1, if_pos h3]
    simp [go_sem, Tryd.C28, hb, h2]
    refine ⟨fun _ => ?_, fun h => absurd h (by omega)⟩
    refine ret_pure ?_ ?_ <;> simp [go_sem, hw]
  have h3 : wts.length = names.length := Decidable.not_not.1 h3
  by_cases h4 : nodes < 1 ∨ 100 < nodes
  · have hw : wrong names wts nodes = 7 := by unfold wrong; rw [if_neg h1, if_neg (by simpa using h3), if_pos h4]
    have h5 : (decide (nodes < 1) || decide (100 < nodes)) = true := by simpa using h4
    simp [go_sem, Tryd.C28, hb, h2, h3, h5]
    refine gK_off (.bool false) (by simp [go_sem]) ?_
    simp [go_sem, hb]
    refine ret_pure ?_ ?_ <;> simp [go_sem, hw]
  have h5 : (decide (nodes < 1) || decide (100 < nodes)) = false := by simpa using h4
  simp [go_sem, Tryd.C28, hb, h2, h3, h5]
  have c1 := Tryd.anyI_c 41 badW wts bx (by omega) (fun x bx => Tryd.badW_c x bx)
  cases h6 : wts.any badW
  case true =>
    rw [h6] at c1
    have hw : wrong names wts nodes = 7 := by unfold wrong; rw [if_neg h1, if_neg (by simpa using h3), if_neg h4, if_pos h6]
    refine gK_pure c1 (by simp) (by simp [go_sem]) ?_
    simp [go_sem, hb]
    refine ret_pure ?_ ?_ <;> simp [go_sem, hw]
  rw [h6] at c1
  refine gK_pure c1 (by simp) (by simp [go_sem]) ?_
  simp [go_sem, hb]
  have c2 := Tryd.anyS_c 42 badN names bx (by omega) (fun x bx => Tryd.badN_c x bx)
  cases h7 : names.any badN
  case true =>
    rw [h7] at c2
    have hw : wrong names wts nodes = 6 := by unfold wrong; rw [if_neg h1, if_neg (by simpa using h3), if_neg h4, if_neg (by simp [h6]), if_pos h7]
    refine callK_pure c2 ?_
    simp [go_sem, hb]
    refine ret_pure ?_ ?_ <;> simp [go_sem, hw]
  rw [h7] at c2
  refine callK_pure c2 ?_
  simp [go_sem, hb]
  refine callK_pure (Tryd.values_c names bx) ?_
  simp [go_sem, hb]
  refine callK_abs (Tryd.sorted_c names bx (by omega) hne) ?_
  intro r bx' ha
  have hne2 : (names.mergeSort fun x y => decide (x ≤ y)) ≠ [] := by
    intro h; exact hne (List.eq_nil_of_length_eq_zero (by rw [← List.length_mergeSort (le := fun x y => decide (x ≤ y)) names, h]; rfl))
  obtain ⟨b, hb1, rfl, hb2⟩ := ha.row (by simpa using hne2)
  have hcn := compact_nodup names
  have hcl := compact_le (names.mergeSort fun x y => decide (x ≤ y))
  have hms := List.length_mergeSort (le := fun x y : Bs => decide (x ≤ y)) names
  generalize (names.mergeSort fun x y => decide (x ≤ y)) = srt at *
  simp [go_sem, hb, ha.fin]
  rw [show (List.map V.str srt).length = srt.length by simp] at *
  refine callK_abs (Tryd.compactS_c hb2 hne2 (by omega)) ?_
  rintro r bx2 ⟨rfl, es, rfl⟩
  simp [go_sem, ha.fin]
  refine ⟨fun h8 => ?_, fun h8 => ?_⟩
  · have hnd : ¬ names.Nodup := fun hn => by have := hcn.2 hn; omega
    have hw : wrong names wts nodes = 8 := by unfold wrong; rw [if_neg h1, if_neg (by simpa using h3), if_neg h4, if_neg (by simp [h6]), if_neg (by simp [h7]), if_pos hnd]
    exact ret_drop (bx := bx) (by simp [go_sem]) (ha.ext.upd_own hb1 _) (by simp [go_sem, hw])
  have hnd : names.Nodup := hcn.1 (by omega)
  obtain ⟨hs0, hs1⟩ := wsum_le h6 (by omega) (by omega : nodes ≤ 100)
  refine pw_upto wts.length (fun k => ⟨67, slk [(2, .int .i64 nodes), (10, .int .i64 (wsum (wts.take k) nodes)), (53, .sl 1 (wts.map (.int .i64))), (54, .int .i64 wts.length), (55, .int .i64 k)], bx⟩) (cov_drop (ha.ext.upd_own hb1 _) (by simp [go_sem, wsum])) ?_ ?_
  · intro k hk N hN
    have hw := wr_succ (k := k) (by omega)
    have hbad : badW wts[k] = false := by
      have := List.any_eq_false.1 h6 wts[k] (List.getElem_mem hk)
      simpa using this
    simp [badW] at hbad
    have h4' : 0 ≤ wts[k] * nodes := Int.mul_nonneg hbad.1 (by omega)
    have h5' : wts[k] * nodes ≤ 20 * 100 := Int.mul_le_mul hbad.2 (by omega) (by omega) (by omega)
    have hm : IntKind.i64.wrap (wts[k] * nodes) = wts[k] * nodes := wr64 (by omega)
    have h6k : (wts.take k).any badW = false := by
      rw [List.any_eq_false] at h6 ⊢
      exact fun x hx => h6 x (List.mem_of_mem_take hx)
    obtain ⟨q0, q1⟩ := wsum_le h6k (by omega) (by omega : nodes ≤ 100)
    rw [List.length_take] at q1
    have hsw : IntKind.i64.wrap (wsum (wts.take k) nodes + wts[k] * nodes) = wsum (wts.take (k + 1)) nodes := by rw [wsum_take hk, wr64 (by omega)]
    generalize wsum (wts.take k) nodes = s0 at *
    generalize wsum (wts.take (k + 1)) nodes = s1 at *
    simp [go_sem, Tryd.L28_0, hk, hb, hm, hsw]
    refine hN _ (cov_look (by simp [go_sem, hw]))
  · intro N
    simp [go_sem, Tryd.L28_0]
    have hw : wrong names wts nodes = if 4096 < wsum wts nodes then 3 else 0 := by unfold wrong; rw [if_neg h1, if_neg (by simpa using h3), if_neg h4, if_neg (by simp [h6]), if_neg (by simp [h7]), if_neg (by simpa using hnd)]
    refine ⟨fun h => ret_pure ?_ ?_, fun h => ret_pure ?_ ?_⟩ <;> simp [go_sem, hw, h]
end Go.Proofs

/- Contracts: clones, the sort of points. -/
set_option linter.unusedSimpArgs false
set_option linter.unusedVariables false
set_option maxRecDepth 100000
namespace Go.Proofs
open Go Go.Pl Go.Hs

/-- What a call hands back is frozen. -/
theorem abs_frz {P : Program} {f : FuncId} {args : List V} {bx : Boxes} {Kc Kc' : V → Boxes → Prop} (h : AbsCall P f args bx Kc) (hk : ∀ r bx', Kc r bx' → ∃ bx'' d, SubBx bx' bx'' ∧ Kc' (frz bx' bx'' d r) bx'') : AbsCall P f args bx Kc' := by
  refine ⟨h.1, fun β M w vs hok hgl hvs hrep => (h.2 β M w vs hok hgl hvs hrep).mono ?_⟩
  rintro e w' ⟨v, r, bx', β', rfl, hk', hok', htr, hrep'⟩
  obtain ⟨bx'', d, hs, hk2⟩ := hk _ _ hk'
  exact ⟨v, _, bx'', β', rfl, hk2, hok'.sub hs, htr.trans hs.tr, frz_rep hok' hs d _ _ hrep'⟩
theorem pure_acc {P : Program} {f : FuncId} {args : List V} {bx : Boxes} {e sz : Nat} {es : List V} (h : AbsCall P f args bx fun r bx' => Acc bx e sz es r bx') (hs : 0 < sz) : PureCall P f args bx (.sl sz es) := by
  refine PureCall.wk (abs_frz h ?_)
  intro r bx' ha
  rcases ha.is with ⟨rfl, rfl⟩ | ⟨b, hb, rfl, hb2⟩
  · exact ⟨bx, 0, ha.ext.sub, wk_nils _, rfl⟩
  · refine ⟨bx, 1, ha.ext.sub, ?_, rfl⟩
    rw [frz_own1 hb2 hb hs rfl]
    exact Wk.refl _
theorem mk_ext {bx bx' : Boxes} (h : Mk bx) (he : Ext bx bx') : Mk bx' := by
  obtain ⟨b, ty, hb⟩ := h
  exact ⟨b, ty, by rw [he b (by rw [hb]; simp), hb]⟩
theorem mk_upd {bx : Boxes} {b : Nat} (h : Mk bx) (hb : bx b = none) (x : Option Box) : Mk (upd bx b x) := mk_ext h ((Ext.refl _).new hb x)

set_option maxRecDepth 100000 in
theorem Tryd.appS {bx bx1 bx2 : Boxes} {es news : List V} {v x : V} {d n : Nat} {sl : Nat → V} {K : St → Prop} (ha : Pl.Acc bx 9 1 es v bx1) (h2 : Ext bx1 bx2) (hf : FinB bx2) (src : srcEls ⟨n, sl, bx2⟩ 1 x = some news) (hlen : es.length + news.length ≤ 1000000) (hd : d < n)
    (hK : ∀ v' bx3, Pl.Acc bx 9 1 (es ++ news) v' bx3 → K (St.put ⟨n, sl, bx3⟩ (some d) v')) : appendA Tryd.prog ⟨n, sl, bx2⟩ (some d) 31 v x K :=
  acc_append (.string ⟨#[]⟩) ha h2 hf Tryd.knd31 Tryd.tsz9 src Tryd.tzero9 (by simp [go_sem]) (by omega) (by simp [Tryd.tby9]; omega) (by omega) (by simpa [go_sem] using hd) hK
set_option maxRecDepth 100000 in
theorem Tryd.appI {bx bx1 bx2 : Boxes} {es news : List V} {v x : V} {d n : Nat} {sl : Nat → V} {K : St → Prop} (ha : Pl.Acc bx 3 1 es v bx1) (h2 : Ext bx1 bx2) (hf : FinB bx2) (src : srcEls ⟨n, sl, bx2⟩ 1 x = some news) (hlen : es.length + news.length ≤ 1000000) (hd : d < n)
    (hK : ∀ v' bx3, Pl.Acc bx 3 1 (es ++ news) v' bx3 → K (St.put ⟨n, sl, bx3⟩ (some d) v')) : appendA Tryd.prog ⟨n, sl, bx2⟩ (some d) 32 v x K :=
  acc_append (.int .i64 0) ha h2 hf Tryd.knd32 Tryd.tsz3 src Tryd.tzero3 (by simp [go_sem]) (by omega) (by simp [Tryd.tby3]; omega) (by omega) (by simpa [go_sem] using hd) hK
set_option maxRecDepth 100000 in
theorem Tryd.appP {bx bx1 bx2 : Boxes} {es news : List V} {v x : V} {d n : Nat} {sl : Nat → V} {K : St → Prop} (ha : Pl.Acc bx 57 2 es v bx1) (h2 : Ext bx1 bx2) (hf : FinB bx2) (src : srcEls ⟨n, sl, bx2⟩ 2 x = some news) (hlen : es.length + news.length ≤ 1000000) (hd : d < n)
    (hK : ∀ v' bx3, Pl.Acc bx 57 2 (es ++ news) v' bx3 → K (St.put ⟨n, sl, bx3⟩ (some d) v')) : appendA Tryd.prog ⟨n, sl, bx2⟩ (some d) 33 v x K :=
  acc_append (.agg #[.int .u32 0, .int .i64 0]) ha h2 hf Tryd.knd33 Tryd.tsz57 src Tryd.tzero57 (by simp [go_sem]) (by omega) (by simp [Tryd.tby57]; omega) (by omega) (by simpa [go_sem] using hd) hK

theorem Tryd.cloneS_a (l : List Bs) (bx : Boxes) (hl : l.length ≤ 100000) : AbsCall Tryd.prog 29 [strsV l] bx fun r bx' => Acc bx 9 1 (l.map .str) r bx' := by
  refine Tryd.ctr29 fun hb => ?_
  unfold strsV
  simp [go_sem, Tryd.C29, hb]
  refine ⟨fun b hb1 => ?_, fun hne => ?_⟩
  · refine Tryd.appS (bx := bx) (es := []) (news := l.map .str) (acc_new hb1 hb 9 1 [] 0 rfl) (Ext.refl _) (by simp [finB_upd, hb]) (by simp [go_sem, srcEls]) (by simp; omega) (by omega) ?_
    intro v' bx3 ha'
    simp [go_sem]
    refine ret_pure (by simp [go_sem]) ?_
    simpa [go_sem] using ha'
  · refine ret_pure (by simp [go_sem]) ?_
    simpa [go_sem, hne] using acc_nil hb 9 1
theorem Tryd.cloneI_a (l : List Int) (bx : Boxes) (hl : l.length ≤ 100000) : AbsCall Tryd.prog 30 [intsV l] bx fun r bx' => Acc bx 3 1 (l.map (.int .i64)) r bx' := by
  refine Tryd.ctr30 fun hb => ?_
  unfold intsV
  simp [go_sem, Tryd.C30, hb]
  refine ⟨fun b hb1 => ?_, fun hne => ?_⟩
  · refine Tryd.appI (bx := bx) (es := []) (news := l.map (.int .i64)) (acc_new hb1 hb 3 1 [] 0 rfl) (Ext.refl _) (by simp [finB_upd, hb]) (by simp [go_sem, srcEls]) (by simp; omega) (by omega) ?_
    intro v' bx3 ha'
    simp [go_sem]
    refine ret_pure (by simp [go_sem]) ?_
    simpa [go_sem] using ha'
  · refine ret_pure (by simp [go_sem]) ?_
    simpa [go_sem, hne] using acc_nil hb 3 1
theorem Tryd.cloneS_c (l : List Bs) (bx : Boxes) (hl : l.length ≤ 100000) : PureCall Tryd.prog 29 [strsV l] bx (strsV l) := pure_acc (Tryd.cloneS_a l bx hl) (by decide)
theorem Tryd.cloneI_c (l : List Int) (bx : Boxes) (hl : l.length ≤ 100000) : PureCall Tryd.prog 30 [intsV l] bx (intsV l) := pure_acc (Tryd.cloneI_a l bx hl) (by decide)

/-! The sort of points -/
theorem pure_calls {P : Program} {f : FuncId} {args : List V} {r : V} (hent : ∀ vs w, (callFunc f vs).run P w = .ok (.enter f vs) w)
    (h : ∀ (β : Beta) (w : World) (F : Nat → Prop) (vs : Array Value), vs.size = args.length → (∀ (i : Nat) (c : V), args[i]? = some c → Rep β w F c (vs.getD i undef)) → ∃ v, (∀ β w F, Rep β w F r v) ∧ Calls P f vs w fun e w' => e = .returned v ∧ w' = w) (bx : Boxes) : PureCall P f args bx r := by
  refine ⟨hent, fun β M w vs hok hgl hvs hrep => ?_⟩
  obtain ⟨v, hv, hc⟩ := h β w _ vs hvs hrep
  refine hc.mono ?_
  rintro e w' ⟨rfl, rfl⟩
  exact ⟨v, r, bx, β, rfl, ⟨rfl, rfl⟩, hok, Tr.refl _ _ _, hv _ _ _⟩
theorem Tryd.len0_c (bx : Boxes) : PureCall Tryd.prog 52 [.int .u64 0] bx (.int .i64 0) := by
  refine pure_calls Tryd.en52 (fun β w F vs hvs hrep => ⟨.int .i64 0, fun _ _ _ => .int _ _, ?_⟩) bx
  have h0 : vs = #[.int .u64 0] := by
    have e0 : vs.getD 0 undef = .int .u64 0 := (hrep 0 _ rfl).int_inv
    apply Array.ext
    · simpa using hvs
    · intro j g1 g2
      simp at hvs
      have : j = 0 := by omega
      subst this
      rw [← e0]; simp [g1]
  subst h0
  have := Any.bits_Len (SlLaysF0.n15.bits (P := Tryd.prog) (ρ := Tryd.laySf_ren) { Tryd.laySf with }) 0 w (by omega) (by omega)
  exact this
theorem Tryd.ins0_c (bx : Boxes) : PureCall Tryd.prog 67 [.nils, .int .i64 0, .int .i64 0, .fn (.func 33) []] bx (.tup []) := by
  refine Tryd.ctr67 fun hb => ?_
  simp [go_sem, Tryd.C67, hb, wr64]
  refine pw_upto 0 (fun _ => ⟨53, slk [(0, V.nils), (1, V.int IntKind.i64 0), (2, V.int IntKind.i64 0), (3, V.fn (Fn.func 33) []), (8, V.int IntKind.i64 1)], bx⟩) (cov_look (by simp [go_sem])) (fun k hk => absurd hk (by omega)) ?_
  intro N
  simp [go_sem, Tryd.L67_1]
  refine ret_pure ?_ ?_ <;> simp [go_sem]
theorem Tryd.pdq0_c (bx : Boxes) : PureCall Tryd.prog 51 [.nils, .int .i64 0, .int .i64 0, .int .i64 0, .fn (.func 33) []] bx (.tup []) := by
  refine Tryd.ctr51 fun hb => ?_
  simp [go_sem, Tryd.C51, hb, wr64]
  refine pw_upto 0 (fun _ => ⟨148, slk [(0, V.nils), (1, V.int IntKind.i64 0), (2, V.int IntKind.i64 0), (3, V.int IntKind.i64 0), (4, V.fn (Fn.func 33) []), (10, .bool true), (11, .bool true)], bx⟩) (cov_look (by simp [go_sem])) (fun k hk => absurd hk (by omega)) ?_
  intro N
  simp [go_sem, Tryd.L51_0, wr64]
  refine callK_pure (Tryd.ins0_c bx) ?_
  simp [go_sem]
  refine ret_pure ?_ ?_ <;> simp [go_sem]
theorem Tryd.sort0_c (bx : Boxes) : PureCall Tryd.prog 32 [.nils, .fn (.func 33) []] bx (.tup []) := by
  refine Tryd.ctr32 fun hb => ?_
  simp [go_sem, Tryd.C32, hb, wru64]
  refine callK_pure (Tryd.len0_c bx) ?_
  simp [go_sem]
  refine callK_pure (Tryd.pdq0_c bx) ?_
  simp [go_sem]
  refine ret_pure ?_ ?_ <;> simp [go_sem]

theorem perm_sorted_eq {α : Type} {r : α → α → Prop} (ha : ∀ x y, r x y → r y x → x = y) : ∀ {l l' : List α}, l.Perm l' → l.Pairwise r → l'.Pairwise r → l = l'
  | [], l', hp, _, _ => by simpa using hp.symm
  | x :: l, [], hp, _, _ => absurd hp.length_eq (by simp)
  | x :: l, y :: l', hp, h1, h2 => by
    have hxy : x = y := by
      have hx : x ∈ y :: l' := hp.subset (by simp)
      have hy : y ∈ x :: l := hp.symm.subset (by simp)
      rcases List.mem_cons.1 hx with e | e
      · exact e
      · rcases List.mem_cons.1 hy with e' | e'
        · exact e'.symm
        · exact ha _ _ ((List.pairwise_cons.1 h1).1 _ e') ((List.pairwise_cons.1 h2).1 _ e)
    subst hxy
    rw [perm_sorted_eq ha (hp.cons_inv) (List.pairwise_cons.1 h1).2 (List.pairwise_cons.1 h2).2]
theorem ple_total (a b : Pt) : (ple a b || ple b a) = true := by
  simp [ple]; omega
theorem ple_trans (a b c : Pt) (h1 : ple a b = true) (h2 : ple b c = true) : ple a c = true := by
  simp [ple] at *; omega
theorem ple_anti (a b : Pt) (h1 : ple a b = true) (h2 : ple b a = true) : a = b := by
  obtain ⟨a1, a2⟩ := a
  obtain ⟨b1, b2⟩ := b
  simp [ple] at *; omega
theorem srt_pair (l : List Pt) : (srt l).Pairwise fun a b => ple a b = true := List.pairwise_mergeSort ple_trans ple_total l
theorem srt_eq {l l' : List Pt} (hp : l'.Perm l) (hs : l'.Pairwise fun a b => ple a b = true) : l' = srt l :=
  perm_sorted_eq (r := fun a b => ple a b = true) ple_anti (hp.trans (List.mergeSort_perm l ple).symm) hs (srt_pair l)
theorem ple_cmp (a b : Pt) : Go.Proofs.ltOf cmpP b a = false ↔ ple a b = true := by
  simp only [ltOf, cmpP, cmpI, ple]
  split <;> split <;> simp <;> omega
theorem swo_cmp : Sort.SWO (ltOf cmpP) where
  irrefl x := by simp [ltOf, cmpP, cmpI]
  trans x y z h1 h2 := by
    have e : ∀ a b : Pt, ltOf cmpP a b = true ↔ ¬ ple b a = true := fun a b => by rw [← ple_cmp]; simp
    rw [e] at *
    intro h3
    rcases Bool.or_eq_true_iff.1 (ple_total x y) with h | h
    · exact h2 (ple_trans _ _ _ h3 h)
    · exact h1 h
  ntrans x y z h1 h2 := by
    rw [ple_cmp] at *
    exact ple_trans _ _ _ h2 h1
theorem encPt_ok : EncOk (fun p : Pt => [Value.int .u32 p.h, .int .i64 p.b]) ptV 2 where
  len x := rfl
  vlen x := rfl
  one x v hv := by
    simp at hv
    rcases hv with rfl | rfl <;> rfl
  rep x j c hc β w F := by
    rcases j with _ | _ | j
    · simp [ptV, V.cells] at hc; subst hc; exact .int _ _
    · simp [ptV, V.cells] at hc; subst hc; exact .int _ _
    · simp [ptV, V.cells] at hc
  inv x j c hc β w F u hu := by
    rcases j with _ | _ | j
    · simp [ptV, V.cells] at hc; subst hc; exact hu.int_inv
    · simp [ptV, V.cells] at hc; subst hc; exact hu.int_inv
    · simp [ptV, V.cells] at hc
theorem sorted_of {l : List Pt} {d' : Array Pt} (hp : Sort.PermIn 0 l.toArray.size l.toArray d') (hs : Sort.SortedIn (ltOf cmpP) 0 l.toArray.size d') : d'.toList = srt l := by
  obtain ⟨h1, _, h2⟩ := hp
  refine srt_eq ?_ ?_
  · have e1 : (d'.extract 0 l.toArray.size) = d' := by rw [← h1]; simp
    have e2 : (l.toArray.extract 0 l.toArray.size) = l.toArray := by simp
    rw [e1, e2] at h2
    simpa using h2
  · rw [List.pairwise_iff_getElem]
    intro i j hi hj hij
    rw [← ple_cmp]
    have := hs i j (Nat.zero_le _) hij (by rw [← h1]; simpa using hj)
    simp at hi hj
    simpa [hi, hj] using this
theorem Tryd.sortP_c {bx : Boxes} {v : V} {bx' : Boxes} {l : List Pt} (ha : Pl.Acc bx 57 2 (l.map ptV) v bx') (hnn : l = [] → v = .nils) (hlen : l.length ≤ 1000000) :
    AbsCall Tryd.prog 32 [v, .fn (.func 33) []] bx' fun r bx2 => r = .tup [] ∧ Pl.Acc bx 57 2 ((srt l).map ptV) v bx2 ∧ ∀ b, v ≠ .own b 2 0 l.length → bx2 b = bx' b := by
  have hsl : (srt l).length = l.length := List.length_mergeSort _
  rcases ha.is with ⟨h1, rfl⟩ | ⟨b, hb, rfl, hb2⟩
  · have h2 : l = [] := by simpa using h1
    subst h2
    refine (Tryd.sort0_c bx').mono ?_
    rintro r bx2 ⟨rfl, rfl⟩
    exact ⟨rfl, by simpa [srt] using ha, fun _ _ => rfl⟩
  have h0 : l ≠ [] := fun h => by have := hnn h; cases this
  have h0 : l.toArray.size ≠ 0 := by intro h; exact h0 (List.eq_nil_of_length_eq_zero (by simpa using h))
  have := row_abs (P := Tryd.prog) (f := 32) (rest := [.fn (.func 33) []]) encPt_ok Tryd.en32 (Q := fun d d' => d'.toList = srt l) (d := l.toArray) (fun _ => .tup []) (fun _ _ _ => .tuple #[]) (.tuple #[])
    (by intro d' h; rw [← Array.length_toList, h]; simp [hsl]) (fun h => absurd h h0) (bx := bx') (b := b) (ty := 57) (by simpa using hb2) (fun h => absurd h h0) (fun _ _ _ _ _ _ _ _ _ _ _ _ _ _ => .tup [] #[] rfl (fun i c h => by simp at h)) (fun h => absurd h h0)
    (by
      intro β M w blk cap rs hok hgl hβ hrs hrep _ hH hlt hcap
      have hrs0 : rs = #[.func (.func 33) #[] #[]] := by
        have h3 := hrep 0 _ rfl
        have h4 : rs = #[rs.getD 0 undef] := by
          apply Array.ext
          · simpa using hrs
          · intro j g1 g2
            simp at hrs
            have : j = 0 := by omega
            subst this
            simp [g1]
        rw [h4]
        generalize rs.getD 0 undef = u at h3
        cases h3 with
        | fn f caps us hl hr =>
          have : us = #[] := by simpa using hl
          rw [this]
      subst hrs0
      have hcl := cmp_lays encPt_ok (P := Tryd.prog) (g := 33) (caps := []) (cf := cmpP) (fun x β w F => by
        refine .agg [.int .u32 x.h, .int .i64 x.b] #[.int .u32 x.h, .int .i64 x.b] rfl (fun i hi => ?_) (fun i c hc => ?_)
        · rcases i with _ | _ | i
          · rfl
          · rfl
          · exact absurd hi (by simp)
        · rcases i with _ | _ | i
          · simp at hc; subst hc; exact .int _ _
          · simp at hc; subst hc; exact .int _ _
          · simp at hc) (fun x y => Tryd.cmpP_c x y _) hok hgl (b := b) (blk := blk) (by rw [hb2]; simp) hβ (cb := #[]) rfl (fun i c h => by simp at h) l.toArray.size
      refine (AnyQ.slices_SortFunc Tryd.laySf 2 (fun w => rfl) (fun w => rfl) (fun p : Pt => [Value.int .u32 p.h, .int .i64 p.b]) (fun _ => rfl) encPt_ok.one cmpP swo_cmp 33 #[] blk 0 cap l.toArray w Tryd.en33 hcl hH hlt (by simp; omega)).mono ?_
      rintro e w' ⟨rfl, d', n, os, hp, hs, rfl⟩
      exact ⟨d', n, os, rfl, sorted_of hp hs, rfl⟩)
  simp only [List.length_map]
  rw [show l.toArray.size = l.length by simp] at this
  refine this.mono ?_
  rintro r bx2 ⟨d', rfl, hd, rfl⟩
  rw [hd]
  refine ⟨rfl, ⟨ha.ext.upd_own hb _, (finB_upd _ _ _).2 ha.fin, .inr ⟨b, hb, by simp [hsl], upd_eq _ _ _⟩⟩, fun c hc => upd_ne _ _ (by rintro rfl; exact hc rfl)⟩
end Go.Proofs

/- Contracts: Ring. -/
set_option linter.unusedSimpArgs false
set_option linter.unusedVariables false
set_option maxRecDepth 100000
namespace Go.Proofs
open Go Go.Pl Go.Hs

theorem wrong0 {names : List Bs} {wts : List Int} {nodes : Int} (h : wrong names wts nodes = 0) : 1 ≤ names.length ∧ names.length ≤ 16 ∧ wts.length = names.length ∧ 1 ≤ nodes ∧ nodes ≤ 100 ∧ wts.any badW = false ∧ names.any badN = false ∧ names.Nodup ∧ wsum wts nodes ≤ 4096 := by
  unfold wrong at h
  by_cases h1 : names.length < 1 ∨ 16 < names.length
  · rw [if_pos h1] at h; cases h
  rw [if_neg h1] at h
  by_cases h2 : wts.length ≠ names.length
  · rw [if_pos h2] at h; cases h
  rw [if_neg h2] at h
  by_cases h3 : nodes < 1 ∨ 100 < nodes
  · rw [if_pos h3] at h; cases h
  rw [if_neg h3] at h
  by_cases h4 : wts.any badW = true
  · rw [if_pos h4] at h; cases h
  rw [if_neg h4] at h
  by_cases h5 : names.any badN = true
  · rw [if_pos h5] at h; cases h
  rw [if_neg h5] at h
  by_cases h6 : ¬ names.Nodup
  · rw [if_pos h6] at h; cases h
  rw [if_neg h6] at h
  by_cases h7 : 4096 < wsum wts nodes
  · rw [if_pos h7] at h; cases h
  exact ⟨by omega, by omega, by omega, by omega, by omega, by simpa using h4, by simpa using h5, Decidable.not_not.1 h6, by omega⟩

theorem wk_aggL {cs ds : List V} (hl : cs.length = ds.length) (h : ∀ (i : Nat) (c d : V), cs[i]? = some c → ds[i]? = some d → Wk c d) : Wk (.agg cs) (.agg ds) := by
  intro β w F u hu
  cases hu with
  | agg _ us h1 h2 h3 =>
    refine .agg ds us (h1.trans hl) (fun i hi => h2 i (by omega)) (fun i c hc => ?_)
    have hi := (List.getElem?_eq_some_iff.1 hc).1
    have hc' : cs[i]? = some (cs[i]'(by omega)) := List.getElem?_eq_getElem _
    exact h i _ _ hc' hc _ _ _ _ (h3 i _ hc')
theorem pts_len (s : Bs) (m i : Nat) : (ptsOf s m i).length = m := by simp [ptsOf]
theorem Tryd.ring_c (names : List Bs) (wts : List Int) (nodes : Int) (bx : Boxes) (hm : Mk bx) (hl : wts.length ≤ 9223372036854775807) (hl2 : names.length ≤ 9223372036854775807) :
    PureCall Tryd.prog 19 [strsV names, intsV wts, .int .i64 nodes] bx (.tup [rgV (ring names wts nodes).1, .int .i64 (ring names wts nodes).2]) := by
  refine PureCall.wk (Tryd.ctr19 fun hb => ?_)
  have c0 := fun bx => Tryd.wrong_c names wts nodes bx hl hl2
  by_cases hw : wrong names wts nodes = 0
  · have hr : ring names wts nodes = (⟨names, wts, nodes, srt (raw names wts nodes names.length)⟩, 0) := by unfold ring; rw [if_pos hw]
    obtain ⟨g1, g2, g3, g4, g5, g6, g7, g8, g9⟩ := wrong0 hw
    have c1 := fun bx => Tryd.cloneS_c names bx (by omega)
    have c2 := fun bx => Tryd.cloneI_c wts bx (by omega)
    rw [hr]
    generalize hS : srt (raw names wts nodes names.length) = S
    unfold rgV
    simp only
    simp only [strsV, intsV] at c0 c1 c2 ⊢
    simp [go_sem, Tryd.C19, hb]
    intro b6 hb6
    refine callK_pure (c0 _) ?_
    simp [go_sem, hw]
    refine callK_pure (c1 _) ?_
    simp [go_sem, hw]
    refine callK_pure (c2 _) ?_
    simp [go_sem, hw, hb]
    intro b9 hb9
    generalize hbx0 : upd bx b6 (some (Box.row 35 4 [V.agg [V.nils, V.nils, V.int IntKind.i64 0, V.nils]])) = bx0 at *
    have hf0 : FinB bx0 := by rw [← hbx0]; simp [finB_upd, hb]
    have hm0 : Mk bx0 := by rw [← hbx0]; exact mk_upd hm hb6 _
    refine pw_for (ι := V × Boxes) names.length (fun i p => Pl.Acc (upd bx0 b9 (some (Box.row 35 4 [V.agg [V.sl 1 (List.map V.str names), V.sl 1 (List.map (V.int IntKind.i64) wts), V.int IntKind.i64 nodes, p.1]]))) 57 2 ((raw names wts nodes i).map ptV) p.1 p.2 ∧ (raw names wts nodes i = [] → p.1 = .nils) ∧ (raw names wts nodes i).length ≤ 2000 * i)
      (fun i p => ⟨65, slk [(1, V.sl 1 (List.map (V.int IntKind.i64) wts)), (2, V.int IntKind.i64 nodes), (6, .ptr b6 4 0 0), (9, .ptr b9 4 0 0), (28, V.sl 1 (List.map V.str names)), (29, .int .i64 names.length), (30, .int .i64 i)], p.2⟩) (.nils, upd bx0 b9 (some (Box.row 35 4 [V.agg [V.sl 1 (List.map V.str names), V.sl 1 (List.map (V.int IntKind.i64) wts), V.int IntKind.i64 nodes, .nils]]))) ⟨acc_nil (by simp [finB_upd, hf0]) _ _, fun _ => rfl, by simp [raw]⟩ (cov_look (by simp [go_sem])) ?_ ?_
    · rintro i ⟨v, bx1⟩ hi ⟨ha, hnil, hlen⟩ N hN
      dsimp only at ha ⊢
      have hi2 : i < wts.length := by omega
      have hwi := wr_succ (k := i) (by omega)
      have hbn : badN names[i] = false := by
        have := List.any_eq_false.1 g7 names[i] (List.getElem_mem hi)
        simpa using this
      have hnl : names[i].length ≤ 32 := by
        simp [badN] at hbn; omega
      have hbw : badW wts[i] = false := by
        have := List.any_eq_false.1 g6 wts[i] (List.getElem_mem hi2)
        simpa using this
      simp [badW] at hbw
      have h4' : 0 ≤ wts[i] * nodes := Int.mul_nonneg hbw.1 (by omega)
      have h5' : wts[i] * nodes ≤ 20 * 100 := Int.mul_le_mul hbw.2 (by omega) (by omega) (by omega)
      have hmul : IntKind.i64.wrap (wts[i] * nodes) = wts[i] * nodes := wr64 (by omega)
      have e1 : names.getD i [] = names[i] := by simp [hi]
      have e2 : wts.getD i 0 = wts[i] := by simp [hi2]
      have hraw : raw names wts nodes (i + 1) = raw names wts nodes i ++ ptsOf names[i] (wts[i] * nodes).toNat i := by rw [raw, e1, e2]
      obtain ⟨m, hmm⟩ : ∃ m : Nat, wts[i] * nodes = m := ⟨(wts[i] * nodes).toNat, by omega⟩
      rw [hmm] at hmul hraw
      rw [Int.toNat_natCast] at hraw
      simp [go_sem, Tryd.L19_1, hi, hi2, ha.fin, (by omega : (names[i]).length ≤ 9223372036854775806), hmm, hmul]
      have cs : ∀ bx, PureCall Tryd.prog 9 [V.sl 1 (List.map byteV names[i] ++ [byteV 35])] bx (.int .u32 (sum32 (tagS names[i]))) := fun bx => by
        have h := Tryd.sum32_c (tagS names[i]) bx (by simp [tagS]; omega)
        have e : bytesV (tagS names[i]) = List.map byteV names[i] ++ [byteV 35] := by show (tagS names[i]).map byteV = _; simp [tagS]
        rwa [e] at h
      refine callK_pure (cs _) ?_
      simp [go_sem, hi2, hmm, hmul]
      have hL : ∀ n, n < m → (ptsOf names[i] m i).take (n + 1) = (ptsOf names[i] m i).take n ++ [⟨on32 (sum32 (tagS names[i])) (Lib.decDigits n), i⟩] := by
        intro n hn
        rw [take_snoc (by rw [pts_len]; exact hn)]
        congr 1
        simp [ptsOf, sum32, on32]
      have hpl := pts_len names[i] m i
      generalize hP : ptsOf names[i] m i = Ps at *
      generalize hR : raw names wts nodes i = Rs at *
      have hm2 : m ≤ 2000 := by omega
      refine pw_for (ι := V × Boxes) m (fun n p => Pl.Acc (upd bx0 b9 (some (Box.row 35 4 [V.agg [V.sl 1 (List.map V.str names), V.sl 1 (List.map (V.int IntKind.i64) wts), V.int IntKind.i64 nodes, p.1]]))) 57 2 ((Rs ++ Ps.take n).map ptV) p.1 p.2 ∧ (Rs ++ Ps.take n = [] → p.1 = .nils))
        (fun n p => ⟨65, slk [(1, V.sl 1 (List.map (V.int IntKind.i64) wts)), (2, V.int IntKind.i64 nodes), (6, .ptr b6 4 0 0), (9, .ptr b9 4 0 0), (10, .int .i64 i), (12, .int .u32 (sum32 (tagS names[i]))), (28, V.sl 1 (List.map V.str names)), (29, .int .i64 names.length), (30, .int .i64 i), (44, .int .i64 m), (45, .int .i64 n)], p.2⟩) (v, bx1) ⟨by simpa using ha, by simpa using hnil⟩ (cov_look (by simp [go_sem])) ?_ ?_
      · rintro n ⟨v2, bx2⟩ hn ⟨ha2, hnil2⟩ N2 hN2
        dsimp only at ha2 ⊢
        have hwn := wr_succ (k := n) (by omega)
        have hlt2 : (Rs ++ Ps.take n).length ≤ 100000 := by
          rw [List.length_append, List.length_take]; omega
        have hnew : (Rs ++ Ps.take (n + 1)).map ptV = (Rs ++ Ps.take n).map ptV ++ [ptV ⟨on32 (sum32 (tagS names[i])) (Lib.decDigits n), i⟩] := by rw [hL n hn]; simp
        have hnen : Rs ++ Ps.take (n + 1) ≠ [] := by rw [hL n hn]; simp
        generalize hE : (Rs ++ Ps.take n).map ptV = E at *
        have hEl : E.length ≤ 100000 := by rw [← hE]; simpa using hlt2
        have hmk : Mk bx2 := mk_ext (mk_upd hm0 hb9 _) ha2.ext
        have cA : PureCall Tryd.prog 31 [.nils, .int .i64 n, .int .i64 10] bx2 (.sl 1 (bytesV (Lib.decDigits n))) := by
          have := Tryd.appendInt_c hmk (n : Int) (by omega) (by omega)
          have e : Lib.itoa (n : Int) = Lib.decDigits n := by unfold Lib.itoa; rw [if_neg (by omega)]; rfl
          rwa [e] at this
        have cO := Tryd.on32_c (sum32 (tagS names[i])) (Lib.decDigits n) bx2 (by
          have := Lib.itoa_length_le (n : Int) (by omega) (by omega)
          have e : Lib.itoa (n : Int) = Lib.decDigits n := by unfold Lib.itoa; rw [if_neg (by omega)]; rfl
          rw [e] at this; omega)
        generalize bytesV (Lib.decDigits n) = bs at *
        generalize on32 (sum32 (tagS names[i])) (Lib.decDigits n) = hv at *
        generalize sum32 (tagS names[i]) = h0 at *
        simp [go_sem, Tryd.L19_0, hn, ha2.fin, ha2.at, ha2.cells, fzAt, fzb]
        refine callK_pure cA ?_
        simp [go_sem]
        refine callK_pure cO ?_
        simp [go_sem]
        refine Tryd.appP (es := E) (news := [.agg [V.int IntKind.u32 hv, V.int IntKind.i64 i]]) ha2 (Ext.refl _) ha2.fin (by simp [go_sem, srcEls]) (by simp; omega) (by omega) ?_
        intro v' bx3 ha3
        simp [go_sem, ha3.at, ha2.cells, ha3.cells, ha2.setC, ha3.okV]
        refine hN2 _ (v', upd bx3 b9 (some (Box.row 35 4 [V.agg [V.sl 1 (List.map V.str names), V.sl 1 (List.map (V.int IntKind.i64) wts), V.int IntKind.i64 nodes, v']]))) ⟨?_, fun h => absurd h hnen⟩ (cov_look (by simp [go_sem, hwn]))
        rw [hnew]
        exact ha3.put _
      · rintro ⟨v2, bx2⟩ ⟨ha2, hnil2⟩ N2
        dsimp only at ha2 hnil2 ⊢
        have hpt : Ps.take m = Ps := by rw [← hpl]; simp
        rw [hpt] at ha2 hnil2
        simp [go_sem, Tryd.L19_0]
        refine hN _ (v2, bx2) ⟨?_, ?_, ?_⟩ (cov_look (by simp [go_sem, hwi]))
        · rw [hraw]; exact ha2
        · rw [hraw]; exact hnil2
        · rw [hraw, List.length_append]; omega
    · rintro ⟨v, bx1⟩ ⟨ha, hnil, hlen⟩ N
      dsimp only at ha hnil ⊢
      generalize hR : raw names wts nodes names.length = Rs at *
      simp [go_sem, Tryd.L19_1, ha.at, ha.cells, ha.strip, ha.live]
      have hso := Tryd.sortP_c ha hnil (by omega)
      refine callK_abs hso ?_
      rintro r bx2 ⟨rfl, ha2, _⟩
      rw [hS] at ha2
      have hb69 : b6 ≠ b9 := by
        rintro rfl
        rw [← hbx0, upd_eq] at hb9; cases hb9
      have h6 : bx2 b6 = some (Box.row 35 4 [V.agg [V.nils, V.nils, V.int IntKind.i64 0, V.nils]]) := by
        rw [ha2.ext b6 (by rw [upd_ne _ _ hb69, ← hbx0, upd_eq]; simp), upd_ne _ _ hb69, ← hbx0, upd_eq]
      simp [go_sem, ha2.at, ha2.cells, h6, ha2.okV]
      have hx0 : Ext bx bx0 := by rw [← hbx0]; exact (Ext.refl _).new hb6 _
      have hx : Ext bx bx2 := hx0.trans (((Ext.refl _).new hb9 _).trans ha2.ext)
      generalize hX : (some (Box.row 35 4 [V.agg [V.sl 1 (List.map V.str names), V.sl 1 (List.map (V.int IntKind.i64) wts), V.int IntKind.i64 nodes, v]])) = X
      have hfr : Wk (frz (upd bx2 b6 X) bx 1 v) (ptsV S) := by
        rcases ha2.is with ⟨h1, rfl⟩ | ⟨b, hb', rfl, hb2⟩
        · exact wk_nil' h1
        · have hne : b ≠ b9 := by rintro rfl; rw [upd_eq] at hb'; cases hb'
          rw [upd_ne _ _ hne] at hb'
          have hne6 : b ≠ b6 := by rintro rfl; rw [← hbx0, upd_eq] at hb'; cases hb'
          have hbb : bx b = none := by rwa [← hbx0, upd_ne _ _ hne6] at hb'
          rw [frz_own1 (by rw [upd_ne _ _ hne6]; exact hb2) hbb (by decide) rfl]
          exact Wk.refl _
      subst hX
      refine ret_frz 3 (by simp [go_sem]) (hx.upd_own hb6 _) ⟨?_, rfl⟩
      simp [go_sem]
      refine wk_tup2 (wk_aggL rfl ?_) (Wk.refl _)
      intro j c d hc hd
      rcases j with _ | _ | _ | _ | j
      · simp [frz] at hc hd; subst hc hd; exact Wk.refl _
      · simp [frz] at hc hd; subst hc hd; exact Wk.refl _
      · simp [frz] at hc hd; subst hc hd; exact Wk.refl _
      · simp [frz] at hc hd; subst hc hd; exact hfr
      · simp at hd
  · have hr : ring names wts nodes = (none_, wrong names wts nodes) := by unfold ring; rw [if_neg hw]
    rw [hr]
    unfold rgV none_
    simp only
    simp only [strsV, intsV, ptsV] at c0 ⊢
    simp [go_sem, Tryd.C19, hb]
    intro b6 hb6
    refine callK_pure (c0 _) ?_
    simp [go_sem, hw]
    refine ret_drop (by simp [go_sem]) ((Ext.refl _).new hb6 _) ⟨?_, rfl⟩
    simp [go_sem]
    refine wk_tup2 (wk_aggL rfl ?_) (Wk.refl _)
    intro j c d hc hd
    rcases j with _ | _ | _ | _ | j
    · simp at hc hd; subst hc hd; exact wk_nils _
    · simp at hc hd; subst hc hd; exact wk_nils _
    · simp at hc hd; subst hc hd; exact Wk.refl _
    · simp at hc hd; subst hc hd; exact wk_nils _
    · simp at hd
end Go.Proofs

/- Contracts: Check, Weigh, find. -/
set_option linter.unusedSimpArgs false
set_option linter.unusedVariables false
set_option maxRecDepth 100000
namespace Go.Proofs
open Go Go.Pl Go.Hs

theorem Tryd.equalP_c (a b : List Pt) (bx : Boxes) (ha : a.length ≤ 1000000) : PureCall Tryd.prog 27 [ptsV a, ptsV b] bx (.bool (decide (a = b))) := by
  refine Tryd.ctr27 fun hb => ?_
  unfold ptsV
  by_cases hl : ¬ a.length = b.length
  · have hab : a ≠ b := by rintro rfl; exact hl rfl
    simp [go_sem, Tryd.C27, hb]
    refine ⟨fun _ => ?_, fun h => absurd h (by omega)⟩
    refine ret_pure ?_ ?_ <;> simp [go_sem, hab]
  have hl : a.length = b.length := Decidable.not_not.1 hl
  simp [go_sem, Tryd.C27, hb, hl]
  refine pw_find a.length (fun k => decide (a[k]? ≠ b[k]?)) (fun k => ⟨26, slk [(0, .sl 2 (a.map ptV)), (1, .sl 2 (b.map ptV)), (12, .int .i64 a.length), (13, .int .i64 k)], bx⟩) (cov_look (by simp [go_sem, hl])) ?_ ?_
  · intro k hk hpre N hN
    have hk2 : k < b.length := by omega
    have hw := wr_succ (k := k) (by omega)
    simp [go_sem, Tryd.L27_0, hk, hk2, ptV]
    have hab : ¬ (a[k].h = b[k].h ∧ a[k].b = b[k].b) → a ≠ b := fun h he => h (by subst he; exact ⟨rfl, rfl⟩)
    refine ⟨fun h => ret_pure ?_ ?_, fun h1 h2 => hN _ ?_ (cov_look (by simp [go_sem, hw, ptV]))⟩
    · simp [go_sem]
    · have := hab (by rintro ⟨h1, h2⟩; rcases h with h | h <;> contradiction)
      simp [go_sem, this]
    · have : a[k] = b[k] := by
        generalize a[k] = x at *
        generalize b[k] = y at *
        obtain ⟨x1, x2⟩ := x
        obtain ⟨y1, y2⟩ := y
        simp_all
      simp [hk, hk2, this]
  · intro hpre N
    have hab : a = b := by
      apply List.ext_getElem? 
      intro i
      by_cases hi : i < a.length
      · have := hpre i hi; simpa using this
      · rw [List.getElem?_eq_none (by omega), List.getElem?_eq_none (by omega)]
    simp [go_sem, Tryd.L27_0]
    refine ret_pure ?_ ?_ <;> simp [go_sem, hab]

/-- A call that is handed frozen what it is handed as one's own; boxes are given up. -/
theorem abs_drop {P : Program} {f : FuncId} {args : List V} {bx bx0 : Boxes} {Kc : V → Boxes → Prop} (d : Nat) (hs : SubBx bx bx0) (h : AbsCall P f (args.map (frz bx bx0 d)) bx0 Kc) : AbsCall P f args bx Kc := by
  refine ⟨h.1, fun β M w vs hok hgl hvs hrep => ?_⟩
  refine (h.2 β M w vs (hok.sub hs) (hgl.imp fun _ _ hh => hs.rep hh) (by simpa using hvs) fun i c hc => ?_).mono ?_
  · rw [List.getElem?_map, Option.map_eq_some_iff] at hc
    obtain ⟨c0, hc0, rfl⟩ := hc
    exact frz_rep hok hs d _ _ (hrep i c0 hc0)
  · rintro e w' ⟨v, r, bx', β', rfl, hk, hok', htr, hr⟩
    exact ⟨v, r, bx', β', rfl, hk, hok', hs.tr.trans htr, hr⟩

theorem wk_none (x : V) : Wk (.tup [.agg [.nils, .nils, .int .i64 0, .nils], x]) (.tup [.agg [.sl 1 [], .sl 1 [], .int .i64 0, .sl 2 []], x]) := by
  refine wk_tup2 (wk_aggL rfl ?_) (Wk.refl _)
  intro j c d hc hd
  rcases j with _ | _ | _ | _ | j
  · simp at hc hd; subst hc hd; exact wk_nils _
  · simp at hc hd; subst hc hd; exact wk_nils _
  · simp at hc hd; subst hc hd; exact Wk.refl _
  · simp at hc hd; subst hc hd; exact wk_nils _
  · simp at hd
theorem check0 {r : Rg} (h : check r = 0) : wrong r.names r.wts r.nodes = 0 ∧ r.pts = srt (raw r.names r.wts r.nodes r.names.length) := by
  unfold check ring at h
  by_cases hw : wrong r.names r.wts r.nodes = 0
  · rw [if_pos hw] at h
    simp only [true_and] at h
    refine ⟨hw, ?_⟩
    split at h
    · cases h
    · rename_i h2
      simpa [eq_comm] using h2
  · rw [if_neg hw] at h
    simp only at h
    split at h
    · cases h
    · exact absurd h hw
theorem raw_le {names : List Bs} {wts : List Int} {nodes : Int} (h : wrong names wts nodes = 0) : ∀ k, k ≤ names.length → (raw names wts nodes k).length ≤ 2000 * k := by
  obtain ⟨g1, g2, g3, g4, g5, g6, g7, g8, g9⟩ := wrong0 h
  intro k
  induction k with
  | zero => intro _; simp [raw]
  | succ k ih =>
    intro hk
    have := ih (by omega)
    rw [raw, List.length_append, pts_len]
    have hi2 : k < wts.length := by omega
    have hbw : badW wts[k] = false := by
      have := List.any_eq_false.1 g6 wts[k] (List.getElem_mem hi2)
      simpa using this
    simp [badW] at hbw
    have h4' : 0 ≤ wts[k] * nodes := Int.mul_nonneg hbw.1 (by omega)
    have h5' : wts[k] * nodes ≤ 20 * 100 := Int.mul_le_mul hbw.2 (by omega) (by omega) (by omega)
    have e2 : wts.getD k 0 = wts[k] := by simp [hi2]
    rw [e2]; omega
theorem ring_le (names : List Bs) (wts : List Int) (nodes : Int) : (ring names wts nodes).1.pts.length ≤ 32000 := by
  unfold ring
  split
  · rename_i h
    have := raw_le h names.length (Nat.le_refl _)
    have := (wrong0 h).2.1
    simp [srt]; omega
  · simp [none_]
theorem Tryd.check_c (r : Rg) (bx : Boxes) (hm : Mk bx) (hl : r.wts.length ≤ 9223372036854775807) (hl2 : r.names.length ≤ 9223372036854775807) :
    PureCall Tryd.prog 18 [rgV r] bx (.int .i64 (check r)) := by
  refine Tryd.ctr18 fun hb => ?_
  have c0 := Tryd.ring_c r.names r.wts r.nodes bx hm hl hl2
  have hpl : (ring r.names r.wts r.nodes).1.pts.length ≤ 1000000 := by have := ring_le r.names r.wts r.nodes; omega
  have c1 := fun bx => Tryd.equalP_c (ring r.names r.wts r.nodes).1.pts r.pts bx hpl
  unfold check
  generalize hR : ring r.names r.wts r.nodes = R at *
  obtain ⟨x, e⟩ := R
  simp only [rgV, strsV, intsV, ptsV] at c0 c1 ⊢
  simp [go_sem, Tryd.C18, hb]
  refine callK_pure c0 ?_
  simp [go_sem, hb]
  intro b3 hb3
  by_cases he : e = 0
  · simp [go_sem, hb, he, upd_self hb3]
    refine gK_pure (c1 _) (by simp) (by simp [go_sem]) ?_
    simp [go_sem]
    refine ⟨fun h => ?_, fun h => ?_⟩
    · refine ret_pure ?_ ?_ <;> simp [go_sem, h]
    · refine ret_pure ?_ ?_ <;> simp [go_sem, h]
  · simp [go_sem, hb, he, upd_self hb3]
    refine gK_off (.bool false) (by simp [go_sem]) ?_
    simp [go_sem]
    refine ret_pure ?_ ?_ <;> simp [go_sem]

set_option maxHeartbeats 400000 in
theorem Tryd.weigh_c (r : Rg) (k w : Int) (bx : Boxes) (hm : Mk bx) (hl : r.wts.length ≤ 9223372036854775807) (hl2 : r.names.length ≤ 9223372036854775807) :
    PureCall Tryd.prog 21 [rgV r, .int .i64 k, .int .i64 w] bx (.tup [rgV (weigh r k w).1, .int .i64 (weigh r k w).2]) := by
  refine PureCall.wk (Tryd.ctr21 fun hb => ?_)
  have c0 := fun bx hm => Tryd.check_c r bx hm hl hl2
  by_cases h1 : check r ≠ 0
  · have hw : weigh r k w = (none_, check r) := by unfold weigh; rw [if_pos h1]
    rw [hw]
    simp only [rgV, strsV, intsV, ptsV, none_] at c0 ⊢
    simp [go_sem, Tryd.C21, hb]
    intro b6 hb6
    refine callK_pure (c0 _ (mk_upd hm hb6 _)) ?_
    simp [go_sem, h1, hb]
    refine ret_drop (by simp [go_sem]) ((Ext.refl _).new hb6 _) ⟨?_, rfl⟩
    simp [go_sem]
    exact wk_none _
  have h1 : check r = 0 := Decidable.not_not.1 h1
  obtain ⟨g1, g2, g3, g4, g5, g6, g7, g8, g9⟩ := wrong0 (check0 h1).1
  by_cases h2 : k < 0 ∨ (r.names.length : Int) ≤ k
  · have hw : weigh r k w = (none_, 2) := by unfold weigh; rw [if_neg (by simpa using h1), if_pos h2]
    have h3 : (decide (k < 0) || decide ((r.names.length : Int) ≤ k)) = true := by simpa using h2
    rw [hw]
    simp only [rgV, strsV, intsV, ptsV, none_] at c0 ⊢
    simp [go_sem, Tryd.C21, hb]
    intro b6 hb6
    refine callK_pure (c0 _ (mk_upd hm hb6 _)) ?_
    simp [go_sem, h1, hb, h3]
    refine ret_drop (by simp [go_sem]) ((Ext.refl _).new hb6 _) ⟨?_, rfl⟩
    simp [go_sem]
    exact wk_none _
  have h3 : (decide (k < 0) || decide ((r.names.length : Int) ≤ k)) = false := by simpa using h2
  have hw : weigh r k w = ring r.names (r.wts.set k.toNat w) r.nodes := by unfold weigh; rw [if_neg (by simpa using h1), if_neg h2]
  obtain ⟨kn, rfl⟩ : ∃ kn : Nat, k = kn := ⟨k.toNat, by omega⟩
  rw [hw]
  have c1 := fun bx => Tryd.cloneI_a r.wts bx (by omega)
  have c2 := fun bx hm => Tryd.ring_c r.names (r.wts.set kn w) r.nodes bx hm (by simp; omega) hl2
  rw [Int.toNat_natCast]
  generalize ring r.names (r.wts.set kn w) r.nodes = R at *
  simp only [rgV, strsV, intsV, ptsV] at c0 c1 c2 ⊢
  simp [go_sem, Tryd.C21, hb]
  intro b6 hb6
  refine callK_pure (c0 _ (mk_upd hm hb6 _)) ?_
  have h5 : ¬ (r.names.length ≤ kn) := by omega
  have h5' : ¬ ((r.names.length : Int) ≤ kn) := by omega
  have h5n : ¬ ((kn : Int) < 0) := by omega
  simp [go_sem, h1, hb, h5, h5', h5n]
  refine callK_abs (c1 _) ?_
  intro v bx1 ha
  dsimp only at ha
  have hne : r.wts.map (V.int .i64) ≠ [] := by
    intro h; have := congrArg List.length h; simp at this; rw [this] at g3; simp at g3; omega
  obtain ⟨bw, hbw, rfl, hbw2⟩ := ha.row hne
  have hkn : kn < r.wts.length := by omega
  have hne6 : b6 ≠ bw := by rintro rfl; rw [upd_eq] at hbw; cases hbw
  rw [upd_ne _ _ (Ne.symm hne6)] at hbw
  have h6 : bx1 b6 = some (Box.row 35 4 [V.agg [V.nils, V.nils, V.int IntKind.i64 0, V.nils]]) := by
    rw [ha.ext b6 (by rw [upd_eq]; simp), upd_eq]
  have hx1 : Ext bx bx1 := ((Ext.refl _).new hb6 _).trans ha.ext
  have hx2 : Ext bx (upd bx1 bw none) := hx1.upd_own hbw _
  simp [go_sem, hbw2, hkn]
  generalize hX : (List.map (V.int IntKind.i64) r.wts).set kn (V.int IntKind.i64 w) = X
  have hXl : r.wts.length = X.length := by rw [← hX]; simp
  have hXe : X = List.map (V.int IntKind.i64) (r.wts.set kn w) := by rw [← hX, List.map_set]
  have hfin : AbsCall Tryd.prog 19 [V.sl 1 (List.map V.str r.names), V.own bw 1 0 r.wts.length, V.int IntKind.i64 r.nodes] (upd bx1 bw (some (Box.row 3 1 X))) (fun r' bx' => r' = V.tup [V.agg [V.sl 1 (List.map V.str R.fst.names), V.sl 1 (List.map (V.int IntKind.i64) R.fst.wts), V.int IntKind.i64 R.fst.nodes, V.sl 2 (List.map ptV R.fst.pts)], V.int IntKind.i64 R.snd] ∧ bx' = upd bx1 bw none) := by
    refine abs_drop 1 (bx0 := upd bx1 bw none) (fun q => ?_) ?_
    · by_cases e : q = bw
      · subst e; exact .inl (upd_eq _ _ _)
      · exact .inr (by rw [upd_ne _ _ e, upd_ne _ _ e])
    · rw [List.map_cons, List.map_cons, List.map_cons, List.map_nil, frz_own1 (upd_eq _ _ _) (upd_eq _ _ _) (by decide) hXl]
      show AbsCall _ _ [V.sl 1 (List.map V.str r.names), _, V.int IntKind.i64 r.nodes] _ _
      rw [hXe]
      exact c2 _ (mk_ext hm hx2)
  refine callK_abs hfin ?_
  rintro r' bx' ⟨rfl, rfl⟩
  have h6n : upd bx1 bw none b6 = some (Box.row 35 4 [V.agg [V.nils, V.nils, V.int IntKind.i64 0, V.nils]]) := by rw [upd_ne _ _ hne6]; exact h6
  simp [go_sem, h6n]
  refine ret_drop (by simp [go_sem]) (hx2.upd_own hb6 _) ⟨?_, rfl⟩
  simp [go_sem]
  exact Wk.refl _
end Go.Proofs

/- Contracts: what a hash finds. -/
set_option linter.unusedSimpArgs false
set_option linter.unusedVariables false
set_option maxRecDepth 100000
namespace Go.Proofs
open Go Go.Pl Go.Hs

def bsI (l : List Pt) (h : Int) : Nat := match l.findIdx? fun p => decide (h ≤ p.h) with
  | some i => i
  | none => l.length
theorem bsI_eq {l : List Pt} {h : Int} {i : Nat} (hi : i ≤ l.length) (h1 : ∀ p, (hp : p < l.length) → p < i → l[p].h < h) (h2 : ∀ p, (hp : p < l.length) → i ≤ p → h ≤ l[p].h) : bsI l h = i := by
  unfold bsI
  cases hf : l.findIdx? fun p => decide (h ≤ p.h) with
  | none =>
    rw [List.findIdx?_eq_none_iff] at hf
    rcases Nat.lt_or_ge i l.length with h3 | h3
    · have := hf _ (List.getElem_mem h3)
      have := h2 i h3 (Nat.le_refl _)
      simp at *; omega
    · simp only; omega
  | some k =>
    obtain ⟨hk, g1, g2⟩ := List.findIdx?_eq_some_iff_getElem.1 hf
    simp at g1
    simp only
    rcases Nat.lt_trichotomy k i with h3 | h3 | h3
    · have := h1 k hk h3; omega
    · exact h3
    · have := g2 i h3
      have h4 := h2 i (by omega) (Nat.le_refl _)
      simp at this; omega
theorem Tryd.bs_c (l : List Pt) (h : Int) (bx : Boxes) (hl : l.length ≤ 1000000) (hs : l.Pairwise fun a b => a.h ≤ b.h) :
    PureCall Tryd.prog 56 [ptsV l, .int .u32 h, .fn (.func 57) []] bx (.tup [.int .i64 (bsI l h), .bool (match l[bsI l h]? with | some p => decide (p.h = h) | none => false)]) := by
  refine Tryd.ctr56 fun hb => ?_
  unfold ptsV
  simp [go_sem, Tryd.C56, hb]
  refine pw_loop (ι := Nat × Nat) (fun p => p.1 ≤ p.2 ∧ p.2 ≤ l.length ∧ (∀ q, (hq : q < l.length) → q < p.1 → l[q].h < h) ∧ (∀ q, (hq : q < l.length) → p.2 ≤ q → h ≤ l[q].h))
    (fun p => ⟨49, slk [(0, .sl 2 (l.map ptV)), (1, .int .u32 h), (2, .fn (.func 57) []), (8, .int .i64 l.length), (9, .int .i64 p.1), (10, .int .i64 p.2)], bx⟩) (fun p => p.2 - p.1) (0, l.length) ⟨by simp, by simp, fun q _ h => by omega, fun q hq h => by dsimp only at h; omega⟩ (cov_look (by simp [go_sem])) ?_
  rintro ⟨i, j⟩ ⟨h1, h2, h3, h4⟩
  dsimp only at h1 h2 h3 h4 ⊢
  by_cases hlt : i < j
  · obtain ⟨m, hmd⟩ : ∃ m, m = (i + j) / 2 := ⟨_, rfl⟩
    have hm : m < l.length := by omega
    have hmid : IntKind.i64.wrap ((IntKind.u64.wrap ((i : Int) + j)).fdiv 2) = (m : Int) := by
      rw [wru64 (by omega), Int.fdiv_eq_ediv_of_nonneg _ (by omega), wr64 (by omega)]; omega
    have hw1 : IntKind.i64.wrap ((i : Int) + j) = (i : Int) + j := wr64 (by omega)
    have hwm := wr_succ (k := m) (by omega)
    simp [go_sem, Tryd.L56_0, hlt, hb, hw1, hmid, hm, ptV]
    refine callK_pure (Tryd.cmph_c l[m] h bx) ?_
    have mono : ∀ p q, (hq : q < l.length) → (hpq : p ≤ q) → (l[p]'(by omega)).h ≤ l[q].h := fun p q hq hpq => by
      rcases Nat.lt_or_ge p q with h5 | h5
      · exact List.pairwise_iff_getElem.1 hs p q (by omega) hq h5
      · have : p = q := by omega
        subst this; exact Int.le_refl _
    have hcm : (cmpI l[m].h h < 0) ↔ l[m].h < h := by
      unfold cmpI; split
      · simp_all
      · split <;> simp_all
    simp [go_sem, hcm]
    refine ⟨fun h5 => ⟨(m + 1, j), ⟨by dsimp only; omega, h2, fun q hq hqm => ?_, h4⟩, cov_look (by simp [go_sem, hwm, ptV]), by dsimp only; omega⟩, fun h5 => ⟨(i, m), ⟨by dsimp only; omega, by dsimp only; omega, h3, fun q hq hqm => ?_⟩, cov_look (by simp [go_sem, ptV]), by dsimp only; omega⟩⟩
    · have := mono q m hm (by dsimp only at hqm; omega); omega
    · have := mono m q hq hqm; omega
  · obtain rfl : i = j := by omega
    have hbi := bsI_eq h2 h3 h4
    rw [hbi]
    simp [go_sem, Tryd.L56_0]
    by_cases h5 : i < l.length
    · simp [go_sem, h5, hb, ptV]
      refine gK_pure (Tryd.cmph_c l[i] h bx) (by simp) (by simp [go_sem]) ?_
      have hcm : (cmpI l[i].h h = 0) ↔ l[i].h = h := by
        unfold cmpI; split
        · simp; omega
        · split
          · simp; omega
          · simp; omega
      simp [go_sem]
      refine ret_pure ?_ ?_ <;> simp [go_sem, hcm]
    · simp [go_sem, h5, hb]
      refine gK_off (.int .i64 0) (by simp [go_sem]) ?_
      simp [go_sem]
      refine ret_pure ?_ ?_ <;> simp [go_sem]
theorem first_eq (r : Rg) (h : Int) : first r h = if bsI r.pts h = r.pts.length then 0 else bsI r.pts h := by
  unfold first bsI
  cases hf : r.pts.findIdx? fun p => decide (h ≤ p.h) with
  | none => simp
  | some i =>
    have := (List.findIdx?_eq_some_iff_getElem.1 hf).1
    simp only
    rw [if_neg (by omega)]
theorem srt_h {l : List Pt} : (srt l).Pairwise fun a b => a.h ≤ b.h := (srt_pair l).imp fun {a b} h => by simp [ple] at h; omega
theorem Tryd.find_c (r : Rg) (h : Int) (bx : Boxes) (hl : r.pts.length ≤ 1000000) (hs : r.pts.Pairwise fun a b => a.h ≤ b.h) :
    PureCall Tryd.prog 38 [rgV r, .int .u32 h] bx (.int .i64 (first r h)) := by
  refine Tryd.ctr38 fun hb => ?_
  have c0 := fun bx => Tryd.bs_c r.pts h bx hl hs
  rw [first_eq]
  simp only [rgV, strsV, intsV, ptsV] at c0 ⊢
  simp [go_sem, Tryd.C38, hb]
  refine callK_pure (c0 _) ?_
  simp [go_sem]
  refine ⟨fun h1 => ret_pure ?_ ?_, fun h1 => ret_pure ?_ ?_⟩
  · simp [go_sem]
  · have h1' : bsI r.pts h = r.pts.length := by omega
    simp [go_sem, h1']
  · simp [go_sem]
  · have h1' : ¬ bsI r.pts h = r.pts.length := by omega
    simp [go_sem, h1']
theorem Tryd.longK_c (s : Bs) (bx : Boxes) : PureCall Tryd.prog 55 [.str s] bx (.bool (decide (200 < s.length))) := by
  refine Tryd.ctr55 fun hb => ?_
  simp [go_sem, Tryd.C55]
  refine ret_pure ?_ ?_ <;> simp [go_sem]
  omega
def askE (r : Rg) (keys : List Bs) : Int :=
  if check r ≠ 0 then check r else if keys.any (fun k => decide (200 < k.length)) = true then 3 else if r.pts.length = 0 then 4 else 0
theorem Tryd.ask_c (r : Rg) (keys : List Bs) (bx : Boxes) (hm : Mk bx) (hl : r.wts.length ≤ 9223372036854775807) (hl2 : r.names.length ≤ 9223372036854775807) (hk : keys.length ≤ 1000000) :
    PureCall Tryd.prog 37 [rgV r, strsV keys] bx (.int .i64 (askE r keys)) := by
  refine Tryd.ctr37 fun hb => ?_
  have c0 := Tryd.check_c r bx hm hl hl2
  have c1 := Tryd.anyS_c 55 (fun s => decide (200 < s.length)) keys bx hk (fun x bx => Tryd.longK_c x bx)
  unfold askE
  generalize hc : check r = c at *
  cases ha : keys.any (fun k => decide (200 < k.length))
  all_goals
    rw [ha] at c1
    simp only [rgV, strsV, intsV, ptsV] at c0 c1 ⊢
    simp [go_sem, Tryd.C37, hb]
    refine callK_pure c0 ?_
    simp [go_sem]
    refine ⟨fun h => ?_, fun h => ?_⟩
    · refine ret_pure ?_ ?_ <;> simp [go_sem, h]
    refine callK_pure c1 ?_
    simp [go_sem, hb]
  · refine ⟨fun h2 => ?_, fun h2 => ?_⟩
    · refine ret_pure ?_ ?_ <;> simp [go_sem, h, h2]
    · refine ret_pure ?_ ?_ <;> simp [go_sem, h, h2]
  · refine ret_pure ?_ ?_ <;> simp [go_sem, h]
end Go.Proofs

/- Contracts: Find, Order. -/
set_option linter.unusedSimpArgs false
set_option linter.unusedVariables false
set_option maxRecDepth 100000
namespace Go.Proofs
open Go Go.Pl Go.Hs

theorem Tryd.concat_c (a c : List Pt) {b : Nat} {ty : TypeId} {bx : Boxes} (hb2 : bx b = some (.row ty 1 [ptsV a, ptsV c])) (ha : a.length ≤ 400000) (hc : c.length ≤ 400000) :
    PureCall Tryd.prog 39 [.own b 1 0 2] bx (ptsV (a ++ c)) := by
  refine pure_acc (e := 57) (Tryd.ctr39 fun hb => ?_) (by decide)
  simp [go_sem, Tryd.C39, hb]
  refine pw_upto 2 (fun k => ⟨36, slk [(0, .own b 1 0 2), (3, .int .i64 (if k = 0 then 0 else if k = 1 then (a.length : Int) else (a.length : Int) + c.length)), (9, .own b 1 0 2), (10, .int .i64 2), (11, .int .i64 k)], bx⟩) (cov_look (by simp [go_sem])) ?_ ?_
  · intro k hk N hN
    rcases (by omega : k = 0 ∨ k = 1) with rfl | rfl
    · have hwa : IntKind.i64.wrap (a.length : Int) = a.length := wr64 (by omega)
      have h0 : ¬ ((a.length : Int) < 0) := by omega
      simp [go_sem, Tryd.L39_0, hb2, ptsV, hwa, h0]
      exact hN _ (cov_look (by simp [go_sem, wr64]))
    · have hwa : IntKind.i64.wrap ((a.length : Int) + c.length) = (a.length : Int) + c.length := wr64 (by omega)
      have h0 : ¬ ((a.length : Int) + c.length < 0) := by omega
      simp [go_sem, Tryd.L39_0, hb2, ptsV, hwa, h0]
      exact hN _ (cov_look (by simp [go_sem, wr64]))
  · intro N
    have hg := Tryd.growP_c (a.length + c.length) bx (by omega) hb
    rw [Int.natCast_add] at hg
    simp [go_sem, Tryd.L39_0]
    refine callK_abs hg ?_
    intro v bx1 hacc
    have hb3 : bx1 b = some (.row ty 1 [ptsV a, ptsV c]) := by rw [hacc.ext b (by rw [hb2]; simp)]; exact hb2
    simp [go_sem, hacc.cells]
    refine pw_for (ι := V × Boxes) 2 (fun k p => Pl.Acc bx 57 2 ((if k = 0 then [] else if k = 1 then a else a ++ c).map ptV) p.1 p.2)
      (fun k p => ⟨36, slk [(6, p.1), (25, .own b 1 0 2), (26, .int .i64 2), (27, .int .i64 k)], p.2⟩) (v, bx1) (by simpa using hacc) (cov_look (by simp [go_sem])) ?_ ?_
    · rintro k ⟨v2, bx2⟩ hk ha2 N2 hN2
      dsimp only at ha2 ⊢
      have hb4 : bx2 b = some (.row ty 1 [ptsV a, ptsV c]) := by rw [ha2.ext b (by rw [hb2]; simp)]; exact hb2
      rcases (by omega : k = 0 ∨ k = 1) with rfl | rfl
      · simp at ha2
        simp [go_sem, Tryd.L39_1, hb4, ptsV, ha2.cells]
        refine Tryd.appP (es := []) (news := a.map ptV) ha2 (Ext.refl _) ha2.fin (by simp [go_sem, srcEls]) (by simp; omega) (by omega) ?_
        intro v' bx3 ha3
        simp [go_sem, ha3.cells]
        exact hN2 _ (v', bx3) (by simpa using ha3) (cov_look (by simp [go_sem, wr64]))
      · simp at ha2
        simp [go_sem, Tryd.L39_1, hb4, ptsV, ha2.cells]
        refine Tryd.appP (es := a.map ptV) (news := c.map ptV) ha2 (Ext.refl _) ha2.fin (by simp [go_sem, srcEls]) (by simp; omega) (by omega) ?_
        intro v' bx3 ha3
        simp [go_sem, ha3.cells]
        exact hN2 _ (v', bx3) (by simpa using ha3) (cov_look (by simp [go_sem, wr64]))
    · rintro ⟨v2, bx2⟩ ha2 N2
      dsimp only at ha2 ⊢
      simp [go_sem, Tryd.L39_1, ha2.cells]
      exact ret_pure (by simp [go_sem]) (by simpa [go_sem] using ha2)

theorem Tryd.indexN_c (l : List Int) (x : Int) (bx : Boxes) (hl : l.length ≤ 1000000) : PureCall Tryd.prog 59 [intsV l, .int .i64 x] bx (.int .i64 (fiI (fun y => decide (x = y)) l)) := by
  refine Tryd.ctr59 fun hb => ?_
  unfold intsV
  simp [go_sem, Tryd.C59, hb]
  refine pw_find l.length (hitAt (fun y => decide (x = y)) l) (fun k => ⟨19, slk [(0, .sl 1 (l.map (.int .i64))), (1, .int .i64 x), (7, .int .i64 l.length), (8, .int .i64 k)], bx⟩) (cov_look (by simp [go_sem])) ?_ ?_
  · intro k hk hpre N hN
    have hw := wr_succ (k := k) (by omega)
    simp [go_sem, Tryd.L59_0, hk, hb]
    refine ⟨fun h => ret_pure ?_ ?_, fun h => hN _ (by simp [hitAt_at hk, h]) (cov_look (by simp [go_sem, hw]))⟩ <;> simp [go_sem, fiI_hit hk (by simpa using h) hpre]
  · intro hpre N
    simp [go_sem, Tryd.L59_0]
    refine ret_pure ?_ ?_ <;> simp [go_sem, fiI_miss hpre]
theorem Tryd.containsN_c (l : List Int) (x : Int) (bx : Boxes) (hl : l.length ≤ 1000000) : PureCall Tryd.prog 40 [intsV l, .int .i64 x] bx (.bool (decide (x ∈ l))) := by
  refine Tryd.ctr40 fun hb => ?_
  have c0 := Tryd.indexN_c l x bx hl
  have hany : l.any (fun y => decide (x = y)) = decide (x ∈ l) := by
    rw [Bool.eq_iff_iff]; simp [List.any_eq_true]
  simp only [intsV] at c0 ⊢
  simp [go_sem, Tryd.C40, hb]
  refine callK_pure c0 ?_
  simp [go_sem]
  refine ret_pure ?_ ?_ <;> simp [go_sem, fiI_any, hany]

theorem askE_one (r : Rg) (key : Bs) : askE r [key] = asked r key := by simp [askE, asked]
theorem Tryd.Find_c (r : Rg) (key : Bs) (bx : Boxes) (hm : Mk bx) (hl : r.wts.length ≤ 9223372036854775807) (hl2 : r.names.length ≤ 9223372036854775807) :
    PureCall Tryd.prog 20 [rgV r, .str key] bx (.tup [.int .i64 (find r key).1, .int .i64 (find r key).2]) := by
  refine Tryd.ctr20 fun hb => ?_
  have c0 := Tryd.ask_c r [key] bx hm hl hl2 (by simp)
  rw [askE_one] at c0
  by_cases he : asked r key ≠ 0
  · have hf : find r key = (0, asked r key) := by unfold find; rw [if_pos he]
    rw [hf]
    simp only [rgV, strsV, intsV, ptsV] at c0 ⊢
    simp [go_sem, Tryd.C20, hb]
    refine callK_pure c0 ?_
    simp [go_sem, he]
    refine ret_pure ?_ ?_ <;> simp [go_sem]
  have he : asked r key = 0 := Decidable.not_not.1 he
  have hf : find r key = (backAt r (first r (sum32 key)), 0) := by unfold find; rw [if_neg (by simpa using he)]
  have hch : check r = 0 := by
    unfold asked at he
    by_cases h : check r ≠ 0
    · rw [if_pos h] at he; exact he
    · exact Decidable.not_not.1 h
  have hkl : key.length ≤ 200 := by
    unfold asked at he
    rw [if_neg (by simpa using hch)] at he
    by_cases h : 200 < key.length
    · rw [if_pos h] at he; cases he
    · omega
  have hpl : 0 < r.pts.length := by
    unfold asked at he
    rw [if_neg (by simpa using hch), if_neg (by omega)] at he
    by_cases h : r.pts.length = 0
    · rw [if_pos h] at he; cases he
    · omega
  have hpe := (check0 hch).2
  have hpm : r.pts.length ≤ 32000 := by
    have := ring_le r.names r.wts r.nodes
    unfold ring at this
    rw [if_pos (check0 hch).1] at this
    rw [hpe]; exact this
  have hso : r.pts.Pairwise fun a b => a.h ≤ b.h := by rw [hpe]; exact srt_h
  have c1 : PureCall Tryd.prog 9 [.sl 1 (key.map byteV)] bx (.int .u32 (sum32 key)) := Tryd.sum32_c key bx (by omega)
  have c2 := Tryd.find_c r (sum32 key) bx (by omega) hso
  have hfl : first r (sum32 key) < r.pts.length := by
    rw [first_eq]
    split
    · exact hpl
    · rename_i h
      have : bsI r.pts (sum32 key) ≤ r.pts.length := by
        unfold bsI
        split
        · rename_i i hi
          exact Nat.le_of_lt (List.findIdx?_eq_some_iff_getElem.1 hi).1
        · exact Nat.le_refl _
      omega
  rw [hf]
  have hba : backAt r (first r (sum32 key)) = (r.pts[first r (sum32 key)]).b := by simp [backAt, hfl]
  rw [hba]
  generalize first r (sum32 key) = fi at *
  simp only [rgV, strsV, intsV, ptsV] at c0 c2 ⊢
  simp [go_sem, Tryd.C20, hb]
  refine callK_pure c0 ?_
  simp [go_sem, he, (by omega : key.length ≤ 9223372036854775807)]
  refine callK_pure c1 ?_
  simp [go_sem]
  refine callK_pure c2 ?_
  simp [go_sem, hfl, ptV]
  refine ret_pure ?_ ?_ <;> simp [go_sem]
end Go.Proofs

/- Contracts: Shares. -/
set_option linter.unusedSimpArgs false
set_option linter.unusedVariables false
set_option maxRecDepth 100000
namespace Go.Proofs
open Go Go.Pl Go.Hs

theorem wrap_u32 (n : Int) : 0 ≤ IntKind.u32.wrap n ∧ IntKind.u32.wrap n < 4294967296 := by
  simp [IntKind.wrap, IntKind.bits, IntKind.signed]; omega
theorem on32_rng (b : Bs) : ∀ h : Int, 0 ≤ h → h < 4294967296 → 0 ≤ on32 h b ∧ on32 h b < 4294967296 := by
  induction b with
  | nil => intro h h0 h1; exact ⟨h0, h1⟩
  | cons c b ih => intro h h0 h1; exact ih _ (wrap_u32 _).1 (wrap_u32 _).2
theorem sum32_rng (b : Bs) : 0 ≤ sum32 b ∧ sum32 b < 4294967296 := on32_rng b _ (by decide) (by decide)
theorem raw_mem {names : List Bs} {wts : List Int} {nodes : Int} {p : Pt} : ∀ k, p ∈ raw names wts nodes k → ∃ i : Nat, i < k ∧ p.b = i ∧ (∃ n : Nat, n < (wts.getD i 0 * nodes).toNat ∧ p.h = sum32 (tagS (names.getD i []) ++ Lib.decDigits n))
  | 0, h => by simp [raw] at h
  | k + 1, h => by
    rw [raw, List.mem_append] at h
    rcases h with h | h
    · obtain ⟨i, h1, h2⟩ := raw_mem k h
      exact ⟨i, by omega, h2⟩
    · simp only [ptsOf, List.mem_map, List.mem_range] at h
      obtain ⟨n, hn, rfl⟩ := h
      exact ⟨k, by omega, rfl, n, hn, rfl⟩
theorem pts_ok {r : Rg} (h : check r = 0) {p : Pt} (hp : p ∈ r.pts) : 0 ≤ p.h ∧ p.h < 4294967296 ∧ 0 ≤ p.b ∧ p.b < r.names.length := by
  rw [(check0 h).2] at hp
  have hp := (List.mergeSort_perm _ ple).subset hp
  obtain ⟨i, h1, h2, n, _, h3⟩ := raw_mem _ hp
  have := sum32_rng (tagS (r.names.getD i []) ++ Lib.decDigits n)
  omega
theorem asked0 {r : Rg} {key : Bs} (he : asked r key = 0) : check r = 0 ∧ key.length ≤ 200 ∧ 0 < r.pts.length ∧ r.pts.length ≤ 32000 ∧ r.pts.Pairwise fun a b => a.h ≤ b.h := by
  have hch : check r = 0 := by
    unfold asked at he
    by_cases h : check r ≠ 0
    · rw [if_pos h] at he; exact he
    · exact Decidable.not_not.1 h
  have hkl : key.length ≤ 200 := by
    unfold asked at he
    rw [if_neg (by simpa using hch)] at he
    by_cases h : 200 < key.length
    · rw [if_pos h] at he; cases he
    · omega
  have hpl : 0 < r.pts.length := by
    unfold asked at he
    rw [if_neg (by simpa using hch), if_neg (by omega)] at he
    by_cases h : r.pts.length = 0
    · rw [if_pos h] at he; cases he
    · omega
  have hpe := (check0 hch).2
  have hpm : r.pts.length ≤ 32000 := by
    have := ring_le r.names r.wts r.nodes
    unfold ring at this
    rw [if_pos (check0 hch).1] at this
    rw [hpe]; exact this
  exact ⟨hch, hkl, hpl, hpm, by rw [hpe]; exact srt_h⟩
theorem first_lt {r : Rg} (h : Int) (hpl : 0 < r.pts.length) : first r h < r.pts.length := by
  rw [first_eq]
  split
  · exact hpl
  · have : bsI r.pts h ≤ r.pts.length := by
      unfold bsI
      split
      · rename_i i hi
        exact Nat.le_of_lt (List.findIdx?_eq_some_iff_getElem.1 hi).1
      · exact Nat.le_refl _
    omega
theorem askE_nil (r : Rg) : askE r [] = asked r [] := by simp [askE, asked]
def sh (r : Rg) (k : Nat) : List Int × Int := (r.pts.take k).foldl shareStep (List.replicate r.names.length 0, 0)
theorem sh_len (r : Rg) (k : Nat) : (sh r k).1.length = r.names.length := by
  unfold sh
  generalize r.pts.take k = l
  have : ∀ (l : List Pt) (s : List Int × Int), (l.foldl shareStep s).1.length = s.1.length := by
    intro l
    induction l with
    | nil => intro s; rfl
    | cons p l ih => intro s; rw [List.foldl_cons, ih]; unfold shareStep addAt; split <;> simp
  rw [this]; simp
theorem sh_rng {r : Rg} (h : check r = 0) (k : Nat) : 0 ≤ (sh r k).2 ∧ (sh r k).2 ≤ 4294967296 := by
  unfold sh
  have hp : ∀ p, p ∈ r.pts.take k → 0 ≤ p.h ∧ p.h < 4294967296 := fun p hp => ⟨(pts_ok h (List.mem_of_mem_take hp)).1, (pts_ok h (List.mem_of_mem_take hp)).2.1⟩
  generalize r.pts.take k = l at hp
  have : ∀ (l : List Pt) (s : List Int × Int), (∀ p, p ∈ l → 0 ≤ p.h ∧ p.h < 4294967296) → 0 ≤ s.2 ∧ s.2 ≤ 4294967296 → 0 ≤ (l.foldl shareStep s).2 ∧ (l.foldl shareStep s).2 ≤ 4294967296 := by
    intro l
    induction l with
    | nil => intro s _ h; exact h
    | cons p l ih =>
      intro s h1 h2
      refine ih _ (fun q hq => h1 q (by simp [hq])) ?_
      have := h1 p (by simp)
      unfold shareStep
      split
      · simp only; omega
      · exact h2
  exact this l _ hp (by simp)
theorem sh_succ {r : Rg} {k : Nat} (hk : k < r.pts.length) : sh r (k + 1) = shareStep (sh r k) r.pts[k] := by
  unfold sh; rw [take_foldl _ _ hk]
theorem Tryd.shares_c (r : Rg) (bx : Boxes) (hm : Mk bx) (hl : r.wts.length ≤ 9223372036854775807) (hl2 : r.names.length ≤ 9223372036854775807) :
    PureCall Tryd.prog 22 [rgV r] bx (.tup [u64sV (shares r).1, .int .i64 (shares r).2]) := by
  refine PureCall.wk (Tryd.ctr22 fun hb => ?_)
  have c0 : PureCall Tryd.prog 37 [rgV r, .nils] bx (.int .i64 (asked r [])) := by
    have := Tryd.ask_c r [] bx hm hl hl2 (by simp)
    rw [askE_nil] at this
    refine AbsCall.args this rfl fun i c c' h1 h2 => ?_
    rcases i with _ | _ | i
    · simp at h1 h2; subst h1 h2; exact Wk.refl _
    · simp at h1 h2; subst h1 h2; exact wk_nils _
    · simp at h1
  by_cases he : asked r [] ≠ 0
  · have hf : shares r = ([], asked r []) := by unfold shares; rw [if_pos he]
    rw [hf]
    simp only [rgV, strsV, intsV, ptsV, u64sV] at c0 ⊢
    simp [go_sem, Tryd.C22, hb]
    refine callK_pure c0 ?_
    simp [go_sem, he]
    refine ret_wk0 (by simp [go_sem]) ?_
    simp [go_sem]
    exact wk_tup2 (wk_nils _) (Wk.refl _)
  have he : asked r [] = 0 := Decidable.not_not.1 he
  obtain ⟨hch, _, hpl, hpm, hso⟩ := asked0 he
  obtain ⟨g1, g2, g3, g4, g5, g6, g7, g8, g9⟩ := wrong0 (check0 hch).1
  have hf : shares r = (addAt (sh r r.pts.length).1 (backAt r 0) (4294967296 - (sh r r.pts.length).2), 0) := by
    unfold shares sh; rw [if_neg (by simpa using he)]; simp
  rw [hf]
  simp only [rgV, strsV, intsV, ptsV] at c0 ⊢
  simp [go_sem, Tryd.C22, hb]
  refine callK_pure c0 ?_
  simp [go_sem, he, hb]
  simp [go_sem, makK, hb]
  refine ⟨by omega, by omega, fun b5 hb5 => ?_⟩
  have hsh0 : List.replicate r.names.length (V.int IntKind.u64 0) = (sh r 0).1.map (.int .u64) := by simp [sh]
  rw [hsh0]
  refine pw_upto r.pts.length (fun k => ⟨58, slk [(1, .ep (.agg [.sl 1 (r.names.map .str), .sl 1 (r.wts.map (.int .i64)), .int .i64 r.nodes, .sl 2 (r.pts.map ptV)]) 0), (5, .own b5 1 0 r.names.length), (6, .int .u64 (sh r k).2), (20, .sl 2 (r.pts.map ptV)), (21, .int .i64 r.pts.length), (22, .int .i64 k)], upd bx b5 (some (.row 23 1 ((sh r k).1.map (.int .u64))))⟩) (cov_look (by simp [go_sem, sh])) ?_ ?_
  · intro k hk N hN
    have hw := wr_succ (k := k) (by omega)
    obtain ⟨p0, p1, p2, p3⟩ := pts_ok hch (List.getElem_mem hk)
    obtain ⟨q0, q1⟩ := sh_rng hch k
    have hsl := sh_len r k
    have hsuc := sh_succ hk
    generalize sh r (k + 1) = S' at *
    generalize sh r k = S at *
    obtain ⟨L, nx⟩ := S
    simp only at q0 q1 hsl
    generalize hp : r.pts[k] = p at *
    have hg : r.pts[k]? = some p := by rw [List.getElem?_eq_getElem hk, hp]
    obtain ⟨ph, pb⟩ := p
    simp only at p0 p1 p2 p3
    obtain ⟨bn, rfl⟩ : ∃ bn : Nat, pb = bn := ⟨pb.toNat, by omega⟩
    have hbn : bn < L.length := by omega
    have w1 : IntKind.u64.wrap ph = ph := wru64 (by omega)
    have w2 : IntKind.u64.wrap (ph + 1) = ph + 1 := wru64 (by omega)
    simp [go_sem, Tryd.L22_0, hk, hb, hp, ptV, w1, w2]
    intro b8 hb8
    rw [upd_self hb8]
    have hl5 : L.length = r.names.length := hsl
    refine ⟨fun hlt => ⟨by omega, ?_⟩, fun hge => ?_⟩
    · have w3 : IntKind.u64.wrap (ph + 1 - nx) = ph + 1 - nx := wru64 (by omega)
      have hS : S' = (addAt L bn (ph + 1 - nx), ph + 1) := by rw [hsuc]; unfold shareStep; rw [if_pos hlt]
      have hset : (L.map (V.int .u64)).set bn (V.int .u64 (IntKind.u64.wrap (L[bn] + (ph + 1 - nx)))) = S'.1.map (V.int .u64) := by
        rw [hS]; simp [addAt, hbn, List.map_set]
      have hbn2 : bn < r.names.length := by omega
      simp [go_sem, hbn, w3, hb, hbn2, -List.map_set]
      rw [hset]
      refine hN _ ?_
      refine cov_look ?_
      rw [hS]
      simp [go_sem, hw, ptV]
    · have hS : S' = (L, nx) := by rw [hsuc]; unfold shareStep; rw [if_neg (by simp only; omega)]
      rw [hS] at hN
      exact hN _ (cov_look (by simp [go_sem, hw, ptV]))
  · intro N
    have hsl := sh_len r r.pts.length
    obtain ⟨q0, q1⟩ := sh_rng hch r.pts.length
    generalize sh r r.pts.length = S at *
    obtain ⟨L, nx⟩ := S
    simp only at q0 q1 hsl
    obtain ⟨p0, p1, p2, p3⟩ := pts_ok hch (List.getElem_mem hpl)
    have hba : backAt r 0 = r.pts[0].b := by simp [backAt, hpl]
    rw [hba]
    generalize hp : r.pts[0] = p at *
    have hg : r.pts[0]? = some p := by rw [List.getElem?_eq_getElem hpl, hp]
    obtain ⟨ph, pb⟩ := p
    simp only at p0 p1 p2 p3
    obtain ⟨bn, rfl⟩ : ∃ bn : Nat, pb = bn := ⟨pb.toNat, by omega⟩
    have hbn : bn < L.length := by omega
    have hbn2 : bn < r.names.length := by omega
    have w3 : IntKind.u64.wrap (4294967296 - nx) = 4294967296 - nx := wru64 (by omega)
    have hset : (L.map (V.int .u64)).set bn (V.int .u64 (IntKind.u64.wrap (L[bn] + (4294967296 - nx)))) = (addAt L bn (4294967296 - nx)).map (V.int .u64) := by
      simp [addAt, hbn, List.map_set]
    have hal : (addAt L bn (4294967296 - nx)).length = r.names.length := by simp [addAt, hsl]
    simp [go_sem, Tryd.L22_0, hb, hpl, hp, hg, ptV, hbn, hbn2, w3, -List.map_set]
    rw [hset]
    generalize addAt L bn (4294967296 - nx) = R at *
    refine ret_frz 2 (bx := bx) (by simp [go_sem]) (((Ext.refl _).new hb5 _)) ⟨?_, rfl⟩
    have hfr : frz (upd bx b5 (some (Box.row 23 1 (R.map (V.int .u64))))) bx 1 (.own b5 1 0 r.names.length) = .sl 1 (R.map (V.int .u64)) := frz_own1 (upd_eq _ _ _) hb5 (by decide) (by simp [hal])
    simp [go_sem, frz] at hfr ⊢
    simp [hb5, hal] at hfr ⊢
    rw [List.take_of_length_le (by simp [hal])]
    exact Wk.refl _
end Go.Proofs

/- Contracts: awake. -/
set_option linter.unusedSimpArgs false
set_option linter.unusedVariables false
set_option maxRecDepth 100000
namespace Go.Proofs
open Go Go.Pl Go.Hs

def r1 : Rg := ⟨[[97]], [1], 1, [⟨sum32 [97, 35, 48], 0⟩]⟩
theorem ring_a : ring [[97]] [1] 1 = (r1, 0) := by
  have h0 : wrong [[97]] [1] 1 = 0 := by decide +kernel
  unfold ring
  rw [if_pos h0]
  simp [raw, ptsOf, Lib.decDigits_one, tagS, srt, r1]
theorem ring_aa : ring [[97], [97]] [1, 1] 1 = (none_, 8) := by
  have h0 : wrong [[97], [97]] [1, 1] 1 = 8 := by decide +kernel
  unfold ring
  rw [if_neg (by rw [h0]; decide), h0]
theorem check_r1 : check r1 = 0 := by
  unfold check
  have : ring r1.names r1.wts r1.nodes = (r1, 0) := ring_a
  rw [this]
  simp
theorem asked_r1 (k : Bs) (h : k.length ≤ 200) : asked r1 k = 0 := by
  unfold asked
  rw [check_r1, if_neg (by simp), if_neg (by omega), if_neg (by simp [r1])]
theorem first_r1 (h : Int) : first r1 h = 0 := by
  rw [first_eq]
  unfold bsI
  split
  · rename_i i hi
    have := (List.findIdx?_eq_some_iff_getElem.1 hi).1
    simp [r1] at this
    split
    · rfl
    · exact this
  · simp
theorem find_r1 : find r1 [107, 101, 121] = (0, 0) := by
  unfold find
  rw [asked_r1 _ (by decide), if_neg (by simp), first_r1]
  simp [backAt, r1]
theorem shares_r1 : shares r1 = ([4294967296], 0) := by
  unfold shares
  rw [asked_r1 _ (by decide), if_neg (by simp)]
  decide +kernel
theorem sum_nil : sum32 [] = 2166136261 := by decide +kernel
theorem sum_a : sum32 [97] = 3826002220 := by decide +kernel
theorem sum64_nil : sum64 [] = 14695981039346656037 := by decide +kernel

theorem Tryd.awake_c (bx : Boxes) (hm : Mk bx) : PureCall Tryd.prog 8 [] bx (.bool true) := by
  refine Tryd.ctr8 fun hb => ?_
  have c1 := fun bx hm => Tryd.ring_c [[97]] [1] 1 bx hm (by decide) (by decide)
  have c2 := fun bx hm => Tryd.ring_c [[97], [97]] [1, 1] 1 bx hm (by decide) (by decide)
  have c3 := fun bx hm => Tryd.Find_c r1 [107, 101, 121] bx hm (by decide) (by decide)
  have c4 := fun bx hm => Tryd.shares_c r1 bx hm (by decide) (by decide)
  rw [ring_a] at c1
  rw [ring_aa] at c2
  rw [find_r1] at c3
  rw [shares_r1] at c4
  have hsum : ∀ s bx, s.length ≤ 100 → PureCall Tryd.prog 9 [.sl 1 (bytesV s)] bx (.int .u32 (sum32 s)) := fun s bx h => Tryd.sum32_c s bx (by omega)
  simp only [rgV, strsV, intsV, ptsV, u64sV, r1, none_, List.map, ptV] at c1 c2 c3 c4
  simp [go_sem, Tryd.C8, hb]
  refine callK_pure (c1 _ hm) ?_
  simp [go_sem, hb]
  intro b1 hb1
  rw [upd_self hb1]
  refine callK_pure (c3 _ hm) ?_
  simp [go_sem, hb]
  refine callK_pure (c4 _ hm) ?_
  simp [go_sem, hb]
  refine callK_pure (c2 _ hm) ?_
  simp [go_sem, hb]
  intro b7 hb7
  have cn : ∀ bx, PureCall Tryd.prog 9 [.nils] bx (.int .u32 2166136261) := fun bx => by
    have := hsum [] bx (by simp)
    rw [sum_nil] at this
    exact AbsCall.args this rfl fun i c c' h1 h2 => by
      rcases i with _ | i
      · simp at h1 h2; subst h1 h2; exact wk_nils _
      · simp at h1
  have cn64 : ∀ bx, PureCall Tryd.prog 11 [.nils] bx (.int .u64 14695981039346656037) := fun bx => by
    have := Tryd.sum64_c [] bx (by simp)
    rw [sum64_nil] at this
    exact AbsCall.args this rfl fun i c c' h1 h2 => by
      rcases i with _ | i
      · simp at h1 h2; subst h1 h2; exact wk_nils _
      · simp at h1
  have ca : ∀ bx, PureCall Tryd.prog 9 [.sl 1 [.int .u8 97]] bx (.int .u32 3826002220) := fun bx => by
    have := hsum [97] bx (by simp)
    rw [sum_a] at this
    exact this
  have ca0 : ∀ bx, PureCall Tryd.prog 9 [.sl 1 [.int .u8 97, .int .u8 35, .int .u8 48]] bx (.int .u32 (sum32 [97, 35, 48])) := fun bx => hsum [97, 35, 48] bx (by simp)
  simp [go_sem, hb, fzAt, fzb]
  refine callK_pure (cn _) ?_
  simp [go_sem, hb]
  intro b8 hb8
  rw [upd_self hb8]
  refine gK_pure (ca _) (by simp) (by simp [go_sem]) ?_
  simp [go_sem, hb]
  refine gK_pure (cn64 _) (by simp) (by simp [go_sem]) ?_
  simp [go_sem, hb, evF]
  intro b9 hb9
  rw [upd_self hb9]
  refine gK_pure (ca0 _) (by simp) (by simp [go_sem]) ?_
  simp [go_sem, hb]
  refine ret_drop (by simp [go_sem]) ((Ext.refl _).new hb7 _) ?_
  simp [go_sem]
end Go.Proofs

set_option linter.unusedVariables false
set_option linter.unusedSimpArgs false
set_option maxRecDepth 100000
namespace Go.Proofs.YtnijaldhopcpdaaDoor
open Go Go.Pl Go.Hs Go.Proofs
open Go.ChangeShapes Go.WideShapes Go.ChangeAt Go.RowKit
theorem own : ownKnob Tryd.prog.godebug = none := by kernel_rfl
theorem hasInt {n : Nat} {xs : List V} (h : HasL Tryd.prog n 3 xs) : ∃ i : Int, xs = [.int .i64 i] := by
  obtain ⟨i, rfl, _⟩ := h.int Tryd.knd3
  exact ⟨i, rfl⟩
theorem hasU64 {n : Nat} {xs : List V} (h : HasL Tryd.prog n 23 xs) : ∃ i : Int, (0 ≤ i ∧ i ≤ 18446744073709551615) ∧ xs = [.int .u64 i] := by
  obtain ⟨i, rfl, hw⟩ := h.int Tryd.knd23
  simp [Lit.wf, IntKind.min, IntKind.max, IntKind.signed, IntKind.bits] at hw
  exact ⟨i, by omega, rfl⟩
theorem hasU8 {n : Nat} {xs : List V} (h : HasL Tryd.prog n 5 xs) : ∃ c : UInt8, xs = [.int .u8 (c.toNat : Int)] := by
  obtain ⟨i, rfl, hw⟩ := h.int Tryd.knd5
  simp [Lit.wf, IntKind.min, IntKind.max, IntKind.signed, IntKind.bits] at hw
  refine ⟨UInt8.ofNat i.toNat, ?_⟩
  have : (UInt8.ofNat i.toNat).toNat = i.toNat := by
    simp [UInt8.toNat_ofNat]; omega
  rw [this]
  congr 2; omega
theorem hasStr {n : Nat} {xs : List V} (h : HasL Tryd.prog n 9 xs) : ∃ s : Bs, xs = [.str s] ∧ s.length ≤ maxLen := h.str Tryd.knd9
theorem hasBytes {n : Nat} {xs : List V} (h : HasL Tryd.prog (n + 1) 22 xs) : ∃ l : Bs, xs = [.sl 1 (bytesV l)] ∧ l.length ≤ maxLen := by
  obtain ⟨l, h, hl⟩ := HasL.slice (r := fun c : UInt8 => V.int .u8 (c.toNat : Int)) Tryd.knd22 h fun ys hy => by
    obtain ⟨c, rfl⟩ := hasU8 hy
    exact ⟨c, by simp [elV, Tryd.tagg5]⟩
  rw [Tryd.tsz5] at h
  exact ⟨l, h, hl⟩
theorem hasStrs {n : Nat} {xs : List V} (h : HasL Tryd.prog (n + 1) 31 xs) : ∃ l : List Bs, xs = [strsV l] ∧ l.length ≤ maxLen ∧ ∀ s, s ∈ l → s.length ≤ maxLen := by
  have h0 := h
  obtain ⟨l, h, hl⟩ := HasL.slice (r := V.str) Tryd.knd31 h fun ys hy => by
    obtain ⟨c, rfl, _⟩ := hasStr hy
    exact ⟨c, by simp [elV, Tryd.tagg9]⟩
  rw [Tryd.tsz9] at h
  refine ⟨l, h, hl, fun s hs => ?_⟩
  obtain ⟨_, h1⟩ := h0
  simp only [Tryd.knd31] at h1
  obtain ⟨es, h2, _, h3⟩ := h1
  rw [h, Tryd.tsz9] at h2
  injection h2 with h2
  injection h2 with _ h2
  obtain ⟨ys, h4, h5⟩ := h3 (.str s) (by rw [← h2]; exact List.mem_map.2 ⟨s, hs, rfl⟩)
  obtain ⟨c, rfl, hc⟩ := hasStr h5
  simp [elV, Tryd.tagg9] at h4
  rw [h4]; exact hc
theorem hasInts {n : Nat} {xs : List V} (h : HasL Tryd.prog (n + 1) 32 xs) : ∃ l : List Int, xs = [intsV l] ∧ l.length ≤ maxLen := by
  obtain ⟨l, h, hl⟩ := HasL.slice (r := V.int .i64) Tryd.knd32 h fun ys hy => by
    obtain ⟨i, rfl⟩ := hasInt hy
    exact ⟨i, by simp [elV, Tryd.tagg3]⟩
  rw [Tryd.tsz3] at h
  exact ⟨l, h, hl⟩
theorem hasPts {n : Nat} {xs : List V} (h : HasL Tryd.prog (n + 2) 33 xs) : ∃ l : List Pt, xs = [ptsV l] ∧ l.length ≤ maxLen := by
  obtain ⟨l, h, hl⟩ := HasL.slice (r := ptV) Tryd.knd33 h fun ys hy => by
    have hl := hy.len
    rw [Tryd.tsz57] at hl
    match ys, hl with
    | [a, b], _ =>
      obtain ⟨i0, h0, _⟩ := (hy.fld Tryd.knd57 Tryd.fld57_0).int Tryd.knd25
      obtain ⟨i1, h1, _⟩ := (hy.fld Tryd.knd57 Tryd.fld57_1).int Tryd.knd3
      simp [Tryd.tsz3, Tryd.tsz25] at h0 h1
      subst h0 h1
      exact ⟨⟨i0, i1⟩, by simp [elV, Tryd.tagg57, ptV]⟩
  rw [Tryd.tsz57] at h
  exact ⟨l, h, hl⟩
theorem hasRg {n : Nat} {xs : List V} (h : HasL Tryd.prog (n + 3) 35 xs) : ∃ r : Rg, rgV r = .agg xs ∧ r.names.length ≤ maxLen ∧ r.wts.length ≤ maxLen ∧ r.pts.length ≤ maxLen ∧ ∀ s, s ∈ r.names → s.length ≤ maxLen := by
  have hl := h.len
  rw [Tryd.tsz35] at hl
  match xs, hl with
  | [a, b, c, d], _ =>
    obtain ⟨l0, h0, g0, k0⟩ := hasStrs (h.fld Tryd.knd35 Tryd.fld35_0)
    obtain ⟨l1, h1, g1⟩ := hasInts (h.fld Tryd.knd35 Tryd.fld35_1)
    obtain ⟨i2, h2⟩ := hasInt (h.fld Tryd.knd35 Tryd.fld35_2)
    obtain ⟨l3, h3, g3⟩ := hasPts (h.fld Tryd.knd35 Tryd.fld35_3)
    simp [Tryd.tsz3, Tryd.tsz31, Tryd.tsz32, Tryd.tsz33] at h0 h1 h2 h3
    subst h0 h1 h2 h3
    exact ⟨⟨l0, l1, i2, l3⟩, rfl, g0, g1, g3, k0⟩

/-! What the rows list -/
theorem tabIs_of_laid {P : Program} {W : World} {name : String} {k : IntKind} {zs : List Int} {g : Nat} {t e : TypeId} {n : Nat}
    (hg : P.globalNamed name = some g) (hty : (P.globals[g]?).map (·.type) = some t) (ht : P.underlying t = some (.array n e)) (he : P.underlying e = some (.int k)) (hce : P.cellsOf e = 1) (hct : P.cellsOf t = n) :
    ∀ (laid : List (String × DataW Unit)) (ps : List MemPlace), (name, Lib.tabData k zs) ∈ laid → DataW.LaidVars P W laid ps → Lib.TabIs P W name k zs
  | [], _, hm, _ => by simp at hm
  | (n', d') :: r, ps, hm, h => by
    obtain ⟨g', t', cs, fuel, p, q, hg', ht', hvar, hd, hr, _⟩ := h
    rcases List.mem_cons.1 hm with e1 | e1
    · injection e1 with e1 e2
      subst e1 e2
      obtain rfl := Option.some.inj (hg.symm.trans hg')
      obtain rfl := Option.some.inj (hty.symm.trans ht')
      unfold Lib.TabIs
      rw [hvar, ← Lib.cells_of_tab ht he hce hct hd]
    · exact tabIs_of_laid hg hty ht he hce hct r q e1 hr
def laidAll : List (String × DataW Unit) := [("math/bits.deBruijn32tab", Rows.laid_math_bits_deBruijn32tab), ("math/bits.deBruijn64tab", Rows.laid_math_bits_deBruijn64tab), ("internal/strconv.uint64pow10", Rows.laid_internal_strconv_uint64pow10)]
theorem table {W : World} (h : laidMetH Tryd.prog laidAll W) : Lib.TabIs Tryd.prog W "internal/strconv.uint64pow10" .u64 Lib.pow10Tab := by
  have h' : laidMet Tryd.prog laidAll W := h
  obtain ⟨ps, h1, _⟩ := h'
  exact tabIs_of_laid (g := 0) (t := 130) (e := 23) (n := 20) (by kernel_rfl) (by kernel_rfl) (by kernel_rfl) (by kernel_rfl) (by kernel_rfl) (by kernel_rfl) laidAll ps (List.mem_cons_of_mem _ (List.mem_cons_of_mem _ (List.mem_cons.2 (.inl (by kernel_rfl))))) h1

def litCells : DataW Unit → Array Value
  | .agg l => (l.map fun x => match x with | .lit (.int k n) => Value.int k n | _ => undef).toArray
  | _ => #[]
noncomputable def fillB (h : Array Obj) (g : Nat) (d : DataW Unit) : Array Obj := h.modify g fun o => match o with
  | .cells _ t frozen => .cells (litCells d) t frozen
  | o => o
/-- A world for the witness: the settled one, the tables holding what their initialisers lay. -/
noncomputable def laidWorld (os : Os) : World :=
  { World.holding Tryd.prog os ⟨#[], #[], []⟩ with heap := fillB (fillB (fillB (World.holding Tryd.prog os ⟨#[], #[], []⟩).heap 1 Rows.laid_math_bits_deBruijn32tab) 2 Rows.laid_math_bits_deBruijn64tab) 0 Rows.laid_internal_strconv_uint64pow10 }
end Go.Proofs.YtnijaldhopcpdaaDoor

/- Contracts: Order. -/
set_option linter.unusedSimpArgs false
set_option linter.unusedVariables false
set_option maxRecDepth 100000
namespace Go.Proofs
open Go Go.Pl Go.Hs

theorem acc_frame {P : Program} {f : FuncId} {bx bx1 : Boxes} {e sz : Nat} {es : List V} {v r : V} {k : IntKind} {i : Int} (ha : Pl.Acc bx e sz es v bx1) (hs : 0 < sz) (hr : flatV r = true) (h : ∀ bx, PureCall P f [.sl sz es, .int k i] bx r) : PureCall P f [v, .int k i] bx1 r := by
  rcases ha.is with ⟨rfl, rfl⟩ | ⟨b, hb, rfl, hb2⟩
  · refine AbsCall.args (h bx1) rfl fun j c c' h1 h2 => ?_
    rcases j with _ | _ | j
    · cases h1; cases h2; exact wk_nils _
    · cases h1; cases h2; exact Wk.refl _
    · simp at h1
  · refine PureCall.frame 1 (h _) ?_ hr
    rw [List.map_cons, frz_own1 hb2 rfl hs rfl]; rfl
theorem acc_frz {bx bx1 : Boxes} {e sz : Nat} {es : List V} {v : V} (ha : Pl.Acc bx e sz es v bx1) (hs : 0 < sz) : Wk (frz bx1 bx 1 v) (.sl sz es) := by
  rcases ha.is with ⟨h1, rfl⟩ | ⟨b, hb, rfl, hb2⟩
  · exact wk_nil' h1
  · rw [frz_own1 hb2 hb hs rfl]; exact Wk.refl _
theorem uniq_snoc : ∀ (l : List Int) (out : List Int) (x : Int), uniq out (l ++ [x]) = if x ∈ uniq out l then uniq out l else uniq out l ++ [x]
  | [], out, x => by
    by_cases h : x ∈ out <;> simp [h, uniq]
  | y :: l, out, x => by rw [List.cons_append, uniq, uniq]; exact uniq_snoc l _ x
theorem uniq_len : ∀ (l : List Int) (out : List Int), (uniq out l).length ≤ out.length + l.length
  | [], out => by simp [uniq]
  | y :: l, out => by
    rw [uniq]
    refine Nat.le_trans (uniq_len l _) ?_
    split <;> simp <;> omega
/-- The backends in the order of the points, from one on. -/
def turnB (r : Rg) (i : Nat) : List Int := (r.pts.drop i ++ r.pts.take i).map (·.b)
theorem turnB_len (r : Rg) (i : Nat) (hi : i ≤ r.pts.length) : (turnB r i).length = r.pts.length := by simp [turnB]; omega
theorem turnB_at {r : Rg} {i k : Nat} (hi : i < r.pts.length) (hk : k < r.pts.length) : (turnB r i)[k]? = some ((r.pts[(i + k) % r.pts.length]'(Nat.mod_lt _ (by omega))).b) := by
  unfold turnB
  rw [List.getElem?_map]
  rcases Nat.lt_or_ge (i + k) r.pts.length with h | h
  · rw [List.getElem?_append_left (by simp; omega)]
    simp [Nat.mod_eq_of_lt h, h]
  · rw [List.getElem?_append_right (by simp; omega)]
    have h2 : (i + k) % r.pts.length = i + k - r.pts.length := by rw [Nat.mod_eq_sub_mod h, Nat.mod_eq_of_lt (by omega)]
    have h3 : k - (r.pts.length - i) = i + k - r.pts.length := by omega
    simp only [h2, List.length_drop, h3]
    rw [List.getElem?_take, if_pos (by omega), List.getElem?_eq_getElem (by omega)]
    rfl
def uq (r : Rg) (i k : Nat) : List Int := uniq [] ((turnB r i).take k)
theorem uq_succ {r : Rg} {i k : Nat} (hi : i < r.pts.length) (hk : k < r.pts.length) : uq r i (k + 1) = if (r.pts[(i + k) % r.pts.length]'(Nat.mod_lt _ (by omega))).b ∈ uq r i k then uq r i k else uq r i k ++ [(r.pts[(i + k) % r.pts.length]'(Nat.mod_lt _ (by omega))).b] := by
  have h := turnB_at hi hk
  have hl := turnB_len r i (by omega)
  have hk2 : k < (turnB r i).length := by omega
  rw [List.getElem?_eq_getElem hk2] at h
  unfold uq
  rw [take_snoc hk2, Option.some.inj h, uniq_snoc]
theorem uq_len (r : Rg) (i k : Nat) : (uq r i k).length ≤ k := by
  unfold uq
  refine Nat.le_trans (uniq_len _ _) ?_
  rw [List.length_take]
  simp; omega
theorem order_eq {r : Rg} {key : Bs} (he : asked r key = 0) : order r key = (uq r (first r (sum32 key)) r.pts.length, 0) := by
  unfold order uq
  rw [if_neg (by simpa using he)]
  obtain ⟨_, _, hpl, _⟩ := asked0 he
  rw [List.take_of_length_le (l := turnB r (first r (sum32 key))) (by rw [turnB_len _ _ (Nat.le_of_lt (first_lt _ hpl))]; exact Nat.le_refl _)]
  rfl
theorem Tryd.Order_c (r : Rg) (key : Bs) (bx : Boxes) (hm : Mk bx) (hl : r.wts.length ≤ 9223372036854775807) (hl2 : r.names.length ≤ 9223372036854775807) :
    PureCall Tryd.prog 24 [rgV r, .str key] bx (.tup [intsV (order r key).1, .int .i64 (order r key).2]) := by
  refine PureCall.wk (Tryd.ctr24 fun hb => ?_)
  have c0 := Tryd.ask_c r [key] bx hm hl hl2 (by simp)
  rw [askE_one] at c0
  by_cases he : asked r key ≠ 0
  · have hf : order r key = ([], asked r key) := by unfold order; rw [if_pos he]
    rw [hf]
    simp only [rgV, strsV, intsV, ptsV] at c0 ⊢
    simp [go_sem, Tryd.C24, hb]
    refine callK_pure c0 ?_
    simp [go_sem, he]
    refine ret_wk0 (by simp [go_sem]) ?_
    simp [go_sem]
    exact wk_tup2 (wk_nils _) (Wk.refl _)
  have he : asked r key = 0 := Decidable.not_not.1 he
  obtain ⟨hch, hkl, hpl, hpm, hso⟩ := asked0 he
  rw [order_eq he]
  have c1 : PureCall Tryd.prog 9 [.sl 1 (key.map byteV)] bx (.int .u32 (sum32 key)) := Tryd.sum32_c key bx (by omega)
  have c2 := Tryd.find_c r (sum32 key) bx (by omega) hso
  have hfl := first_lt (sum32 key) hpl
  generalize first r (sum32 key) = fi at *
  have hcl : (r.pts.drop fi ++ r.pts.take fi).length = r.pts.length := by simp; omega
  have hat : ∀ k (hk : k < r.pts.length), (r.pts.drop fi ++ r.pts.take fi)[k]? = some (r.pts[(fi + k) % r.pts.length]'(Nat.mod_lt _ (by omega))) := fun k hk => by
    rcases Nat.lt_or_ge (fi + k) r.pts.length with h | h
    · rw [List.getElem?_append_left (by simp; omega)]
      simp [Nat.mod_eq_of_lt h, h]
    · rw [List.getElem?_append_right (by simp; omega)]
      have h2 : (fi + k) % r.pts.length = fi + k - r.pts.length := by rw [Nat.mod_eq_sub_mod h, Nat.mod_eq_of_lt (by omega)]
      have h3 : k - (r.pts.length - fi) = fi + k - r.pts.length := by omega
      simp only [h2, List.length_drop, h3]
      rw [List.getElem?_take, if_pos (by omega), List.getElem?_eq_getElem (by omega)]
  have hsu : ∀ k (hk : k < r.pts.length), _ := fun k hk => uq_succ (r := r) (i := fi) hfl hk
  have hul := fun k => uq_len r fi k
  have c3 := fun (b : Nat) (ty : TypeId) (bx : Boxes) (h : bx b = some (.row ty 1 [ptsV (r.pts.drop fi), ptsV (r.pts.take fi)])) => Tryd.concat_c (r.pts.drop fi) (r.pts.take fi) h (by simp; omega) (by simp; omega)
  have hu0 : uq r fi 0 = [] := by simp [uq, uniq]
  have huN : List Int → Prop := fun l => True
  simp only [rgV, strsV, intsV, ptsV] at c0 c2 c3 ⊢
  rw [List.map_append, List.map_drop, List.map_take] at c3
  simp [go_sem, Tryd.C24, hb]
  refine callK_pure c0 ?_
  simp [go_sem, he, (by omega : key.length ≤ 9223372036854775807)]
  refine callK_pure c1 ?_
  simp [go_sem]
  refine callK_pure c2 ?_
  have hfle : fi ≤ r.pts.length := by omega
  have ht : List.take r.pts.length (r.pts.map ptV) = r.pts.map ptV := List.take_of_length_le (by simp)
  simp [go_sem, hb, hfle, ht]
  intro b hb'
  refine callK_pure (c3 b _ _ (upd_eq _ _ _)) ?_
  have hb2 : FinB (upd bx b (some (Box.row 33 1 [V.sl 2 (List.drop fi (List.map ptV r.pts)), V.sl 2 (List.take fi (List.map ptV r.pts))]))) := by simp [finB_upd, hb]
  have hxb : Ext bx (upd bx b (some (Box.row 33 1 [V.sl 2 (List.drop fi (List.map ptV r.pts)), V.sl 2 (List.take fi (List.map ptV r.pts))]))) := (Ext.refl _).new hb' _
  generalize upd bx b (some (Box.row 33 1 [V.sl 2 (List.drop fi (List.map ptV r.pts)), V.sl 2 (List.take fi (List.map ptV r.pts))])) = bx0 at *
  have hcl' : (r.pts.length - fi) + fi = r.pts.length := by omega
  have hatm : ∀ k (hk : k < r.pts.length), (List.drop fi (List.map ptV r.pts) ++ List.take fi (List.map ptV r.pts))[k]? = some (ptV (r.pts[(fi + k) % r.pts.length]'(Nat.mod_lt _ (by omega)))) := fun k hk => by
    have h := congrArg (Option.map ptV) (hat k hk)
    rw [← List.getElem?_map, List.map_append, List.map_drop, List.map_take] at h
    exact h
  have hll : (List.drop fi (List.map ptV r.pts) ++ List.take fi (List.map ptV r.pts)).length = r.pts.length := by simp; omega
  generalize (List.drop fi (List.map ptV r.pts) ++ List.take fi (List.map ptV r.pts)) = L at *
  simp [go_sem, hb2, hll]
  refine pw_for (ι := V × Boxes) r.pts.length (fun k p => Pl.Acc bx0 3 1 ((uq r fi k).map (.int .i64)) p.1 p.2)
    (fun k p => ⟨50, slk [(8, p.1), (32, .sl 2 L), (33, .int .i64 r.pts.length), (34, .int .i64 k)], p.2⟩) (.nils, bx0) (by rw [hu0]; exact acc_nil hb2 _ _) (cov_look (by simp [go_sem])) ?_ ?_
  · rintro k ⟨v, bx1⟩ hk ha N hN
    dsimp only at ha ⊢
    have hw := wr_succ (k := k) (by omega)
    have hg := hatm k hk
    have hs := uq_succ (r := r) (i := fi) hfl hk
    have hlu := hul k
    generalize r.pts[(fi + k) % r.pts.length]'(Nat.mod_lt _ (by omega)) = q at *
    generalize uq r fi (k + 1) = U1 at *
    generalize uq r fi k = U at *
    obtain ⟨qh, qb⟩ := q
    have cC := acc_frame (i := qb) ha (by decide) (r := .bool (decide (qb ∈ U))) rfl (fun bx => Tryd.containsN_c U qb bx (by omega))
    have hkL : k < L.length := by omega
    have hg2 : L[k] = V.agg [.int .u32 qh, .int .i64 qb] := by
      rw [List.getElem?_eq_getElem hkL] at hg; exact Option.some.inj hg
    simp [go_sem, Tryd.L24_0, hk, hkL, hg2, ha.fin]
    intro b10 hb10
    simp [go_sem, upd_self hb10, ha.cells, ha.strip, ha.live]
    refine callK_pure cC ?_
    simp [go_sem]
    refine ⟨fun hin => ?_, fun hin => ?_⟩
    · rw [if_neg hin] at hs
      refine ⟨ha.fin, ?_⟩
      refine Tryd.appI (es := U.map (.int .i64)) (news := [.int .i64 qb]) ha (Ext.refl _) ha.fin (by simp [go_sem, srcEls]) (by simp; omega) (by omega) ?_
      intro v' bx3 ha3
      simp [go_sem, ha3.cells]
      exact hN _ (v', bx3) (by dsimp only; rw [hs]; simpa using ha3) (cov_look (by simp [go_sem, hw]))
    · rw [if_pos hin] at hs
      exact hN _ (v, bx1) (by dsimp only; rw [hs]; exact ha) (cov_look (by simp [go_sem, hw]))
  · rintro ⟨v, bx1⟩ ha N
    dsimp only at ha ⊢
    simp [go_sem, Tryd.L24_0, ha.cells]
    refine ret_frz 2 (by simp [go_sem]) (hxb.trans ha.ext) ⟨?_, rfl⟩
    simp [go_sem]
    exact wk_tup2 (acc_frz (ha.base hxb) (by decide)) (Wk.refl _)
end Go.Proofs

/- Contracts: Moved. -/
set_option linter.unusedSimpArgs false
set_option linter.unusedVariables false
set_option maxRecDepth 100000
namespace Go.Proofs
open Go Go.Pl Go.Hs

theorem check_pts {r : Rg} (h : check r = 0) : r.pts.length ≤ 32000 ∧ r.pts.Pairwise fun a b => a.h ≤ b.h := by
  have hpe := (check0 h).2
  have := ring_le r.names r.wts r.nodes
  unfold ring at this
  rw [if_pos (check0 h).1] at this
  rw [hpe]
  exact ⟨this, srt_h⟩
theorem moved_off {a b : Rg} {keys : List Bs} (h : movedE a b keys ≠ 0) : moved a b keys = ([], movedE a b keys) := by unfold moved; rw [if_pos h]
theorem movedL_succ (a b : Rg) (keys : List Bs) (k : Nat) : movedL a b keys (k + 1) = if movedAt a b (keys.getD k []) = true then movedL a b keys k ++ [k] else movedL a b keys k := by
  unfold movedL
  rw [List.range_succ, List.filter_append]
  cases h : movedAt a b (keys.getD k [])
  · rw [List.filter_cons_of_neg (by rw [h]; decide)]; simp
  · rw [List.filter_cons_of_pos (p := fun i => movedAt a b (keys.getD i [])) (a := k) h]; simp
theorem movedL_len (a b : Rg) (keys : List Bs) (k : Nat) : (movedL a b keys k).length ≤ k := by
  unfold movedL
  refine Nat.le_trans (List.length_filter_le _ _) ?_
  simp
theorem longK_any (keys : List Bs) : ∀ s, s ∈ keys → keys.any (fun k => decide (200 < k.length)) = false → s.length ≤ 200 := fun s hs h => by
  rw [List.any_eq_false] at h
  have := h s hs
  simpa using this
theorem Tryd.Moved_c (a b : Rg) (keys : List Bs) (bx : Boxes) (hm : Mk bx) (a1 : a.wts.length ≤ 9223372036854775807) (a2 : a.names.length ≤ 9223372036854775807) (b1 : b.wts.length ≤ 9223372036854775807) (b2 : b.names.length ≤ 9223372036854775807) (hkl : keys.length ≤ 9223372036854775807) :
    PureCall Tryd.prog 23 [rgV a, rgV b, strsV keys] bx (.tup [natsV (moved a b keys).1, .int .i64 (moved a b keys).2]) := by
  refine PureCall.wk (Tryd.ctr23 fun hb => ?_)
  have ca := Tryd.check_c a bx hm a1 a2
  have cb := Tryd.check_c b bx hm b1 b2
  have ra := fun h => Tryd.ask_c a keys bx hm a1 a2 h
  have rb := fun h => Tryd.ask_c b keys bx hm b1 b2 h
  have hE : movedE a b keys = if check a ≠ 0 then check a else if check b ≠ 0 then check b else if 1000 < keys.length then 3 else if askE a keys ≠ 0 then askE a keys else askE b keys := by
    unfold movedE askE
    by_cases h1 : check a ≠ 0
    · rw [if_pos h1, if_pos h1]
    rw [if_neg h1, if_neg h1]
    by_cases h2 : check b ≠ 0
    · rw [if_pos h2, if_pos h2]
    rw [if_neg h2, if_neg h2, if_neg h1, if_neg h2]
    by_cases h3 : 1000 < keys.length
    · rw [if_pos h3, if_pos h3]
    rw [if_neg h3, if_neg h3]
    by_cases h4 : keys.any (fun k => decide (200 < k.length)) = true
    · simp [h4]
    · simp only [h4]
      by_cases h5 : a.pts.length = 0 <;> by_cases h6 : b.pts.length = 0 <;> simp [h5, h6]
  have hoff : ∀ e, movedE a b keys = e → e ≠ 0 → ∀ x, (⟨83, slk [(6, .nils), (7, .int .i64 e)], bx⟩ : St) = x → Ret Tryd.prog [Go.ResultVar.tmp 6, Go.ResultVar.tmp 7] (fun r' bx' => Wk r' (.tup [natsV (moved a b keys).1, .int .i64 (moved a b keys).2]) ∧ bx' = bx) x := by
    rintro e rfl h0 x rfl
    rw [moved_off h0]
    refine ret_wk0 (by simp [go_sem]) ?_
    simp [go_sem, natsV]
    exact wk_tup2 (wk_nils _) (Wk.refl _)
  generalize hMM : moved a b keys = MM at *
  unfold strsV
  simp only [rgV] at ca cb ra rb ⊢
  simp only [strsV, intsV, ptsV] at ca cb ra rb ⊢
  simp [go_sem, Tryd.C23, hb]
  have hkv : ∀ x y : Int, (fun k : Nat => if k = 0 then decide (x ≠ 0) else decide (y ≠ 0)) 0 = decide (x ≠ 0) := fun x y => rfl
  refine pw_find 2 (fun k => if k = 0 then decide (check a ≠ 0) else decide (check b ≠ 0)) (fun k => ⟨83, slk [(2, .sl 1 (keys.map .str)), (3, .ep (.agg [.sl 1 (a.names.map .str), .sl 1 (a.wts.map (.int .i64)), .int .i64 a.nodes, .sl 2 (a.pts.map ptV)]) 0), (4, .ep (.agg [.sl 1 (b.names.map .str), .sl 1 (b.wts.map (.int .i64)), .int .i64 b.nodes, .sl 2 (b.pts.map ptV)]) 0), (20, .sl 4 [(.agg [.sl 1 (a.names.map .str), .sl 1 (a.wts.map (.int .i64)), .int .i64 a.nodes, .sl 2 (a.pts.map ptV)]), (.agg [.sl 1 (b.names.map .str), .sl 1 (b.wts.map (.int .i64)), .int .i64 b.nodes, .sl 2 (b.pts.map ptV)])]), (21, .int .i64 2), (22, .int .i64 k)], bx⟩) (cov_look (by simp [go_sem])) ?_ ?_
  · intro k hk hpre N hN
    have hw := wr_succ (k := k) (by omega)
    rcases (by omega : k = 0 ∨ k = 1) with rfl | rfl
    · simp [go_sem, Tryd.L23_0, hb]
      intro b9 hb9
      simp [go_sem, upd_self hb9]
      refine callK_pure ca ?_
      simp [go_sem]
      refine ⟨fun h => ?_, fun h => ?_⟩
      · exact hoff (check a) (by rw [hE, if_pos h]) h _ rfl
      · exact hN _ (by simp [h]) (cov_look (by simp [go_sem, wr64]))
    · have h0 := hpre 0 (by omega)
      simp at h0
      simp [go_sem, Tryd.L23_0, hb]
      intro b9 hb9
      simp [go_sem, upd_self hb9]
      refine callK_pure cb ?_
      simp [go_sem]
      refine ⟨fun h => ?_, fun h => ?_⟩
      · exact hoff (check b) (by rw [hE, if_neg (by simpa using h0), if_pos h]) h _ rfl
      · exact hN _ (by simp [h]) (cov_look (by simp [go_sem, wr64]))
  intro hpre N
  have ha0 := hpre 0 (by omega)
  have hb0 := hpre 1 (by omega)
  simp at ha0 hb0
  have hE' : movedE a b keys = if 1000 < keys.length then 3 else if askE a keys ≠ 0 then askE a keys else askE b keys := by rw [hE, if_neg (by simpa using ha0), if_neg (by simpa using hb0)]
  obtain ⟨pa1, pa2⟩ := check_pts ha0
  obtain ⟨pb1, pb2⟩ := check_pts hb0
  simp [go_sem, Tryd.L23_0, hb]
  refine ⟨fun hk => ?_, fun hk => ?_⟩
  · exact hoff 3 (by rw [hE', if_pos (by omega)]) (by decide) _ rfl
  refine pw_find 2 (fun k => if k = 0 then decide (askE a keys ≠ 0) else decide (askE b keys ≠ 0)) (fun k => ⟨83, slk [(2, .sl 1 (keys.map .str)), (3, .ep (.agg [.sl 1 (a.names.map .str), .sl 1 (a.wts.map (.int .i64)), .int .i64 a.nodes, .sl 2 (a.pts.map ptV)]) 0), (4, .ep (.agg [.sl 1 (b.names.map .str), .sl 1 (b.wts.map (.int .i64)), .int .i64 b.nodes, .sl 2 (b.pts.map ptV)]) 0), (37, .sl 4 [(.agg [.sl 1 (a.names.map .str), .sl 1 (a.wts.map (.int .i64)), .int .i64 a.nodes, .sl 2 (a.pts.map ptV)]), (.agg [.sl 1 (b.names.map .str), .sl 1 (b.wts.map (.int .i64)), .int .i64 b.nodes, .sl 2 (b.pts.map ptV)])]), (38, .int .i64 2), (39, .int .i64 k)], bx⟩) (cov_look (by simp [go_sem])) ?_ ?_
  · intro k hk2 hpre2 N2 hN2
    have hw := wr_succ (k := k) (by omega)
    rcases (by omega : k = 0 ∨ k = 1) with rfl | rfl
    · simp [go_sem, Tryd.L23_1, hb]
      intro b9 hb9
      simp [go_sem, upd_self hb9]
      refine callK_pure (ra (by omega)) ?_
      simp [go_sem]
      refine ⟨fun h => ?_, fun h => ?_⟩
      · exact hoff (askE a keys) (by rw [hE', if_neg (by omega), if_pos h]) h _ rfl
      · exact hN2 _ (by simp [h]) (cov_look (by simp [go_sem, wr64]))
    · have h0 := hpre2 0 (by omega)
      simp at h0
      simp [go_sem, Tryd.L23_1, hb]
      intro b9 hb9
      simp [go_sem, upd_self hb9]
      refine callK_pure (rb (by omega)) ?_
      simp [go_sem]
      refine ⟨fun h => ?_, fun h => ?_⟩
      · exact hoff (askE b keys) (by rw [hE', if_neg (by omega), if_neg (by simpa using h0)]) h _ rfl
      · exact hN2 _ (by simp [h]) (cov_look (by simp [go_sem, wr64]))
  intro hpre2 N2
  have ha3 := hpre2 0 (by omega)
  have hb3 := hpre2 1 (by omega)
  simp at ha3 hb3
  have hM0 : movedE a b keys = 0 := by rw [hE', if_neg (by omega), if_neg (by simpa using ha3)]; exact hb3
  have hMv : MM = (movedL a b keys keys.length, 0) := by rw [← hMM]; unfold moved; rw [if_neg (by simpa using hM0)]
  have hany : keys.any (fun k => decide (200 < k.length)) = false := by
    unfold askE at ha3
    rw [if_neg (by simpa using ha0)] at ha3
    cases h : keys.any (fun k => decide (200 < k.length))
    · rfl
    · rw [h, if_pos rfl] at ha3; cases ha3
  have hpa : 0 < a.pts.length := by
    unfold askE at ha3
    rw [if_neg (by simpa using ha0), hany, if_neg (by decide)] at ha3
    by_cases h : a.pts.length = 0
    · rw [if_pos h] at ha3; cases ha3
    · omega
  have hpb : 0 < b.pts.length := by
    unfold askE at hb3
    rw [if_neg (by simpa using hb0), hany, if_neg (by decide)] at hb3
    by_cases h : b.pts.length = 0
    · rw [if_pos h] at hb3; cases hb3
    · omega
  simp [go_sem, Tryd.L23_1, hb]
  refine pw_for (ι := V × Boxes) keys.length (fun k p => Pl.Acc bx 3 1 ((movedL a b keys k).map fun (n : Nat) => .int .i64 (n : Int)) p.1 p.2)
    (fun k p => ⟨83, slk [(3, .ep (.agg [.sl 1 (a.names.map .str), .sl 1 (a.wts.map (.int .i64)), .int .i64 a.nodes, .sl 2 (a.pts.map ptV)]) 0), (4, .ep (.agg [.sl 1 (b.names.map .str), .sl 1 (b.wts.map (.int .i64)), .int .i64 b.nodes, .sl 2 (b.pts.map ptV)]) 0), (14, p.1), (50, .sl 1 (keys.map .str)), (51, .int .i64 keys.length), (52, .int .i64 k)], p.2⟩) (.nils, bx) (by simp [movedL]; exact acc_nil hb _ _) (cov_look (by simp [go_sem])) ?_ ?_
  · rintro k ⟨v, bx1⟩ hk3 hacc N3 hN3
    dsimp only at hacc ⊢
    have hw := wr_succ (k := k) (by omega)
    have hs := movedL_succ a b keys k
    have hlu := movedL_len a b keys k
    have hkk : keys.getD k [] = keys[k] := by simp [hk3]
    rw [hkk] at hs
    have hk200 := longK_any keys keys[k] (List.getElem_mem hk3) hany
    have c1 : PureCall Tryd.prog 9 [.sl 1 (keys[k].map byteV)] bx1 (.int .u32 (sum32 keys[k])) := Tryd.sum32_c keys[k] bx1 (by omega)
    have fa := Tryd.find_c a (sum32 keys[k]) bx1 (by omega) pa2
    have fb := Tryd.find_c b (sum32 keys[k]) bx1 (by omega) pb2
    have la := first_lt (sum32 keys[k]) hpa
    have lb := first_lt (sum32 keys[k]) hpb
    unfold movedAt backAt at hs
    generalize movedL a b keys (k + 1) = U1 at *
    generalize movedL a b keys k = U at *
    generalize first a (sum32 keys[k]) = ia at *
    generalize first b (sum32 keys[k]) = ib at *
    have e1 : (a.pts.getD ia ⟨0, 0⟩) = a.pts[ia] := by simp [la]
    have e2 : (b.pts.getD ib ⟨0, 0⟩) = b.pts[ib] := by simp [lb]
    rw [e1, e2] at hs
    simp only [rgV, strsV, intsV, ptsV] at fa fb
    simp [go_sem, Tryd.L23_2, hk3, (by omega : keys[k].length ≤ 9223372036854775807), hacc.fin]
    refine callK_pure c1 ?_
    simp [go_sem]
    refine callK_pure fa ?_
    simp [go_sem, la, ptV]
    refine callK_pure fb ?_
    simp [go_sem, lb, ptV, hacc.cells]
    refine ⟨fun hne => ⟨hacc.fin, ?_⟩, fun heq => ?_⟩
    · rw [if_pos (by simpa using hne)] at hs
      refine Tryd.appI (es := U.map fun (n : Nat) => .int .i64 (n : Int)) (news := [.int .i64 k]) hacc (Ext.refl _) hacc.fin (by simp [go_sem, srcEls]) (by simp; omega) (by omega) ?_
      intro v' bx3 ha3
      simp [go_sem, ha3.cells]
      exact hN3 _ (v', bx3) (by dsimp only; rw [hs]; simpa using ha3) (cov_look (by simp [go_sem, hw, ptV]))
    · rw [if_neg (by simpa using heq)] at hs
      exact hN3 _ (v, bx1) (by dsimp only; rw [hs]; exact hacc) (cov_look (by simp [go_sem, hw, ptV]))
  · rintro ⟨v, bx1⟩ hacc N3
    dsimp only at hacc ⊢
    simp [go_sem, Tryd.L23_2, hacc.cells, hacc.fin]
    rw [hMv]
    refine ret_frz 2 (by simp [go_sem]) hacc.ext ⟨?_, rfl⟩
    simp [go_sem, natsV]
    exact wk_tup2 (acc_frz hacc (by decide)) (Wk.refl _)
end Go.Proofs

/- Plain laws: shares, orders. -/
set_option linter.unusedSimpArgs false
set_option linter.unusedVariables false
namespace Go.Proofs
open Go Go.Pl Go.Hs

theorem raw_has {names : List Bs} {wts : List Int} {nodes : Int} {i : Nat} : ∀ k, i < k → 0 < (wts.getD i 0 * nodes).toNat → ∃ p, p ∈ raw names wts nodes k ∧ p.b = i
  | 0, h, _ => by omega
  | k + 1, h, hn => by
    by_cases e : i = k
    · subst e
      refine ⟨⟨sum32 (tagS (names.getD i []) ++ Lib.decDigits 0), i⟩, ?_, rfl⟩
      rw [raw, List.mem_append]
      right
      rw [ptsOf, List.mem_map]
      exact ⟨0, by rw [List.mem_range]; exact hn, rfl⟩
    · obtain ⟨p, h1, h2⟩ := raw_has (names := names) (wts := wts) (nodes := nodes) (i := i) k (by omega) hn
      exact ⟨p, by rw [raw, List.mem_append]; exact .inl h1, h2⟩
theorem has_pt {r : Rg} (h : check r = 0) (i : Nat) (hi : i < r.wts.length) : 0 < r.wts[i] ↔ ∃ p, p ∈ r.pts ∧ p.b = i := by
  obtain ⟨hw, hp⟩ := check0 h
  obtain ⟨g1, g2, g3, g4, g5, g6, g7, g8, g9⟩ := wrong0 hw
  have e : r.wts.getD i 0 = r.wts[i] := by simp [hi]
  rw [hp]
  constructor
  · intro h1
    have : 1 * 1 ≤ r.wts[i] * r.nodes := Int.mul_le_mul (by omega) (by omega) (by omega) (by omega)
    obtain ⟨p, h2, h3⟩ := raw_has (names := r.names) (wts := r.wts) (nodes := r.nodes) (i := i) r.names.length (by omega) (by rw [e]; omega)
    exact ⟨p, (List.mergeSort_perm _ ple).symm.subset h2, h3⟩
  · rintro ⟨p, h1, h2⟩
    obtain ⟨j, h3, h4, n, h5, _⟩ := raw_mem _ ((List.mergeSort_perm _ ple).subset h1)
    obtain rfl : j = i := by omega
    rw [e] at h5
    have hb : badW r.wts[j] = false := by
      have := List.any_eq_false.1 g6 _ (List.getElem_mem hi)
      simpa using this
    simp [badW] at hb
    rcases Int.lt_or_eq_of_le hb.1 with h6 | h6
    · exact h6
    · rw [← h6] at h5; simp at h5
/-! Each once -/
theorem uniq_nodup : ∀ (l out : List Int), out.Nodup → (uniq out l).Nodup
  | [], out, h => h
  | x :: l, out, h => by
    rw [uniq]
    refine uniq_nodup l _ ?_
    split
    · exact h
    · rename_i hx
      rw [List.nodup_append]
      refine ⟨h, by simp, ?_⟩
      intro a ha b hb
      simp at hb
      subst hb
      rintro rfl; exact hx ha
theorem uniq_mem : ∀ (l out : List Int) (x : Int), x ∈ uniq out l ↔ x ∈ out ∨ x ∈ l
  | [], out, x => by simp [uniq]
  | y :: l, out, x => by
    rw [uniq, uniq_mem l]
    by_cases h : y ∈ out
    · rw [if_pos h]
      constructor
      · rintro (h1 | h1)
        · exact .inl h1
        · exact .inr (List.mem_cons_of_mem _ h1)
      · rintro (h1 | h1)
        · exact .inl h1
        · rcases List.mem_cons.1 h1 with rfl | h2
          · exact .inl h
          · exact .inr h2
    · rw [if_neg h, List.mem_append, List.mem_singleton, List.mem_cons]
      constructor
      · rintro ((h1 | h1) | h1)
        · exact .inl h1
        · exact .inr (.inl h1)
        · exact .inr (.inr h1)
      · rintro (h1 | h1 | h1)
        · exact .inl (.inl h1)
        · exact .inl (.inr h1)
        · exact .inr h1
theorem uniq_head : ∀ (l out : List Int), out ≠ [] → (uniq out l)[0]? = out[0]?
  | [], out, _ => rfl
  | x :: l, out, h => by
    rw [uniq, uniq_head l _ (by split <;> simp [h])]
    split
    · rfl
    · cases out with
      | nil => exact absurd rfl h
      | cons y t => simp
theorem order_facts {r : Rg} {key : Bs} (he : asked r key = 0) : (order r key).1.Nodup ∧ (∀ x, x ∈ (order r key).1 ↔ ∃ p, p ∈ r.pts ∧ p.b = x) ∧ (order r key).1[0]? = some (backAt r (first r (sum32 key))) := by
  obtain ⟨hch, _, hpl, _⟩ := asked0 he
  have hfl := first_lt (sum32 key) hpl
  have ho : (order r key).1 = uniq [] (turnB r (first r (sum32 key))) := by
    unfold order; rw [if_neg (by simpa using he)]; rfl
  rw [ho]
  generalize first r (sum32 key) = fi at *
  refine ⟨uniq_nodup _ _ List.nodup_nil, fun x => ?_, ?_⟩
  · rw [uniq_mem]
    simp only [List.not_mem_nil, false_or, turnB, List.mem_map]
    constructor
    · rintro ⟨p, h1, h2⟩
      refine ⟨p, ?_, h2⟩
      rcases List.mem_append.1 h1 with h | h
      · exact List.mem_of_mem_drop h
      · exact List.mem_of_mem_take h
    · rintro ⟨p, h1, h2⟩
      refine ⟨p, ?_, h2⟩
      rw [← List.take_append_drop fi r.pts] at h1
      rw [List.mem_append] at h1 ⊢
      exact h1.symm
  · have h0 := turnB_at (k := 0) hfl hpl
    cases hT : turnB r fi with
    | nil => rw [hT] at h0; simp at h0
    | cons y t =>
      rw [hT] at h0
      rw [uniq, if_neg (by simp), uniq_head t _ (by simp)]
      simp only [Nat.add_zero, Nat.mod_eq_of_lt hfl] at h0
      simp at h0
      simp [h0, backAt, hfl]
theorem cnt_one : ∀ (l : List Int) (x : Int), l.Nodup → l.countP (fun y => decide (y = x)) = if x ∈ l then 1 else 0
  | [], x, _ => by simp
  | y :: l, x, h => by
    rw [List.nodup_cons] at h
    rw [List.countP_cons, cnt_one l x h.2]
    by_cases e : y = x
    · subst e
      rw [if_neg h.1]; simp
    · by_cases hx : x ∈ l
      · simp [e, hx]
      · simp [e, hx]; omega
theorem cnt_succ (k : Nat) : ∀ (l : List Int), (∀ x, x ∈ l → 0 ≤ x) → l.countP (fun y => decide (y < ((k + 1 : Nat) : Int))) = l.countP (fun y => decide (y < (k : Int))) + l.countP (fun y => decide (y = (k : Int)))
  | [], _ => rfl
  | y :: l, h => by
    have := cnt_succ k l fun x hx => h x (List.mem_cons_of_mem _ hx)
    rw [List.countP_cons, List.countP_cons, List.countP_cons, this]
    have h0 := h y (by simp)
    by_cases h1 : y < (k : Int)
    · have h2 : y < (k : Int) + 1 := by omega
      have h3 : ¬ y = (k : Int) := by omega
      simp [h1, h2, h3]; omega
    · by_cases h3 : y = (k : Int)
      · subst h3
        have h2 : (k : Int) < (k : Int) + 1 := by omega
        simp [h2]; try omega
      · have h2 : ¬ y < (k : Int) + 1 := by omega
        simp [h1, h2, h3]
/-! Shares -/
theorem sum_set : ∀ (l : List Int) (i : Nat) (x : Int) (hi : i < l.length), (l.set i x).sum = l.sum - l[i] + x
  | y :: l, 0, x, _ => by simp; omega
  | y :: l, i + 1, x, h => by
    simp only [List.set_cons_succ, List.sum_cons, List.getElem_cons_succ]
    rw [sum_set l i x (by simpa using h)]; omega
theorem sum_nonneg : ∀ (l : List Int), (∀ (i : Nat) (hi : i < l.length), 0 ≤ l[i]) → 0 ≤ l.sum
  | [], _ => by simp
  | y :: l, h => by
    have h1 := sum_nonneg l fun i hi => h (i + 1) (by simpa using hi)
    have h2 := h 0 (by simp)
    simp at h2 ⊢; omega
theorem le_sum : ∀ (l : List Int), (∀ (i : Nat) (hi : i < l.length), 0 ≤ l[i]) → ∀ (i : Nat) (hi : i < l.length), l[i] ≤ l.sum
  | y :: l, h, 0, _ => by
    have h1 := sum_nonneg l fun i hi => h (i + 1) (by simpa using hi)
    simp; omega
  | y :: l, h, i + 1, hi => by
    have h1 := le_sum l (fun i hi => h (i + 1) (by simpa using hi)) i (by simpa using hi)
    have h2 := h 0 (by simp)
    simp at h2 ⊢; omega
theorem take_sum : ∀ (l : List Int), (∀ (i : Nat) (hi : i < l.length), 0 ≤ l[i]) → ∀ k, 0 ≤ (l.take k).sum ∧ (l.take k).sum ≤ l.sum
  | [], _, k => by simp
  | y :: l, h, 0 => by
    have := sum_nonneg (y :: l) h
    simp at this ⊢; omega
  | y :: l, h, k + 1 => by
    have h1 := take_sum l (fun i hi => h (i + 1) (by simpa using hi)) k
    have h2 := h 0 (by simp)
    simp at h2 ⊢; omega
/-- What is held while shares are counted. -/
structure ShI (r : Rg) (k : Nat) (L : List Int) (nx : Int) : Prop where
  len : L.length = r.names.length
  pos : ∀ (i : Nat) (hi : i < L.length), 0 ≤ L[i]
  sum : L.sum = nx
  hi : nx ≤ 4294967296
  off : ∀ (i : Nat) (hi : i < L.length), (∀ p, p ∈ r.pts → p.b ≠ i) → L[i] = 0
  nxt : nx = if k = 0 then 0 else (r.pts.getD (k - 1) ⟨0, 0⟩).h + 1
  some_ : ∀ (j : Nat) (hj : j < r.pts.length), j < k → (j = 0 ∨ (r.pts.getD (j - 1) ⟨0, 0⟩).h < r.pts[j].h) → ∀ (i : Nat) (hi : i < L.length), r.pts[j].b = i → 0 < L[i]
theorem ShI.add {L : List Int} {i : Nat} {x : Int} (hi : i < L.length) (hp : ∀ (i : Nat) (hi : i < L.length), 0 ≤ L[i]) (h0 : 0 ≤ x) (hs : L.sum + x ≤ 4294967296) : addAt L i x = L.set i (L[i] + x) := by
  have := le_sum L hp i hi
  have := hp i hi
  unfold addAt
  rw [Int.toNat_natCast]
  congr 1
  simp only [List.getD_eq_getElem?_getD, List.getElem?_eq_getElem hi, Option.getD_some]
  exact wru64 (by omega)
theorem set_at {L : List Int} {i j : Nat} {x : Int} (hj : j < (L.set i x).length) : (L.set i x)[j] = if i = j then x else L[j]'(by simpa using hj) := by rw [List.getElem_set]
theorem sh_inv {r : Rg} (h : check r = 0) : ∀ k, k ≤ r.pts.length → ShI r k (sh r k).1 (sh r k).2
  | 0, _ => by
    have h1 : sh r 0 = (List.replicate r.names.length 0, 0) := by simp [sh]
    rw [h1]
    refine ⟨by simp, fun i hi => by simp, ?_, by simp, fun i hi _ => by simp, rfl, fun j _ hj => by omega⟩
    simp only
    generalize r.names.length = n
    induction n with
    | zero => rfl
    | succ n ih => rw [List.replicate_succ, List.sum_cons, ih]; rfl
  | k + 1, hk => by
    have ih := sh_inv h k (by omega)
    have hkl : k < r.pts.length := by omega
    obtain ⟨p0, p1, p2, p3⟩ := pts_ok h (List.getElem_mem hkl)
    have hso := (check_pts h).2
    rw [sh_succ hkl]
    generalize sh r k = S at *
    obtain ⟨L, nx⟩ := S
    obtain ⟨i1, i2, i3, i4, i5, i6, i7⟩ := ih
    simp only at i1 i2 i3 i4 i5 i6 i7
    have hpb : ∃ bn : Nat, r.pts[k].b = bn := ⟨r.pts[k].b.toNat, by omega⟩
    obtain ⟨bn, hbn⟩ := hpb
    have hbl : bn < L.length := by omega
    have hlast : (r.pts.getD (k + 1 - 1) ⟨0, 0⟩).h = r.pts[k].h := by simp [hkl]
    unfold shareStep
    simp only
    by_cases hlt : nx < r.pts[k].h + 1
    · rw [if_pos hlt]
      have hadd := ShI.add (x := r.pts[k].h + 1 - nx) hbl i2 (by omega) (by omega)
      simp only [hbn]
      rw [hadd]
      refine ⟨by simp [i1], fun i hi => ?_, ?_, by omega, fun i hi hp => ?_, ?_, fun j hj hjk hf i hi hji => ?_⟩
      · rw [set_at]
        simp at hi
        have := i2 i hi
        have := i2 bn hbl
        split
        · omega
        · exact i2 i hi
      · rw [sum_set _ _ _ hbl]; omega
      · rw [set_at]
        simp at hi
        split
        · rename_i e
          subst e
          exact absurd hbn (hp _ (List.getElem_mem hkl))
        · exact i5 i hi hp
      · rw [if_neg (by omega), hlast]
      · rw [set_at]
        simp at hi
        have := i2 bn hbl
        split
        · omega
        · rename_i e
          rcases Nat.lt_or_ge j k with h5 | h5
          · exact i7 j hj h5 hf i hi hji
          · obtain rfl : j = k := by omega
            omega
    · rw [if_neg hlt]
      have hk0 : ¬ k = 0 := by
        rintro rfl
        rw [if_pos rfl] at i6; omega
      rw [if_neg hk0] at i6
      have hk1 : k - 1 < r.pts.length := by omega
      have e1 : (r.pts.getD (k - 1) ⟨0, 0⟩).h = r.pts[k - 1].h := by simp [hk1]
      have hle := List.pairwise_iff_getElem.1 hso (k - 1) k hk1 hkl (by omega)
      refine ⟨i1, i2, i3, i4, i5, ?_, fun j hj hjk hf i hi hji => ?_⟩
      · rw [if_neg (by omega), hlast]; omega
      · rcases Nat.lt_or_ge j k with h5 | h5
        · exact i7 j hj h5 hf i hi hji
        · obtain rfl : j = k := by omega
          rcases hf with h6 | h6
          · exact absurd h6 hk0
          · rw [e1] at h6; omega
theorem shares_facts {r : Rg} (he : asked r [] = 0) : (shares r).2 = 0 ∧ (shares r).1.length = r.names.length ∧ (∀ (i : Nat) (hi : i < (shares r).1.length), 0 ≤ (shares r).1[i]) ∧ (shares r).1.sum = 4294967296 ∧ (∀ (i : Nat) (hi : i < (shares r).1.length), (∀ p, p ∈ r.pts → p.b ≠ i) → (shares r).1[i] = 0) ∧ (∀ (h : Int) (i : Nat) (hi : i < (shares r).1.length), backAt r (first r h) = i → 0 < (shares r).1[i]) := by
  obtain ⟨hch, _, hpl, hpm, hso⟩ := asked0 he
  have hf : shares r = (addAt (sh r r.pts.length).1 (backAt r 0) (4294967296 - (sh r r.pts.length).2), 0) := by
    unfold shares sh; rw [if_neg (by simpa using he)]; simp
  obtain ⟨i1, i2, i3, i4, i5, i6, i7⟩ := sh_inv hch r.pts.length (Nat.le_refl _)
  obtain ⟨p0, p1, p2, p3⟩ := pts_ok hch (List.getElem_mem hpl)
  have hba : backAt r 0 = r.pts[0].b := by simp [backAt, hpl]
  obtain ⟨bn, hbn⟩ : ∃ bn : Nat, r.pts[0].b = bn := ⟨r.pts[0].b.toNat, by omega⟩
  rw [hf, hba, hbn]
  generalize sh r r.pts.length = S at *
  obtain ⟨L, nx⟩ := S
  simp only at i1 i2 i3 i4 i5 i6 i7 ⊢
  have hbl : bn < L.length := by omega
  rw [ShI.add hbl i2 (by omega) (by omega)]
  refine ⟨trivial, by simp [i1], fun i hi => ?_, ?_, fun i hi hp => ?_, fun h i hi hb => ?_⟩
  · rw [set_at]
    simp at hi
    have := i2 bn hbl
    split
    · omega
    · exact i2 i hi
  · rw [sum_set _ _ _ hbl]; omega
  · rw [set_at]
    simp at hi
    split
    · rename_i e
      subst e
      exact absurd hbn (hp _ (List.getElem_mem hpl))
    · exact i5 i hi hp
  · rw [set_at]
    simp at hi
    have hfl := first_lt h hpl
    have hb' : r.pts[first r h].b = i := by rw [← hb]; simp [backAt, hfl]
    have hpos : 0 < L[i] := by
      refine i7 (first r h) hfl hfl ?_ i hi hb'
      rcases Nat.eq_zero_or_pos (first r h) with h0 | h0
      · exact .inl h0
      · right
        have hfi : r.pts.findIdx? (fun p => decide (h ≤ p.h)) = some (first r h) := by
          unfold first at h0 ⊢
          cases hx : r.pts.findIdx? fun p => decide (h ≤ p.h) with
          | none => rw [hx] at h0; simp at h0
          | some q => rfl
        obtain ⟨h1, h2, h3⟩ := List.findIdx?_eq_some_iff_getElem.1 hfi
        have h4 := h3 (first r h - 1) (by omega)
        have e1 : (r.pts.getD (first r h - 1) ⟨0, 0⟩).h = (r.pts[first r h - 1]'(by omega)).h := by
          simp [List.getElem?_eq_getElem (by omega : first r h - 1 < r.pts.length)]
        rw [e1]
        simp at h2 h4
        omega
    have := i2 bn hbl
    split
    · rename_i e
      subst e; omega
    · exact hpos
end Go.Proofs

/- Plain laws: a backend that leaves. -/
set_option linter.unusedSimpArgs false
set_option linter.unusedVariables false
namespace Go.Proofs
open Go Go.Pl Go.Hs

/-- The points in the order in which a hash meets them. -/
def turnP (r : Rg) (h : Int) : List Pt := r.pts.drop (first r h) ++ r.pts.take (first r h)
theorem drop_filter : ∀ (l : List Pt) (h : Int) (i : Nat), (l.Pairwise fun a b => a.h ≤ b.h) → (l.findIdx? fun p => decide (h ≤ p.h)) = some i → l.drop i = l.filter (fun p => decide (h ≤ p.h)) ∧ l.take i = l.filter (fun p => decide (p.h < h))
  | [], h, i, _, hi => by simp at hi
  | p :: l, h, i, hs, hi => by
    rw [List.pairwise_cons] at hs
    rw [List.findIdx?_cons] at hi
    by_cases hp : h ≤ p.h
    · rw [if_pos (by simpa using hp)] at hi
      obtain rfl := (Option.some.inj hi)
      constructor
      · rw [List.drop_zero, List.filter_eq_self.2]
        intro q hq
        rcases List.mem_cons.1 hq with rfl | hq
        · simpa using hp
        · have := hs.1 q hq; simp; omega
      · rw [List.take_zero, List.filter_eq_nil_iff.2]
        intro q hq
        rcases List.mem_cons.1 hq with rfl | hq
        · simpa using hp
        · have := hs.1 q hq; simp; omega
    · rw [if_neg (by simpa using hp), Option.map_eq_some_iff] at hi
      obtain ⟨j, hj, rfl⟩ := hi
      obtain ⟨h1, h2⟩ := drop_filter l h j hs.2 hj
      constructor
      · rw [List.drop_succ_cons, h1, List.filter_cons_of_neg (by simpa using hp)]
      · rw [List.take_succ_cons, h2, List.filter_cons_of_pos (by simp; omega)]
theorem turn_eq {r : Rg} (hs : r.pts.Pairwise fun a b => a.h ≤ b.h) (h : Int) : turnP r h = r.pts.filter (fun p => decide (h ≤ p.h)) ++ r.pts.filter (fun p => decide (p.h < h)) := by
  unfold turnP first
  cases hf : r.pts.findIdx? fun p => decide (h ≤ p.h) with
  | some i =>
    obtain ⟨h1, h2⟩ := drop_filter _ h i hs hf
    simp only
    rw [h1, h2]
  | none =>
    rw [List.findIdx?_eq_none_iff] at hf
    simp only [List.drop_zero, List.take_zero, List.append_nil]
    rw [List.filter_eq_nil_iff.2, List.filter_eq_self.2, List.nil_append]
    · intro q hq; have := hf q hq; simp at this ⊢; omega
    · intro q hq; have := hf q hq; simp at this ⊢; omega
theorem turn_head {r : Rg} (h : Int) (hpl : 0 < r.pts.length) : (turnP r h)[0]? = some (r.pts[first r h]'(first_lt h hpl)) := by
  have hfl := first_lt h hpl
  unfold turnP
  rw [List.getElem?_append_left (by simp; omega)]
  simp [hfl]
theorem srt_filter (l : List Pt) (p : Pt → Bool) : srt (l.filter p) = (srt l).filter p := (srt_eq ((List.mergeSort_perm l ple).filter p) ((srt_pair l).filter p)).symm
theorem raw_set0 {names : List Bs} {wts : List Int} {nodes : Int} {x : Nat} : ∀ k, raw names (wts.set x 0) nodes k = (raw names wts nodes k).filter fun p => decide (p.b ≠ (x : Int))
  | 0 => by simp [raw]
  | k + 1 => by
    rw [raw, raw, raw_set0 k, List.filter_append]
    congr 1
    by_cases e : k = x
    · subst e
      have h1 : ((wts.set k 0).getD k 0 * nodes).toNat = 0 := by
        have : (wts.set k 0).getD k 0 = 0 := by
          rw [List.getD_eq_getElem?_getD, List.getElem?_set]
          by_cases hk : k < wts.length
          · simp [hk]
          · simp [hk]
        rw [this]; simp
      rw [h1, List.filter_eq_nil_iff.2]
      · rfl
      · intro q hq
        simp only [ptsOf, List.mem_map] at hq
        obtain ⟨n, _, rfl⟩ := hq
        simp
    · have h1 : (wts.set x 0).getD k 0 = wts.getD k 0 := by
        rw [List.getD_eq_getElem?_getD, List.getElem?_set, if_neg (Ne.symm e), ← List.getD_eq_getElem?_getD]
      rw [h1, List.filter_eq_self.2]
      intro q hq
      simp only [ptsOf, List.mem_map] at hq
      obtain ⟨n, _, rfl⟩ := hq
      simp; omega
theorem wrong_set {names : List Bs} {wts : List Int} {nodes : Int} {x : Nat} {w : Int} (h : wrong names wts nodes = 0) (hx : x < wts.length) (hw0 : badW w = false) (hs : wsum (wts.set x w) nodes ≤ 4096) : wrong names (wts.set x w) nodes = 0 := by
  obtain ⟨g1, g2, g3, g4, g5, g6, g7, g8, g9⟩ := wrong0 h
  unfold wrong
  have hany : (wts.set x w).any badW = false := by
    rw [List.any_eq_false]
    intro y hy
    rcases List.mem_or_eq_of_mem_set hy with h1 | h1
    · exact (List.any_eq_false.1 g6) y h1
    · subst h1; simp [hw0]
  rw [if_neg (by omega), if_neg (by simp; omega), if_neg (by omega), if_neg (by simp [hany]), if_neg (by simp [g7]), if_neg (by simpa using g8), if_neg (by omega)]
theorem wsum_set {wts : List Int} {nodes : Int} {x : Nat} {w : Int} (hx : x < wts.length) : wsum (wts.set x w) nodes = wsum wts nodes - wts[x] * nodes + w * nodes := by
  unfold wsum
  rw [List.map_set, sum_set _ _ _ (by simpa using hx)]
  simp
theorem ring_ok {names : List Bs} {wts : List Int} {nodes : Int} (h : wrong names wts nodes = 0) : ring names wts nodes = (⟨names, wts, nodes, srt (raw names wts nodes names.length)⟩, 0) := by
  unfold ring; rw [if_pos h]
theorem check_ring {names : List Bs} {wts : List Int} {nodes : Int} (h : wrong names wts nodes = 0) : check (ring names wts nodes).1 = 0 := by
  unfold check
  rw [ring_ok h]
  simp only
  rw [ring_ok h]
  simp
theorem weigh_ok {r : Rg} {x : Nat} {w : Int} (hch : check r = 0) (hx : x < r.names.length) : weigh r x w = ring r.names (r.wts.set x w) r.nodes := by
  unfold weigh
  rw [if_neg (by simpa using hch), if_neg (by omega), Int.toNat_natCast]
theorem uniq_pre : ∀ (l out : List Int) (i : Nat), i < out.length → (uniq out l)[i]? = out[i]?
  | [], out, i, _ => rfl
  | x :: l, out, i, h => by
    rw [uniq, uniq_pre l _ i (by
      split
      · exact h
      · rw [List.length_append]; omega)]
    split
    · rfl
    · rw [List.getElem?_append_left h]
theorem uniq_next (x : Int) : ∀ (l : List Int), (uniq [x] l)[1]? = (l.filter fun y => decide (y ≠ x))[0]?
  | [] => rfl
  | y :: l => by
    rw [uniq]
    by_cases e : y = x
    · subst e
      rw [if_pos (by simp), List.filter_cons_of_neg (by simp)]
      exact uniq_next y l
    · rw [if_neg (by simpa using e), List.filter_cons_of_pos (by simpa using e), uniq_pre l _ 1 (by simp)]
      simp
theorem asked_ok {r : Rg} {key : Bs} (hch : check r = 0) (hk : key.length ≤ 200) : asked r key = if r.pts.length = 0 then 4 else 0 := by
  unfold asked
  rw [if_neg (by simpa using hch), if_neg (by omega)]
theorem find_ok {r : Rg} {key : Bs} (he : asked r key = 0) {p : Pt} (h : (turnP r (sum32 key))[0]? = some p) : find r key = (p.b, 0) := by
  obtain ⟨_, _, hpl, _⟩ := asked0 he
  rw [turn_head _ hpl] at h
  unfold find
  rw [if_neg (by simpa using he)]
  have hfl := first_lt (sum32 key) hpl
  simp [backAt, hfl, Option.some.inj h]
theorem leaves_facts {r : Rg} (hch : check r = 0) {x : Nat} (hx : x < r.names.length) : ∃ s : Rg, weigh r x 0 = (s, 0) ∧ s.names = r.names ∧ s.wts.length = r.wts.length ∧ ∀ key : Bs, key.length ≤ 200 → asked r key = 0 → ∃ (a : Int) (t : List Int), (order r key).1 = a :: t ∧ find r key = (a, 0) ∧ (a ≠ x → find s key = (a, 0)) ∧ (a = x → (t = [] → find s key = (0, 4)) ∧ ∀ c t', t = c :: t' → find s key = (c, 0) ∧ c ≠ x) := by
  obtain ⟨hw, hp⟩ := check0 hch
  obtain ⟨g1, g2, g3, g4, g5, g6, g7, g8, g9⟩ := wrong0 hw
  have hxw : x < r.wts.length := by omega
  have hb : badW r.wts[x] = false := by
    have := List.any_eq_false.1 g6 _ (List.getElem_mem hxw)
    simpa using this
  simp [badW] at hb
  have h4' : 0 ≤ r.wts[x] * r.nodes := Int.mul_nonneg hb.1 (by omega)
  have hws := wrong_set (w := 0) hw hxw (by decide) (by rw [wsum_set hxw]; omega)
  refine ⟨_, (weigh_ok hch hx).trans (ring_ok hws), rfl, by simp, fun key hk he => ?_⟩
  generalize hS : (⟨r.names, r.wts.set x 0, r.nodes, srt (raw r.names (r.wts.set x 0) r.nodes r.names.length)⟩ : Rg) = s
  have hcs : check s = 0 := by
    have := check_ring hws
    rw [ring_ok hws] at this
    rw [← hS]; exact this
  have hsp : s.pts = r.pts.filter fun p => decide (p.b ≠ (x : Int)) := by
    rw [← hS]
    simp only
    rw [raw_set0, srt_filter, ← hp]
  obtain ⟨_, _, hpl, hpm, hso⟩ := asked0 he
  have hss := (check_pts hcs).2
  have hT : turnP s (sum32 key) = (turnP r (sum32 key)).filter fun p => decide (p.b ≠ (x : Int)) := by
    rw [turn_eq hss, turn_eq hso, hsp, List.filter_append, List.filter_filter, List.filter_filter, List.filter_filter, List.filter_filter]
    congr 1
    · refine List.filter_congr fun p _ => ?_
      rw [Bool.and_comm]
    · refine List.filter_congr fun p _ => ?_
      rw [Bool.and_comm]
  have ho : (order r key).1 = uniq [] ((turnP r (sum32 key)).map (·.b)) := by
    unfold order; rw [if_neg (by simpa using he)]; rfl
  rw [ho]
  have hth := turn_head (sum32 key) hpl
  cases hTr : turnP r (sum32 key) with
  | nil => rw [hTr] at hth; simp at hth
  | cons p t =>
    rw [hTr] at hT
    have hfr := find_ok he (p := p) (by rw [hTr]; rfl)
    rw [List.map_cons, uniq, if_neg (by simp), List.nil_append]
    have hpre := uniq_pre (t.map (·.b)) [p.b] 0 (by simp)
    have hnx := uniq_next p.b (t.map (·.b))
    cases hU : uniq [p.b] (t.map (·.b)) with
    | nil => rw [hU] at hpre; simp at hpre
    | cons a u =>
      rw [hU] at hpre hnx
      simp at hpre
      subst hpre
      have hsl : s.pts.length = 0 → (turnP s (sum32 key)) = [] := fun h => by
        unfold turnP; rw [List.eq_nil_of_length_eq_zero h]; simp
      refine ⟨p.b, u, rfl, hfr, fun hne => ?_, fun heq => ⟨fun hu => ?_, fun c u' hu => ?_⟩⟩
      · rw [List.filter_cons_of_pos (by simpa using hne)] at hT
        refine find_ok ?_ (by rw [hT]; rfl)
        rw [asked_ok hcs hk, if_neg]
        intro h; rw [hsl h] at hT; cases hT
      · subst hu
        rw [heq] at hnx
        have hnil : t.filter (fun p => decide (p.b ≠ (x : Int))) = [] := by
          have h1 : ((t.map (·.b)).filter fun y => decide (y ≠ (x : Int))) = [] := by
            cases hz : (t.map (·.b)).filter fun y => decide (y ≠ (x : Int)) with
            | nil => rfl
            | cons y z => rw [hz] at hnx; simp at hnx
          rw [List.filter_eq_nil_iff] at h1 ⊢
          intro q hq
          exact h1 q.b (List.mem_map.2 ⟨q, hq, rfl⟩)
        rw [List.filter_cons_of_neg (by simpa using heq), hnil] at hT
        have hl0 : s.pts.length = 0 := by
          have := congrArg List.length hT
          unfold turnP at this
          simp at this
          have h1 := this.1
          have h2 := this.2
          rcases Nat.eq_zero_or_pos s.pts.length with h3 | h3
          · exact h3
          · have h4 := first_lt (sum32 key) h3
            omega
        have : asked s key = 4 := by rw [asked_ok hcs hk, if_pos hl0]
        unfold find; rw [if_pos (by rw [this]; decide), this]
      · subst hu
        rw [List.filter_cons_of_neg (by simpa using heq)] at hT
        rw [heq, List.filter_map] at hnx
        simp only [List.getElem?_cons_succ, List.getElem?_cons_zero] at hnx
        have hnx' : ((t.filter fun p => decide (p.b ≠ (x : Int))).map (·.b))[0]? = some c := hnx.symm
        cases hF : t.filter (fun p => decide (p.b ≠ (x : Int))) with
        | nil => rw [hF] at hnx'; simp at hnx'
        | cons q v =>
          rw [hF] at hnx' hT
          simp at hnx'
          subst hnx'
          have hq : q ∈ t.filter (fun p => decide (p.b ≠ (x : Int))) := by rw [hF]; simp
          refine ⟨find_ok ?_ (by rw [hT]; rfl), by simpa using (List.mem_filter.1 hq).2⟩
          rw [asked_ok hcs hk, if_neg]
          intro h; rw [hsl h] at hT; cases hT
end Go.Proofs

/- Plain laws: a backend without weight. -/
set_option linter.unusedSimpArgs false
set_option linter.unusedVariables false
namespace Go.Proofs
open Go Go.Pl Go.Hs

theorem bytes32 : ((List.range 256).map fun n => sum32 [UInt8.ofNat n]).Nodup := by decide +kernel
theorem bytes64 : ((List.range 256).map fun n => sum64 [UInt8.ofNat n]).Nodup := by decide +kernel
theorem byte_inj {f : UInt8 → Int} (h : ((List.range 256).map fun n => f (UInt8.ofNat n)).Nodup) (x y : UInt8) : (f x = f y) ↔ x = y := by
  constructor
  · intro he
    have hx := x.toNat_lt
    have hy := y.toNat_lt
    rw [List.Nodup, List.pairwise_iff_getElem] at h
    have ex : f (UInt8.ofNat x.toNat) = f x := by congr 1; simp
    have ey : f (UInt8.ofNat y.toNat) = f y := by congr 1; simp
    rcases Nat.lt_trichotomy x.toNat y.toNat with h1 | h1 | h1
    · have := h x.toNat y.toNat (by simp; omega) (by simp; omega) h1
      simp only [List.getElem_map, List.getElem_range] at this
      exact absurd (ex.trans (he.trans ey.symm)) this
    · exact UInt8.toNat_inj.1 h1
    · have := h y.toNat x.toNat (by simp; omega) (by simp; omega) h1
      simp only [List.getElem_map, List.getElem_range] at this
      exact absurd (ey.trans (he.symm.trans ex.symm)) this
  · rintro rfl; rfl
def ren (a : Nat) (p : Pt) : Pt := if (a : Int) ≤ p.b then ⟨p.h, p.b + 1⟩ else p
theorem ren_h (a : Nat) (p : Pt) : (ren a p).h = p.h := by unfold ren; split <;> rfl
theorem ren_b (a : Nat) (p : Pt) : (ren a p).b = if (a : Int) ≤ p.b then p.b + 1 else p.b := by unfold ren; split <;> rfl
theorem ren_ple (a : Nat) (p q : Pt) (h : ple p q = true) : ple (ren a p) (ren a q) = true := by
  simp only [ple, Bool.or_eq_true, Bool.and_eq_true, decide_eq_true_eq] at h ⊢
  rw [ren_h, ren_h, ren_b, ren_b]
  split <;> split <;> omega
theorem srt_ren (a : Nat) (l : List Pt) : srt (l.map (ren a)) = (srt l).map (ren a) := by
  refine (srt_eq ((List.mergeSort_perm l ple).map _) ?_).symm
  rw [List.pairwise_map]
  exact (srt_pair l).imp fun {p q} h => ren_ple a p q h
theorem pts_ren (a : Nat) (s : Bs) (m i : Nat) : (ptsOf s m i).map (ren a) = ptsOf s m (if a ≤ i then i + 1 else i) := by
  unfold ptsOf
  rw [List.map_map]
  refine List.map_congr_left fun n _ => ?_
  simp only [Function.comp, ren]
  by_cases h : a ≤ i
  · rw [if_pos (by omega), if_pos h]; push_cast; rfl
  · rw [if_neg (by omega), if_neg h]
def ins {α : Type} (l : List α) (a : Nat) (x : α) : List α := l.take a ++ [x] ++ l.drop a
theorem ins_lt {α : Type} {l : List α} {a i : Nat} {x d : α} (ha : a ≤ l.length) (hi : i < a) : (ins l a x).getD i d = l.getD i d := by
  unfold ins
  rw [List.getD_eq_getElem?_getD, List.getD_eq_getElem?_getD, List.append_assoc, List.getElem?_append_left (by simp; omega), List.getElem?_take, if_pos hi]
theorem ins_at {α : Type} {l : List α} {a : Nat} {x d : α} (ha : a ≤ l.length) : (ins l a x).getD a d = x := by
  unfold ins
  rw [List.getD_eq_getElem?_getD, List.append_assoc, List.getElem?_append_right (by simp; omega)]
  simp [Nat.min_eq_left ha]
theorem ins_gt {α : Type} {l : List α} {a i : Nat} {x d : α} (ha : a ≤ l.length) (hi : a ≤ i) : (ins l a x).getD (i + 1) d = l.getD i d := by
  unfold ins
  rw [List.getD_eq_getElem?_getD, List.getD_eq_getElem?_getD, List.getElem?_append_right (by simp; omega), List.getElem?_drop]
  congr 2
  simp [Nat.min_eq_left ha]; omega
theorem ins_len {α : Type} {l : List α} {a : Nat} {x : α} (ha : a ≤ l.length) : (ins l a x).length = l.length + 1 := by
  unfold ins; simp; omega
theorem raw_ins {names : List Bs} {wts : List Int} {nodes : Int} {a : Nat} {nm : Bs} (h1 : a ≤ names.length) (h2 : a ≤ wts.length) : ∀ k, (k ≤ a → raw (ins names a nm) (ins wts a 0) nodes k = (raw names wts nodes k).map (ren a)) ∧ (a ≤ k → raw (ins names a nm) (ins wts a 0) nodes (k + 1) = (raw names wts nodes k).map (ren a))
  | 0 => by
    refine ⟨fun _ => by simp [raw], fun h => ?_⟩
    obtain rfl : a = 0 := by omega
    rw [raw, raw, ins_at h1, ins_at h2]
    simp [ptsOf, raw]
  | k + 1 => by
    obtain ⟨i1, i2⟩ := raw_ins (names := names) (wts := wts) (nodes := nodes) (nm := nm) h1 h2 k
    have hlow : k + 1 ≤ a → raw (ins names a nm) (ins wts a 0) nodes (k + 1) = (raw names wts nodes (k + 1)).map (ren a) := fun h => by
      rw [raw, raw, i1 (by omega), List.map_append, pts_ren, ins_lt h1 (by omega), ins_lt h2 (by omega), if_neg (by omega)]
    refine ⟨hlow, fun h => ?_⟩
    by_cases e : a = k + 1
    · rw [raw, hlow (by omega)]
      have hx : ptsOf ((ins names a nm).getD (k + 1) []) ((ins wts a 0).getD (k + 1) 0 * nodes).toNat (k + 1) = [] := by
        rw [← e, ins_at h2]; simp [ptsOf]
      rw [hx, List.append_nil]
    · rw [raw, i2 (by omega), raw, List.map_append, pts_ren, ins_gt h1 (by omega), ins_gt h2 (by omega), if_pos (by omega)]
theorem first_map {r s : Rg} {a : Nat} (h : s.pts = r.pts.map (ren a)) (x : Int) : first s x = first r x := by
  unfold first
  rw [h, List.findIdx?_map]
  have : ((fun p : Pt => decide (x ≤ p.h)) ∘ ren a) = fun p => decide (x ≤ p.h) := by
    funext p; simp [ren_h]
  rw [this]
theorem idle_facts {r : Rg} (hch : check r = 0) {a : Nat} (ha : a ≤ r.names.length) {nm key : Bs} (hk : key.length ≤ 200) {s : Rg} (hs : ring (ins r.names a nm) (ins r.wts a 0) r.nodes = (s, 0)) :
    (find s key).2 = (find r key).2 ∧ (find s key).1 = if (find r key).2 = 0 ∧ (a : Int) ≤ (find r key).1 then (find r key).1 + 1 else (find r key).1 := by
  obtain ⟨hw, hp⟩ := check0 hch
  obtain ⟨g1, g2, g3, g4, g5, g6, g7, g8, g9⟩ := wrong0 hw
  have hws : wrong (ins r.names a nm) (ins r.wts a 0) r.nodes = 0 := by
    by_cases h : wrong (ins r.names a nm) (ins r.wts a 0) r.nodes = 0
    · exact h
    · unfold ring at hs; rw [if_neg h] at hs
      injection hs with _ h2
  have hcs := check_ring hws
  rw [hs] at hcs
  simp only at hcs
  rw [ring_ok hws] at hs
  injection hs with hs _
  have hsp : s.pts = r.pts.map (ren a) := by
    rw [← hs]
    simp only
    rw [ins_len ha, (raw_ins ha (by omega) r.names.length).2 ha, srt_ren, ← hp]
  have hlen : s.pts.length = r.pts.length := by rw [hsp]; simp
  by_cases h0 : r.pts.length = 0
  · have e1 : asked r key = 4 := by rw [asked_ok hch hk, if_pos h0]
    have e2 : asked s key = 4 := by rw [asked_ok hcs hk, if_pos (by omega)]
    have f1 : find r key = (0, 4) := by unfold find; rw [e1]; rfl
    have f2 : find s key = (0, 4) := by unfold find; rw [e2]; rfl
    rw [f1, f2]; simp
  · have e1 : asked r key = 0 := by rw [asked_ok hch hk, if_neg h0]
    have e2 : asked s key = 0 := by rw [asked_ok hcs hk, if_neg (by omega)]
    have f1 : find r key = (backAt r (first r (sum32 key)), 0) := by unfold find; rw [if_neg (by simpa using e1)]
    have f2 : find s key = (backAt s (first s (sum32 key)), 0) := by unfold find; rw [if_neg (by simpa using e2)]
    have hfl := first_lt (sum32 key) (by omega : 0 < r.pts.length)
    rw [f1, f2, first_map hsp]
    have b1 : backAt r (first r (sum32 key)) = r.pts[first r (sum32 key)].b := by simp [backAt, hfl]
    have b2 : backAt s (first r (sum32 key)) = (ren a r.pts[first r (sum32 key)]).b := by
      unfold backAt; rw [hsp]; simp [hfl]
    simp only
    rw [b2, b1, ren_b]
    simp
end Go.Proofs

/- Contracts: far. -/
set_option linter.unusedSimpArgs false
set_option linter.unusedVariables false
set_option maxRecDepth 100000
namespace Go.Proofs
open Go Go.Pl Go.Hs

def okW (nodes w : Int) : Bool := decide (0 ≤ w) && decide (w ≤ 20) && decide (0 ≤ nodes) && decide (nodes ≤ 100)
def addW (nodes : Int) (s w : Int) : Int := if okW nodes w = true then s + w * nodes else s
def manyR (ws : List Int) (nodes : Int) : Int := ws.foldl (addW nodes) 0
def big1 (r : Rg) : Bool := decide (20 < r.names.length) || decide (20 < r.wts.length) || (decide (600 < r.pts.length) && decide (r.pts.length ≤ 4096)) || decide (5000 < r.pts.length)
def longN (s : Bs) : Bool := decide (100 < s.length)
def farB (r : Rg) : Bool := big1 r || (r.names.any longN || (decide (600 < manyR r.wts r.nodes) && decide (manyR r.wts r.nodes ≤ 4096)))
theorem far_not {r : Rg} (h : farB r = false) : r.names.length ≤ 20 ∧ r.wts.length ≤ 20 ∧ r.pts.length ≤ 5000 ∧ ∀ s, s ∈ r.names → s.length ≤ 100 := by
  unfold farB at h
  rw [Bool.or_eq_false_iff, Bool.or_eq_false_iff] at h
  obtain ⟨h1, h2, _⟩ := h
  simp [big1] at h1
  rw [List.any_eq_false] at h2
  refine ⟨by omega, by omega, by omega, fun s hs => ?_⟩
  have := h2 s hs
  simpa [longN] using this
theorem addW_rng {nodes w : Int} (h : okW nodes w = true) : 0 ≤ w * nodes ∧ w * nodes ≤ 2000 := by
  simp [okW] at h
  have h4' : 0 ≤ w * nodes := Int.mul_nonneg (by omega) (by omega)
  have h5' : w * nodes ≤ 20 * 100 := Int.mul_le_mul (by omega) (by omega) (by omega) (by omega)
  omega
theorem manyR_rng (nodes : Int) : ∀ (ws : List Int) (s : Int), 0 ≤ s → 0 ≤ ws.foldl (addW nodes) s ∧ ws.foldl (addW nodes) s ≤ s + 2000 * ws.length := by
  intro ws
  induction ws with
  | nil => intro s h; simp; omega
  | cons w ws ih =>
    intro s h
    rw [List.foldl_cons]
    have h1 : 0 ≤ addW nodes s w ∧ addW nodes s w ≤ s + 2000 := by
      unfold addW
      split
      · rename_i hh
        have := addW_rng hh
        omega
      · omega
    have := ih _ h1.1
    simp only [List.length_cons]
    omega
theorem big1_i (r : Rg) : (decide ((20 : Int) < r.names.length) || (decide ((20 : Int) < r.wts.length) || (decide ((600 : Int) < r.pts.length) && decide ((r.pts.length : Int) ≤ 4096) || decide ((5000 : Int) < r.pts.length)))) = big1 r := by
  rw [Bool.eq_iff_iff]; simp [big1]; omega

theorem Tryd.far_c (r : Rg) (bx : Boxes) (hl : r.wts.length ≤ 9223372036854775807) (hl2 : r.names.length ≤ 9223372036854775807) :
    PureCall Tryd.prog 17 [rgV r] bx (.bool (farB r)) := by
  refine Tryd.ctr17 fun hb => ?_
  have hin : ∀ k : Nat, k ≤ r.wts.length → 0 ≤ manyR (r.wts.take k) r.nodes ∧ manyR (r.wts.take k) r.nodes ≤ 2000 * k := fun k hk => by
    have := manyR_rng r.nodes (r.wts.take k) 0 (by omega)
    rw [List.length_take] at this
    unfold manyR; omega
  simp only [rgV, strsV, intsV, ptsV]
  simp [go_sem, Tryd.C17, hb]
  refine ⟨fun h1 h2 => ⟨⟨h1, h2⟩, fun h3 => ⟨⟨h1, h2⟩, h3⟩⟩, fun h1 h2 h3 => ⟨⟨h1, h2⟩, by omega⟩, fun h => ?_, fun h1 h2 h3 h4 => ?_⟩
  · have hB : big1 r = true := by simp [big1]; omega
    refine ret_pure ?_ ?_ <;> simp [go_sem, farB, hB]
  have hB : big1 r = false := by simp [big1]; omega
  unfold farB
  rw [hB, Bool.false_or]
  refine pw_upto r.wts.length (fun k => ⟨95, slk [(1, .ep (.agg [.sl 1 (r.names.map .str), .sl 1 (r.wts.map (.int .i64)), .int .i64 r.nodes, .sl 2 (r.pts.map ptV)]) 0), (3, .int .i64 (manyR (r.wts.take k) r.nodes)), (4, .int .i64 k)], bx⟩) (cov_look (by simp [go_sem, manyR])) ?_ ?_
  · intro k hk N hN
    have hw := wr_succ (k := k) (by omega)
    have hk0 := hin k (by omega)
    have hsuc : manyR (r.wts.take (k + 1)) r.nodes = addW r.nodes (manyR (r.wts.take k) r.nodes) r.wts[k] := by
      unfold manyR; rw [take_foldl _ _ hk]
    rw [hsuc] at hN
    generalize manyR (r.wts.take k) r.nodes = S at *
    cases hok : okW r.nodes r.wts[k]
    · have hoff : ¬ (((0 ≤ r.wts[k] ∧ r.wts[k] ≤ 20) ∧ 0 ≤ r.nodes) ∧ r.nodes ≤ 100) := by simp [okW] at hok; omega
      have hA : addW r.nodes S r.wts[k] = S := by simp [addW, hok]
      rw [hA] at hN
      simp [go_sem, Tryd.L17_0, hk, hb, hoff]
      intro _
      exact hN _ (cov_look (by simp [go_sem, hw]))
    · have hA : addW r.nodes S r.wts[k] = S + r.wts[k] * r.nodes := by simp [addW, hok]
      have hrg := addW_rng hok
      simp [okW] at hok
      have w1 : IntKind.i64.wrap (r.wts[k] * r.nodes) = r.wts[k] * r.nodes := wr64 (by omega)
      have w2 : IntKind.i64.wrap (S + r.wts[k] * r.nodes) = S + r.wts[k] * r.nodes := wr64 (by omega)
      rw [hA] at hN
      simp [go_sem, Tryd.L17_0, hk, hb, hok, w1, w2]
      exact hN _ (cov_look (by simp [go_sem, hw]))
  · intro N
    have hS := hin r.wts.length (Nat.le_refl _)
    rw [List.take_length] at hS ⊢
    simp [go_sem, Tryd.L17_0, hb]
    generalize manyR r.wts r.nodes = S at *
    refine pw_find r.names.length (hitAt longN r.names) (fun k => ⟨95, slk [(1, .ep (.agg [.sl 1 (r.names.map .str), .sl 1 (r.wts.map (.int .i64)), .int .i64 r.nodes, .sl 2 (r.pts.map ptV)]) 0), (3, .int .i64 S), (5, .int .i64 k)], bx⟩) (cov_look (by simp [go_sem])) ?_ ?_
    · intro k hk hpre N2 hN2
      have hw := wr_succ (k := k) (by omega)
      simp [go_sem, Tryd.L17_1, hk, hb]
      refine ⟨fun h => ret_pure ?_ ?_, fun h => hN2 _ (by rw [hitAt_at hk]; simp [longN]; omega) (cov_look (by simp [go_sem, hw]))⟩
      · simp [go_sem]
      · have : r.names.any longN = true := List.any_eq_true.2 ⟨_, List.getElem_mem hk, by simp [longN]; omega⟩
        simp [go_sem, this]
    · intro hpre N2
      have : r.names.any longN = false := by
        rw [List.any_eq_false]
        intro x hx
        obtain ⟨j, hj, rfl⟩ := List.getElem_of_mem hx
        have := hpre j hj
        rw [hitAt_at hj] at this
        simp [this]
      rw [this, Bool.false_or]
      simp [go_sem, Tryd.L17_1, hb]
      refine ret_pure ?_ ?_ <;> simp [go_sem]
end Go.Proofs

/- Contracts: HashesIdle. -/
set_option linter.unusedSimpArgs false
set_option linter.unusedVariables false
set_option maxRecDepth 100000
namespace Go.Proofs
open Go Go.Pl Go.Hs

theorem find_rng {r : Rg} (hch : check r = 0) (key : Bs) : 0 ≤ (find r key).1 ∧ (find r key).1 ≤ 16 := by
  obtain ⟨_, g2, _⟩ := wrong0 (check0 hch).1
  unfold find
  split
  · simp
  · simp only [backAt]
    by_cases hf : first r (sum32 key) < r.pts.length
    · have := pts_ok hch (List.getElem_mem hf)
      simp [hf]; omega
    · simp [hf]
set_option maxHeartbeats 1000000 in
theorem Tryd.hashesIdle_c (r : Rg) (nm : Bs) (x0 x1 x2 : UInt8) (bx : Boxes) (hm : Mk bx) (hl : r.wts.length ≤ 9223372036854775807) (hl2 : r.names.length ≤ 9223372036854775807) :
    PureCall Tryd.prog 4 [rgV r, .str nm, .agg [.int .u8 (x0.toNat : Int), .int .u8 (x1.toNat : Int), .int .u8 (x2.toNat : Int)]] bx (.bool true) := by
  refine Tryd.ctr4 fun hb => ?_
  have d1 := Tryd.far_c r bx hl hl2
  have d2 := Tryd.awake_c bx hm
  have d3 := Tryd.check_c r bx hm hl hl2
  cases hf : farB r
  · rw [hf] at d1
    by_cases hk : 100 < nm.length
    · have hki : (100 : Int) < nm.length := by omega
      simp only [rgV, strsV, intsV, ptsV] at d1 ⊢
      simp [go_sem, Tryd.C4, hb]
      refine callK_pure d1 ?_
      simp [go_sem, hb, hki]
      refine gK_off (.bool false) (by simp [go_sem]) ?_
      simp [go_sem, hb]
      refine callK_pure d2 ?_
      simp [go_sem, hb]
      refine ret_pure ?_ ?_ <;> simp [go_sem]
    have hki : ¬ (100 : Int) < nm.length := by omega
    by_cases hc : check r ≠ 0
    · simp only [rgV, strsV, intsV, ptsV] at d1 d3 ⊢
      simp [go_sem, Tryd.C4, hb]
      refine callK_pure d1 ?_
      simp [go_sem, hb, hki]
      refine gK_pure d3 (by simp) (by simp [go_sem]) ?_
      simp [go_sem, hb, hc]
      refine callK_pure d2 ?_
      simp [go_sem, hb]
      refine ret_pure ?_ ?_ <;> simp [go_sem]
    have hc : check r = 0 := Decidable.not_not.1 hc
    obtain ⟨g1, g2, g3, g4, g5, g6, g7, g8, g9⟩ := wrong0 (check0 hc).1
    have s1 : PureCall Tryd.prog 9 [.sl 1 [.int .u8 (x1.toNat : Int)]] bx (.int .u32 (sum32 [x1])) := Tryd.sum32_c [x1] bx (by simp)
    have s2 : PureCall Tryd.prog 9 [.sl 1 [.int .u8 (x2.toNat : Int)]] bx (.int .u32 (sum32 [x2])) := Tryd.sum32_c [x2] bx (by simp)
    have s3 : PureCall Tryd.prog 11 [.sl 1 [.int .u8 (x1.toNat : Int)]] bx (.int .u64 (sum64 [x1])) := Tryd.sum64_c [x1] bx (by simp)
    have s4 : PureCall Tryd.prog 11 [.sl 1 [.int .u8 (x2.toNat : Int)]] bx (.int .u64 (sum64 [x2])) := Tryd.sum64_c [x2] bx (by simp)
    have p1 : (sum32 [x1] = sum32 [x2]) = (x1 = x2) := propext (byte_inj (f := fun c => sum32 [c]) bytes32 x1 x2)
    have p2 : (sum64 [x1] = sum64 [x2]) = (x1 = x2) := propext (byte_inj (f := fun c => sum64 [c]) bytes64 x1 x2)
    have p3 : (x1.toNat = x2.toNat) = (x1 = x2) := propext UInt8.toNat_inj
    have p4 : ((x1.toNat : Int) = (x2.toNat : Int)) = (x1 = x2) := by rw [← p3]; exact propext (by omega)
    generalize sum32 [x1] = a1 at *
    generalize sum32 [x2] = a2 at *
    generalize sum64 [x1] = b1 at *
    generalize sum64 [x2] = b2 at *
    obtain ⟨at_, hat⟩ : ∃ at_, at_ = x0.toNat % (r.names.length + 1) := ⟨_, rfl⟩
    have hx : at_ ≤ r.names.length := by have := Nat.mod_lt x0.toNat (by omega : 0 < r.names.length + 1); omega
    have x08 := x0.toNat_lt
    have w0 : ((x0.toNat : Int)) % ((r.names.length : Int) + 1) = (at_ : Int) := by rw [hat]; simp
    have w1 : IntKind.i64.wrap (x0.toNat : Int) = (x0.toNat : Int) := wr64 (by omega)
    have w5 : IntKind.i64.wrap ((r.names.length : Int) + 1) = (r.names.length : Int) + 1 := wr64 (by omega)
    have w2 : ((x0.toNat : Int)).tmod ((r.names.length : Int) + 1) = (at_ : Int) := by rw [Int.tmod_eq_emod_of_nonneg (by omega)]; exact w0
    have hn0 : ¬ (r.names.length : Int) + 1 = 0 := by omega
    simp only [rgV, strsV, intsV, ptsV] at d1 d3 ⊢
    simp [go_sem, Tryd.C4, hb]
    refine callK_pure d1 ?_
    simp [go_sem, hb, hki]
    refine gK_pure d3 (by simp) (by simp [go_sem]) ?_
    simp [go_sem, hb, hc, hn0, w1, w2, w5, g3, fzAt, fzb, evF]
    refine callK_pure s1 ?_
    simp [go_sem, hb]
    refine callK_pure s2 ?_
    simp [go_sem, hb, p1, p3, p4]
    refine gK_pure s3 (by simp) (by simp [go_sem]) ?_
    simp [go_sem, hb, fzAt, fzb, evF]
    refine gK_pure s4 (by simp) (by simp [go_sem]) ?_
    simp [go_sem, hb, p1, p2, p3, p4, w1, w2, w5, hn0, hx, fzAt, fzb, evF]
    intro bn hbn
    have hxw : at_ ≤ r.wts.length := by omega
    have htn : List.take r.names.length (List.map V.str r.names) = List.map V.str r.names := List.take_of_length_le (by simp)
    have htw : List.take r.names.length (List.map (V.int IntKind.i64) r.wts) = List.map (V.int IntKind.i64) r.wts := List.take_of_length_le (by simp; omega)
    have htw' : List.take r.wts.length (List.map (V.int IntKind.i64) r.wts) = List.map (V.int IntKind.i64) r.wts := List.take_of_length_le (by simp)
    refine Tryd.appS (es := []) (news := List.take at_ (List.map V.str r.names)) (acc_new hbn hb 9 1 [] 0 rfl) (Ext.refl _) (by simp [finB_upd, hb]) (by simp [go_sem, srcEls]) (by simp; omega) (by omega) ?_
    intro v1 bx1 a1
    rw [List.nil_append] at a1
    simp [go_sem, a1.cells, a1.fin, a1.okV]
    refine Tryd.appS (es := List.take at_ (List.map V.str r.names)) (news := [.str nm]) a1 (Ext.refl _) a1.fin (by simp [go_sem, srcEls]) (by simp; omega) (by omega) ?_
    intro v2 bx2 a2
    simp [go_sem, a2.cells, a2.fin, a2.okV, hx, htn]
    refine Tryd.appS (es := List.take at_ (List.map V.str r.names) ++ [.str nm]) (news := List.drop at_ (List.map V.str r.names)) a2 (Ext.refl _) a2.fin (by simp [go_sem, srcEls]) (by simp; omega) (by omega) ?_
    intro v3 bx3 a3
    simp [go_sem, a3.cells, a3.fin, a3.okV, hx, fzAt, fzb, evF]
    intro bi hbi
    refine ⟨hxw, ?_⟩
    refine Tryd.appI (es := []) (news := List.take at_ (List.map (V.int .i64) r.wts)) (acc_new hbi a3.fin 3 1 [] 0 rfl) (Ext.refl _) (by simp [finB_upd, a3.fin]) (by simp [go_sem, srcEls]) (by simp; omega) (by omega) ?_
    intro v4 bx4 a4
    rw [List.nil_append] at a4
    simp [go_sem, a4.cells, a4.fin, a4.okV, a3.cells, a3.okV]
    refine Tryd.appI (es := List.take at_ (List.map (V.int .i64) r.wts)) (news := [.int .i64 0]) a4 (Ext.refl _) a4.fin (by simp [go_sem, srcEls]) (by simp; omega) (by omega) ?_
    intro v5 bx5 a5
    simp [go_sem, a5.cells, a5.fin, a5.okV, a3.cells, a3.okV, hxw, htw']
    refine Tryd.appI (es := List.take at_ (List.map (V.int .i64) r.wts) ++ [.int .i64 0]) (news := List.drop at_ (List.map (V.int .i64) r.wts)) a5 (Ext.refl _) a5.fin (by simp [go_sem, srcEls]) (by simp; omega) (by omega) ?_
    intro v6 bx6 a6
    simp [go_sem, a6.cells, a6.fin, a6.okV, a3.cells, a3.okV, a3.live, a3.strip, a6.live, a6.strip]
    have en : List.take at_ (List.map V.str r.names) ++ [V.str nm] ++ List.drop at_ (List.map V.str r.names) = (ins r.names at_ nm).map .str := by simp [ins, List.map_take, List.map_drop]
    have ew : List.take at_ (List.map (V.int .i64) r.wts) ++ [V.int .i64 0] ++ List.drop at_ (List.map (V.int .i64) r.wts) = (ins r.wts at_ 0).map (.int .i64) := by simp [ins, List.map_take, List.map_drop]
    rw [en] at a3
    rw [ew] at a6
    have ln := ins_len (x := nm) hx
    have lw := ins_len (x := (0 : Int)) hxw
    have cR := Tryd.ring_c (ins r.names at_ nm) (ins r.wts at_ 0) r.nodes bx hm (by omega) (by omega)
    have hidle := fun (s : Rg) (hs : ring (ins r.names at_ nm) (ins r.wts at_ 0) r.nodes = (s, 0)) => idle_facts hc hx (key := nm) (by omega) hs
    have hrl : (ring (ins r.names at_ nm) (ins r.wts at_ 0) r.nodes).1.names.length ≤ 17 ∧ (ring (ins r.names at_ nm) (ins r.wts at_ 0) r.nodes).1.wts.length ≤ 17 := by
      unfold ring
      split
      · simp only; omega
      · simp [none_]
    generalize ins r.names at_ nm = NM at *
    generalize ins r.wts at_ 0 = WT at *
    obtain ⟨q1, k1, rfl, k2⟩ := a3.row (by intro h; have := congrArg List.length h; simp at this; rw [this] at ln; simp at ln)
    obtain ⟨q2, k3, rfl, k4⟩ := a6.row (by intro h; have := congrArg List.length h; simp at this; rw [this] at lw; simp at lw)
    have k2' : bx6 q1 = some (.row 9 1 (NM.map .str)) := by rw [a6.ext q1 (by rw [k2]; simp), k2]
    have hx6 : Ext bx bx6 := a3.ext.trans a6.ext
    have k3' : bx q2 = none := a3.ext.none k3
    have cR' : AbsCall Tryd.prog 19 [V.own q1 1 0 NM.length, V.own q2 1 0 WT.length, V.int .i64 r.nodes] bx6 fun r' bx' => r' = .tup [rgV (ring NM WT r.nodes).1, .int .i64 (ring NM WT r.nodes).2] ∧ bx' = bx := by
      refine abs_drop 1 hx6.sub ?_
      rw [List.map_cons, List.map_cons, List.map_cons, List.map_nil, frz_own1 k2' k1 (by decide) (by simp), frz_own1 k4 k3' (by decide) (by simp)]
      exact cR
    simp only [List.length_map]
    refine callK_abs cR' ?_
    rintro r' bx' ⟨rfl, rfl⟩
    generalize ring NM WT r.nodes = W at *
    obtain ⟨s, e⟩ := W
    simp only at hrl
    have c1 := Tryd.Find_c r nm bx' hm hl hl2
    have c2 := Tryd.Find_c s nm bx' hm (by omega) (by omega)
    simp only [rgV, strsV, intsV, ptsV] at c1 c2 ⊢
    simp [go_sem, hb]
    intro b10 hb10
    simp [go_sem, hb, upd_self hb10]
    refine ⟨fun _ => ?_, fun he => ?_⟩
    · refine callK_pure d2 ?_
      simp [go_sem, hb]
      refine ret_pure ?_ ?_ <;> simp [go_sem]
    subst he
    obtain ⟨i1, i2⟩ := hidle s rfl
    have hrng := find_rng hc nm
    refine callK_pure c1 ?_
    simp [go_sem, hb]
    refine callK_pure c2 ?_
    rw [i1, i2]
    generalize find r nm = F at *
    obtain ⟨o, f⟩ := F
    simp only at hrng ⊢
    by_cases hg : f = 0 ∧ (at_ : Int) ≤ o
    · rw [if_pos hg]
      obtain ⟨rfl, hg⟩ := hg
      have w9 : IntKind.i64.wrap (o + 1) = o + 1 := wr64 (by omega)
      simp [go_sem, hb, hg, w9]
      refine gK_pure d2 (by simp) (by simp [go_sem]) ?_
      simp [go_sem, hb]
      refine ret_pure ?_ ?_ <;> simp [go_sem]
    · rw [if_neg hg]
      have hg2 : f = 0 → ¬ (at_ : Int) ≤ o := fun h h' => hg ⟨h, h'⟩
      simp [go_sem, hb, hg]
      intro _
      refine gK_pure d2 (by simp) (by simp [go_sem]) ?_
      simp [go_sem, hb]
      refine ret_pure ?_ ?_ <;> simp [go_sem]
  · rw [hf] at d1
    simp only [rgV, strsV, intsV, ptsV] at d1 ⊢
    simp [go_sem, Tryd.C4, hb]
    refine callK_pure d1 ?_
    simp [go_sem, hb]
    refine gK_off (.bool false) (by simp [go_sem]) ?_
    simp [go_sem, hb]
    refine callK_pure d2 ?_
    simp [go_sem, hb]
    refine ret_pure ?_ ?_ <;> simp [go_sem]
end Go.Proofs
