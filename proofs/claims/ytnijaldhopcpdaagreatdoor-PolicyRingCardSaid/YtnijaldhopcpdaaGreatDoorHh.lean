/- Texts of the proof, put together: Ra, Rl, Rb, Rc, Rd, Re, Rf, Rg, Rh, Ri, Rj, Y. -/
import Derived.Test.YtnijaldhopcpdaaGreatDoorHg
import Derived.Test.YtnijaldhopcpdaaGreatDoorHc
import Derived.Test.YtnijaldhopcpdaaGreatDoorHd
import Derived.Test.YtnijaldhopcpdaaGreatDoorHf
import Derived.Shelf.SlGeneric
import Derived.Ground.SlsfProg
import Derived.Ground.NamesProg
import Derived.Ground.Names8Prog
import Derived.Test.YtnijaldhopcpdaaGreatDoorRows
import Derived.Test.YtnijaldhopcpdaaGreatDoorCards
import Derived.Test.YtnijaldhopcpdaaGreatDoorTie
import Derived.WalkKit
import Derived.ProofKit
import Derived.OpenShut
import Derived.Deep.DeepHandedRow

/- Contracts: hashes of bytes, comparisons. -/
set_option linter.unusedSimpArgs false
namespace Go.Proofs
open Go Go.Pl Go.Hs

theorem take_foldl {α β : Type} (f : β → α → β) (b : β) {l : List α} {k : Nat} (h : k < l.length) : (l.take (k + 1)).foldl f b = f ((l.take k).foldl f b) l[k] := by
  rw [take_snoc h, List.foldl_append]; rfl

theorem Tryz.onu32_c (h : Int) (l : Bs) (bx : Boxes) (hl : l.length ≤ 1000000) : PureCall Tryz.prog 83 [.int .u32 h, .int .u32 16777619, .sl 1 (bytesV l)] bx (.int .u32 (on32 h l)) := by
  refine Tryz.ctr83 fun hb => ?_
  simp [go_sem, Tryz.C83, hb, bytesV]
  refine pw_upto l.length (fun k => ⟨24, slk [(0, .int .u32 ((l.take k).foldl step32 h)), (1, .int .u32 16777619), (9, V.sl 1 (bytesV l)), (10, .int .i64 l.length), (11, .int .i64 k)], bx⟩) (cov_look (by simp [go_sem, bytesV])) ?_ ?_
  · intro k hk N hN
    have hw := wr_succ (k := k) (by omega)
    have hc8 := (l[k]).toNat_lt
    have hw8 : IntKind.u32.wrap ((l[k]).toNat : Int) = (l[k]).toNat := wru32 (by omega)
    simp [go_sem, Tryz.L83_0, hk, hb, bytesV, hw8]
    refine hN _ (cov_look (by simp [go_sem, bytesV, hw, take_foldl _ _ hk, step32]))
  · intro N
    simp [go_sem, Tryz.L83_0]
    refine ret_pure ?_ ?_ <;> simp [go_sem, on32]

theorem Tryz.onu64_c (h : Int) (l : Bs) (bx : Boxes) (hl : l.length ≤ 1000000) : PureCall Tryz.prog 110 [.int .u64 h, .int .u64 1099511628211, .sl 1 (bytesV l)] bx (.int .u64 (on64 h l)) := by
  refine Tryz.ctr110 fun hb => ?_
  simp [go_sem, Tryz.C110, hb, bytesV]
  refine pw_upto l.length (fun k => ⟨24, slk [(0, .int .u64 ((l.take k).foldl step64 h)), (1, .int .u64 1099511628211), (9, V.sl 1 (bytesV l)), (10, .int .i64 l.length), (11, .int .i64 k)], bx⟩) (cov_look (by simp [go_sem, bytesV])) ?_ ?_
  · intro k hk N hN
    have hw := wr_succ (k := k) (by omega)
    have hc8 := (l[k]).toNat_lt
    have hw8 : IntKind.u64.wrap ((l[k]).toNat : Int) = (l[k]).toNat := wru64 (by omega)
    simp [go_sem, Tryz.L110_0, hk, hb, bytesV, hw8]
    refine hN _ (cov_look (by simp [go_sem, bytesV, hw, take_foldl _ _ hk, step64]))
  · intro N
    simp [go_sem, Tryz.L110_0]
    refine ret_pure ?_ ?_ <;> simp [go_sem, on64]

theorem Tryz.on32_c (h : Int) (l : Bs) (bx : Boxes) (hl : l.length ≤ 1000000) : PureCall Tryz.prog 39 [.int .u32 h, .sl 1 (bytesV l)] bx (.int .u32 (on32 h l)) := by
  refine Tryz.ctr39 fun hb => ?_
  simp [go_sem, Tryz.C39]
  refine callK_pure (Tryz.onu32_c h l bx hl) ?_
  simp [go_sem]
  refine ret_pure ?_ ?_ <;> simp [go_sem]
theorem Tryz.on64_c (h : Int) (l : Bs) (bx : Boxes) (hl : l.length ≤ 1000000) : PureCall Tryz.prog 73 [.int .u64 h, .sl 1 (bytesV l)] bx (.int .u64 (on64 h l)) := by
  refine Tryz.ctr73 fun hb => ?_
  simp [go_sem, Tryz.C73]
  refine callK_pure (Tryz.onu64_c h l bx hl) ?_
  simp [go_sem]
  refine ret_pure ?_ ?_ <;> simp [go_sem]
theorem Tryz.sum32_c (l : Bs) (bx : Boxes) (hl : l.length ≤ 1000000) : PureCall Tryz.prog 34 [.sl 1 (bytesV l)] bx (.int .u32 (sum32 l)) := by
  refine Tryz.ctr34 fun hb => ?_
  simp [go_sem, Tryz.C34]
  refine callK_pure (Tryz.on32_c _ l bx hl) ?_
  simp [go_sem]
  refine ret_pure ?_ ?_ <;> simp [go_sem, sum32]
theorem Tryz.sum64_c (l : Bs) (bx : Boxes) (hl : l.length ≤ 1000000) : PureCall Tryz.prog 35 [.sl 1 (bytesV l)] bx (.int .u64 (sum64 l)) := by
  refine Tryz.ctr35 fun hb => ?_
  simp [go_sem, Tryz.C35]
  refine callK_pure (Tryz.on64_c _ l bx hl) ?_
  simp [go_sem]
  refine ret_pure ?_ ?_ <;> simp [go_sem, sum64]

theorem Tryz.nan32_c (x : Int) (bx : Boxes) : PureCall Tryz.prog 87 [.int .u32 x] bx (.bool false) := by
  refine Tryz.ctr87 fun hb => ?_
  simp [go_sem, Tryz.C87]
  refine ret_pure ?_ ?_ <;> simp [go_sem]
theorem Tryz.nani_c (x : Int) (bx : Boxes) : PureCall Tryz.prog 88 [.int .i64 x] bx (.bool false) := by
  refine Tryz.ctr88 fun hb => ?_
  simp [go_sem, Tryz.C88]
  refine ret_pure ?_ ?_ <;> simp [go_sem]
theorem Tryz.cmp32_c (x y : Int) (bx : Boxes) : PureCall Tryz.prog 44 [.int .u32 x, .int .u32 y] bx (.int .i64 (cmpI x y)) := by
  refine Tryz.ctr44 fun hb => ?_
  simp [go_sem, Tryz.C44]
  refine callK_pure (Tryz.nan32_c ..) ?_
  simp [go_sem]
  refine callK_pure (Tryz.nan32_c ..) ?_
  simp [go_sem]
  refine ⟨fun h => ret_pure ?_ ?_, fun h => ⟨fun h2 => ret_pure ?_ ?_, fun h2 => ret_pure ?_ ?_⟩⟩ <;> simp [go_sem, cmpI] <;> omega
theorem Tryz.cmpi_c (x y : Int) (bx : Boxes) : PureCall Tryz.prog 45 [.int .i64 x, .int .i64 y] bx (.int .i64 (cmpI x y)) := by
  refine Tryz.ctr45 fun hb => ?_
  simp [go_sem, Tryz.C45]
  refine callK_pure (Tryz.nani_c ..) ?_
  simp [go_sem]
  refine callK_pure (Tryz.nani_c ..) ?_
  simp [go_sem]
  refine ⟨fun h => ret_pure ?_ ?_, fun h => ⟨fun h2 => ret_pure ?_ ?_, fun h2 => ret_pure ?_ ?_⟩⟩ <;> simp [go_sem, cmpI] <;> omega
theorem Tryz.or2_c (x y : Int) (bx : Boxes) : PureCall Tryz.prog 43 [.sl 1 [.int .i64 x, .int .i64 y]] bx (.int .i64 (if x ≠ 0 then x else y)) := by
  refine Tryz.ctr43 fun hb => ?_
  simp [go_sem, Tryz.C43, hb]
  refine pw_find 2 (fun k => decide ((k = 0 ∧ x ≠ 0) ∨ (k = 1 ∧ y ≠ 0))) (fun k => ⟨18, slk [(3, .int .i64 0), (6, .sl 1 [.int .i64 x, .int .i64 y]), (7, .int .i64 2), (8, .int .i64 k)], bx⟩) (cov_look (by simp [go_sem])) ?_ ?_
  · intro k hk hpre N hN
    rcases (by omega : k = 0 ∨ k = 1) with rfl | rfl
    · simp [go_sem, Tryz.L43_0, hb]
      refine ⟨fun h => ret_pure ?_ ?_, fun h => hN _ (by simp [h]) (cov_look (by simp [go_sem, wr64]))⟩ <;> simp [go_sem, h]
    · have h0 : x = 0 := by have := hpre 0 (by omega); simpa using this
      simp [go_sem, Tryz.L43_0, hb]
      refine ⟨fun h => ret_pure ?_ ?_, fun h => hN _ (by simp [h]) (cov_look (by simp [go_sem, wr64]))⟩ <;> simp [go_sem, h0]
  · intro hpre N
    have h0 : x = 0 := by have := hpre 0 (by omega); simpa using this
    have h1 : y = 0 := by have := hpre 1 (by omega); simpa using this
    simp [go_sem, Tryz.L43_0]
    refine ret_pure ?_ ?_ <;> simp [go_sem, h0, h1]
theorem Tryz.or2O_c (x y : Int) {b : Nat} {bx : Boxes} {ty : TypeId} (hb : bx b = some (.row ty 1 [.int .i64 x, .int .i64 y])) : PureCall Tryz.prog 43 [.own b 1 0 2] bx (.int .i64 (if x ≠ 0 then x else y)) :=
  PureCall.frame 1 (Tryz.or2_c x y _) (by rw [List.map_cons, frz_own1 (n := 2) hb rfl (by decide) rfl]; rfl) rfl

/-- How points are ordered. -/
def cmpP (p q : Pt) : Int := if cmpI p.h q.h ≠ 0 then cmpI p.h q.h else cmpI p.b q.b
theorem Tryz.cmpP_c (p q : Pt) (bx : Boxes) : PureCall Tryz.prog 42 [ptV p, ptV q] bx (.int .i64 (cmpP p q)) := by
  refine Tryz.ctr42 fun hb => ?_
  simp [go_sem, Tryz.C42, hb, ptV]
  refine callK_pure (Tryz.cmp32_c ..) ?_
  simp [go_sem]
  refine callK_pure (Tryz.cmpi_c ..) ?_
  simp [go_sem, hb]
  intro b hb1
  refine callK_pure (Tryz.or2O_c (cmpI p.h q.h) (cmpI p.b q.b) (ty := 3) (by simp [go_sem])) ?_
  simp [go_sem]
  refine ret_drop ?_ ((Ext.refl _).new hb1 _) ?_ <;> simp [go_sem, cmpP]
theorem Tryz.cmph_c (p : Pt) (h : Int) (bx : Boxes) : PureCall Tryz.prog 94 [ptV p, .int .u32 h] bx (.int .i64 (cmpI p.h h)) := by
  refine Tryz.ctr94 fun hb => ?_
  simp [go_sem, Tryz.C94, hb, ptV]
  refine callK_pure (Tryz.cmp32_c ..) ?_
  simp [go_sem]
  refine ret_pure ?_ ?_ <;> simp [go_sem]

theorem Tryz.badW_c (w : Int) (bx : Boxes) : PureCall Tryz.prog 74 [.int .i64 w] bx (.bool (badW w)) := by
  refine Tryz.ctr74 fun hb => ?_
  simp [go_sem, Tryz.C74]
  refine ret_pure ?_ ?_ <;> simp [go_sem, badW]
theorem Tryz.badC_c (c : UInt8) (bx : Boxes) : PureCall Tryz.prog 77 [.int .u8 c.toNat] bx (.bool (badC c)) := by
  refine Tryz.ctr77 fun hb => ?_
  simp [go_sem, Tryz.C77]
  refine ret_pure ?_ ?_ <;> simp [go_sem, badC]

def fiI {α : Type} (p : α → Bool) (l : List α) : Int := match l.findIdx? p with | some i => (i : Int) | none => -1
theorem fiI_any {α : Type} (p : α → Bool) (l : List α) : decide (0 ≤ fiI p l) = l.any p := by
  unfold fiI
  cases h : l.findIdx? p with
  | none =>
    rw [List.findIdx?_eq_none_iff] at h
    have : l.any p = false := by rw [List.any_eq_false]; intro x hx; simp [h x hx]
    simp [this]
  | some i =>
    obtain ⟨h1, h2, _⟩ := List.findIdx?_eq_some_iff_getElem.1 h
    have : l.any p = true := List.any_eq_true.2 ⟨_, List.getElem_mem h1, h2⟩
    simp [this]
def hitAt {α : Type} (p : α → Bool) (l : List α) (j : Nat) : Bool := match l[j]? with | some x => p x | none => false
theorem hitAt_at {α : Type} {p : α → Bool} {l : List α} {k : Nat} (hk : k < l.length) : hitAt p l k = p l[k] := by simp [hitAt, hk]
theorem fiI_hit {α : Type} {p : α → Bool} {l : List α} {k : Nat} (hk : k < l.length) (h : p l[k] = true) (hpre : ∀ j, j < k → hitAt p l j = false) : fiI p l = k := by
  have : l.findIdx? p = some k := by
    rw [List.findIdx?_eq_some_iff_getElem]
    exact ⟨hk, h, fun j hj => by have := hpre j hj; rw [hitAt_at (by omega)] at this; simpa using this⟩
  simp [fiI, this]
theorem fiI_miss {α : Type} {p : α → Bool} {l : List α} (hpre : ∀ j, j < l.length → hitAt p l j = false) : fiI p l = -1 := by
  have : l.findIdx? p = none := by
    rw [List.findIdx?_eq_none_iff]
    intro x hx
    obtain ⟨j, hj, rfl⟩ := List.getElem_of_mem hx
    have := hpre j hj
    rwa [hitAt_at hj] at this
  simp [fiI, this]

theorem Tryz.indexB_c (g : FuncId) (p : UInt8 → Bool) (l : List UInt8) (bx : Boxes) (hl : l.length ≤ 1000000) (hp : ∀ x bx, PureCall Tryz.prog g [.int .u8 (x.toNat : Int)] bx (.bool (p x))) :
    PureCall Tryz.prog 111 [.sl 1 (l.map fun x => .int .u8 (x.toNat : Int)), .fn (.func g) []] bx (.int .i64 (fiI p l)) := by
  refine Tryz.ctr111 fun hb => ?_
  simp [go_sem, Tryz.C111, hb]
  refine pw_find l.length (hitAt p l) (fun k => ⟨19, slk [(0, .sl 1 (l.map fun x => .int .u8 (x.toNat : Int))), (1, .fn (.func g) []), (7, .int .i64 l.length), (8, .int .i64 k)], bx⟩) (cov_look (by simp [go_sem])) ?_ ?_
  · intro k hk hpre N hN
    have hw := wr_succ (k := k) (by omega)
    simp [go_sem, Tryz.L111_0, hk, hb]
    refine callK_pure (hp _ _) ?_
    simp [go_sem]
    refine ⟨fun h => ret_pure ?_ ?_, fun h => hN _ (by simp [hitAt_at hk, h]) (cov_look (by simp [go_sem, hw]))⟩ <;> simp [go_sem, fiI_hit hk h hpre]
  · intro hpre N
    simp [go_sem, Tryz.L111_0]
    refine ret_pure ?_ ?_ <;> simp [go_sem, fiI_miss hpre]
theorem Tryz.anyB_c (g : FuncId) (p : UInt8 → Bool) (l : List UInt8) (bx : Boxes) (hl : l.length ≤ 1000000) (hp : ∀ x bx, PureCall Tryz.prog g [.int .u8 (x.toNat : Int)] bx (.bool (p x))) :
    PureCall Tryz.prog 76 [.sl 1 (l.map fun x => .int .u8 (x.toNat : Int)), .fn (.func g) []] bx (.bool (l.any p)) := by
  refine Tryz.ctr76 fun hb => ?_
  simp [go_sem, Tryz.C76, hb]
  refine callK_pure (Tryz.indexB_c g p l bx hl hp) ?_
  simp [go_sem]
  refine ret_pure ?_ ?_ <;> simp [go_sem, fiI_any]

theorem Tryz.indexI_c (g : FuncId) (p : Int → Bool) (l : List Int) (bx : Boxes) (hl : l.length ≤ 1000000) (hp : ∀ x bx, PureCall Tryz.prog g [.int .i64 x] bx (.bool (p x))) :
    PureCall Tryz.prog 68 [.sl 1 (l.map fun x => .int .i64 x), .fn (.func g) []] bx (.int .i64 (fiI p l)) := by
  refine Tryz.ctr68 fun hb => ?_
  simp [go_sem, Tryz.C68, hb]
  refine pw_find l.length (hitAt p l) (fun k => ⟨19, slk [(0, .sl 1 (l.map fun x => .int .i64 x)), (1, .fn (.func g) []), (7, .int .i64 l.length), (8, .int .i64 k)], bx⟩) (cov_look (by simp [go_sem])) ?_ ?_
  · intro k hk hpre N hN
    have hw := wr_succ (k := k) (by omega)
    simp [go_sem, Tryz.L68_0, hk, hb]
    refine callK_pure (hp _ _) ?_
    simp [go_sem]
    refine ⟨fun h => ret_pure ?_ ?_, fun h => hN _ (by simp [hitAt_at hk, h]) (cov_look (by simp [go_sem, hw]))⟩ <;> simp [go_sem, fiI_hit hk h hpre]
  · intro hpre N
    simp [go_sem, Tryz.L68_0]
    refine ret_pure ?_ ?_ <;> simp [go_sem, fiI_miss hpre]
theorem Tryz.anyI_c (g : FuncId) (p : Int → Bool) (l : List Int) (bx : Boxes) (hl : l.length ≤ 1000000) (hp : ∀ x bx, PureCall Tryz.prog g [.int .i64 x] bx (.bool (p x))) :
    PureCall Tryz.prog 78 [.sl 1 (l.map fun x => .int .i64 x), .fn (.func g) []] bx (.bool (l.any p)) := by
  refine Tryz.ctr78 fun hb => ?_
  simp [go_sem, Tryz.C78, hb]
  refine callK_pure (Tryz.indexI_c g p l bx hl hp) ?_
  simp [go_sem]
  refine ret_pure ?_ ?_ <;> simp [go_sem, fiI_any]

theorem Tryz.indexS_c (g : FuncId) (p : Bs → Bool) (l : List Bs) (bx : Boxes) (hl : l.length ≤ 1000000) (hp : ∀ x bx, PureCall Tryz.prog g [.str x] bx (.bool (p x))) :
    PureCall Tryz.prog 112 [.sl 1 (l.map fun x => .str x), .fn (.func g) []] bx (.int .i64 (fiI p l)) := by
  refine Tryz.ctr112 fun hb => ?_
  simp [go_sem, Tryz.C112, hb]
  refine pw_find l.length (hitAt p l) (fun k => ⟨19, slk [(0, .sl 1 (l.map fun x => .str x)), (1, .fn (.func g) []), (7, .int .i64 l.length), (8, .int .i64 k)], bx⟩) (cov_look (by simp [go_sem])) ?_ ?_
  · intro k hk hpre N hN
    have hw := wr_succ (k := k) (by omega)
    simp [go_sem, Tryz.L112_0, hk, hb]
    refine callK_pure (hp _ _) ?_
    simp [go_sem]
    refine ⟨fun h => ret_pure ?_ ?_, fun h => hN _ (by simp [hitAt_at hk, h]) (cov_look (by simp [go_sem, hw]))⟩ <;> simp [go_sem, fiI_hit hk h hpre]
  · intro hpre N
    simp [go_sem, Tryz.L112_0]
    refine ret_pure ?_ ?_ <;> simp [go_sem, fiI_miss hpre]
theorem Tryz.anyS_c (g : FuncId) (p : Bs → Bool) (l : List Bs) (bx : Boxes) (hl : l.length ≤ 1000000) (hp : ∀ x bx, PureCall Tryz.prog g [.str x] bx (.bool (p x))) :
    PureCall Tryz.prog 79 [.sl 1 (l.map fun x => .str x), .fn (.func g) []] bx (.bool (l.any p)) := by
  refine Tryz.ctr79 fun hb => ?_
  simp [go_sem, Tryz.C79, hb]
  refine callK_pure (Tryz.indexS_c g p l bx hl hp) ?_
  simp [go_sem]
  refine ret_pure ?_ ?_ <;> simp [go_sem, fiI_any]

theorem Tryz.badN_c (s : Bs) (bx : Boxes) : PureCall Tryz.prog 75 [.str s] bx (.bool (badN s)) := by
  refine Tryz.ctr75 fun hb => ?_
  by_cases h1 : s = []
  · subst h1
    simp [go_sem, Tryz.C75]
    refine gK_off (.bool false) (by simp [go_sem]) ?_
    simp [go_sem]
    refine ret_pure ?_ ?_ <;> simp [go_sem, badN]
  have h0 : 1 ≤ s.length := by cases s with | nil => exact absurd rfl h1 | cons => simp
  by_cases h2 : 32 < s.length
  · have h3 : ((32 : Int) < s.length) := by omega
    simp [go_sem, Tryz.C75, h1, h3]
    refine gK_off (.bool false) (by simp [go_sem]) ?_
    simp [go_sem]
    refine ret_pure ?_ ?_ <;> simp [go_sem, badN, h2]
  · have h3 : ¬ ((32 : Int) < s.length) := by omega
    have h4 : s.length ≤ 9223372036854775807 := by omega
    simp [go_sem, Tryz.C75, h1, h3, h4]
    refine gK_pure (Tryz.anyB_c 77 badC s bx (by omega) (fun c bx => Tryz.badC_c c bx)) (by simp) (by simp [go_sem]) ?_
    simp [go_sem]
    have h5 : ¬ s.length < 1 := by omega
    refine ret_pure ?_ ?_ <;> simp [go_sem, badN, h1, h2, h5]
end Go.Proofs

/- The shelf's contracts, laid at this program. -/
set_option linter.unusedSimpArgs false
namespace Go.Proofs
open Go Go.Pl Go.Shelf

def Tryz.laySort_ren : Ren := { f := fun x => match x with | 190 => 114 | 125 => 86 | 258 => 133 | 128 => 125 | 129 => 126 | 302 => 144 | 303 => 145 | 304 => 146 | 305 => 147 | 306 => 148 | 307 => 149 | 308 => 150 | 309 => 151 | 310 => 152 | 333 => 158 | 329 => 139 | 330 => 140 | 334 => 159 | 335 => 160 | 336 => 161 | 344 => 164 | n => n, t := fun x => match x with | 31 => 22 | 9 => 9 | 3 => 3 | 46 => 110 | 0 => 0 | 51 => 58 | 53 => 42 | 4 => 4 | 183 => 135 | 182 => 134 | 131 => 113 | 5 => 5 | 218 => 151 | 222 => 155 | 228 => 167 | 229 => 168 | n => n, g := fun x => x }
theorem Tryz.laySort : Lays.n190 Tryz.prog Tryz.laySort_ren where
  mixed := by kernel_rfl
  f125 := Tryz.func86.trans (congrArg some (by kernel_rfl))
  f128 := Tryz.func125.trans (congrArg some (by kernel_rfl))
  f129 := Tryz.func126.trans (congrArg some (by kernel_rfl))
  f190 := Tryz.func114.trans (congrArg some (by kernel_rfl))
  f258 := Tryz.func133.trans (congrArg some (by kernel_rfl))
  f302 := Tryz.func144.trans (congrArg some (by kernel_rfl))
  f303 := Tryz.func145.trans (congrArg some (by kernel_rfl))
  f304 := Tryz.func146.trans (congrArg some (by kernel_rfl))
  f305 := Tryz.func147.trans (congrArg some (by kernel_rfl))
  f306 := Tryz.func148.trans (congrArg some (by kernel_rfl))
  f307 := Tryz.func149.trans (congrArg some (by kernel_rfl))
  f308 := Tryz.func150.trans (congrArg some (by kernel_rfl))
  f309 := Tryz.func151.trans (congrArg some (by kernel_rfl))
  f310 := Tryz.func152.trans (congrArg some (by kernel_rfl))
  f329 := Tryz.func139.trans (congrArg some (by kernel_rfl))
  f330 := Tryz.func140.trans (congrArg some (by kernel_rfl))
  f333 := Tryz.func158.trans (congrArg some (by kernel_rfl))
  f334 := Tryz.func159.trans (congrArg some (by kernel_rfl))
  f335 := Tryz.func160.trans (congrArg some (by kernel_rfl))
  f336 := Tryz.func161.trans (congrArg some (by kernel_rfl))
  f344 := Tryz.func164.trans (congrArg some (by kernel_rfl))
  t0 := Tryz.underlying0
  a0 := Tryz.isAgg0
  z0 := Tryz.sizeOf0
  v0 := Tryz.zeroValue0
  t3 := Tryz.underlying3
  a3 := Tryz.isAgg3
  z3 := Tryz.sizeOf3
  v3 := Tryz.zeroValue3
  t4 := Tryz.underlying4
  a4 := Tryz.isAgg4
  z4 := Tryz.sizeOf4
  v4 := Tryz.zeroValue4
  t5 := Tryz.underlying5
  a5 := Tryz.isAgg5
  z5 := Tryz.sizeOf5
  v5 := Tryz.zeroValue5
  t9 := Tryz.underlying9
  a9 := Tryz.isAgg9
  z9 := Tryz.sizeOf9
  v9 := Tryz.zeroValue9
  t31 := Tryz.underlying22
  a31 := Tryz.isAgg22
  z31 := Tryz.sizeOf22
  v31 := Tryz.zeroValue22
  t46 := Tryz.underlying110
  a46 := Tryz.isAgg110
  z46 := Tryz.sizeOf110
  v46 := Tryz.zeroValue110
  t51 := Tryz.underlying58
  a51 := Tryz.isAgg58
  z51 := Tryz.sizeOf58
  v51 := Tryz.zeroValue58
  t53 := Tryz.underlying42
  a53 := Tryz.isAgg42
  z53 := Tryz.sizeOf42
  v53 := Tryz.zeroValue42
  t131 := Tryz.underlying113
  a131 := Tryz.isAgg113
  z131 := Tryz.sizeOf113
  v131 := Tryz.zeroValue113
  t182 := Tryz.underlying134
  a182 := Tryz.isAgg134
  z182 := Tryz.sizeOf134
  v182 := Tryz.zeroValue134
  t183 := Tryz.underlying135
  a183 := Tryz.isAgg135
  z183 := Tryz.sizeOf135
  v183 := Tryz.zeroValue135
  t218 := Tryz.underlying151
  a218 := Tryz.isAgg151
  z218 := Tryz.sizeOf151
  v218 := Tryz.zeroValue151
  t222 := Tryz.underlying155
  a222 := Tryz.isAgg155
  z222 := Tryz.sizeOf155
  v222 := Tryz.zeroValue155
  t228 := Tryz.underlying167
  a228 := Tryz.isAgg167
  z228 := Tryz.sizeOf167
  v228 := Tryz.zeroValue167
  t229 := Tryz.underlying168
  a229 := Tryz.isAgg168
  z229 := Tryz.sizeOf168
  v229 := Tryz.zeroValue168
def Tryz.layComp_ren : Ren := { f := fun x => match x with | 194 => 82 | n => n, t := fun x => match x with | 31 => 22 | 9 => 9 | 3 => 3 | 4 => 4 | 0 => 0 | n => n, g := fun x => x }
theorem Tryz.layComp : Lays.n194 Tryz.prog Tryz.layComp_ren where
  mixed := by kernel_rfl
  f194 := Tryz.func82.trans (congrArg some (by kernel_rfl))
  t0 := Tryz.underlying0
  a0 := Tryz.isAgg0
  z0 := Tryz.sizeOf0
  v0 := Tryz.zeroValue0
  t3 := Tryz.underlying3
  a3 := Tryz.isAgg3
  z3 := Tryz.sizeOf3
  v3 := Tryz.zeroValue3
  t4 := Tryz.underlying4
  a4 := Tryz.isAgg4
  z4 := Tryz.sizeOf4
  v4 := Tryz.zeroValue4
  t9 := Tryz.underlying9
  a9 := Tryz.isAgg9
  z9 := Tryz.sizeOf9
  v9 := Tryz.zeroValue9
  t31 := Tryz.underlying22
  a31 := Tryz.isAgg22
  z31 := Tryz.sizeOf22
  v31 := Tryz.zeroValue22
def Tryz.layAI_ren : Ren := { f := fun x => match x with | 176 => 40 | 249 => 84 | 288 => 116 | 283 => 134 | 284 => 135 | 285 => 136 | 286 => 137 | 129 => 126 | 317 => 153 | 318 => 154 | 319 => 155 | 320 => 156 | 337 => 162 | 338 => 163 | n => n, t := fun x => match x with | 37 => 60 | 2 => 2 | 3 => 3 | 53 => 42 | 4 => 4 | 9 => 9 | 171 => 147 | 0 => 0 | 173 => 149 | 212 => 165 | 51 => 58 | 5 => 5 | 20 => 20 | 213 => 166 | 46 => 110 | 232 => 173 | 233 => 174 | n => n, g := fun x => match x with | 17 => 0 | 18 => 1 | 19 => 2 | n => n }
theorem Tryz.layAI : LaysM.n176 Tryz.prog Tryz.layAI_ren where
  mixed := by kernel_rfl
  f129 := Tryz.func126.trans (congrArg some (by kernel_rfl))
  f176 := Tryz.func40.trans (congrArg some (by kernel_rfl))
  f249 := Tryz.func84.trans (congrArg some (by kernel_rfl))
  f283 := Tryz.func134.trans (congrArg some (by kernel_rfl))
  f284 := Tryz.func135.trans (congrArg some (by kernel_rfl))
  f285 := Tryz.func136.trans (congrArg some (by kernel_rfl))
  f286 := Tryz.func137.trans (congrArg some (by kernel_rfl))
  f288 := Tryz.func116.trans (congrArg some (by kernel_rfl))
  f317 := Tryz.func153.trans (congrArg some (by kernel_rfl))
  f318 := Tryz.func154.trans (congrArg some (by kernel_rfl))
  f319 := Tryz.func155.trans (congrArg some (by kernel_rfl))
  f320 := Tryz.func156.trans (congrArg some (by kernel_rfl))
  f337 := Tryz.func162.trans (congrArg some (by kernel_rfl))
  f338 := Tryz.func163.trans (congrArg some (by kernel_rfl))
  t0 := Tryz.underlying0
  a0 := Tryz.isAgg0
  z0 := Tryz.sizeOf0
  v0 := Tryz.zeroValue0
  t2 := Tryz.underlying2
  a2 := Tryz.isAgg2
  z2 := Tryz.sizeOf2
  v2 := Tryz.zeroValue2
  t3 := Tryz.underlying3
  a3 := Tryz.isAgg3
  z3 := Tryz.sizeOf3
  v3 := Tryz.zeroValue3
  t4 := Tryz.underlying4
  a4 := Tryz.isAgg4
  z4 := Tryz.sizeOf4
  v4 := Tryz.zeroValue4
  t5 := Tryz.underlying5
  a5 := Tryz.isAgg5
  z5 := Tryz.sizeOf5
  v5 := Tryz.zeroValue5
  t9 := Tryz.underlying9
  a9 := Tryz.isAgg9
  z9 := Tryz.sizeOf9
  v9 := Tryz.zeroValue9
  t20 := Tryz.underlying20
  a20 := Tryz.isAgg20
  z20 := Tryz.sizeOf20
  v20 := Tryz.zeroValue20
  t37 := Tryz.underlying60
  a37 := Tryz.isAgg60
  z37 := Tryz.sizeOf60
  v37 := Tryz.zeroValue60
  t46 := Tryz.underlying110
  a46 := Tryz.isAgg110
  z46 := Tryz.sizeOf110
  v46 := Tryz.zeroValue110
  t51 := Tryz.underlying58
  a51 := Tryz.isAgg58
  z51 := Tryz.sizeOf58
  v51 := Tryz.zeroValue58
  t53 := Tryz.underlying42
  a53 := Tryz.isAgg42
  z53 := Tryz.sizeOf42
  v53 := Tryz.zeroValue42
  t171 := Tryz.underlying147
  a171 := Tryz.isAgg147
  z171 := Tryz.sizeOf147
  v171 := Tryz.zeroValue147
  t173 := Tryz.underlying149
  a173 := Tryz.isAgg149
  z173 := Tryz.sizeOf149
  v173 := Tryz.zeroValue149
  t212 := Tryz.underlying165
  a212 := Tryz.isAgg165
  z212 := Tryz.sizeOf165
  v212 := Tryz.zeroValue165
  t213 := Tryz.underlying166
  a213 := Tryz.isAgg166
  z213 := Tryz.sizeOf166
  t232 := Tryz.underlying173
  a232 := Tryz.isAgg173
  z232 := Tryz.sizeOf173
  v232 := Tryz.zeroValue173
  t233 := Tryz.underlying174
  a233 := Tryz.isAgg174
  z233 := Tryz.sizeOf174
  v233 := Tryz.zeroValue174
  g17 := by kernel_rfl
  g18 := by kernel_rfl
  g19 := by kernel_rfl
  i0 := by kernel_rfl
  i2 := by kernel_rfl
  i3 := by kernel_rfl
  i4 := by kernel_rfl
  i5 := by kernel_rfl
  i9 := by kernel_rfl
  i20 := by kernel_rfl
  i37 := by kernel_rfl
  i46 := by kernel_rfl
  i51 := by kernel_rfl
  i53 := by kernel_rfl
  i171 := by kernel_rfl
  i173 := by kernel_rfl
  i212 := by kernel_rfl
  i232 := by kernel_rfl
  i233 := by kernel_rfl
  m17 := by kernel_rfl
  m18 := by kernel_rfl
  m19 := by kernel_rfl
def Tryz.laySf_ren : Ren := { f := fun x => match x with | 6 => 41 | 15 => 86 | 14 => 85 | 28 => 125 | 29 => 126 | 20 => 117 | 21 => 118 | 22 => 119 | 23 => 120 | 24 => 121 | 25 => 122 | 26 => 123 | 27 => 124 | 46 => 138 | 47 => 139 | 48 => 140 | 49 => 141 | 50 => 142 | 57 => 157 | n => n, t := fun x => match x with | 22 => 24 | 24 => 63 | 25 => 73 | 3 => 3 | 39 => 110 | 0 => 0 | 53 => 58 | 55 => 42 | 4 => 4 | 46 => 135 | 45 => 134 | 50 => 113 | 5 => 5 | 9 => 9 | 66 => 151 | 70 => 155 | 76 => 167 | 77 => 168 | n => n, g := fun x => x }
theorem Tryz.laySf : SlLaysF0.n6 Tryz.prog Tryz.laySf_ren where
  mixed := by kernel_rfl
  f6 := ⟨Tryz.f41.name, by kernel_rfl, Tryz.func41.trans (congrArg some (by kernel_rfl))⟩
  f14 := ⟨Tryz.f85.name, by kernel_rfl, Tryz.func85.trans (congrArg some (by kernel_rfl))⟩
  f15 := Tryz.func86.trans (congrArg some (by kernel_rfl))
  f20 := ⟨Tryz.f117.name, by kernel_rfl, Tryz.func117.trans (congrArg some (by kernel_rfl))⟩
  f21 := ⟨Tryz.f118.name, by kernel_rfl, Tryz.func118.trans (congrArg some (by kernel_rfl))⟩
  f22 := ⟨Tryz.f119.name, by kernel_rfl, Tryz.func119.trans (congrArg some (by kernel_rfl))⟩
  f23 := ⟨Tryz.f120.name, by kernel_rfl, Tryz.func120.trans (congrArg some (by kernel_rfl))⟩
  f24 := ⟨Tryz.f121.name, by kernel_rfl, Tryz.func121.trans (congrArg some (by kernel_rfl))⟩
  f25 := ⟨Tryz.f122.name, by kernel_rfl, Tryz.func122.trans (congrArg some (by kernel_rfl))⟩
  f26 := ⟨Tryz.f123.name, by kernel_rfl, Tryz.func123.trans (congrArg some (by kernel_rfl))⟩
  f27 := ⟨Tryz.f124.name, by kernel_rfl, Tryz.func124.trans (congrArg some (by kernel_rfl))⟩
  f28 := Tryz.func125.trans (congrArg some (by kernel_rfl))
  f29 := Tryz.func126.trans (congrArg some (by kernel_rfl))
  f46 := ⟨Tryz.f138.name, by kernel_rfl, Tryz.func138.trans (congrArg some (by kernel_rfl))⟩
  f47 := Tryz.func139.trans (congrArg some (by kernel_rfl))
  f48 := Tryz.func140.trans (congrArg some (by kernel_rfl))
  f49 := ⟨Tryz.f141.name, by kernel_rfl, Tryz.func141.trans (congrArg some (by kernel_rfl))⟩
  f50 := ⟨Tryz.f142.name, by kernel_rfl, Tryz.func142.trans (congrArg some (by kernel_rfl))⟩
  f57 := ⟨Tryz.f157.name, by kernel_rfl, Tryz.func157.trans (congrArg some (by kernel_rfl))⟩
  t0 := Tryz.underlying0
  a0 := Tryz.isAgg0
  z0 := Tryz.sizeOf0
  v0 := Tryz.zeroValue0
  t3 := Tryz.underlying3
  a3 := Tryz.isAgg3
  z3 := Tryz.sizeOf3
  v3 := Tryz.zeroValue3
  t4 := Tryz.underlying4
  a4 := Tryz.isAgg4
  z4 := Tryz.sizeOf4
  v4 := Tryz.zeroValue4
  t5 := Tryz.underlying5
  a5 := Tryz.isAgg5
  z5 := Tryz.sizeOf5
  v5 := Tryz.zeroValue5
  t9 := Tryz.underlying9
  a9 := Tryz.isAgg9
  z9 := Tryz.sizeOf9
  v9 := Tryz.zeroValue9
  t22 := Tryz.underlying24
  a22 := Tryz.isAgg24
  z22 := Tryz.sizeOf24
  v22 := Tryz.zeroValue24
  t25 := Tryz.underlying73
  a25 := Tryz.isAgg73
  z25 := Tryz.sizeOf73
  v25 := Tryz.zeroValue73
  t39 := Tryz.underlying110
  a39 := Tryz.isAgg110
  z39 := Tryz.sizeOf110
  v39 := Tryz.zeroValue110
  t45 := Tryz.underlying134
  a45 := Tryz.isAgg134
  z45 := Tryz.sizeOf134
  v45 := Tryz.zeroValue134
  t46 := Tryz.underlying135
  a46 := Tryz.isAgg135
  z46 := Tryz.sizeOf135
  v46 := Tryz.zeroValue135
  t50 := Tryz.underlying113
  a50 := Tryz.isAgg113
  z50 := Tryz.sizeOf113
  v50 := Tryz.zeroValue113
  t53 := Tryz.underlying58
  a53 := Tryz.isAgg58
  z53 := Tryz.sizeOf58
  v53 := Tryz.zeroValue58
  t55 := Tryz.underlying42
  a55 := Tryz.isAgg42
  z55 := Tryz.sizeOf42
  v55 := Tryz.zeroValue42
  t66 := Tryz.underlying151
  a66 := Tryz.isAgg151
  z66 := Tryz.sizeOf151
  v66 := Tryz.zeroValue151
  t70 := Tryz.underlying155
  a70 := Tryz.isAgg155
  z70 := Tryz.sizeOf155
  v70 := Tryz.zeroValue155
  t76 := Tryz.underlying167
  a76 := Tryz.isAgg167
  z76 := Tryz.sizeOf167
  v76 := Tryz.zeroValue167
  t77 := Tryz.underlying168
  a77 := Tryz.isAgg168
  z77 := Tryz.sizeOf168
  v77 := Tryz.zeroValue168


theorem Tryz.sortS_c {bx : Boxes} {b : Nat} {ty : TypeId} {ss : List (List UInt8)} (hb : bx b = some (.row ty 1 (ss.map .str))) (hne : ss ≠ []) (hlen : ss.length < 4611686018427387904) :
    AbsCall Tryz.prog 114 [.own b 1 0 ss.length] bx fun r bx' => r = .tup [] ∧ bx' = upd bx b (some (.row ty 1 ((ss.mergeSort fun x y => decide (x ≤ y)).map .str))) :=
  sortS_abs Tryz.laySort Tryz.en114 hb hne hlen
theorem Tryz.compactS_c {bx : Boxes} {b : Nat} {ty : TypeId} {ss : List (List UInt8)} (hb : bx b = some (.row ty 1 (ss.map .str))) (hne : ss ≠ []) (hlen : ss.length < 4611686018427387904) :
    AbsCall Tryz.prog 82 [.own b 1 0 ss.length] bx fun r bx' => r = .own b 1 0 (Lib.compact ss).length ∧ ∃ es, bx' = upd bx b (some (.row ty 1 es)) :=
  compactS_abs Tryz.layComp Tryz.en82 hb hne hlen
theorem Tryz.pow10_g : Tryz.prog.globalNamed "internal/strconv.uint64pow10" = some 0 := by kernel_rfl
theorem Tryz.appendInt_c {bx : Boxes} (hm : Mk bx) (i : Int) (h0 : -9223372036854775808 ≤ i) (h1 : i ≤ 9223372036854775807) : PureCall Tryz.prog 40 [.nils, .int .i64 i, .int .i64 10] bx (.sl 1 (bytesV (Lib.itoa i))) :=
  appendInt_pure Tryz.layAI Tryz.en40 Tryz.pow10_g hm i h0 h1

def Tryz.layGrow_ren : Ren := { f := fun x => match x with | 4 => 95 | n => n, t := fun x => match x with | 0 => 0 | 3 => 3 | 4 => 4 | 9 => 9 | 20 => 20 | 22 => 24 | 25 => 63 | n => n, g := fun n => n }
theorem Tryz.layGrow : Lays8.n4 Tryz.prog Tryz.layGrow_ren where
  mixed := by kernel_rfl
  f4 := ⟨Tryz.f95.name, by kernel_rfl, Tryz.func95.trans (congrArg some (by kernel_rfl))⟩
  t0 := Tryz.underlying0
  a0 := Tryz.isAgg0
  z0 := Tryz.sizeOf0
  v0 := Tryz.zeroValue0
  t3 := Tryz.underlying3
  a3 := Tryz.isAgg3
  z3 := Tryz.sizeOf3
  v3 := Tryz.zeroValue3
  t4 := Tryz.underlying4
  a4 := Tryz.isAgg4
  z4 := Tryz.sizeOf4
  v4 := Tryz.zeroValue4
  t9 := Tryz.underlying9
  a9 := Tryz.isAgg9
  z9 := Tryz.sizeOf9
  v9 := Tryz.zeroValue9
  t20 := Tryz.underlying20
  a20 := Tryz.isAgg20
  z20 := Tryz.sizeOf20
  v20 := Tryz.zeroValue20
  t22 := Tryz.underlying24
  a22 := Tryz.isAgg24
  z22 := Tryz.sizeOf24
  v22 := Tryz.zeroValue24
set_option maxRecDepth 100000 in
theorem Tryz.growP_c (n : Nat) (bx : Boxes) (hn : n ≤ 1000000) (hb : FinB bx) : AbsCall Tryz.prog 95 [.nils, .int .i64 n] bx fun r bx' => Pl.Acc bx 63 2 [] r bx' :=
  grow_abs (e := 63) (z := .agg #[.int .u32 0, .int .i64 0]) Tryz.layGrow Tryz.en95 rfl Tryz.tsz63 (by decide) Tryz.tzero63 (by simp [go_sem]) n (by rw [Tryz.tby63]; omega) (by omega) bx hb
end Go.Proofs

/- Contracts: names in their order. -/
set_option linter.unusedSimpArgs false
set_option linter.unusedVariables false
namespace Go.Proofs
open Go Go.Pl Go.Hs

theorem Tryz.valuesit (l : List Bs) (hl : l.length ≤ 100000) : Iter Tryz.prog 115 [.ep (.sl 1 (l.map .str)) 0] l.length (fun k => some [.str (l.getD k [])]) := by
  intro b J S hf hy bx h0
  refine Tryz.ctr115 fun hb => ?_
  simp [go_sem, Tryz.C115, hb]
  refine pw_loop (ι := Nat × Boxes) (fun p => p.1 ≤ l.length ∧ J p.1 p.2) (fun p => ⟨16, slk [(0, .yl b), (5, .sl 1 (l.map .str)), (6, .int .i64 l.length), (7, .int .i64 p.1)], p.2⟩) (fun p => l.length - p.1) (0, bx) ⟨by simp, h0⟩ (cov_look (by simp [go_sem])) ?_
  rintro ⟨k, bx1⟩ ⟨hk, hJ⟩
  dsimp only at hk hJ ⊢
  by_cases hlt : k < l.length
  · have hw := wr_succ (k := k) (by omega)
    have hg : l.getD k [] = l[k] := by simp [hlt]
    have hyl := (hy k bx1 hlt hJ).1 _ rfl
    rw [hg] at hyl
    simp [go_sem, Tryz.L115_0, hlt, hf _ _ hJ]
    refine yldK_abs hyl ?_
    rintro r bx' (⟨rfl, h⟩ | ⟨rfl, h⟩)
    · simp [go_sem, hw]
      exact ⟨(k + 1, bx'), ⟨by simp; omega, h⟩, cov_look (by simp [go_sem]), by dsimp only; omega⟩
    · simp [go_sem]
      exact ret_pure (by simp [go_sem]) (.inr h)
  · have hk' : k = l.length := by omega
    subst hk'
    simp [go_sem, Tryz.L115_0]
    exact ret_pure (by simp [go_sem]) (.inl hJ)

theorem acc_dropb {bx bx' : Boxes} {e sz : Nat} {es : List V} {v : V} {b : Nat} {x : Box} (h : Pl.Acc (upd bx b (some x)) e sz es v bx') (hb : bx b = none) : Pl.Acc bx e sz es v (upd bx' b none) := by
  refine ⟨fun q hq => ?_, (finB_upd _ _ _).2 h.fin, ?_⟩
  · have hne : q ≠ b := by rintro rfl; exact hq hb
    rw [upd_ne _ _ hne]
    have := h.ext q (by rw [upd_ne _ _ hne]; exact hq)
    rw [this, upd_ne _ _ hne]
  · rcases h.is with h1 | ⟨c, h1, h2, h3⟩
    · exact .inl h1
    · have hne : c ≠ b := by rintro rfl; rw [upd_eq] at h1; cases h1
      exact .inr ⟨c, by rwa [upd_ne _ _ hne] at h1, h2, by rw [upd_ne _ _ hne]; exact h3⟩

set_option maxRecDepth 100000 in
theorem Tryz.appendseq_c (l : List Bs) (bx : Boxes) (hl : l.length ≤ 100000) :
    AbsCall Tryz.prog 132 [.nils, .fn (.func 115) [.ep (.sl 1 (l.map .str)) 0]] bx fun r bx' => Acc bx 9 1 (l.map .str) r bx' := by
  refine Tryz.ctr132 fun hb => ?_
  simp [go_sem, Tryz.C132, hb]
  intro b2 hb2
  refine pw_iter (by kernel_rfl) (Tryz.valuesit l hl) (fun k bx' => ∃ v, Acc (upd bx b2 (some (.row 22 1 [v]))) 9 1 ((l.take k).map .str) v bx') (by simp [go_sem]) ?_ ?_ ?_ (by simp) (by rfl) (by rfl) ?_ ?_
  · exact ⟨.nils, by simp; exact acc_nil (by simp [finB_upd, hb]) _ _⟩
  · rintro k _ ⟨v, ha⟩; exact ha.fin
  · intro k args hk ha
    obtain rfl : [V.str (l.getD k [])] = args := by injection ha
    rfl
  · rintro k bx1 hk ⟨v, ha⟩
    refine ⟨fun hx => (by cases hx), fun args hx K k1 k2 => ?_⟩
    obtain rfl : [V.str (l.getD k [])] = args := by injection hx
    have hg : l.getD k [] = l[k] := by simp [hk]
    rw [hg]
    have hlk : ((l.take k).map V.str).length = k := by simp; omega
    have hnx : (l.take (k + 1)).map V.str = (l.take k).map V.str ++ [.str l[k]] := by rw [take_snoc hk, List.map_append]; rfl
    rw [hnx] at k1
    generalize (l.take k).map V.str = es at *
    generalize l[k] = s at *
    simp [go_sem, Tryz.L132_0a, setPs, upd_look]
    simp [go_sem, Tryz.L132_0b, ha.cells, ha.fin, ha.at]
    intro b hb1
    have hst : storable Tryz.prog 9 (ofValue (.string ⟨#[]⟩)) := by simp [go_sem]
    have hsr : srcEls ⟨13, slk [(10, V.own b 1 0 1), (9, V.str s), (8, v), (2, V.ptr b2 1 0 0), (5, V.str s)], upd bx1 b (some (Box.row 9 1 [V.str s]))⟩ 1 (V.own b 1 0 1) = some [.str s] := by simp [go_sem, srcEls]
    have hap := fun (K : St → Prop) dst hd hK => acc_append (P := Tryz.prog) (K := K) (dst := dst) (t := 22) (n := 13) (sl := slk [(10, V.own b 1 0 1), (9, V.str s), (8, v), (2, V.ptr b2 1 0 0), (5, V.str s)]) (bx2 := upd bx1 b (some (Box.row 9 1 [V.str s]))) (x := .own b 1 0 1) (es := es) (news := [.str s]) (e := 9) (sz := 1) (.string ⟨#[]⟩) ha ((Ext.refl _).new hb1 _) (by simp [finB_upd, ha.fin]) Tryz.knd22 Tryz.tsz9 hsr Tryz.tzero9 hst (by omega) (by simp [Tryz.tby9]; omega) (by simp; omega) hd hK
    refine hap _ _ (by simp [go_sem]) ?_
    intro v' bx3 ha'
    simp [go_sem, ha'.at, ha.cells, ha'.cells, ha.setC, ha'.okV]
    exact k1 _ ⟨v', ha'.put _⟩
  · rintro bx1 ⟨v, ha⟩
    rw [List.take_length] at ha
    simp [go_sem, ha.cells, ha.at]
    exact ret_drop (bx := upd bx1 b2 none) (by simp [go_sem]) (fun q hq => by
      by_cases e : q = b2
      · subst e; rw [upd_eq] at hq; exact absurd rfl hq
      · rw [upd_ne _ _ e]) (by simpa [go_sem] using acc_dropb ha hb2)
theorem Tryz.collect_c (l : List Bs) (bx : Boxes) (hl : l.length ≤ 100000) :
    AbsCall Tryz.prog 113 [.fn (.func 115) [.ep (.sl 1 (l.map .str)) 0]] bx fun r bx' => Acc bx 9 1 (l.map .str) r bx' := by
  refine Tryz.ctr113 fun hb => ?_
  simp [go_sem, Tryz.C113, hb]
  refine callK_abs (Tryz.appendseq_c l bx hl) ?_
  intro r bx' ha
  simp [go_sem, ha.cells]
  exact ret_pure (by simp [go_sem]) (by simpa [go_sem] using ha)
theorem Tryz.values_c (l : List Bs) (bx : Boxes) : PureCall Tryz.prog 81 [.sl 1 (l.map .str)] bx (.fn (.func 115) [.ep (.sl 1 (l.map .str)) 0]) := by
  refine Tryz.ctr81 fun hb => ?_
  simp [go_sem, Tryz.C81, hb]
  refine ret_pure ?_ ?_ <;> simp [go_sem]
theorem Tryz.sorted_c (l : List Bs) (bx : Boxes) (hl : l.length ≤ 100000) (hne : l ≠ []) :
    AbsCall Tryz.prog 80 [.fn (.func 115) [.ep (.sl 1 (l.map .str)) 0]] bx fun r bx' => Acc bx 9 1 ((l.mergeSort fun x y => decide (x ≤ y)).map .str) r bx' := by
  refine Tryz.ctr80 fun hb => ?_
  simp [go_sem, Tryz.C80, hb]
  refine callK_abs (Tryz.collect_c l bx hl) ?_
  intro r bx' ha
  obtain ⟨b, hb1, rfl, hb2⟩ := ha.row (by simpa using hne)
  simp [go_sem]
  refine callK_abs (Tryz.sortS_c hb2 hne (by omega)) ?_
  rintro r bx2 ⟨rfl, rfl⟩
  simp [go_sem]
  refine ret_pure (by simp [go_sem]) ?_
  simp [go_sem]
  exact ⟨ha.ext.upd_own hb1 _, (finB_upd _ _ _).2 ha.fin, .inr ⟨b, hb1, by simp, upd_eq _ _ _⟩⟩
end Go.Proofs

/- Contracts: what is wrong with a ring's parts. -/
set_option linter.unusedSimpArgs false
set_option linter.unusedVariables false
namespace Go.Proofs
open Go Go.Pl Go.Hs

theorem wsum_take {ws : List Int} {nodes : Int} {k : Nat} (hk : k < ws.length) : wsum (ws.take (k + 1)) nodes = wsum (ws.take k) nodes + ws[k] * nodes := by
  unfold wsum
  rw [take_snoc hk, List.map_append, List.sum_append]; simp
theorem wsum_le {ws : List Int} {nodes : Int} (h1 : ws.any badW = false) (h2 : 1 ≤ nodes) (h3 : nodes ≤ 100) : 0 ≤ wsum ws nodes ∧ wsum ws nodes ≤ 2000 * ws.length := by
  induction ws with
  | nil => simp [wsum]
  | cons w ws ih =>
    simp only [List.any_cons, Bool.or_eq_false_iff] at h1
    obtain ⟨i1, i2⟩ := ih h1.2
    have hw := h1.1
    simp [badW] at hw
    have e : wsum (w :: ws) nodes = w * nodes + wsum ws nodes := by simp [wsum]
    have h4 : 0 ≤ w * nodes := Int.mul_nonneg hw.1 (by omega)
    have h5 : w * nodes ≤ 20 * 100 := Int.mul_le_mul hw.2 h3 (by omega) (by omega)
    simp only [List.length_cons]
    omega

set_option maxRecDepth 100000 in
theorem Tryz.wrong_c (names : List Bs) (wts : List Int) (nodes : Int) (bx : Boxes) (hl : wts.length ≤ 9223372036854775807) (hl2 : names.length ≤ 9223372036854775807) : PureCall Tryz.prog 36 [strsV names, intsV wts, .int .i64 nodes] bx (.int .i64 (wrong names wts nodes)) := by
  refine Tryz.ctr36 fun hb => ?_
  unfold strsV intsV
  by_cases h1 : names.length < 1 ∨ 16 < names.length
  · have hw : wrong names wts nodes = 3 := by unfold wrong; rw [if_pos h1]
    have h2 : (decide (names = []) || decide (16 < (names.length : Int))) = true := by
      rcases h1 with h | h
      · have : names = [] := List.eq_nil_of_length_eq_zero (by omega)
        simp [this]
      · simp; omega
    simp [go_sem, Tryz.C36, hb, h2]
    refine ret_pure ?_ ?_ <;> simp [go_sem, hw]
  have hne : names ≠ [] := by rintro rfl; simp at h1
  have h2 : (decide (names = []) || decide (16 < (names.length : Int))) = false := by
    simp [hne]; omega
  by_cases h3 : ¬ wts.length = names.length
  · have hw : wrong names wts nodes = 2 := by unfold wrong; rw [if_neg h1, if_pos h3]
    simp [go_sem, Tryz.C36, hb, h2]
    refine ⟨fun _ => ?_, fun h => absurd h (by omega)⟩
    refine ret_pure ?_ ?_ <;> simp [go_sem, hw]
  have h3 : wts.length = names.length := Decidable.not_not.1 h3
  by_cases h4 : nodes < 1 ∨ 100 < nodes
  · have hw : wrong names wts nodes = 7 := by unfold wrong; rw [if_neg h1, if_neg (by simpa using h3), if_pos h4]
    have h5 : (decide (nodes < 1) || decide (100 < nodes)) = true := by simpa using h4
    simp [go_sem, Tryz.C36, hb, h2, h3, h5]
    refine gK_off (.bool false) (by simp [go_sem]) ?_
    simp [go_sem, hb]
    refine ret_pure ?_ ?_ <;> simp [go_sem, hw]
  have h5 : (decide (nodes < 1) || decide (100 < nodes)) = false := by simpa using h4
  simp [go_sem, Tryz.C36, hb, h2, h3, h5]
  have c1 := Tryz.anyI_c 74 badW wts bx (by omega) (fun x bx => Tryz.badW_c x bx)
  cases h6 : wts.any badW
  case true =>
    rw [h6] at c1
    have hw : wrong names wts nodes = 7 := by unfold wrong; rw [if_neg h1, if_neg (by simpa using h3), if_neg h4, if_pos h6]
    refine gK_pure c1 (by simp) (by simp [go_sem]) ?_
    simp [go_sem, hb]
    refine ret_pure ?_ ?_ <;> simp [go_sem, hw]
  rw [h6] at c1
  refine gK_pure c1 (by simp) (by simp [go_sem]) ?_
  simp [go_sem, hb]
  have c2 := Tryz.anyS_c 75 badN names bx (by omega) (fun x bx => Tryz.badN_c x bx)
  cases h7 : names.any badN
  case true =>
    rw [h7] at c2
    have hw : wrong names wts nodes = 6 := by unfold wrong; rw [if_neg h1, if_neg (by simpa using h3), if_neg h4, if_neg (by simp [h6]), if_pos h7]
    refine callK_pure c2 ?_
    simp [go_sem, hb]
    refine ret_pure ?_ ?_ <;> simp [go_sem, hw]
  rw [h7] at c2
  refine callK_pure c2 ?_
  simp [go_sem, hb]
  refine callK_pure (Tryz.values_c names bx) ?_
  simp [go_sem, hb]
  refine callK_abs (Tryz.sorted_c names bx (by omega) hne) ?_
  intro r bx' ha
  have hne2 : (names.mergeSort fun x y => decide (x ≤ y)) ≠ [] := by
    intro h; exact hne (List.eq_nil_of_length_eq_zero (by rw [← List.length_mergeSort (le := fun x y => decide (x ≤ y)) names, h]; rfl))
  obtain ⟨b, hb1, rfl, hb2⟩ := ha.row (by simpa using hne2)
  have hcn := compact_nodup names
  have hcl := compact_le (names.mergeSort fun x y => decide (x ≤ y))
  have hms := List.length_mergeSort (le := fun x y : Bs => decide (x ≤ y)) names
  generalize (names.mergeSort fun x y => decide (x ≤ y)) = srt at *
  simp [go_sem, hb, ha.fin]
  rw [show (List.map V.str srt).length = srt.length by simp] at *
  refine callK_abs (Tryz.compactS_c hb2 hne2 (by omega)) ?_
  rintro r bx2 ⟨rfl, es, rfl⟩
  simp [go_sem, ha.fin]
  refine ⟨fun h8 => ?_, fun h8 => ?_⟩
  · have hnd : ¬ names.Nodup := fun hn => by have := hcn.2 hn; omega
    have hw : wrong names wts nodes = 8 := by unfold wrong; rw [if_neg h1, if_neg (by simpa using h3), if_neg h4, if_neg (by simp [h6]), if_neg (by simp [h7]), if_pos hnd]
    exact ret_drop (bx := bx) (by simp [go_sem]) (ha.ext.upd_own hb1 _) (by simp [go_sem, hw])
  have hnd : names.Nodup := hcn.1 (by omega)
  obtain ⟨hs0, hs1⟩ := wsum_le h6 (by omega) (by omega : nodes ≤ 100)
  refine pw_upto wts.length (fun k => ⟨67, slk [(2, .int .i64 nodes), (10, .int .i64 (wsum (wts.take k) nodes)), (53, .sl 1 (wts.map (.int .i64))), (54, .int .i64 wts.length), (55, .int .i64 k)], bx⟩) (cov_drop (ha.ext.upd_own hb1 _) (by simp [go_sem, wsum])) ?_ ?_
  · intro k hk N hN
    have hw := wr_succ (k := k) (by omega)
    have hbad : badW wts[k] = false := by
      have := List.any_eq_false.1 h6 wts[k] (List.getElem_mem hk)
      simpa using this
    simp [badW] at hbad
    have h4' : 0 ≤ wts[k] * nodes := Int.mul_nonneg hbad.1 (by omega)
    have h5' : wts[k] * nodes ≤ 20 * 100 := Int.mul_le_mul hbad.2 (by omega) (by omega) (by omega)
    have hm : IntKind.i64.wrap (wts[k] * nodes) = wts[k] * nodes := wr64 (by omega)
    have h6k : (wts.take k).any badW = false := by
      rw [List.any_eq_false] at h6 ⊢
      exact fun x hx => h6 x (List.mem_of_mem_take hx)
    obtain ⟨q0, q1⟩ := wsum_le h6k (by omega) (by omega : nodes ≤ 100)
    rw [List.length_take] at q1
    have hsw : IntKind.i64.wrap (wsum (wts.take k) nodes + wts[k] * nodes) = wsum (wts.take (k + 1)) nodes := by rw [wsum_take hk, wr64 (by omega)]
    generalize wsum (wts.take k) nodes = s0 at *
    generalize wsum (wts.take (k + 1)) nodes = s1 at *
    simp [go_sem, Tryz.L36_0, hk, hb, hm, hsw]
    refine hN _ (cov_look (by simp [go_sem, hw]))
  · intro N
    simp [go_sem, Tryz.L36_0]
    have hw : wrong names wts nodes = if 4096 < wsum wts nodes then 3 else 0 := by unfold wrong; rw [if_neg h1, if_neg (by simpa using h3), if_neg h4, if_neg (by simp [h6]), if_neg (by simp [h7]), if_neg (by simpa using hnd)]
    refine ⟨fun h => ret_pure ?_ ?_, fun h => ret_pure ?_ ?_⟩ <;> simp [go_sem, hw, h]
end Go.Proofs

/- Contracts: clones, the sort of points. -/
set_option linter.unusedSimpArgs false
set_option linter.unusedVariables false
set_option maxRecDepth 100000
namespace Go.Proofs
open Go Go.Pl Go.Hs

/-- What a call hands back is frozen. -/
theorem abs_frz {P : Program} {f : FuncId} {args : List V} {bx : Boxes} {Kc Kc' : V → Boxes → Prop} (h : AbsCall P f args bx Kc) (hk : ∀ r bx', Kc r bx' → ∃ bx'' d, SubBx bx' bx'' ∧ Kc' (frz bx' bx'' d r) bx'') : AbsCall P f args bx Kc' := by
  refine ⟨h.1, fun β M w vs hok hgl hvs hrep => (h.2 β M w vs hok hgl hvs hrep).mono ?_⟩
  rintro e w' ⟨v, r, bx', β', rfl, hk', hok', htr, hrep'⟩
  obtain ⟨bx'', d, hs, hk2⟩ := hk _ _ hk'
  exact ⟨v, _, bx'', β', rfl, hk2, hok'.sub hs, htr.trans hs.tr, frz_rep hok' hs d _ _ hrep'⟩
theorem pure_acc {P : Program} {f : FuncId} {args : List V} {bx : Boxes} {e sz : Nat} {es : List V} (h : AbsCall P f args bx fun r bx' => Acc bx e sz es r bx') (hs : 0 < sz) : PureCall P f args bx (.sl sz es) := by
  refine PureCall.wk (abs_frz h ?_)
  intro r bx' ha
  rcases ha.is with ⟨rfl, rfl⟩ | ⟨b, hb, rfl, hb2⟩
  · exact ⟨bx, 0, ha.ext.sub, wk_nils _, rfl⟩
  · refine ⟨bx, 1, ha.ext.sub, ?_, rfl⟩
    rw [frz_own1 hb2 hb hs rfl]
    exact Wk.refl _
theorem mk_ext {bx bx' : Boxes} (h : Mk bx) (he : Ext bx bx') : Mk bx' := by
  obtain ⟨b, ty, hb⟩ := h
  exact ⟨b, ty, by rw [he b (by rw [hb]; simp), hb]⟩
theorem mk_upd {bx : Boxes} {b : Nat} (h : Mk bx) (hb : bx b = none) (x : Option Box) : Mk (upd bx b x) := mk_ext h ((Ext.refl _).new hb x)

set_option maxRecDepth 100000 in
theorem Tryz.appS {bx bx1 bx2 : Boxes} {es news : List V} {v x : V} {d n : Nat} {sl : Nat → V} {K : St → Prop} (ha : Pl.Acc bx 9 1 es v bx1) (h2 : Ext bx1 bx2) (hf : FinB bx2) (src : srcEls ⟨n, sl, bx2⟩ 1 x = some news) (hlen : es.length + news.length ≤ 1000000) (hd : d < n)
    (hK : ∀ v' bx3, Pl.Acc bx 9 1 (es ++ news) v' bx3 → K (St.put ⟨n, sl, bx3⟩ (some d) v')) : appendA Tryz.prog ⟨n, sl, bx2⟩ (some d) 22 v x K :=
  acc_append (.string ⟨#[]⟩) ha h2 hf Tryz.knd22 Tryz.tsz9 src Tryz.tzero9 (by simp [go_sem]) (by omega) (by simp [Tryz.tby9]; omega) (by omega) (by simpa [go_sem] using hd) hK
set_option maxRecDepth 100000 in
theorem Tryz.appI {bx bx1 bx2 : Boxes} {es news : List V} {v x : V} {d n : Nat} {sl : Nat → V} {K : St → Prop} (ha : Pl.Acc bx 3 1 es v bx1) (h2 : Ext bx1 bx2) (hf : FinB bx2) (src : srcEls ⟨n, sl, bx2⟩ 1 x = some news) (hlen : es.length + news.length ≤ 1000000) (hd : d < n)
    (hK : ∀ v' bx3, Pl.Acc bx 3 1 (es ++ news) v' bx3 → K (St.put ⟨n, sl, bx3⟩ (some d) v')) : appendA Tryz.prog ⟨n, sl, bx2⟩ (some d) 23 v x K :=
  acc_append (.int .i64 0) ha h2 hf Tryz.knd23 Tryz.tsz3 src Tryz.tzero3 (by simp [go_sem]) (by omega) (by simp [Tryz.tby3]; omega) (by omega) (by simpa [go_sem] using hd) hK
set_option maxRecDepth 100000 in
theorem Tryz.appP {bx bx1 bx2 : Boxes} {es news : List V} {v x : V} {d n : Nat} {sl : Nat → V} {K : St → Prop} (ha : Pl.Acc bx 63 2 es v bx1) (h2 : Ext bx1 bx2) (hf : FinB bx2) (src : srcEls ⟨n, sl, bx2⟩ 2 x = some news) (hlen : es.length + news.length ≤ 1000000) (hd : d < n)
    (hK : ∀ v' bx3, Pl.Acc bx 63 2 (es ++ news) v' bx3 → K (St.put ⟨n, sl, bx3⟩ (some d) v')) : appendA Tryz.prog ⟨n, sl, bx2⟩ (some d) 24 v x K :=
  acc_append (.agg #[.int .u32 0, .int .i64 0]) ha h2 hf Tryz.knd24 Tryz.tsz63 src Tryz.tzero63 (by simp [go_sem]) (by omega) (by simp [Tryz.tby63]; omega) (by omega) (by simpa [go_sem] using hd) hK

theorem Tryz.cloneS_a (l : List Bs) (bx : Boxes) (hl : l.length ≤ 100000) : AbsCall Tryz.prog 37 [strsV l] bx fun r bx' => Acc bx 9 1 (l.map .str) r bx' := by
  refine Tryz.ctr37 fun hb => ?_
  unfold strsV
  simp [go_sem, Tryz.C37, hb]
  refine ⟨fun b hb1 => ?_, fun hne => ?_⟩
  · refine Tryz.appS (bx := bx) (es := []) (news := l.map .str) (acc_new hb1 hb 9 1 [] 0 rfl) (Ext.refl _) (by simp [finB_upd, hb]) (by simp [go_sem, srcEls]) (by simp; omega) (by omega) ?_
    intro v' bx3 ha'
    simp [go_sem]
    refine ret_pure (by simp [go_sem]) ?_
    simpa [go_sem] using ha'
  · refine ret_pure (by simp [go_sem]) ?_
    simpa [go_sem, hne] using acc_nil hb 9 1
theorem Tryz.cloneI_a (l : List Int) (bx : Boxes) (hl : l.length ≤ 100000) : AbsCall Tryz.prog 38 [intsV l] bx fun r bx' => Acc bx 3 1 (l.map (.int .i64)) r bx' := by
  refine Tryz.ctr38 fun hb => ?_
  unfold intsV
  simp [go_sem, Tryz.C38, hb]
  refine ⟨fun b hb1 => ?_, fun hne => ?_⟩
  · refine Tryz.appI (bx := bx) (es := []) (news := l.map (.int .i64)) (acc_new hb1 hb 3 1 [] 0 rfl) (Ext.refl _) (by simp [finB_upd, hb]) (by simp [go_sem, srcEls]) (by simp; omega) (by omega) ?_
    intro v' bx3 ha'
    simp [go_sem]
    refine ret_pure (by simp [go_sem]) ?_
    simpa [go_sem] using ha'
  · refine ret_pure (by simp [go_sem]) ?_
    simpa [go_sem, hne] using acc_nil hb 3 1
theorem Tryz.cloneS_c (l : List Bs) (bx : Boxes) (hl : l.length ≤ 100000) : PureCall Tryz.prog 37 [strsV l] bx (strsV l) := pure_acc (Tryz.cloneS_a l bx hl) (by decide)
theorem Tryz.cloneI_c (l : List Int) (bx : Boxes) (hl : l.length ≤ 100000) : PureCall Tryz.prog 38 [intsV l] bx (intsV l) := pure_acc (Tryz.cloneI_a l bx hl) (by decide)

/-! The sort of points -/
theorem pure_calls {P : Program} {f : FuncId} {args : List V} {r : V} (hent : ∀ vs w, (callFunc f vs).run P w = .ok (.enter f vs) w)
    (h : ∀ (β : Beta) (w : World) (F : Nat → Prop) (vs : Array Value), vs.size = args.length → (∀ (i : Nat) (c : V), args[i]? = some c → Rep β w F c (vs.getD i undef)) → ∃ v, (∀ β w F, Rep β w F r v) ∧ Calls P f vs w fun e w' => e = .returned v ∧ w' = w) (bx : Boxes) : PureCall P f args bx r := by
  refine ⟨hent, fun β M w vs hok hgl hvs hrep => ?_⟩
  obtain ⟨v, hv, hc⟩ := h β w _ vs hvs hrep
  refine hc.mono ?_
  rintro e w' ⟨rfl, rfl⟩
  exact ⟨v, r, bx, β, rfl, ⟨rfl, rfl⟩, hok, Tr.refl _ _ _, hv _ _ _⟩
theorem Tryz.len0_c (bx : Boxes) : PureCall Tryz.prog 86 [.int .u64 0] bx (.int .i64 0) := by
  refine pure_calls Tryz.en86 (fun β w F vs hvs hrep => ⟨.int .i64 0, fun _ _ _ => .int _ _, ?_⟩) bx
  have h0 : vs = #[.int .u64 0] := by
    have e0 : vs.getD 0 undef = .int .u64 0 := (hrep 0 _ rfl).int_inv
    apply Array.ext
    · simpa using hvs
    · intro j g1 g2
      simp at hvs
      have : j = 0 := by omega
      subst this
      rw [← e0]; simp [g1]
  subst h0
  have := Any.bits_Len (SlLaysF0.n15.bits (P := Tryz.prog) (ρ := Tryz.laySf_ren) { Tryz.laySf with }) 0 w (by omega) (by omega)
  exact this
theorem Tryz.ins0_c (bx : Boxes) : PureCall Tryz.prog 117 [.nils, .int .i64 0, .int .i64 0, .fn (.func 42) []] bx (.tup []) := by
  refine Tryz.ctr117 fun hb => ?_
  simp [go_sem, Tryz.C117, hb, wr64]
  refine pw_upto 0 (fun _ => ⟨53, slk [(0, V.nils), (1, V.int IntKind.i64 0), (2, V.int IntKind.i64 0), (3, V.fn (Fn.func 42) []), (8, V.int IntKind.i64 1)], bx⟩) (cov_look (by simp [go_sem])) (fun k hk => absurd hk (by omega)) ?_
  intro N
  simp [go_sem, Tryz.L117_1]
  refine ret_pure ?_ ?_ <;> simp [go_sem]
theorem Tryz.pdq0_c (bx : Boxes) : PureCall Tryz.prog 85 [.nils, .int .i64 0, .int .i64 0, .int .i64 0, .fn (.func 42) []] bx (.tup []) := by
  refine Tryz.ctr85 fun hb => ?_
  simp [go_sem, Tryz.C85, hb, wr64]
  refine pw_upto 0 (fun _ => ⟨148, slk [(0, V.nils), (1, V.int IntKind.i64 0), (2, V.int IntKind.i64 0), (3, V.int IntKind.i64 0), (4, V.fn (Fn.func 42) []), (10, .bool true), (11, .bool true)], bx⟩) (cov_look (by simp [go_sem])) (fun k hk => absurd hk (by omega)) ?_
  intro N
  simp [go_sem, Tryz.L85_0, wr64]
  refine callK_pure (Tryz.ins0_c bx) ?_
  simp [go_sem]
  refine ret_pure ?_ ?_ <;> simp [go_sem]
theorem Tryz.sort0_c (bx : Boxes) : PureCall Tryz.prog 41 [.nils, .fn (.func 42) []] bx (.tup []) := by
  refine Tryz.ctr41 fun hb => ?_
  simp [go_sem, Tryz.C41, hb, wru64]
  refine callK_pure (Tryz.len0_c bx) ?_
  simp [go_sem]
  refine callK_pure (Tryz.pdq0_c bx) ?_
  simp [go_sem]
  refine ret_pure ?_ ?_ <;> simp [go_sem]

theorem perm_sorted_eq {α : Type} {r : α → α → Prop} (ha : ∀ x y, r x y → r y x → x = y) : ∀ {l l' : List α}, l.Perm l' → l.Pairwise r → l'.Pairwise r → l = l'
  | [], l', hp, _, _ => by simpa using hp.symm
  | x :: l, [], hp, _, _ => absurd hp.length_eq (by simp)
  | x :: l, y :: l', hp, h1, h2 => by
    have hxy : x = y := by
      have hx : x ∈ y :: l' := hp.subset (by simp)
      have hy : y ∈ x :: l := hp.symm.subset (by simp)
      rcases List.mem_cons.1 hx with e | e
      · exact e
      · rcases List.mem_cons.1 hy with e' | e'
        · exact e'.symm
        · exact ha _ _ ((List.pairwise_cons.1 h1).1 _ e') ((List.pairwise_cons.1 h2).1 _ e)
    subst hxy
    rw [perm_sorted_eq ha (hp.cons_inv) (List.pairwise_cons.1 h1).2 (List.pairwise_cons.1 h2).2]
theorem ple_total (a b : Pt) : (ple a b || ple b a) = true := by
  simp [ple]; omega
theorem ple_trans (a b c : Pt) (h1 : ple a b = true) (h2 : ple b c = true) : ple a c = true := by
  simp [ple] at *; omega
theorem ple_anti (a b : Pt) (h1 : ple a b = true) (h2 : ple b a = true) : a = b := by
  obtain ⟨a1, a2⟩ := a
  obtain ⟨b1, b2⟩ := b
  simp [ple] at *; omega
theorem srt_pair (l : List Pt) : (srt l).Pairwise fun a b => ple a b = true := List.pairwise_mergeSort ple_trans ple_total l
theorem srt_eq {l l' : List Pt} (hp : l'.Perm l) (hs : l'.Pairwise fun a b => ple a b = true) : l' = srt l :=
  perm_sorted_eq (r := fun a b => ple a b = true) ple_anti (hp.trans (List.mergeSort_perm l ple).symm) hs (srt_pair l)
theorem ple_cmp (a b : Pt) : Go.Proofs.ltOf cmpP b a = false ↔ ple a b = true := by
  simp only [ltOf, cmpP, cmpI, ple]
  split <;> split <;> simp <;> omega
theorem swo_cmp : Sort.SWO (ltOf cmpP) where
  irrefl x := by simp [ltOf, cmpP, cmpI]
  trans x y z h1 h2 := by
    have e : ∀ a b : Pt, ltOf cmpP a b = true ↔ ¬ ple b a = true := fun a b => by rw [← ple_cmp]; simp
    rw [e] at *
    intro h3
    rcases Bool.or_eq_true_iff.1 (ple_total x y) with h | h
    · exact h2 (ple_trans _ _ _ h3 h)
    · exact h1 h
  ntrans x y z h1 h2 := by
    rw [ple_cmp] at *
    exact ple_trans _ _ _ h2 h1
theorem encPt_ok : EncOk (fun p : Pt => [Value.int .u32 p.h, .int .i64 p.b]) ptV 2 where
  len x := rfl
  vlen x := rfl
  one x v hv := by
    simp at hv
    rcases hv with rfl | rfl <;> rfl
  rep x j c hc β w F := by
    rcases j with _ | _ | j
    · simp [ptV, V.cells] at hc; subst hc; exact .int _ _
    · simp [ptV, V.cells] at hc; subst hc; exact .int _ _
    · simp [ptV, V.cells] at hc
  inv x j c hc β w F u hu := by
    rcases j with _ | _ | j
    · simp [ptV, V.cells] at hc; subst hc; exact hu.int_inv
    · simp [ptV, V.cells] at hc; subst hc; exact hu.int_inv
    · simp [ptV, V.cells] at hc
theorem sorted_of {l : List Pt} {d' : Array Pt} (hp : Sort.PermIn 0 l.toArray.size l.toArray d') (hs : Sort.SortedIn (ltOf cmpP) 0 l.toArray.size d') : d'.toList = srt l := by
  obtain ⟨h1, _, h2⟩ := hp
  refine srt_eq ?_ ?_
  · have e1 : (d'.extract 0 l.toArray.size) = d' := by rw [← h1]; simp
    have e2 : (l.toArray.extract 0 l.toArray.size) = l.toArray := by simp
    rw [e1, e2] at h2
    simpa using h2
  · rw [List.pairwise_iff_getElem]
    intro i j hi hj hij
    rw [← ple_cmp]
    have := hs i j (Nat.zero_le _) hij (by rw [← h1]; simpa using hj)
    simp at hi hj
    simpa [hi, hj] using this
theorem Tryz.sortP_c {bx : Boxes} {v : V} {bx' : Boxes} {l : List Pt} (ha : Pl.Acc bx 63 2 (l.map ptV) v bx') (hnn : l = [] → v = .nils) (hlen : l.length ≤ 1000000) :
    AbsCall Tryz.prog 41 [v, .fn (.func 42) []] bx' fun r bx2 => r = .tup [] ∧ Pl.Acc bx 63 2 ((srt l).map ptV) v bx2 ∧ ∀ b, v ≠ .own b 2 0 l.length → bx2 b = bx' b := by
  have hsl : (srt l).length = l.length := List.length_mergeSort _
  rcases ha.is with ⟨h1, rfl⟩ | ⟨b, hb, rfl, hb2⟩
  · have h2 : l = [] := by simpa using h1
    subst h2
    refine (Tryz.sort0_c bx').mono ?_
    rintro r bx2 ⟨rfl, rfl⟩
    exact ⟨rfl, by simpa [srt] using ha, fun _ _ => rfl⟩
  have h0 : l ≠ [] := fun h => by have := hnn h; cases this
  have h0 : l.toArray.size ≠ 0 := by intro h; exact h0 (List.eq_nil_of_length_eq_zero (by simpa using h))
  have := row_abs (P := Tryz.prog) (f := 41) (rest := [.fn (.func 42) []]) encPt_ok Tryz.en41 (Q := fun d d' => d'.toList = srt l) (d := l.toArray) (fun _ => .tup []) (fun _ _ _ => .tuple #[]) (.tuple #[])
    (by intro d' h; rw [← Array.length_toList, h]; simp [hsl]) (fun h => absurd h h0) (bx := bx') (b := b) (ty := 63) (by simpa using hb2) (fun h => absurd h h0) (fun _ _ _ _ _ _ _ _ _ _ _ _ _ _ => .tup [] #[] rfl (fun i c h => by simp at h)) (fun h => absurd h h0)
    (by
      intro β M w blk cap rs hok hgl hβ hrs hrep _ hH hlt hcap
      have hrs0 : rs = #[.func (.func 42) #[] #[]] := by
        have h3 := hrep 0 _ rfl
        have h4 : rs = #[rs.getD 0 undef] := by
          apply Array.ext
          · simpa using hrs
          · intro j g1 g2
            simp at hrs
            have : j = 0 := by omega
            subst this
            simp [g1]
        rw [h4]
        generalize rs.getD 0 undef = u at h3
        cases h3 with
        | fn f caps us hl hr =>
          have : us = #[] := by simpa using hl
          rw [this]
      subst hrs0
      have hcl := cmp_lays encPt_ok (P := Tryz.prog) (g := 42) (caps := []) (cf := cmpP) (fun x β w F => by
        refine .agg [.int .u32 x.h, .int .i64 x.b] #[.int .u32 x.h, .int .i64 x.b] rfl (fun i hi => ?_) (fun i c hc => ?_)
        · rcases i with _ | _ | i
          · rfl
          · rfl
          · exact absurd hi (by simp)
        · rcases i with _ | _ | i
          · simp at hc; subst hc; exact .int _ _
          · simp at hc; subst hc; exact .int _ _
          · simp at hc) (fun x y => Tryz.cmpP_c x y _) hok hgl (b := b) (blk := blk) (by rw [hb2]; simp) hβ (cb := #[]) rfl (fun i c h => by simp at h) l.toArray.size
      refine (AnyQ.slices_SortFunc Tryz.laySf 2 (fun w => rfl) (fun w => rfl) (fun p : Pt => [Value.int .u32 p.h, .int .i64 p.b]) (fun _ => rfl) encPt_ok.one cmpP swo_cmp 42 #[] blk 0 cap l.toArray w Tryz.en42 hcl hH hlt (by simp; omega)).mono ?_
      rintro e w' ⟨rfl, d', n, os, hp, hs, rfl⟩
      exact ⟨d', n, os, rfl, sorted_of hp hs, rfl⟩)
  simp only [List.length_map]
  rw [show l.toArray.size = l.length by simp] at this
  refine this.mono ?_
  rintro r bx2 ⟨d', rfl, hd, rfl⟩
  rw [hd]
  refine ⟨rfl, ⟨ha.ext.upd_own hb _, (finB_upd _ _ _).2 ha.fin, .inr ⟨b, hb, by simp [hsl], upd_eq _ _ _⟩⟩, fun c hc => upd_ne _ _ (by rintro rfl; exact hc rfl)⟩
end Go.Proofs

/- Contracts: Ring. -/
set_option linter.unusedSimpArgs false
set_option linter.unusedVariables false
set_option maxRecDepth 100000
namespace Go.Proofs
open Go Go.Pl Go.Hs

theorem wrong0 {names : List Bs} {wts : List Int} {nodes : Int} (h : wrong names wts nodes = 0) : 1 ≤ names.length ∧ names.length ≤ 16 ∧ wts.length = names.length ∧ 1 ≤ nodes ∧ nodes ≤ 100 ∧ wts.any badW = false ∧ names.any badN = false ∧ names.Nodup ∧ wsum wts nodes ≤ 4096 := by
  unfold wrong at h
  by_cases h1 : names.length < 1 ∨ 16 < names.length
  · rw [if_pos h1] at h; cases h
  rw [if_neg h1] at h
  by_cases h2 : wts.length ≠ names.length
  · rw [if_pos h2] at h; cases h
  rw [if_neg h2] at h
  by_cases h3 : nodes < 1 ∨ 100 < nodes
  · rw [if_pos h3] at h; cases h
  rw [if_neg h3] at h
  by_cases h4 : wts.any badW = true
  · rw [if_pos h4] at h; cases h
  rw [if_neg h4] at h
  by_cases h5 : names.any badN = true
  · rw [if_pos h5] at h; cases h
  rw [if_neg h5] at h
  by_cases h6 : ¬ names.Nodup
  · rw [if_pos h6] at h; cases h
  rw [if_neg h6] at h
  by_cases h7 : 4096 < wsum wts nodes
  · rw [if_pos h7] at h; cases h
  exact ⟨by omega, by omega, by omega, by omega, by omega, by simpa using h4, by simpa using h5, Decidable.not_not.1 h6, by omega⟩

theorem wk_aggL {cs ds : List V} (hl : cs.length = ds.length) (h : ∀ (i : Nat) (c d : V), cs[i]? = some c → ds[i]? = some d → Wk c d) : Wk (.agg cs) (.agg ds) := by
  intro β w F u hu
  cases hu with
  | agg _ us h1 h2 h3 =>
    refine .agg ds us (h1.trans hl) (fun i hi => h2 i (by omega)) (fun i c hc => ?_)
    have hi := (List.getElem?_eq_some_iff.1 hc).1
    have hc' : cs[i]? = some (cs[i]'(by omega)) := List.getElem?_eq_getElem _
    exact h i _ _ hc' hc _ _ _ _ (h3 i _ hc')
theorem pts_len (s : Bs) (m i : Nat) : (ptsOf s m i).length = m := by simp [ptsOf]
theorem Tryz.ring_c (names : List Bs) (wts : List Int) (nodes : Int) (bx : Boxes) (hm : Mk bx) (hl : wts.length ≤ 9223372036854775807) (hl2 : names.length ≤ 9223372036854775807) :
    PureCall Tryz.prog 10 [strsV names, intsV wts, .int .i64 nodes] bx (.tup [rgV (ring names wts nodes).1, .int .i64 (ring names wts nodes).2]) := by
  refine PureCall.wk (Tryz.ctr10 fun hb => ?_)
  have c0 := fun bx => Tryz.wrong_c names wts nodes bx hl hl2
  by_cases hw : wrong names wts nodes = 0
  · have hr : ring names wts nodes = (⟨names, wts, nodes, srt (raw names wts nodes names.length)⟩, 0) := by unfold ring; rw [if_pos hw]
    obtain ⟨g1, g2, g3, g4, g5, g6, g7, g8, g9⟩ := wrong0 hw
    have c1 := fun bx => Tryz.cloneS_c names bx (by omega)
    have c2 := fun bx => Tryz.cloneI_c wts bx (by omega)
    rw [hr]
    generalize hS : srt (raw names wts nodes names.length) = S
    unfold rgV
    simp only
    simp only [strsV, intsV] at c0 c1 c2 ⊢
    simp [go_sem, Tryz.C10, hb]
    intro b6 hb6
    refine callK_pure (c0 _) ?_
    simp [go_sem, hw]
    refine callK_pure (c1 _) ?_
    simp [go_sem, hw]
    refine callK_pure (c2 _) ?_
    simp [go_sem, hw, hb]
    intro b9 hb9
    generalize hbx0 : upd bx b6 (some (Box.row 26 4 [V.agg [V.nils, V.nils, V.int IntKind.i64 0, V.nils]])) = bx0 at *
    have hf0 : FinB bx0 := by rw [← hbx0]; simp [finB_upd, hb]
    have hm0 : Mk bx0 := by rw [← hbx0]; exact mk_upd hm hb6 _
    refine pw_for (ι := V × Boxes) names.length (fun i p => Pl.Acc (upd bx0 b9 (some (Box.row 26 4 [V.agg [V.sl 1 (List.map V.str names), V.sl 1 (List.map (V.int IntKind.i64) wts), V.int IntKind.i64 nodes, p.1]]))) 63 2 ((raw names wts nodes i).map ptV) p.1 p.2 ∧ (raw names wts nodes i = [] → p.1 = .nils) ∧ (raw names wts nodes i).length ≤ 2000 * i)
      (fun i p => ⟨65, slk [(1, V.sl 1 (List.map (V.int IntKind.i64) wts)), (2, V.int IntKind.i64 nodes), (6, .ptr b6 4 0 0), (9, .ptr b9 4 0 0), (28, V.sl 1 (List.map V.str names)), (29, .int .i64 names.length), (30, .int .i64 i)], p.2⟩) (.nils, upd bx0 b9 (some (Box.row 26 4 [V.agg [V.sl 1 (List.map V.str names), V.sl 1 (List.map (V.int IntKind.i64) wts), V.int IntKind.i64 nodes, .nils]]))) ⟨acc_nil (by simp [finB_upd, hf0]) _ _, fun _ => rfl, by simp [raw]⟩ (cov_look (by simp [go_sem])) ?_ ?_
    · rintro i ⟨v, bx1⟩ hi ⟨ha, hnil, hlen⟩ N hN
      dsimp only at ha ⊢
      have hi2 : i < wts.length := by omega
      have hwi := wr_succ (k := i) (by omega)
      have hbn : badN names[i] = false := by
        have := List.any_eq_false.1 g7 names[i] (List.getElem_mem hi)
        simpa using this
      have hnl : names[i].length ≤ 32 := by
        simp [badN] at hbn; omega
      have hbw : badW wts[i] = false := by
        have := List.any_eq_false.1 g6 wts[i] (List.getElem_mem hi2)
        simpa using this
      simp [badW] at hbw
      have h4' : 0 ≤ wts[i] * nodes := Int.mul_nonneg hbw.1 (by omega)
      have h5' : wts[i] * nodes ≤ 20 * 100 := Int.mul_le_mul hbw.2 (by omega) (by omega) (by omega)
      have hmul : IntKind.i64.wrap (wts[i] * nodes) = wts[i] * nodes := wr64 (by omega)
      have e1 : names.getD i [] = names[i] := by simp [hi]
      have e2 : wts.getD i 0 = wts[i] := by simp [hi2]
      have hraw : raw names wts nodes (i + 1) = raw names wts nodes i ++ ptsOf names[i] (wts[i] * nodes).toNat i := by rw [raw, e1, e2]
      obtain ⟨m, hmm⟩ : ∃ m : Nat, wts[i] * nodes = m := ⟨(wts[i] * nodes).toNat, by omega⟩
      rw [hmm] at hmul hraw
      rw [Int.toNat_natCast] at hraw
      simp [go_sem, Tryz.L10_1, hi, hi2, ha.fin, (by omega : (names[i]).length ≤ 9223372036854775806), hmm, hmul]
      have cs : ∀ bx, PureCall Tryz.prog 34 [V.sl 1 (List.map byteV names[i] ++ [byteV 35])] bx (.int .u32 (sum32 (tagS names[i]))) := fun bx => by
        have h := Tryz.sum32_c (tagS names[i]) bx (by simp [tagS]; omega)
        have e : bytesV (tagS names[i]) = List.map byteV names[i] ++ [byteV 35] := by show (tagS names[i]).map byteV = _; simp [tagS]
        rwa [e] at h
      refine callK_pure (cs _) ?_
      simp [go_sem, hi2, hmm, hmul]
      have hL : ∀ n, n < m → (ptsOf names[i] m i).take (n + 1) = (ptsOf names[i] m i).take n ++ [⟨on32 (sum32 (tagS names[i])) (Lib.decDigits n), i⟩] := by
        intro n hn
        rw [take_snoc (by rw [pts_len]; exact hn)]
        congr 1
        simp [ptsOf, sum32, on32]
      have hpl := pts_len names[i] m i
      generalize hP : ptsOf names[i] m i = Ps at *
      generalize hR : raw names wts nodes i = Rs at *
      have hm2 : m ≤ 2000 := by omega
      refine pw_for (ι := V × Boxes) m (fun n p => Pl.Acc (upd bx0 b9 (some (Box.row 26 4 [V.agg [V.sl 1 (List.map V.str names), V.sl 1 (List.map (V.int IntKind.i64) wts), V.int IntKind.i64 nodes, p.1]]))) 63 2 ((Rs ++ Ps.take n).map ptV) p.1 p.2 ∧ (Rs ++ Ps.take n = [] → p.1 = .nils))
        (fun n p => ⟨65, slk [(1, V.sl 1 (List.map (V.int IntKind.i64) wts)), (2, V.int IntKind.i64 nodes), (6, .ptr b6 4 0 0), (9, .ptr b9 4 0 0), (10, .int .i64 i), (12, .int .u32 (sum32 (tagS names[i]))), (28, V.sl 1 (List.map V.str names)), (29, .int .i64 names.length), (30, .int .i64 i), (44, .int .i64 m), (45, .int .i64 n)], p.2⟩) (v, bx1) ⟨by simpa using ha, by simpa using hnil⟩ (cov_look (by simp [go_sem])) ?_ ?_
      · rintro n ⟨v2, bx2⟩ hn ⟨ha2, hnil2⟩ N2 hN2
        dsimp only at ha2 ⊢
        have hwn := wr_succ (k := n) (by omega)
        have hlt2 : (Rs ++ Ps.take n).length ≤ 100000 := by
          rw [List.length_append, List.length_take]; omega
        have hnew : (Rs ++ Ps.take (n + 1)).map ptV = (Rs ++ Ps.take n).map ptV ++ [ptV ⟨on32 (sum32 (tagS names[i])) (Lib.decDigits n), i⟩] := by rw [hL n hn]; simp
        have hnen : Rs ++ Ps.take (n + 1) ≠ [] := by rw [hL n hn]; simp
        generalize hE : (Rs ++ Ps.take n).map ptV = E at *
        have hEl : E.length ≤ 100000 := by rw [← hE]; simpa using hlt2
        have hmk : Mk bx2 := mk_ext (mk_upd hm0 hb9 _) ha2.ext
        have cA : PureCall Tryz.prog 40 [.nils, .int .i64 n, .int .i64 10] bx2 (.sl 1 (bytesV (Lib.decDigits n))) := by
          have := Tryz.appendInt_c hmk (n : Int) (by omega) (by omega)
          have e : Lib.itoa (n : Int) = Lib.decDigits n := by unfold Lib.itoa; rw [if_neg (by omega)]; rfl
          rwa [e] at this
        have cO := Tryz.on32_c (sum32 (tagS names[i])) (Lib.decDigits n) bx2 (by
          have := Lib.itoa_length_le (n : Int) (by omega) (by omega)
          have e : Lib.itoa (n : Int) = Lib.decDigits n := by unfold Lib.itoa; rw [if_neg (by omega)]; rfl
          rw [e] at this; omega)
        generalize bytesV (Lib.decDigits n) = bs at *
        generalize on32 (sum32 (tagS names[i])) (Lib.decDigits n) = hv at *
        generalize sum32 (tagS names[i]) = h0 at *
        simp [go_sem, Tryz.L10_0, hn, ha2.fin, ha2.at, ha2.cells, fzAt, fzb]
        refine callK_pure cA ?_
        simp [go_sem]
        refine callK_pure cO ?_
        simp [go_sem]
        refine Tryz.appP (es := E) (news := [.agg [V.int IntKind.u32 hv, V.int IntKind.i64 i]]) ha2 (Ext.refl _) ha2.fin (by simp [go_sem, srcEls]) (by simp; omega) (by omega) ?_
        intro v' bx3 ha3
        simp [go_sem, ha3.at, ha2.cells, ha3.cells, ha2.setC, ha3.okV]
        refine hN2 _ (v', upd bx3 b9 (some (Box.row 26 4 [V.agg [V.sl 1 (List.map V.str names), V.sl 1 (List.map (V.int IntKind.i64) wts), V.int IntKind.i64 nodes, v']]))) ⟨?_, fun h => absurd h hnen⟩ (cov_look (by simp [go_sem, hwn]))
        rw [hnew]
        exact ha3.put _
      · rintro ⟨v2, bx2⟩ ⟨ha2, hnil2⟩ N2
        dsimp only at ha2 hnil2 ⊢
        have hpt : Ps.take m = Ps := by rw [← hpl]; simp
        rw [hpt] at ha2 hnil2
        simp [go_sem, Tryz.L10_0]
        refine hN _ (v2, bx2) ⟨?_, ?_, ?_⟩ (cov_look (by simp [go_sem, hwi]))
        · rw [hraw]; exact ha2
        · rw [hraw]; exact hnil2
        · rw [hraw, List.length_append]; omega
    · rintro ⟨v, bx1⟩ ⟨ha, hnil, hlen⟩ N
      dsimp only at ha hnil ⊢
      generalize hR : raw names wts nodes names.length = Rs at *
      simp [go_sem, Tryz.L10_1, ha.at, ha.cells, ha.strip, ha.live]
      have hso := Tryz.sortP_c ha hnil (by omega)
      refine callK_abs hso ?_
      rintro r bx2 ⟨rfl, ha2, _⟩
      rw [hS] at ha2
      have hb69 : b6 ≠ b9 := by
        rintro rfl
        rw [← hbx0, upd_eq] at hb9; cases hb9
      have h6 : bx2 b6 = some (Box.row 26 4 [V.agg [V.nils, V.nils, V.int IntKind.i64 0, V.nils]]) := by
        rw [ha2.ext b6 (by rw [upd_ne _ _ hb69, ← hbx0, upd_eq]; simp), upd_ne _ _ hb69, ← hbx0, upd_eq]
      simp [go_sem, ha2.at, ha2.cells, h6, ha2.okV]
      have hx0 : Ext bx bx0 := by rw [← hbx0]; exact (Ext.refl _).new hb6 _
      have hx : Ext bx bx2 := hx0.trans (((Ext.refl _).new hb9 _).trans ha2.ext)
      generalize hX : (some (Box.row 26 4 [V.agg [V.sl 1 (List.map V.str names), V.sl 1 (List.map (V.int IntKind.i64) wts), V.int IntKind.i64 nodes, v]])) = X
      have hfr : Wk (frz (upd bx2 b6 X) bx 1 v) (ptsV S) := by
        rcases ha2.is with ⟨h1, rfl⟩ | ⟨b, hb', rfl, hb2⟩
        · exact wk_nil' h1
        · have hne : b ≠ b9 := by rintro rfl; rw [upd_eq] at hb'; cases hb'
          rw [upd_ne _ _ hne] at hb'
          have hne6 : b ≠ b6 := by rintro rfl; rw [← hbx0, upd_eq] at hb'; cases hb'
          have hbb : bx b = none := by rwa [← hbx0, upd_ne _ _ hne6] at hb'
          rw [frz_own1 (by rw [upd_ne _ _ hne6]; exact hb2) hbb (by decide) rfl]
          exact Wk.refl _
      subst hX
      refine ret_frz 3 (by simp [go_sem]) (hx.upd_own hb6 _) ⟨?_, rfl⟩
      simp [go_sem]
      refine wk_tup2 (wk_aggL rfl ?_) (Wk.refl _)
      intro j c d hc hd
      rcases j with _ | _ | _ | _ | j
      · simp [frz] at hc hd; subst hc hd; exact Wk.refl _
      · simp [frz] at hc hd; subst hc hd; exact Wk.refl _
      · simp [frz] at hc hd; subst hc hd; exact Wk.refl _
      · simp [frz] at hc hd; subst hc hd; exact hfr
      · simp at hd
  · have hr : ring names wts nodes = (none_, wrong names wts nodes) := by unfold ring; rw [if_neg hw]
    rw [hr]
    unfold rgV none_
    simp only
    simp only [strsV, intsV, ptsV] at c0 ⊢
    simp [go_sem, Tryz.C10, hb]
    intro b6 hb6
    refine callK_pure (c0 _) ?_
    simp [go_sem, hw]
    refine ret_drop (by simp [go_sem]) ((Ext.refl _).new hb6 _) ⟨?_, rfl⟩
    simp [go_sem]
    refine wk_tup2 (wk_aggL rfl ?_) (Wk.refl _)
    intro j c d hc hd
    rcases j with _ | _ | _ | _ | j
    · simp at hc hd; subst hc hd; exact wk_nils _
    · simp at hc hd; subst hc hd; exact wk_nils _
    · simp at hc hd; subst hc hd; exact Wk.refl _
    · simp at hc hd; subst hc hd; exact wk_nils _
    · simp at hd
end Go.Proofs

/- Contracts: Check, Weigh, find. -/
set_option linter.unusedSimpArgs false
set_option linter.unusedVariables false
set_option maxRecDepth 100000
namespace Go.Proofs
open Go Go.Pl Go.Hs

theorem Tryz.equalP_c (a b : List Pt) (bx : Boxes) (ha : a.length ≤ 1000000) : PureCall Tryz.prog 51 [ptsV a, ptsV b] bx (.bool (decide (a = b))) := by
  refine Tryz.ctr51 fun hb => ?_
  unfold ptsV
  by_cases hl : ¬ a.length = b.length
  · have hab : a ≠ b := by rintro rfl; exact hl rfl
    simp [go_sem, Tryz.C51, hb]
    refine ⟨fun _ => ?_, fun h => absurd h (by omega)⟩
    refine ret_pure ?_ ?_ <;> simp [go_sem, hab]
  have hl : a.length = b.length := Decidable.not_not.1 hl
  simp [go_sem, Tryz.C51, hb, hl]
  refine pw_find a.length (fun k => decide (a[k]? ≠ b[k]?)) (fun k => ⟨26, slk [(0, .sl 2 (a.map ptV)), (1, .sl 2 (b.map ptV)), (12, .int .i64 a.length), (13, .int .i64 k)], bx⟩) (cov_look (by simp [go_sem, hl])) ?_ ?_
  · intro k hk hpre N hN
    have hk2 : k < b.length := by omega
    have hw := wr_succ (k := k) (by omega)
    simp [go_sem, Tryz.L51_0, hk, hk2, ptV]
    have hab : ¬ (a[k].h = b[k].h ∧ a[k].b = b[k].b) → a ≠ b := fun h he => h (by subst he; exact ⟨rfl, rfl⟩)
    refine ⟨fun h => ret_pure ?_ ?_, fun h1 h2 => hN _ ?_ (cov_look (by simp [go_sem, hw, ptV]))⟩
    · simp [go_sem]
    · have := hab (by rintro ⟨h1, h2⟩; rcases h with h | h <;> contradiction)
      simp [go_sem, this]
    · have : a[k] = b[k] := by
        generalize a[k] = x at *
        generalize b[k] = y at *
        obtain ⟨x1, x2⟩ := x
        obtain ⟨y1, y2⟩ := y
        simp_all
      simp [hk, hk2, this]
  · intro hpre N
    have hab : a = b := by
      apply List.ext_getElem? 
      intro i
      by_cases hi : i < a.length
      · have := hpre i hi; simpa using this
      · rw [List.getElem?_eq_none (by omega), List.getElem?_eq_none (by omega)]
    simp [go_sem, Tryz.L51_0]
    refine ret_pure ?_ ?_ <;> simp [go_sem, hab]

/-- A call that is handed frozen what it is handed as one's own; boxes are given up. -/
theorem abs_drop {P : Program} {f : FuncId} {args : List V} {bx bx0 : Boxes} {Kc : V → Boxes → Prop} (d : Nat) (hs : SubBx bx bx0) (h : AbsCall P f (args.map (frz bx bx0 d)) bx0 Kc) : AbsCall P f args bx Kc := by
  refine ⟨h.1, fun β M w vs hok hgl hvs hrep => ?_⟩
  refine (h.2 β M w vs (hok.sub hs) (hgl.imp fun _ _ hh => hs.rep hh) (by simpa using hvs) fun i c hc => ?_).mono ?_
  · rw [List.getElem?_map, Option.map_eq_some_iff] at hc
    obtain ⟨c0, hc0, rfl⟩ := hc
    exact frz_rep hok hs d _ _ (hrep i c0 hc0)
  · rintro e w' ⟨v, r, bx', β', rfl, hk, hok', htr, hr⟩
    exact ⟨v, r, bx', β', rfl, hk, hok', hs.tr.trans htr, hr⟩

theorem wk_none (x : V) : Wk (.tup [.agg [.nils, .nils, .int .i64 0, .nils], x]) (.tup [.agg [.sl 1 [], .sl 1 [], .int .i64 0, .sl 2 []], x]) := by
  refine wk_tup2 (wk_aggL rfl ?_) (Wk.refl _)
  intro j c d hc hd
  rcases j with _ | _ | _ | _ | j
  · simp at hc hd; subst hc hd; exact wk_nils _
  · simp at hc hd; subst hc hd; exact wk_nils _
  · simp at hc hd; subst hc hd; exact Wk.refl _
  · simp at hc hd; subst hc hd; exact wk_nils _
  · simp at hd
theorem check0 {r : Rg} (h : check r = 0) : wrong r.names r.wts r.nodes = 0 ∧ r.pts = srt (raw r.names r.wts r.nodes r.names.length) := by
  unfold check ring at h
  by_cases hw : wrong r.names r.wts r.nodes = 0
  · rw [if_pos hw] at h
    simp only [true_and] at h
    refine ⟨hw, ?_⟩
    split at h
    · cases h
    · rename_i h2
      simpa [eq_comm] using h2
  · rw [if_neg hw] at h
    simp only at h
    split at h
    · cases h
    · exact absurd h hw
theorem raw_le {names : List Bs} {wts : List Int} {nodes : Int} (h : wrong names wts nodes = 0) : ∀ k, k ≤ names.length → (raw names wts nodes k).length ≤ 2000 * k := by
  obtain ⟨g1, g2, g3, g4, g5, g6, g7, g8, g9⟩ := wrong0 h
  intro k
  induction k with
  | zero => intro _; simp [raw]
  | succ k ih =>
    intro hk
    have := ih (by omega)
    rw [raw, List.length_append, pts_len]
    have hi2 : k < wts.length := by omega
    have hbw : badW wts[k] = false := by
      have := List.any_eq_false.1 g6 wts[k] (List.getElem_mem hi2)
      simpa using this
    simp [badW] at hbw
    have h4' : 0 ≤ wts[k] * nodes := Int.mul_nonneg hbw.1 (by omega)
    have h5' : wts[k] * nodes ≤ 20 * 100 := Int.mul_le_mul hbw.2 (by omega) (by omega) (by omega)
    have e2 : wts.getD k 0 = wts[k] := by simp [hi2]
    rw [e2]; omega
theorem ring_le (names : List Bs) (wts : List Int) (nodes : Int) : (ring names wts nodes).1.pts.length ≤ 32000 := by
  unfold ring
  split
  · rename_i h
    have := raw_le h names.length (Nat.le_refl _)
    have := (wrong0 h).2.1
    simp [srt]; omega
  · simp [none_]
theorem Tryz.check_c (r : Rg) (bx : Boxes) (hm : Mk bx) (hl : r.wts.length ≤ 9223372036854775807) (hl2 : r.names.length ≤ 9223372036854775807) :
    PureCall Tryz.prog 15 [rgV r] bx (.int .i64 (check r)) := by
  refine Tryz.ctr15 fun hb => ?_
  have c0 := Tryz.ring_c r.names r.wts r.nodes bx hm hl hl2
  have hpl : (ring r.names r.wts r.nodes).1.pts.length ≤ 1000000 := by have := ring_le r.names r.wts r.nodes; omega
  have c1 := fun bx => Tryz.equalP_c (ring r.names r.wts r.nodes).1.pts r.pts bx hpl
  unfold check
  generalize hR : ring r.names r.wts r.nodes = R at *
  obtain ⟨x, e⟩ := R
  simp only [rgV, strsV, intsV, ptsV] at c0 c1 ⊢
  simp [go_sem, Tryz.C15, hb]
  refine callK_pure c0 ?_
  simp [go_sem, hb]
  intro b3 hb3
  by_cases he : e = 0
  · simp [go_sem, hb, he, upd_self hb3]
    refine gK_pure (c1 _) (by simp) (by simp [go_sem]) ?_
    simp [go_sem]
    refine ⟨fun h => ?_, fun h => ?_⟩
    · refine ret_pure ?_ ?_ <;> simp [go_sem, h]
    · refine ret_pure ?_ ?_ <;> simp [go_sem, h]
  · simp [go_sem, hb, he, upd_self hb3]
    refine gK_off (.bool false) (by simp [go_sem]) ?_
    simp [go_sem]
    refine ret_pure ?_ ?_ <;> simp [go_sem]

set_option maxHeartbeats 400000 in
theorem Tryz.weigh_c (r : Rg) (k w : Int) (bx : Boxes) (hm : Mk bx) (hl : r.wts.length ≤ 9223372036854775807) (hl2 : r.names.length ≤ 9223372036854775807) :
    PureCall Tryz.prog 12 [rgV r, .int .i64 k, .int .i64 w] bx (.tup [rgV (weigh r k w).1, .int .i64 (weigh r k w).2]) := by
  refine PureCall.wk (Tryz.ctr12 fun hb => ?_)
  have c0 := fun bx hm => Tryz.check_c r bx hm hl hl2
  by_cases h1 : check r ≠ 0
  · have hw : weigh r k w = (none_, check r) := by unfold weigh; rw [if_pos h1]
    rw [hw]
    simp only [rgV, strsV, intsV, ptsV, none_] at c0 ⊢
    simp [go_sem, Tryz.C12, hb]
    intro b6 hb6
    refine callK_pure (c0 _ (mk_upd hm hb6 _)) ?_
    simp [go_sem, h1, hb]
    refine ret_drop (by simp [go_sem]) ((Ext.refl _).new hb6 _) ⟨?_, rfl⟩
    simp [go_sem]
    exact wk_none _
  have h1 : check r = 0 := Decidable.not_not.1 h1
  obtain ⟨g1, g2, g3, g4, g5, g6, g7, g8, g9⟩ := wrong0 (check0 h1).1
  by_cases h2 : k < 0 ∨ (r.names.length : Int) ≤ k
  · have hw : weigh r k w = (none_, 2) := by unfold weigh; rw [if_neg (by simpa using h1), if_pos h2]
    have h3 : (decide (k < 0) || decide ((r.names.length : Int) ≤ k)) = true := by simpa using h2
    rw [hw]
    simp only [rgV, strsV, intsV, ptsV, none_] at c0 ⊢
    simp [go_sem, Tryz.C12, hb]
    intro b6 hb6
    refine callK_pure (c0 _ (mk_upd hm hb6 _)) ?_
    simp [go_sem, h1, hb, h3]
    refine ret_drop (by simp [go_sem]) ((Ext.refl _).new hb6 _) ⟨?_, rfl⟩
    simp [go_sem]
    exact wk_none _
  have h3 : (decide (k < 0) || decide ((r.names.length : Int) ≤ k)) = false := by simpa using h2
  have hw : weigh r k w = ring r.names (r.wts.set k.toNat w) r.nodes := by unfold weigh; rw [if_neg (by simpa using h1), if_neg h2]
  obtain ⟨kn, rfl⟩ : ∃ kn : Nat, k = kn := ⟨k.toNat, by omega⟩
  rw [hw]
  have c1 := fun bx => Tryz.cloneI_a r.wts bx (by omega)
  have c2 := fun bx hm => Tryz.ring_c r.names (r.wts.set kn w) r.nodes bx hm (by simp; omega) hl2
  rw [Int.toNat_natCast]
  generalize ring r.names (r.wts.set kn w) r.nodes = R at *
  simp only [rgV, strsV, intsV, ptsV] at c0 c1 c2 ⊢
  simp [go_sem, Tryz.C12, hb]
  intro b6 hb6
  refine callK_pure (c0 _ (mk_upd hm hb6 _)) ?_
  have h5 : ¬ (r.names.length ≤ kn) := by omega
  have h5' : ¬ ((r.names.length : Int) ≤ kn) := by omega
  have h5n : ¬ ((kn : Int) < 0) := by omega
  simp [go_sem, h1, hb, h5, h5', h5n]
  refine callK_abs (c1 _) ?_
  intro v bx1 ha
  dsimp only at ha
  have hne : r.wts.map (V.int .i64) ≠ [] := by
    intro h; have := congrArg List.length h; simp at this; rw [this] at g3; simp at g3; omega
  obtain ⟨bw, hbw, rfl, hbw2⟩ := ha.row hne
  have hkn : kn < r.wts.length := by omega
  have hne6 : b6 ≠ bw := by rintro rfl; rw [upd_eq] at hbw; cases hbw
  rw [upd_ne _ _ (Ne.symm hne6)] at hbw
  have h6 : bx1 b6 = some (Box.row 26 4 [V.agg [V.nils, V.nils, V.int IntKind.i64 0, V.nils]]) := by
    rw [ha.ext b6 (by rw [upd_eq]; simp), upd_eq]
  have hx1 : Ext bx bx1 := ((Ext.refl _).new hb6 _).trans ha.ext
  have hx2 : Ext bx (upd bx1 bw none) := hx1.upd_own hbw _
  simp [go_sem, hbw2, hkn]
  generalize hX : (List.map (V.int IntKind.i64) r.wts).set kn (V.int IntKind.i64 w) = X
  have hXl : r.wts.length = X.length := by rw [← hX]; simp
  have hXe : X = List.map (V.int IntKind.i64) (r.wts.set kn w) := by rw [← hX, List.map_set]
  have hfin : AbsCall Tryz.prog 10 [V.sl 1 (List.map V.str r.names), V.own bw 1 0 r.wts.length, V.int IntKind.i64 r.nodes] (upd bx1 bw (some (Box.row 3 1 X))) (fun r' bx' => r' = V.tup [V.agg [V.sl 1 (List.map V.str R.fst.names), V.sl 1 (List.map (V.int IntKind.i64) R.fst.wts), V.int IntKind.i64 R.fst.nodes, V.sl 2 (List.map ptV R.fst.pts)], V.int IntKind.i64 R.snd] ∧ bx' = upd bx1 bw none) := by
    refine abs_drop 1 (bx0 := upd bx1 bw none) (fun q => ?_) ?_
    · by_cases e : q = bw
      · subst e; exact .inl (upd_eq _ _ _)
      · exact .inr (by rw [upd_ne _ _ e, upd_ne _ _ e])
    · rw [List.map_cons, List.map_cons, List.map_cons, List.map_nil, frz_own1 (upd_eq _ _ _) (upd_eq _ _ _) (by decide) hXl]
      show AbsCall _ _ [V.sl 1 (List.map V.str r.names), _, V.int IntKind.i64 r.nodes] _ _
      rw [hXe]
      exact c2 _ (mk_ext hm hx2)
  refine callK_abs hfin ?_
  rintro r' bx' ⟨rfl, rfl⟩
  have h6n : upd bx1 bw none b6 = some (Box.row 26 4 [V.agg [V.nils, V.nils, V.int IntKind.i64 0, V.nils]]) := by rw [upd_ne _ _ hne6]; exact h6
  simp [go_sem, h6n]
  refine ret_drop (by simp [go_sem]) (hx2.upd_own hb6 _) ⟨?_, rfl⟩
  simp [go_sem]
  exact Wk.refl _
end Go.Proofs

/- Contracts: what a hash finds. -/
set_option linter.unusedSimpArgs false
set_option linter.unusedVariables false
set_option maxRecDepth 100000
namespace Go.Proofs
open Go Go.Pl Go.Hs

def bsI (l : List Pt) (h : Int) : Nat := match l.findIdx? fun p => decide (h ≤ p.h) with
  | some i => i
  | none => l.length
theorem bsI_eq {l : List Pt} {h : Int} {i : Nat} (hi : i ≤ l.length) (h1 : ∀ p, (hp : p < l.length) → p < i → l[p].h < h) (h2 : ∀ p, (hp : p < l.length) → i ≤ p → h ≤ l[p].h) : bsI l h = i := by
  unfold bsI
  cases hf : l.findIdx? fun p => decide (h ≤ p.h) with
  | none =>
    rw [List.findIdx?_eq_none_iff] at hf
    rcases Nat.lt_or_ge i l.length with h3 | h3
    · have := hf _ (List.getElem_mem h3)
      have := h2 i h3 (Nat.le_refl _)
      simp at *; omega
    · simp only; omega
  | some k =>
    obtain ⟨hk, g1, g2⟩ := List.findIdx?_eq_some_iff_getElem.1 hf
    simp at g1
    simp only
    rcases Nat.lt_trichotomy k i with h3 | h3 | h3
    · have := h1 k hk h3; omega
    · exact h3
    · have := g2 i h3
      have h4 := h2 i (by omega) (Nat.le_refl _)
      simp at this; omega
theorem Tryz.bs_c (l : List Pt) (h : Int) (bx : Boxes) (hl : l.length ≤ 1000000) (hs : l.Pairwise fun a b => a.h ≤ b.h) :
    PureCall Tryz.prog 93 [ptsV l, .int .u32 h, .fn (.func 94) []] bx (.tup [.int .i64 (bsI l h), .bool (match l[bsI l h]? with | some p => decide (p.h = h) | none => false)]) := by
  refine Tryz.ctr93 fun hb => ?_
  unfold ptsV
  simp [go_sem, Tryz.C93, hb]
  refine pw_loop (ι := Nat × Nat) (fun p => p.1 ≤ p.2 ∧ p.2 ≤ l.length ∧ (∀ q, (hq : q < l.length) → q < p.1 → l[q].h < h) ∧ (∀ q, (hq : q < l.length) → p.2 ≤ q → h ≤ l[q].h))
    (fun p => ⟨49, slk [(0, .sl 2 (l.map ptV)), (1, .int .u32 h), (2, .fn (.func 94) []), (8, .int .i64 l.length), (9, .int .i64 p.1), (10, .int .i64 p.2)], bx⟩) (fun p => p.2 - p.1) (0, l.length) ⟨by simp, by simp, fun q _ h => by omega, fun q hq h => by dsimp only at h; omega⟩ (cov_look (by simp [go_sem])) ?_
  rintro ⟨i, j⟩ ⟨h1, h2, h3, h4⟩
  dsimp only at h1 h2 h3 h4 ⊢
  by_cases hlt : i < j
  · obtain ⟨m, hmd⟩ : ∃ m, m = (i + j) / 2 := ⟨_, rfl⟩
    have hm : m < l.length := by omega
    have hmid : IntKind.i64.wrap ((IntKind.u64.wrap ((i : Int) + j)).fdiv 2) = (m : Int) := by
      rw [wru64 (by omega), Int.fdiv_eq_ediv_of_nonneg _ (by omega), wr64 (by omega)]; omega
    have hw1 : IntKind.i64.wrap ((i : Int) + j) = (i : Int) + j := wr64 (by omega)
    have hwm := wr_succ (k := m) (by omega)
    simp [go_sem, Tryz.L93_0, hlt, hb, hw1, hmid, hm, ptV]
    refine callK_pure (Tryz.cmph_c l[m] h bx) ?_
    have mono : ∀ p q, (hq : q < l.length) → (hpq : p ≤ q) → (l[p]'(by omega)).h ≤ l[q].h := fun p q hq hpq => by
      rcases Nat.lt_or_ge p q with h5 | h5
      · exact List.pairwise_iff_getElem.1 hs p q (by omega) hq h5
      · have : p = q := by omega
        subst this; exact Int.le_refl _
    have hcm : (cmpI l[m].h h < 0) ↔ l[m].h < h := by
      unfold cmpI; split
      · simp_all
      · split <;> simp_all
    simp [go_sem, hcm]
    refine ⟨fun h5 => ⟨(m + 1, j), ⟨by dsimp only; omega, h2, fun q hq hqm => ?_, h4⟩, cov_look (by simp [go_sem, hwm, ptV]), by dsimp only; omega⟩, fun h5 => ⟨(i, m), ⟨by dsimp only; omega, by dsimp only; omega, h3, fun q hq hqm => ?_⟩, cov_look (by simp [go_sem, ptV]), by dsimp only; omega⟩⟩
    · have := mono q m hm (by dsimp only at hqm; omega); omega
    · have := mono m q hq hqm; omega
  · obtain rfl : i = j := by omega
    have hbi := bsI_eq h2 h3 h4
    rw [hbi]
    simp [go_sem, Tryz.L93_0]
    by_cases h5 : i < l.length
    · simp [go_sem, h5, hb, ptV]
      refine gK_pure (Tryz.cmph_c l[i] h bx) (by simp) (by simp [go_sem]) ?_
      have hcm : (cmpI l[i].h h = 0) ↔ l[i].h = h := by
        unfold cmpI; split
        · simp; omega
        · split
          · simp; omega
          · simp; omega
      simp [go_sem]
      refine ret_pure ?_ ?_ <;> simp [go_sem, hcm]
    · simp [go_sem, h5, hb]
      refine gK_off (.int .i64 0) (by simp [go_sem]) ?_
      simp [go_sem]
      refine ret_pure ?_ ?_ <;> simp [go_sem]
theorem first_eq (r : Rg) (h : Int) : first r h = if bsI r.pts h = r.pts.length then 0 else bsI r.pts h := by
  unfold first bsI
  cases hf : r.pts.findIdx? fun p => decide (h ≤ p.h) with
  | none => simp
  | some i =>
    have := (List.findIdx?_eq_some_iff_getElem.1 hf).1
    simp only
    rw [if_neg (by omega)]
theorem srt_h {l : List Pt} : (srt l).Pairwise fun a b => a.h ≤ b.h := (srt_pair l).imp fun {a b} h => by simp [ple] at h; omega
theorem Tryz.find_c (r : Rg) (h : Int) (bx : Boxes) (hl : r.pts.length ≤ 1000000) (hs : r.pts.Pairwise fun a b => a.h ≤ b.h) :
    PureCall Tryz.prog 53 [rgV r, .int .u32 h] bx (.int .i64 (first r h)) := by
  refine Tryz.ctr53 fun hb => ?_
  have c0 := fun bx => Tryz.bs_c r.pts h bx hl hs
  rw [first_eq]
  simp only [rgV, strsV, intsV, ptsV] at c0 ⊢
  simp [go_sem, Tryz.C53, hb]
  refine callK_pure (c0 _) ?_
  simp [go_sem]
  refine ⟨fun h1 => ret_pure ?_ ?_, fun h1 => ret_pure ?_ ?_⟩
  · simp [go_sem]
  · have h1' : bsI r.pts h = r.pts.length := by omega
    simp [go_sem, h1']
  · simp [go_sem]
  · have h1' : ¬ bsI r.pts h = r.pts.length := by omega
    simp [go_sem, h1']
theorem Tryz.longK_c (s : Bs) (bx : Boxes) : PureCall Tryz.prog 92 [.str s] bx (.bool (decide (200 < s.length))) := by
  refine Tryz.ctr92 fun hb => ?_
  simp [go_sem, Tryz.C92]
  refine ret_pure ?_ ?_ <;> simp [go_sem]
  omega
def askE (r : Rg) (keys : List Bs) : Int :=
  if check r ≠ 0 then check r else if keys.any (fun k => decide (200 < k.length)) = true then 3 else if r.pts.length = 0 then 4 else 0
theorem Tryz.ask_c (r : Rg) (keys : List Bs) (bx : Boxes) (hm : Mk bx) (hl : r.wts.length ≤ 9223372036854775807) (hl2 : r.names.length ≤ 9223372036854775807) (hk : keys.length ≤ 1000000) :
    PureCall Tryz.prog 52 [rgV r, strsV keys] bx (.int .i64 (askE r keys)) := by
  refine Tryz.ctr52 fun hb => ?_
  have c0 := Tryz.check_c r bx hm hl hl2
  have c1 := Tryz.anyS_c 92 (fun s => decide (200 < s.length)) keys bx hk (fun x bx => Tryz.longK_c x bx)
  unfold askE
  generalize hc : check r = c at *
  cases ha : keys.any (fun k => decide (200 < k.length))
  all_goals
    rw [ha] at c1
    simp only [rgV, strsV, intsV, ptsV] at c0 c1 ⊢
    simp [go_sem, Tryz.C52, hb]
    refine callK_pure c0 ?_
    simp [go_sem]
    refine ⟨fun h => ?_, fun h => ?_⟩
    · refine ret_pure ?_ ?_ <;> simp [go_sem, h]
    refine callK_pure c1 ?_
    simp [go_sem, hb]
  · refine ⟨fun h2 => ?_, fun h2 => ?_⟩
    · refine ret_pure ?_ ?_ <;> simp [go_sem, h, h2]
    · refine ret_pure ?_ ?_ <;> simp [go_sem, h, h2]
  · refine ret_pure ?_ ?_ <;> simp [go_sem, h]
end Go.Proofs

/- Contracts: Find, Order. -/
set_option linter.unusedSimpArgs false
set_option linter.unusedVariables false
set_option maxRecDepth 100000
namespace Go.Proofs
open Go Go.Pl Go.Hs

theorem Tryz.concat_c (a c : List Pt) {b : Nat} {ty : TypeId} {bx : Boxes} (hb2 : bx b = some (.row ty 1 [ptsV a, ptsV c])) (ha : a.length ≤ 400000) (hc : c.length ≤ 400000) :
    PureCall Tryz.prog 56 [.own b 1 0 2] bx (ptsV (a ++ c)) := by
  refine pure_acc (e := 63) (Tryz.ctr56 fun hb => ?_) (by decide)
  simp [go_sem, Tryz.C56, hb]
  refine pw_upto 2 (fun k => ⟨36, slk [(0, .own b 1 0 2), (3, .int .i64 (if k = 0 then 0 else if k = 1 then (a.length : Int) else (a.length : Int) + c.length)), (9, .own b 1 0 2), (10, .int .i64 2), (11, .int .i64 k)], bx⟩) (cov_look (by simp [go_sem])) ?_ ?_
  · intro k hk N hN
    rcases (by omega : k = 0 ∨ k = 1) with rfl | rfl
    · have hwa : IntKind.i64.wrap (a.length : Int) = a.length := wr64 (by omega)
      have h0 : ¬ ((a.length : Int) < 0) := by omega
      simp [go_sem, Tryz.L56_0, hb2, ptsV, hwa, h0]
      exact hN _ (cov_look (by simp [go_sem, wr64]))
    · have hwa : IntKind.i64.wrap ((a.length : Int) + c.length) = (a.length : Int) + c.length := wr64 (by omega)
      have h0 : ¬ ((a.length : Int) + c.length < 0) := by omega
      simp [go_sem, Tryz.L56_0, hb2, ptsV, hwa, h0]
      exact hN _ (cov_look (by simp [go_sem, wr64]))
  · intro N
    have hg := Tryz.growP_c (a.length + c.length) bx (by omega) hb
    rw [Int.natCast_add] at hg
    simp [go_sem, Tryz.L56_0]
    refine callK_abs hg ?_
    intro v bx1 hacc
    have hb3 : bx1 b = some (.row ty 1 [ptsV a, ptsV c]) := by rw [hacc.ext b (by rw [hb2]; simp)]; exact hb2
    simp [go_sem, hacc.cells]
    refine pw_for (ι := V × Boxes) 2 (fun k p => Pl.Acc bx 63 2 ((if k = 0 then [] else if k = 1 then a else a ++ c).map ptV) p.1 p.2)
      (fun k p => ⟨36, slk [(6, p.1), (25, .own b 1 0 2), (26, .int .i64 2), (27, .int .i64 k)], p.2⟩) (v, bx1) (by simpa using hacc) (cov_look (by simp [go_sem])) ?_ ?_
    · rintro k ⟨v2, bx2⟩ hk ha2 N2 hN2
      dsimp only at ha2 ⊢
      have hb4 : bx2 b = some (.row ty 1 [ptsV a, ptsV c]) := by rw [ha2.ext b (by rw [hb2]; simp)]; exact hb2
      rcases (by omega : k = 0 ∨ k = 1) with rfl | rfl
      · simp at ha2
        simp [go_sem, Tryz.L56_1, hb4, ptsV, ha2.cells]
        refine Tryz.appP (es := []) (news := a.map ptV) ha2 (Ext.refl _) ha2.fin (by simp [go_sem, srcEls]) (by simp; omega) (by omega) ?_
        intro v' bx3 ha3
        simp [go_sem, ha3.cells]
        exact hN2 _ (v', bx3) (by simpa using ha3) (cov_look (by simp [go_sem, wr64]))
      · simp at ha2
        simp [go_sem, Tryz.L56_1, hb4, ptsV, ha2.cells]
        refine Tryz.appP (es := a.map ptV) (news := c.map ptV) ha2 (Ext.refl _) ha2.fin (by simp [go_sem, srcEls]) (by simp; omega) (by omega) ?_
        intro v' bx3 ha3
        simp [go_sem, ha3.cells]
        exact hN2 _ (v', bx3) (by simpa using ha3) (cov_look (by simp [go_sem, wr64]))
    · rintro ⟨v2, bx2⟩ ha2 N2
      dsimp only at ha2 ⊢
      simp [go_sem, Tryz.L56_1, ha2.cells]
      exact ret_pure (by simp [go_sem]) (by simpa [go_sem] using ha2)

theorem Tryz.indexN_c (l : List Int) (x : Int) (bx : Boxes) (hl : l.length ≤ 1000000) : PureCall Tryz.prog 96 [intsV l, .int .i64 x] bx (.int .i64 (fiI (fun y => decide (x = y)) l)) := by
  refine Tryz.ctr96 fun hb => ?_
  unfold intsV
  simp [go_sem, Tryz.C96, hb]
  refine pw_find l.length (hitAt (fun y => decide (x = y)) l) (fun k => ⟨19, slk [(0, .sl 1 (l.map (.int .i64))), (1, .int .i64 x), (7, .int .i64 l.length), (8, .int .i64 k)], bx⟩) (cov_look (by simp [go_sem])) ?_ ?_
  · intro k hk hpre N hN
    have hw := wr_succ (k := k) (by omega)
    simp [go_sem, Tryz.L96_0, hk, hb]
    refine ⟨fun h => ret_pure ?_ ?_, fun h => hN _ (by simp [hitAt_at hk, h]) (cov_look (by simp [go_sem, hw]))⟩ <;> simp [go_sem, fiI_hit hk (by simpa using h) hpre]
  · intro hpre N
    simp [go_sem, Tryz.L96_0]
    refine ret_pure ?_ ?_ <;> simp [go_sem, fiI_miss hpre]
theorem Tryz.containsN_c (l : List Int) (x : Int) (bx : Boxes) (hl : l.length ≤ 1000000) : PureCall Tryz.prog 57 [intsV l, .int .i64 x] bx (.bool (decide (x ∈ l))) := by
  refine Tryz.ctr57 fun hb => ?_
  have c0 := Tryz.indexN_c l x bx hl
  have hany : l.any (fun y => decide (x = y)) = decide (x ∈ l) := by
    rw [Bool.eq_iff_iff]; simp [List.any_eq_true]
  simp only [intsV] at c0 ⊢
  simp [go_sem, Tryz.C57, hb]
  refine callK_pure c0 ?_
  simp [go_sem]
  refine ret_pure ?_ ?_ <;> simp [go_sem, fiI_any, hany]

theorem askE_one (r : Rg) (key : Bs) : askE r [key] = asked r key := by simp [askE, asked]
theorem Tryz.Find_c (r : Rg) (key : Bs) (bx : Boxes) (hm : Mk bx) (hl : r.wts.length ≤ 9223372036854775807) (hl2 : r.names.length ≤ 9223372036854775807) :
    PureCall Tryz.prog 22 [rgV r, .str key] bx (.tup [.int .i64 (find r key).1, .int .i64 (find r key).2]) := by
  refine Tryz.ctr22 fun hb => ?_
  have c0 := Tryz.ask_c r [key] bx hm hl hl2 (by simp)
  rw [askE_one] at c0
  by_cases he : asked r key ≠ 0
  · have hf : find r key = (0, asked r key) := by unfold find; rw [if_pos he]
    rw [hf]
    simp only [rgV, strsV, intsV, ptsV] at c0 ⊢
    simp [go_sem, Tryz.C22, hb]
    refine callK_pure c0 ?_
    simp [go_sem, he]
    refine ret_pure ?_ ?_ <;> simp [go_sem]
  have he : asked r key = 0 := Decidable.not_not.1 he
  have hf : find r key = (backAt r (first r (sum32 key)), 0) := by unfold find; rw [if_neg (by simpa using he)]
  have hch : check r = 0 := by
    unfold asked at he
    by_cases h : check r ≠ 0
    · rw [if_pos h] at he; exact he
    · exact Decidable.not_not.1 h
  have hkl : key.length ≤ 200 := by
    unfold asked at he
    rw [if_neg (by simpa using hch)] at he
    by_cases h : 200 < key.length
    · rw [if_pos h] at he; cases he
    · omega
  have hpl : 0 < r.pts.length := by
    unfold asked at he
    rw [if_neg (by simpa using hch), if_neg (by omega)] at he
    by_cases h : r.pts.length = 0
    · rw [if_pos h] at he; cases he
    · omega
  have hpe := (check0 hch).2
  have hpm : r.pts.length ≤ 32000 := by
    have := ring_le r.names r.wts r.nodes
    unfold ring at this
    rw [if_pos (check0 hch).1] at this
    rw [hpe]; exact this
  have hso : r.pts.Pairwise fun a b => a.h ≤ b.h := by rw [hpe]; exact srt_h
  have c1 : PureCall Tryz.prog 34 [.sl 1 (key.map byteV)] bx (.int .u32 (sum32 key)) := Tryz.sum32_c key bx (by omega)
  have c2 := Tryz.find_c r (sum32 key) bx (by omega) hso
  have hfl : first r (sum32 key) < r.pts.length := by
    rw [first_eq]
    split
    · exact hpl
    · rename_i h
      have : bsI r.pts (sum32 key) ≤ r.pts.length := by
        unfold bsI
        split
        · rename_i i hi
          exact Nat.le_of_lt (List.findIdx?_eq_some_iff_getElem.1 hi).1
        · exact Nat.le_refl _
      omega
  rw [hf]
  have hba : backAt r (first r (sum32 key)) = (r.pts[first r (sum32 key)]).b := by simp [backAt, hfl]
  rw [hba]
  generalize first r (sum32 key) = fi at *
  simp only [rgV, strsV, intsV, ptsV] at c0 c2 ⊢
  simp [go_sem, Tryz.C22, hb]
  refine callK_pure c0 ?_
  simp [go_sem, he, (by omega : key.length ≤ 9223372036854775807)]
  refine callK_pure c1 ?_
  simp [go_sem]
  refine callK_pure c2 ?_
  simp [go_sem, hfl, ptV]
  refine ret_pure ?_ ?_ <;> simp [go_sem]
end Go.Proofs

/- Contracts: Shares. -/
set_option linter.unusedSimpArgs false
set_option linter.unusedVariables false
set_option maxRecDepth 100000
namespace Go.Proofs
open Go Go.Pl Go.Hs

theorem wrap_u32 (n : Int) : 0 ≤ IntKind.u32.wrap n ∧ IntKind.u32.wrap n < 4294967296 := by
  simp [IntKind.wrap, IntKind.bits, IntKind.signed]; omega
theorem on32_rng (b : Bs) : ∀ h : Int, 0 ≤ h → h < 4294967296 → 0 ≤ on32 h b ∧ on32 h b < 4294967296 := by
  induction b with
  | nil => intro h h0 h1; exact ⟨h0, h1⟩
  | cons c b ih => intro h h0 h1; exact ih _ (wrap_u32 _).1 (wrap_u32 _).2
theorem sum32_rng (b : Bs) : 0 ≤ sum32 b ∧ sum32 b < 4294967296 := on32_rng b _ (by decide) (by decide)
theorem raw_mem {names : List Bs} {wts : List Int} {nodes : Int} {p : Pt} : ∀ k, p ∈ raw names wts nodes k → ∃ i : Nat, i < k ∧ p.b = i ∧ (∃ n : Nat, n < (wts.getD i 0 * nodes).toNat ∧ p.h = sum32 (tagS (names.getD i []) ++ Lib.decDigits n))
  | 0, h => by simp [raw] at h
  | k + 1, h => by
    rw [raw, List.mem_append] at h
    rcases h with h | h
    · obtain ⟨i, h1, h2⟩ := raw_mem k h
      exact ⟨i, by omega, h2⟩
    · simp only [ptsOf, List.mem_map, List.mem_range] at h
      obtain ⟨n, hn, rfl⟩ := h
      exact ⟨k, by omega, rfl, n, hn, rfl⟩
theorem pts_ok {r : Rg} (h : check r = 0) {p : Pt} (hp : p ∈ r.pts) : 0 ≤ p.h ∧ p.h < 4294967296 ∧ 0 ≤ p.b ∧ p.b < r.names.length := by
  rw [(check0 h).2] at hp
  have hp := (List.mergeSort_perm _ ple).subset hp
  obtain ⟨i, h1, h2, n, _, h3⟩ := raw_mem _ hp
  have := sum32_rng (tagS (r.names.getD i []) ++ Lib.decDigits n)
  omega
theorem asked0 {r : Rg} {key : Bs} (he : asked r key = 0) : check r = 0 ∧ key.length ≤ 200 ∧ 0 < r.pts.length ∧ r.pts.length ≤ 32000 ∧ r.pts.Pairwise fun a b => a.h ≤ b.h := by
  have hch : check r = 0 := by
    unfold asked at he
    by_cases h : check r ≠ 0
    · rw [if_pos h] at he; exact he
    · exact Decidable.not_not.1 h
  have hkl : key.length ≤ 200 := by
    unfold asked at he
    rw [if_neg (by simpa using hch)] at he
    by_cases h : 200 < key.length
    · rw [if_pos h] at he; cases he
    · omega
  have hpl : 0 < r.pts.length := by
    unfold asked at he
    rw [if_neg (by simpa using hch), if_neg (by omega)] at he
    by_cases h : r.pts.length = 0
    · rw [if_pos h] at he; cases he
    · omega
  have hpe := (check0 hch).2
  have hpm : r.pts.length ≤ 32000 := by
    have := ring_le r.names r.wts r.nodes
    unfold ring at this
    rw [if_pos (check0 hch).1] at this
    rw [hpe]; exact this
  exact ⟨hch, hkl, hpl, hpm, by rw [hpe]; exact srt_h⟩
theorem first_lt {r : Rg} (h : Int) (hpl : 0 < r.pts.length) : first r h < r.pts.length := by
  rw [first_eq]
  split
  · exact hpl
  · have : bsI r.pts h ≤ r.pts.length := by
      unfold bsI
      split
      · rename_i i hi
        exact Nat.le_of_lt (List.findIdx?_eq_some_iff_getElem.1 hi).1
      · exact Nat.le_refl _
    omega
theorem askE_nil (r : Rg) : askE r [] = asked r [] := by simp [askE, asked]
def sh (r : Rg) (k : Nat) : List Int × Int := (r.pts.take k).foldl shareStep (List.replicate r.names.length 0, 0)
theorem sh_len (r : Rg) (k : Nat) : (sh r k).1.length = r.names.length := by
  unfold sh
  generalize r.pts.take k = l
  have : ∀ (l : List Pt) (s : List Int × Int), (l.foldl shareStep s).1.length = s.1.length := by
    intro l
    induction l with
    | nil => intro s; rfl
    | cons p l ih => intro s; rw [List.foldl_cons, ih]; unfold shareStep addAt; split <;> simp
  rw [this]; simp
theorem sh_rng {r : Rg} (h : check r = 0) (k : Nat) : 0 ≤ (sh r k).2 ∧ (sh r k).2 ≤ 4294967296 := by
  unfold sh
  have hp : ∀ p, p ∈ r.pts.take k → 0 ≤ p.h ∧ p.h < 4294967296 := fun p hp => ⟨(pts_ok h (List.mem_of_mem_take hp)).1, (pts_ok h (List.mem_of_mem_take hp)).2.1⟩
  generalize r.pts.take k = l at hp
  have : ∀ (l : List Pt) (s : List Int × Int), (∀ p, p ∈ l → 0 ≤ p.h ∧ p.h < 4294967296) → 0 ≤ s.2 ∧ s.2 ≤ 4294967296 → 0 ≤ (l.foldl shareStep s).2 ∧ (l.foldl shareStep s).2 ≤ 4294967296 := by
    intro l
    induction l with
    | nil => intro s _ h; exact h
    | cons p l ih =>
      intro s h1 h2
      refine ih _ (fun q hq => h1 q (by simp [hq])) ?_
      have := h1 p (by simp)
      unfold shareStep
      split
      · simp only; omega
      · exact h2
  exact this l _ hp (by simp)
theorem sh_succ {r : Rg} {k : Nat} (hk : k < r.pts.length) : sh r (k + 1) = shareStep (sh r k) r.pts[k] := by
  unfold sh; rw [take_foldl _ _ hk]
theorem Tryz.shares_c (r : Rg) (bx : Boxes) (hm : Mk bx) (hl : r.wts.length ≤ 9223372036854775807) (hl2 : r.names.length ≤ 9223372036854775807) :
    PureCall Tryz.prog 19 [rgV r] bx (.tup [u64sV (shares r).1, .int .i64 (shares r).2]) := by
  refine PureCall.wk (Tryz.ctr19 fun hb => ?_)
  have c0 : PureCall Tryz.prog 52 [rgV r, .nils] bx (.int .i64 (asked r [])) := by
    have := Tryz.ask_c r [] bx hm hl hl2 (by simp)
    rw [askE_nil] at this
    refine AbsCall.args this rfl fun i c c' h1 h2 => ?_
    rcases i with _ | _ | i
    · simp at h1 h2; subst h1 h2; exact Wk.refl _
    · simp at h1 h2; subst h1 h2; exact wk_nils _
    · simp at h1
  by_cases he : asked r [] ≠ 0
  · have hf : shares r = ([], asked r []) := by unfold shares; rw [if_pos he]
    rw [hf]
    simp only [rgV, strsV, intsV, ptsV, u64sV] at c0 ⊢
    simp [go_sem, Tryz.C19, hb]
    refine callK_pure c0 ?_
    simp [go_sem, he]
    refine ret_wk0 (by simp [go_sem]) ?_
    simp [go_sem]
    exact wk_tup2 (wk_nils _) (Wk.refl _)
  have he : asked r [] = 0 := Decidable.not_not.1 he
  obtain ⟨hch, _, hpl, hpm, hso⟩ := asked0 he
  obtain ⟨g1, g2, g3, g4, g5, g6, g7, g8, g9⟩ := wrong0 (check0 hch).1
  have hf : shares r = (addAt (sh r r.pts.length).1 (backAt r 0) (4294967296 - (sh r r.pts.length).2), 0) := by
    unfold shares sh; rw [if_neg (by simpa using he)]; simp
  rw [hf]
  simp only [rgV, strsV, intsV, ptsV] at c0 ⊢
  simp [go_sem, Tryz.C19, hb]
  refine callK_pure c0 ?_
  simp [go_sem, he, hb]
  simp [go_sem, makK, hb]
  refine ⟨by omega, by omega, fun b5 hb5 => ?_⟩
  have hsh0 : List.replicate r.names.length (V.int IntKind.u64 0) = (sh r 0).1.map (.int .u64) := by simp [sh]
  rw [hsh0]
  refine pw_upto r.pts.length (fun k => ⟨58, slk [(1, .ep (.agg [.sl 1 (r.names.map .str), .sl 1 (r.wts.map (.int .i64)), .int .i64 r.nodes, .sl 2 (r.pts.map ptV)]) 0), (5, .own b5 1 0 r.names.length), (6, .int .u64 (sh r k).2), (20, .sl 2 (r.pts.map ptV)), (21, .int .i64 r.pts.length), (22, .int .i64 k)], upd bx b5 (some (.row 42 1 ((sh r k).1.map (.int .u64))))⟩) (cov_look (by simp [go_sem, sh])) ?_ ?_
  · intro k hk N hN
    have hw := wr_succ (k := k) (by omega)
    obtain ⟨p0, p1, p2, p3⟩ := pts_ok hch (List.getElem_mem hk)
    obtain ⟨q0, q1⟩ := sh_rng hch k
    have hsl := sh_len r k
    have hsuc := sh_succ hk
    generalize sh r (k + 1) = S' at *
    generalize sh r k = S at *
    obtain ⟨L, nx⟩ := S
    simp only at q0 q1 hsl
    generalize hp : r.pts[k] = p at *
    have hg : r.pts[k]? = some p := by rw [List.getElem?_eq_getElem hk, hp]
    obtain ⟨ph, pb⟩ := p
    simp only at p0 p1 p2 p3
    obtain ⟨bn, rfl⟩ : ∃ bn : Nat, pb = bn := ⟨pb.toNat, by omega⟩
    have hbn : bn < L.length := by omega
    have w1 : IntKind.u64.wrap ph = ph := wru64 (by omega)
    have w2 : IntKind.u64.wrap (ph + 1) = ph + 1 := wru64 (by omega)
    simp [go_sem, Tryz.L19_0, hk, hb, hp, ptV, w1, w2]
    intro b8 hb8
    rw [upd_self hb8]
    have hl5 : L.length = r.names.length := hsl
    refine ⟨fun hlt => ⟨by omega, ?_⟩, fun hge => ?_⟩
    · have w3 : IntKind.u64.wrap (ph + 1 - nx) = ph + 1 - nx := wru64 (by omega)
      have hS : S' = (addAt L bn (ph + 1 - nx), ph + 1) := by rw [hsuc]; unfold shareStep; rw [if_pos hlt]
      have hset : (L.map (V.int .u64)).set bn (V.int .u64 (IntKind.u64.wrap (L[bn] + (ph + 1 - nx)))) = S'.1.map (V.int .u64) := by
        rw [hS]; simp [addAt, hbn, List.map_set]
      have hbn2 : bn < r.names.length := by omega
      simp [go_sem, hbn, w3, hb, hbn2, -List.map_set]
      rw [hset]
      refine hN _ ?_
      refine cov_look ?_
      rw [hS]
      simp [go_sem, hw, ptV]
    · have hS : S' = (L, nx) := by rw [hsuc]; unfold shareStep; rw [if_neg (by simp only; omega)]
      rw [hS] at hN
      exact hN _ (cov_look (by simp [go_sem, hw, ptV]))
  · intro N
    have hsl := sh_len r r.pts.length
    obtain ⟨q0, q1⟩ := sh_rng hch r.pts.length
    generalize sh r r.pts.length = S at *
    obtain ⟨L, nx⟩ := S
    simp only at q0 q1 hsl
    obtain ⟨p0, p1, p2, p3⟩ := pts_ok hch (List.getElem_mem hpl)
    have hba : backAt r 0 = r.pts[0].b := by simp [backAt, hpl]
    rw [hba]
    generalize hp : r.pts[0] = p at *
    have hg : r.pts[0]? = some p := by rw [List.getElem?_eq_getElem hpl, hp]
    obtain ⟨ph, pb⟩ := p
    simp only at p0 p1 p2 p3
    obtain ⟨bn, rfl⟩ : ∃ bn : Nat, pb = bn := ⟨pb.toNat, by omega⟩
    have hbn : bn < L.length := by omega
    have hbn2 : bn < r.names.length := by omega
    have w3 : IntKind.u64.wrap (4294967296 - nx) = 4294967296 - nx := wru64 (by omega)
    have hset : (L.map (V.int .u64)).set bn (V.int .u64 (IntKind.u64.wrap (L[bn] + (4294967296 - nx)))) = (addAt L bn (4294967296 - nx)).map (V.int .u64) := by
      simp [addAt, hbn, List.map_set]
    have hal : (addAt L bn (4294967296 - nx)).length = r.names.length := by simp [addAt, hsl]
    simp [go_sem, Tryz.L19_0, hb, hpl, hp, hg, ptV, hbn, hbn2, w3, -List.map_set]
    rw [hset]
    generalize addAt L bn (4294967296 - nx) = R at *
    refine ret_frz 2 (bx := bx) (by simp [go_sem]) (((Ext.refl _).new hb5 _)) ⟨?_, rfl⟩
    have hfr : frz (upd bx b5 (some (Box.row 42 1 (R.map (V.int .u64))))) bx 1 (.own b5 1 0 r.names.length) = .sl 1 (R.map (V.int .u64)) := frz_own1 (upd_eq _ _ _) hb5 (by decide) (by simp [hal])
    simp [go_sem, frz] at hfr ⊢
    simp [hb5, hal] at hfr ⊢
    rw [List.take_of_length_le (by simp [hal])]
    exact Wk.refl _
end Go.Proofs

/- Contracts: awake. -/
set_option linter.unusedSimpArgs false
set_option linter.unusedVariables false
set_option maxRecDepth 100000
namespace Go.Proofs
open Go Go.Pl Go.Hs

def r1 : Rg := ⟨[[97]], [1], 1, [⟨sum32 [97, 35, 48], 0⟩]⟩
theorem ring_a : ring [[97]] [1] 1 = (r1, 0) := by
  have h0 : wrong [[97]] [1] 1 = 0 := by decide +kernel
  unfold ring
  rw [if_pos h0]
  simp [raw, ptsOf, Lib.decDigits_one, tagS, srt, r1]
theorem ring_aa : ring [[97], [97]] [1, 1] 1 = (none_, 8) := by
  have h0 : wrong [[97], [97]] [1, 1] 1 = 8 := by decide +kernel
  unfold ring
  rw [if_neg (by rw [h0]; decide), h0]
theorem check_r1 : check r1 = 0 := by
  unfold check
  have : ring r1.names r1.wts r1.nodes = (r1, 0) := ring_a
  rw [this]
  simp
theorem asked_r1 (k : Bs) (h : k.length ≤ 200) : asked r1 k = 0 := by
  unfold asked
  rw [check_r1, if_neg (by simp), if_neg (by omega), if_neg (by simp [r1])]
theorem first_r1 (h : Int) : first r1 h = 0 := by
  rw [first_eq]
  unfold bsI
  split
  · rename_i i hi
    have := (List.findIdx?_eq_some_iff_getElem.1 hi).1
    simp [r1] at this
    split
    · rfl
    · exact this
  · simp
theorem find_r1 : find r1 [107, 101, 121] = (0, 0) := by
  unfold find
  rw [asked_r1 _ (by decide), if_neg (by simp), first_r1]
  simp [backAt, r1]
theorem shares_r1 : shares r1 = ([4294967296], 0) := by
  unfold shares
  rw [asked_r1 _ (by decide), if_neg (by simp)]
  decide +kernel
theorem sum_nil : sum32 [] = 2166136261 := by decide +kernel
theorem sum_a : sum32 [97] = 3826002220 := by decide +kernel
theorem sum64_nil : sum64 [] = 14695981039346656037 := by decide +kernel

theorem Tryz.awake_c (bx : Boxes) (hm : Mk bx) : PureCall Tryz.prog 9 [] bx (.bool true) := by
  refine Tryz.ctr9 fun hb => ?_
  have c1 := fun bx hm => Tryz.ring_c [[97]] [1] 1 bx hm (by decide) (by decide)
  have c2 := fun bx hm => Tryz.ring_c [[97], [97]] [1, 1] 1 bx hm (by decide) (by decide)
  have c3 := fun bx hm => Tryz.Find_c r1 [107, 101, 121] bx hm (by decide) (by decide)
  have c4 := fun bx hm => Tryz.shares_c r1 bx hm (by decide) (by decide)
  rw [ring_a] at c1
  rw [ring_aa] at c2
  rw [find_r1] at c3
  rw [shares_r1] at c4
  have hsum : ∀ s bx, s.length ≤ 100 → PureCall Tryz.prog 34 [.sl 1 (bytesV s)] bx (.int .u32 (sum32 s)) := fun s bx h => Tryz.sum32_c s bx (by omega)
  simp only [rgV, strsV, intsV, ptsV, u64sV, r1, none_, List.map, ptV] at c1 c2 c3 c4
  simp [go_sem, Tryz.C9, hb]
  refine callK_pure (c1 _ hm) ?_
  simp [go_sem, hb]
  intro b1 hb1
  rw [upd_self hb1]
  refine callK_pure (c3 _ hm) ?_
  simp [go_sem, hb]
  refine callK_pure (c4 _ hm) ?_
  simp [go_sem, hb]
  refine callK_pure (c2 _ hm) ?_
  simp [go_sem, hb]
  intro b7 hb7
  have cn : ∀ bx, PureCall Tryz.prog 34 [.nils] bx (.int .u32 2166136261) := fun bx => by
    have := hsum [] bx (by simp)
    rw [sum_nil] at this
    exact AbsCall.args this rfl fun i c c' h1 h2 => by
      rcases i with _ | i
      · simp at h1 h2; subst h1 h2; exact wk_nils _
      · simp at h1
  have cn64 : ∀ bx, PureCall Tryz.prog 35 [.nils] bx (.int .u64 14695981039346656037) := fun bx => by
    have := Tryz.sum64_c [] bx (by simp)
    rw [sum64_nil] at this
    exact AbsCall.args this rfl fun i c c' h1 h2 => by
      rcases i with _ | i
      · simp at h1 h2; subst h1 h2; exact wk_nils _
      · simp at h1
  have ca : ∀ bx, PureCall Tryz.prog 34 [.sl 1 [.int .u8 97]] bx (.int .u32 3826002220) := fun bx => by
    have := hsum [97] bx (by simp)
    rw [sum_a] at this
    exact this
  have ca0 : ∀ bx, PureCall Tryz.prog 34 [.sl 1 [.int .u8 97, .int .u8 35, .int .u8 48]] bx (.int .u32 (sum32 [97, 35, 48])) := fun bx => hsum [97, 35, 48] bx (by simp)
  simp [go_sem, hb, fzAt, fzb]
  refine callK_pure (cn _) ?_
  simp [go_sem, hb]
  intro b8 hb8
  rw [upd_self hb8]
  refine gK_pure (ca _) (by simp) (by simp [go_sem]) ?_
  simp [go_sem, hb]
  refine gK_pure (cn64 _) (by simp) (by simp [go_sem]) ?_
  simp [go_sem, hb, evF]
  intro b9 hb9
  rw [upd_self hb9]
  refine gK_pure (ca0 _) (by simp) (by simp [go_sem]) ?_
  simp [go_sem, hb]
  refine ret_drop (by simp [go_sem]) ((Ext.refl _).new hb7 _) ?_
  simp [go_sem]
end Go.Proofs

set_option linter.unusedVariables false
set_option linter.unusedSimpArgs false
set_option maxRecDepth 100000
namespace Go.Proofs.YtnijaldhopcpdaaGreatDoor
open Go Go.Pl Go.Hs Go.Proofs
open Go.ChangeShapes Go.WideShapes Go.ChangeAt Go.RowKit
theorem own : ownKnob Tryz.prog.godebug = none := by kernel_rfl
theorem hasInt {n : Nat} {xs : List V} (h : HasL Tryz.prog n 3 xs) : ∃ i : Int, xs = [.int .i64 i] := by
  obtain ⟨i, rfl, _⟩ := h.int Tryz.knd3
  exact ⟨i, rfl⟩
theorem hasU64 {n : Nat} {xs : List V} (h : HasL Tryz.prog n 42 xs) : ∃ i : Int, (0 ≤ i ∧ i ≤ 18446744073709551615) ∧ xs = [.int .u64 i] := by
  obtain ⟨i, rfl, hw⟩ := h.int Tryz.knd42
  simp [Lit.wf, IntKind.min, IntKind.max, IntKind.signed, IntKind.bits] at hw
  exact ⟨i, by omega, rfl⟩
theorem hasU8 {n : Nat} {xs : List V} (h : HasL Tryz.prog n 5 xs) : ∃ c : UInt8, xs = [.int .u8 (c.toNat : Int)] := by
  obtain ⟨i, rfl, hw⟩ := h.int Tryz.knd5
  simp [Lit.wf, IntKind.min, IntKind.max, IntKind.signed, IntKind.bits] at hw
  refine ⟨UInt8.ofNat i.toNat, ?_⟩
  have : (UInt8.ofNat i.toNat).toNat = i.toNat := by
    simp [UInt8.toNat_ofNat]; omega
  rw [this]
  congr 2; omega
theorem hasStr {n : Nat} {xs : List V} (h : HasL Tryz.prog n 9 xs) : ∃ s : Bs, xs = [.str s] ∧ s.length ≤ maxLen := h.str Tryz.knd9
theorem hasBytes {n : Nat} {xs : List V} (h : HasL Tryz.prog (n + 1) 60 xs) : ∃ l : Bs, xs = [.sl 1 (bytesV l)] ∧ l.length ≤ maxLen := by
  obtain ⟨l, h, hl⟩ := HasL.slice (r := fun c : UInt8 => V.int .u8 (c.toNat : Int)) Tryz.knd60 h fun ys hy => by
    obtain ⟨c, rfl⟩ := hasU8 hy
    exact ⟨c, by simp [elV, Tryz.tagg5]⟩
  rw [Tryz.tsz5] at h
  exact ⟨l, h, hl⟩
theorem hasStrs {n : Nat} {xs : List V} (h : HasL Tryz.prog (n + 1) 22 xs) : ∃ l : List Bs, xs = [strsV l] ∧ l.length ≤ maxLen ∧ ∀ s, s ∈ l → s.length ≤ maxLen := by
  have h0 := h
  obtain ⟨l, h, hl⟩ := HasL.slice (r := V.str) Tryz.knd22 h fun ys hy => by
    obtain ⟨c, rfl, _⟩ := hasStr hy
    exact ⟨c, by simp [elV, Tryz.tagg9]⟩
  rw [Tryz.tsz9] at h
  refine ⟨l, h, hl, fun s hs => ?_⟩
  obtain ⟨_, h1⟩ := h0
  simp only [Tryz.knd22] at h1
  obtain ⟨es, h2, _, h3⟩ := h1
  rw [h, Tryz.tsz9] at h2
  injection h2 with h2
  injection h2 with _ h2
  obtain ⟨ys, h4, h5⟩ := h3 (.str s) (by rw [← h2]; exact List.mem_map.2 ⟨s, hs, rfl⟩)
  obtain ⟨c, rfl, hc⟩ := hasStr h5
  simp [elV, Tryz.tagg9] at h4
  rw [h4]; exact hc
theorem hasInts {n : Nat} {xs : List V} (h : HasL Tryz.prog (n + 1) 23 xs) : ∃ l : List Int, xs = [intsV l] ∧ l.length ≤ maxLen := by
  obtain ⟨l, h, hl⟩ := HasL.slice (r := V.int .i64) Tryz.knd23 h fun ys hy => by
    obtain ⟨i, rfl⟩ := hasInt hy
    exact ⟨i, by simp [elV, Tryz.tagg3]⟩
  rw [Tryz.tsz3] at h
  exact ⟨l, h, hl⟩
theorem hasPts {n : Nat} {xs : List V} (h : HasL Tryz.prog (n + 2) 24 xs) : ∃ l : List Pt, xs = [ptsV l] ∧ l.length ≤ maxLen := by
  obtain ⟨l, h, hl⟩ := HasL.slice (r := ptV) Tryz.knd24 h fun ys hy => by
    have hl := hy.len
    rw [Tryz.tsz63] at hl
    match ys, hl with
    | [a, b], _ =>
      obtain ⟨i0, h0, _⟩ := (hy.fld Tryz.knd63 Tryz.fld63_0).int Tryz.knd58
      obtain ⟨i1, h1, _⟩ := (hy.fld Tryz.knd63 Tryz.fld63_1).int Tryz.knd3
      simp [Tryz.tsz3, Tryz.tsz58] at h0 h1
      subst h0 h1
      exact ⟨⟨i0, i1⟩, by simp [elV, Tryz.tagg63, ptV]⟩
  rw [Tryz.tsz63] at h
  exact ⟨l, h, hl⟩
theorem hasRg {n : Nat} {xs : List V} (h : HasL Tryz.prog (n + 3) 26 xs) : ∃ r : Rg, rgV r = .agg xs ∧ r.names.length ≤ maxLen ∧ r.wts.length ≤ maxLen ∧ r.pts.length ≤ maxLen ∧ ∀ s, s ∈ r.names → s.length ≤ maxLen := by
  have hl := h.len
  rw [Tryz.tsz26] at hl
  match xs, hl with
  | [a, b, c, d], _ =>
    obtain ⟨l0, h0, g0, k0⟩ := hasStrs (h.fld Tryz.knd26 Tryz.fld26_0)
    obtain ⟨l1, h1, g1⟩ := hasInts (h.fld Tryz.knd26 Tryz.fld26_1)
    obtain ⟨i2, h2⟩ := hasInt (h.fld Tryz.knd26 Tryz.fld26_2)
    obtain ⟨l3, h3, g3⟩ := hasPts (h.fld Tryz.knd26 Tryz.fld26_3)
    simp [Tryz.tsz3, Tryz.tsz22, Tryz.tsz23, Tryz.tsz24] at h0 h1 h2 h3
    subst h0 h1 h2 h3
    exact ⟨⟨l0, l1, i2, l3⟩, rfl, g0, g1, g3, k0⟩

/-! What the rows list -/
theorem tabIs_of_laid {P : Program} {W : World} {name : String} {k : IntKind} {zs : List Int} {g : Nat} {t e : TypeId} {n : Nat}
    (hg : P.globalNamed name = some g) (hty : (P.globals[g]?).map (·.type) = some t) (ht : P.underlying t = some (.array n e)) (he : P.underlying e = some (.int k)) (hce : P.cellsOf e = 1) (hct : P.cellsOf t = n) :
    ∀ (laid : List (String × DataW Unit)) (ps : List MemPlace), (name, Lib.tabData k zs) ∈ laid → DataW.LaidVars P W laid ps → Lib.TabIs P W name k zs
  | [], _, hm, _ => by simp at hm
  | (n', d') :: r, ps, hm, h => by
    obtain ⟨g', t', cs, fuel, p, q, hg', ht', hvar, hd, hr, _⟩ := h
    rcases List.mem_cons.1 hm with e1 | e1
    · injection e1 with e1 e2
      subst e1 e2
      obtain rfl := Option.some.inj (hg.symm.trans hg')
      obtain rfl := Option.some.inj (hty.symm.trans ht')
      unfold Lib.TabIs
      rw [hvar, ← Lib.cells_of_tab ht he hce hct hd]
    · exact tabIs_of_laid hg hty ht he hce hct r q e1 hr
def laidAll : List (String × DataW Unit) := [("math/bits.deBruijn32tab", Rows.laid_math_bits_deBruijn32tab), ("math/bits.deBruijn64tab", Rows.laid_math_bits_deBruijn64tab), ("internal/strconv.uint64pow10", Rows.laid_internal_strconv_uint64pow10)]
theorem table {W : World} (h : laidMetH Tryz.prog laidAll W) : Lib.TabIs Tryz.prog W "internal/strconv.uint64pow10" .u64 Lib.pow10Tab := by
  have h' : laidMet Tryz.prog laidAll W := h
  obtain ⟨ps, h1, _⟩ := h'
  exact tabIs_of_laid (g := 0) (t := 165) (e := 42) (n := 20) (by kernel_rfl) (by kernel_rfl) (by kernel_rfl) (by kernel_rfl) (by kernel_rfl) (by kernel_rfl) laidAll ps (List.mem_cons_of_mem _ (List.mem_cons_of_mem _ (List.mem_cons.2 (.inl (by kernel_rfl))))) h1

def litCells : DataW Unit → Array Value
  | .agg l => (l.map fun x => match x with | .lit (.int k n) => Value.int k n | _ => undef).toArray
  | _ => #[]
noncomputable def fillB (h : Array Obj) (g : Nat) (d : DataW Unit) : Array Obj := h.modify g fun o => match o with
  | .cells _ t frozen => .cells (litCells d) t frozen
  | o => o
/-- A world for the witness: the settled one, the tables holding what their initialisers lay. -/
noncomputable def laidWorld (os : Os) : World :=
  { World.holding Tryz.prog os ⟨#[], #[], []⟩ with heap := fillB (fillB (fillB (World.holding Tryz.prog os ⟨#[], #[], []⟩).heap 1 Rows.laid_math_bits_deBruijn32tab) 2 Rows.laid_math_bits_deBruijn64tab) 0 Rows.laid_internal_strconv_uint64pow10 }
end Go.Proofs.YtnijaldhopcpdaaGreatDoor
