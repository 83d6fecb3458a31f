/- Texts of the proof, put together: EF. -/
import Derived.Test.YtfibpdlpnbnooaaDoorProg
import Derived.WalkKit
import Derived.Lib.Walk
import Derived.Deep.LoopGhost
import Derived.Deep.Draws
import Derived.Below
import Derived.BigCall
import Derived.BigGuard
import Derived.Lib.Case
import Derived.Lib.ConvBytes
import Derived.Lib.AtoiErrMem
import Derived.Laws.BytesArg

set_option linter.unusedVariables false
set_option linter.unusedSimpArgs false
namespace Go.Proofs
open Go Go.RowKit Go.Lib
structure FoldW (s : ByteArray) (f : UInt8 → UInt8) (w : World) (k : Nat) (wr : World) (C : Array Value) : Prop where
 h : wr.heap[w.heap.size]? = some (.cells C 5 (C.size, C.size + 1))
 le : s.size ≤ C.size
 c : ∀ j, j < s.size → C[j]? = some (.int .u8 ((if j < k then f (s.data.toList.getD j 0) else s.data.toList.getD j 0).toNat : Int))
 b : Below w.heap.size w wr
 d : w.drawn ≤ wr.drawn
theorem FoldW.start (s : ByteArray) (f : UInt8 → UInt8) (w : World) : FoldW s f w 0 (bytesWorld w 5 s) (bytesCells w 5 s) := by
 have hh := bytesWorld_at_new w 5 s
 have hc : ∀ j, j < s.size → (bytesCells w 5 s)[j]? = some (.int .u8 (s.data.toList.getD j 0).toNat) := by
   intro j hj
   have := bytesWorld_cell w 5 s j hj
   unfold World.cell? at this
   rw [hh] at this
   simpa using this
 refine ⟨hh, ?_, fun j hj => by rw [hc j hj]; simp, bytesWorld_below w _ s, ?_⟩
 rotate_left
 · have hd : (bytesWorld w 5 s).drawn = w.drawn + 1 := by
     unfold bytesWorld World.freeze
     split <;> rfl
   omega
 by_cases h0 : s.size = 0
 · omega
 · have := hc (s.size - 1) (by omega)
   have := (Array.getElem?_eq_some_iff.1 this).1
   omega
theorem FoldW.cell {s : ByteArray} {f : UInt8 → UInt8} {w wr : World} {k : Nat} {C : Array Value} (h : FoldW s f w k wr C) {j : Nat} (hj : j < s.size) : wr.cell? ⟨w.heap.size, j, none⟩ = some (.int .u8 ((if j < k then f (s.data.toList.getD j 0) else s.data.toList.getD j 0).toNat : Int)) := by
 unfold World.cell?
 simp only [h.h, Option.isSome_none, Bool.false_eq_true, if_false]
 exact h.c j hj
theorem FoldW.put {s : ByteArray} {f : UInt8 → UInt8} {w wr : World} {k : Nat} {C : Array Value} (h : FoldW s f w k wr C) (hk : k < s.size) {v : Int} (hv : v = ((f (s.data.toList.getD k 0)).toNat : Int)) : FoldW s f w (k + 1) (wr.setCell ⟨w.heap.size, k, none⟩ (.int .u8 v)) (C.setIfInBounds k (.int .u8 v)) := by
 refine ⟨?_, by simpa using h.le, fun j hj => ?_, ?_, h.d⟩
 · simp only [World.setCell, Array.getElem?_modify, if_true, h.h, Option.map_some, Option.isSome_none, Bool.false_eq_true, if_false]
   rw [Array.size_setIfInBounds]
 · by_cases e : j = k
   · subst e
     have := h.le
     rw [Array.getElem?_setIfInBounds_self_of_lt (by omega), if_pos (by omega), hv]
   · rw [Array.getElem?_setIfInBounds_ne (fun h => e h.symm), h.c j hj]
     by_cases e2 : j < k
     · rw [if_pos e2, if_pos (by omega)]
     · rw [if_neg e2, if_neg (by omega)]
 · exact h.b.setCell (p := ⟨w.heap.size, k, none⟩) (Nat.le_refl _) _
theorem FoldW.skip {s : ByteArray} {f : UInt8 → UInt8} {w wr : World} {k : Nat} {C : Array Value} (h : FoldW s f w k wr C) (hv : f (s.data.toList.getD k 0) = s.data.toList.getD k 0) : FoldW s f w (k + 1) wr C := by
 refine ⟨h.h, h.le, fun j hj => ?_, h.b, h.d⟩
 rw [h.c j hj]
 by_cases e : j = k
 · subst e
   rw [if_neg (by omega), if_pos (by omega), hv]
 · by_cases e2 : j < k
   · rw [if_pos e2, if_pos (by omega)]
   · rw [if_neg e2, if_neg (by omega)]
theorem FoldW.str {s : ByteArray} {f : UInt8 → UInt8} {w wr : World} {C : Array Value} (h : FoldW s f w s.size wr C) (cap : Nat) : (convert 22 9 (.slice (some ⟨w.heap.size, 0, none⟩) s.size cap)).run Tryd.prog wr = .ok (.string ⟨(s.data.toList.map f).toArray⟩) wr := by
 have hsz : s.data.toList.length = s.size := by simp
 have := run_convert_bytes_arg (P := Tryd.prog) wr 22 5 (by kernel_rfl) (by kernel_rfl) w.heap.size 0 s.size cap ((s.data.toList.map f).map fun b => (b.toNat : Int)) (by simp [hsz]) (fun i hi => by
   rw [Nat.zero_add, h.cell hi, if_pos hi]
   have h1 : i < s.data.toList.length := by omega
   rw [List.map_map, List.getD_eq_getElem?_getD, List.getD_eq_getElem?_getD, List.getElem?_map, List.getElem?_eq_getElem h1]
   rfl) 9 (by kernel_rfl)
 rw [this]
 have e : strOfNums ((s.data.toList.map f).map fun b => (b.toNat : Int)) = ⟨(s.data.toList.map f).toArray⟩ := by
   unfold strOfNums
   rw [List.map_map, List.map_congr_left (g := id) (fun b _ => by simp), List.map_id]
 rw [e]
end Go.Proofs
