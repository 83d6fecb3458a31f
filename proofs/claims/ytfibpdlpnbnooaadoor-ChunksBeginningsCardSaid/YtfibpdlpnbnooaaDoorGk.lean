/- Texts of the proof, put together: DR, EX, EY, EZ, DC, DD, DE, DH, DF, DI, DS, DDa, DT, DU, DV, EW, DJ, DO, DP, DK, DL, DM, DN, DG, DQ. -/
import Derived.Test.YtfibpdlpnbnooaaDoorGi
import Derived.Test.YtfibpdlpnbnooaaDoorGj
import Derived.Lib.MakeNoZero
import Derived.Test.YtfibpdlpnbnooaaDoorRows
import Derived.Test.YtfibpdlpnbnooaaDoorTie
import Derived.Test.YtfibpdlpnbnooaaDoorCards
import Derived.Test.YtfibpdlpnbnooaaDoorGe
import Derived.WalkKit
import Derived.ProofKit
import Derived.Lay
import Derived.LaidOnce
import Derived.SevenTiedAt
import Derived.Shelf.Small.Strs

set_option linter.unusedVariables false
set_option linter.unusedSimpArgs false
set_option maxRecDepth 100000
namespace Go.Proofs
open Go Go.Pl
theorem Tryd.glB : glV Tryd.prog 6 = .ep (.agg (([0, 1, 56, 2, 57, 49, 28, 3, 61, 58, 42, 50, 38, 29, 17, 4, 62, 47, 59, 36, 45, 43, 51, 22, 53, 39, 33, 30, 24, 18, 12, 5, 63, 55, 48, 27, 60, 41, 37, 16, 46, 35, 44, 21, 52, 32, 23, 11, 54, 26, 40, 15, 34, 20, 31, 10, 25, 14, 19, 9, 13, 8, 7, 6] : List Int).map (.int .u8))) 0 := by kernel_rfl
theorem Tryd.tz16_c (bx : Boxes) : PureCall Tryd.prog 79 [.int .u64 16] bx (.int .i64 4) := by
 have c64 : PureCall Tryd.prog 91 [.int .u64 16] bx (.int .i64 4) := by
   refine Tryd.ctr91 fun hf => ?_
   have w1 : IntKind.u64.wrap (-16) = 18446744073709551600 := by decide
   have w2 : bits .and .u64 16 18446744073709551600 = 16 := by decide
   have w3 : IntKind.u64.wrap 4573923408821661840 = 4573923408821661840 := by decide
   have w4 : (4573923408821661840 : Int).fdiv (2 ^ 58) = 15 := by decide
   simp [go_sem, Tryd.C91, hf, Tryd.glB, w1, w2, w3, w4]
   have w5 : IntKind.i64.wrap 4 = 4 := by decide
   exact ret_pure (by simp [go_sem]) ⟨by simp [go_sem, w5], rfl⟩
 refine Tryd.ctr79 fun hf => ?_
 simp [go_sem, Tryd.C79, hf]
 refine callK_pure c64 ?_
 simp [go_sem, hf]
 exact ret_pure (by simp [go_sem]) ⟨by simp [go_sem], rfl⟩
theorem Tryd.pow2_c (bx : Boxes) : PureCall Tryd.prog 78 [.int .i64 16] bx (.bool true) := by
 refine Tryd.ctr78 fun hf => ?_
 have w1 : IntKind.i64.wrap 15 = 15 := by decide
 have w2 : bits .and .i64 16 15 = 0 := by decide
 simp [go_sem, Tryd.C78, hf, w1, w2]
 exact ret_pure (by simp [go_sem]) ⟨by simp [go_sem], rfl⟩
def digS : List UInt8 := [48, 49, 50, 51, 52, 53, 54, 55, 56, 57, 97, 98, 99, 100, 101, 102, 103, 104, 105, 106, 107, 108, 109, 110, 111, 112, 113, 114, 115, 116, 117, 118, 119, 120, 121, 122]
theorem dig_hex (d : Nat) (h : d < 16) : digS.getD d 0 = hexc d := by
 have key : ∀ d : Fin 16, digS.getD d.val 0 = hexc d.val := by decide +kernel
 exact key ⟨d, h⟩
def arrC (T : List UInt8) : List V := List.replicate (65 - T.length) (.int .u8 0) ++ T.map byteV
theorem arr_len {T : List UInt8} (h : T.length ≤ 65) : (arrC T).length = 65 := by unfold arrC; simp; omega
theorem arr_set {T : List UInt8} (h : T.length < 65) (c : UInt8) : (arrC T).set (65 - T.length - 1) (byteV c) = arrC (c :: T) := by
 unfold arrC
 obtain ⟨m, hm⟩ : ∃ m, 65 - T.length = m + 1 := ⟨65 - T.length - 1, by omega⟩
 rw [hm, Nat.add_sub_cancel, List.replicate_succ', List.append_assoc, List.set_append_right _ _ (by simp)]
 simp
 congr 1
 omega
theorem arr_cell {T : List UInt8} : ∀ c, c ∈ arrC T → c.cells = [c] := by
 intro c hc
 unfold arrC at hc
 rcases List.mem_append.1 hc with h | h
 · rw [(List.mem_replicate.1 h).2]; rfl
 · obtain ⟨y, _, rfl⟩ := List.mem_map.1 h
   rfl
theorem arr_drop {T : List UInt8} : (arrC T).drop (65 - T.length) = T.map byteV := by
 unfold arrC
 rw [List.drop_append_of_le_length (by simp)]
 simp
theorem arr_q {P : Program} {n : Nat} {e ty : TypeId} {b : Nat} {k : IntKind} {l : Int} {cs : List V} {dst : Option Tmp} {K : St → Prop} {st : St} (hb : st.bx b = some (.row ty n [.agg cs])) (hl : cs.length = n) (hc : ∀ c, c ∈ cs → c.cells = [c]) (ht : tyOk P e = true) (hs : tsz P e = 1) (hn : n ≤ 1000000) (h0 : 0 ≤ l) (h1 : l < n) (hd : dstOk st dst)
   (hk : K ((st.box b (some (.row ty 1 cs))).put dst (.own b 1 l.toNat (n - l.toNat)))) : arrQ P (.arr n e) (.ptr b n 0 0) (some (.int k l)) dst K st :=
 ⟨ty, cs, hb, rfl, rfl, rfl, hl, hc, ht, hs, hn, rfl, h0, h1, hd, hk⟩
structure HJ (n u : Nat) (T : List UInt8) : Prop where
 eq : hexB u ++ T = hexB n
 pos : 1 ≤ u
set_option maxHeartbeats 4000000 in
theorem Tryd.formatBits_c {bx0 bx : Boxes} {v : V} {out : List UInt8} (h : Acc bx0 5 1 (out.map byteV) v bx) (n : Nat) (h1 : 1 ≤ n) (h2 : n < 4294967296) (hl : out.length ≤ 1000000) :
   AbsCall Tryd.prog 52 [v, .int .u64 n, .int .i64 16, .bool false, .bool true] bx fun r bx' => ∃ v', r = .tup [v', .str []] ∧ Acc bx0 5 1 ((out ++ hexB n).map byteV) v' bx' := by
 refine Tryd.ctr52 fun hf => ?_
 simp [go_sem, Tryd.C52, hf]
 intro b hb
 refine callK_pure (Tryd.pow2_c _) ?_
 have w16 : IntKind.u64.wrap 16 = 16 := by decide
 have w4 : IntKind.u64.wrap 4 = 4 := by decide
 have w15 : IntKind.u64.wrap 15 = 15 := by decide
 simp [go_sem, hf, finB_upd, w16]
 refine callK_pure (Tryd.tz16_c _) ?_
 simp [go_sem, hf, finB_upd, w16, w4, w15]
 have hlen8 := hexB_len 8 n (by have : (16 : Nat) ^ 8 = 4294967296 := by decide
                                omega)
 have hT : ∀ {u : Nat} {T : List UInt8}, HJ n u T → T.length ≤ 7 ∧ u ≤ n := fun {u T} hJ => by
   have e := congrArg List.length hJ.eq
   rw [List.length_append] at e
   have hne := hexB_ne (n := u) (by have := hJ.pos; omega)
   have := List.length_pos_iff.2 hne
   refine ⟨by omega, ?_⟩
   have v1 := hexB_val u u (Nat.le_refl _)
   have v2 := hexB_val n n (Nat.le_refl _)
   rw [← hJ.eq, List.foldl_append, v1] at v2
   have mono : ∀ (T : List UInt8) (m : Nat), m ≤ T.foldl stepD m := by
     intro T
     induction T with
     | nil => intro m; exact Nat.le_refl _
     | cons c T ih => intro m; rw [List.foldl_cons]; exact Nat.le_trans (by unfold stepD; omega) (ih _)
   have := mono T u
   omega
 refine pw_loop (ι := Nat × List UInt8) (fun i => HJ n i.1 i.2) (fun i => ⟨102, slk [(0, v), (1, .int .u64 i.1), (3, .bool false), (4, .bool true), (10, .nils), (11, .str []), (12, .ptr b 65 0 0), (13, .int .i64 ((65 - i.2.length : Nat) : Int)), (14, .int .u64 4), (15, .int .u64 16), (16, .int .u64 15)], upd bx b (some (.row 115 65 [.agg (arrC i.2)]))⟩) (fun i => i.1) (n, []) ⟨by simp, h1⟩ (cov_look (by simp [go_sem])) ?_
 rintro ⟨u, T⟩ hJ
 dsimp only at hJ ⊢
 obtain ⟨hT7, hun⟩ := hT hJ
 have hpos := hJ.pos
 have hfb : FinB (upd bx b (some (.row 115 65 [.agg (arrC T)]))) := (finB_upd _ _ _).2 hf
 have hal := arr_len (T := T) (by omega)
 have hset := fun c => arr_set (T := T) (by omega) c
 have wi : IntKind.i64.wrap (((65 - T.length : Nat) : Int) - 1) = ((65 - T.length - 1 : Nat) : Int) := by rw [wr64 (by omega)]; omega
 by_cases h16 : 16 ≤ u
 · have h16' : (16 : Int) ≤ u := by omega
   have hmask : bits .and .u64 (u : Int) 15 = ((u % 16 : Nat) : Int) := by
     have := bits_and_mask .u64 4 (by decide) (u : Int) 15 (by decide)
     rw [this]
     omega
   have hsh : (u : Int).fdiv 16 = ((u / 16 : Nat) : Int) := by
     rw [Int.fdiv_eq_ediv_of_nonneg _ (by decide)]
     omega
   have hdg := dig_hex (u % 16) (by omega)
   have hdg2 : ([48, 49, 50, 51, 52, 53, 54, 55, 56, 57, 97, 98, 99, 100, 101, 102, 103, 104, 105, 106, 107, 108, 109, 110, 111, 112, 113, 114, 115, 116, 117, 118, 119, 120, 121, 122] : List UInt8)[((u : Int) % 16).toNat]?.getD 0 = hexc (u % 16) := by
     rw [show ((u : Int) % 16).toNat = u % 16 by omega]
     exact hdg
   simp [go_sem, Tryd.L52_0, hfb, h16', wi, hmask, upd_eq, hal]
   rw [hdg2, hsh]
   have hs2 := hset (hexc (u % 16))
   unfold byteV at hs2
   rw [hs2]
   refine ⟨by omega, by omega, (u / 16, hexc (u % 16) :: T), ⟨?_, by dsimp only; omega⟩, cov_look (by simp [go_sem]; omega), by dsimp only; omega⟩
   rw [← hJ.eq, hex_pos (n := u) (by omega)]
   simp
 · have h16' : ¬ (16 : Int) ≤ u := by omega
   have hdg : ([48, 49, 50, 51, 52, 53, 54, 55, 56, 57, 97, 98, 99, 100, 101, 102, 103, 104, 105, 106, 107, 108, 109, 110, 111, 112, 113, 114, 115, 116, 117, 118, 119, 120, 121, 122] : List UInt8)[u]?.getD 0 = hexc u := dig_hex u (by omega)
   simp [go_sem, Tryd.L52_0, hfb, h16', wi, upd_eq, hal]
   have hs2 := hset (hexc u)
   unfold byteV at hs2
   rw [hdg, hs2]
   have hal2 := arr_len (T := hexc u :: T) (by simp; omega)
   refine ⟨by omega, by omega, arr_q (ty := 115) (cs := arrC (hexc u :: T)) (by simp [upd_eq]) hal2 arr_cell Tryd.tyOk5 Tryd.tsz5 (by decide) (by omega) (by omega) (by simp [go_sem]) ?_⟩
   have hdr := arr_drop (T := hexc u :: T)
   rw [show 65 - (hexc u :: T).length = 65 - T.length - 1 by simp; omega] at hdr
   have hnn : 65 - ((65 - T.length - 1 : Nat) : Int).toNat = T.length + 1 := by omega
   have hnn2 : ((65 - T.length - 1 : Nat) : Int).toNat = 65 - T.length - 1 := by omega
   rw [hnn, hnn2]
   simp [go_sem, St.box, finB_upd, hf]
   have hhex : hexB n = hexc u :: T := by
     rw [← hJ.eq, hex_pos (n := u) (by omega), show u / 16 = 0 by omega, show u % 16 = u by omega, hex_0]
     rfl
   have hnews : ((arrC (hexc u :: T)).drop (65 - T.length - 1)).take (T.length + 1) = (hexB n).map byteV := by
     rw [hdr, hhex]
     exact List.take_of_length_le (by simp)
   have hle : 65 - T.length - 1 + (T.length + 1) ≤ (arrC (hexc u :: T)).length := by rw [hal2]; omega
   have hnl : (hexB n).length ≤ 8 := hlen8
   refine acc_append (es := out.map byteV) (news := (hexB n).map byteV) (e := 5) (sz := 1) (.int .u8 0) h ((Ext.refl _).new hb _) (by simp [finB_upd, hf]) Tryd.knd22 Tryd.tsz5 (by simp only [srcEls, upd_eq]; rw [if_pos ⟨trivial, trivial, hle⟩, hnews]) Tryd.tzero5 (by simp [go_sem]) (by decide) (by simp [Tryd.tby5]; omega) (by simp; omega) (by simp [go_sem]) ?_
   intro v' bx3 ha'
   simp [go_sem, ha'.fin]
   exact ret_keep (by simp [go_sem]) ⟨v', by simp [go_sem], ha'⟩
theorem Tryd.AppendInt_c {bx0 bx : Boxes} {v : V} {out : List UInt8} (h : Acc bx0 5 1 (out.map byteV) v bx) (n : Nat) (h1 : 1 ≤ n) (h2 : n < 4294967296) (hl : out.length ≤ 1000000) :
   AbsCall Tryd.prog 13 [v, .int .i64 n, .int .i64 16] bx fun r bx' => Acc bx0 5 1 ((out ++ hexB n).map byteV) r bx' := by
 have cU : AbsCall Tryd.prog 33 [v, .int .u64 n, .int .i64 16] bx fun r bx' => Acc bx0 5 1 ((out ++ hexB n).map byteV) r bx' := by
   refine Tryd.ctr33 fun hf => ?_
   simp [go_sem, Tryd.C33, hf, h.strip, h.live]
   refine callK_abs (Tryd.formatBits_c h n h1 h2 hl) ?_
   rintro r bx1 ⟨v', rfl, ha⟩
   simp [go_sem, ha.fin]
   exact ret_keep (by simp [go_sem]) (by simpa [go_sem] using ha)
 have w1 : IntKind.u64.wrap (n : Int) = n := wru64 (by omega)
 have cI : AbsCall Tryd.prog 22 [v, .int .i64 n, .int .i64 16] bx fun r bx' => Acc bx0 5 1 ((out ++ hexB n).map byteV) r bx' := by
   refine Tryd.ctr22 fun hf => ?_
   simp [go_sem, Tryd.C22, hf, w1, h.strip, h.live]
   refine callK_abs cU ?_
   intro r bx1 ha
   simp [go_sem, ha.fin]
   exact ret_keep (by simp [go_sem]) (by simpa [go_sem] using ha)
 refine Tryd.ctr13 fun hf => ?_
 simp [go_sem, Tryd.C13, hf, h.strip, h.live]
 refine callK_abs cI ?_
 intro r bx1 ha
 simp [go_sem, ha.fin]
 exact ret_keep (by simp [go_sem]) (by simpa [go_sem] using ha)
end Go.Proofs

set_option linter.unusedVariables false
set_option linter.unusedSimpArgs false
set_option maxRecDepth 100000
namespace Go.Proofs
open Go Go.Pl Go.RowKit Go.Shelf
set_option maxHeartbeats 4000000 in
theorem Tryd.grow_w (k n : Nat) (cur : Array Value) {fr : Nat × Nat} (w : World) (hbk : w.heap[k]? = some (.cells cur 56 fr)) (hfr : FrOk cur.size fr) (h1 : cur[1]? = some (.slice none 0 0)) (hn : n ≤ 281474976710656) :
   Calls Tryd.prog 64 #[.pointer (some ⟨k, 0, none⟩), .int .i64 n] w fun e w' => e = .returned (.tuple #[]) ∧ ∃ cs : Array Value, n ≤ cs.size ∧ cs.size ≤ maxLen ∧ w' = ((w.setCell ⟨k, 1, none⟩ (.slice (some ⟨w.heap.size, 0, none⟩) 0 cs.size)).alloc (.cells cs 5)).drew.drew.drew := by
 obtain ⟨cs, hrun, hle, hmax⟩ := Lib.run_makeNoZero (P := Tryd.prog) w.drew #[3] 22 5 (by kernel_rfl) n hn
 have hmax := hmax (by unfold maxLen; omega)
 have mixed : Tryd.prog.follows .mixedOrders = true := by kernel_rfl
 have hw : IntKind.i64.wrap (IntKind.i64.wrap 0 + (n : Int)) = n := by
   rw [IntKind.wrap_i64, IntKind.wrap_i64]
   omega
 have hcall : (callFunc 84 #[.int .i64 (IntKind.i64.wrap (IntKind.i64.wrap 0 + (n : Int)))]).run Tryd.prog w.drew = .ok (.value (.slice (some ⟨w.drew.heap.size, 0, none⟩) n cs.size)) (w.drew.drew.drew.alloc (.cells cs 5)) := by
   rw [hw, run_callFunc_extern Tryd.func84 (by kernel_rfl) (by kernel_rfl) (by kernel_rfl) (e := Extern.BytealgMakeNoZero.makeNoZero #[3] #[22]) (by kernel_rfl), hrun]
   rfl
 have hlt : k < w.heap.size := (Array.getElem?_eq_some_iff.1 hbk).1
 have h1s : 1 < cur.size := (Array.getElem?_eq_some_iff.1 h1).1
 have c1 : w.drew.cell? ⟨k, 1, none⟩ = some (.slice none 0 0) := by
   have : w.drew.heap[k]? = _ := hbk
   simp [World.cell?, this, h1]
 have hal : (w.alloc (.cells cs 5)).heap[k]? = some (.cells cur 56 fr) := (Lib.alloc_old w _ k hlt).trans hbk
 have c2 : (w.alloc (.cells cs 5)).cell? ⟨k, 1, none⟩ = some (.slice none 0 0) := by
   simp [World.cell?, hal, h1]
 have f2 : (w.alloc (.cells cs 5)).frozen? ⟨k, 1, none⟩ = false := frozen_fr hal hfr h1s
 have hcopy : ∀ W : World, (Builtin.copy_ #[22, 22] 3 #[.slice (some ⟨w.heap.size, 0, none⟩) 0 cs.size, .slice none 0 0]).run Tryd.prog W = .ok (goInt 0) W :=
   fun W => run_copy_none W 22 22 3 5 _ _ 0 cs.size 0 0 (by kernel_rfl) (by kernel_rfl) rfl
 clear hw
 go_enter Tryd.func64, Tryd.ntmps64
 go_wp2
 go_region_o
 all_goals (go_wp2; go_end0; exact ⟨rfl, cs, hle, hmax, rfl⟩)
end Go.Proofs

set_option linter.unusedVariables false
set_option linter.unusedSimpArgs false
set_option maxRecDepth 100000
namespace Go.Proofs
open Go Go.Pl Go.RowKit Go.Shelf
theorem alloc_set {w : World} {k : Nat} (hk : k < w.heap.size) (i : Nat) (v : Value) (o : Obj) : (w.setCell ⟨k, i, none⟩ v).alloc o = (w.alloc o).setCell ⟨k, i, none⟩ v := by
 unfold World.setCell World.alloc
 refine congrArg (fun h => ({ w with heap := h } : World)) ?_
 apply Array.ext_getElem?
 intro j
 simp only [Array.getElem?_modify, Array.getElem?_push, Array.size_modify]
 by_cases e : j = w.heap.size
 · rw [if_pos e, if_pos e, if_neg (by omega)]
 · rw [if_neg e, if_neg e]
set_option maxHeartbeats 4000000 in
theorem Tryd.Grow_w (k n : Nat) (cur : Array Value) {fr : Nat × Nat} (w : World) (hbk : w.heap[k]? = some (.cells cur 56 fr)) (hfr : FrOk cur.size fr) (h0 : cur[0]? = some (.pointer none)) (h1 : cur[1]? = some (.slice none 0 0)) (hn : n ≤ 281474976710656) (hn1 : 1 ≤ n) :
   Calls Tryd.prog 40 #[.pointer (some ⟨k, 0, none⟩), .int .i64 n] w fun e w' => e = .returned (.tuple #[]) ∧ ∃ cs : Array Value, n ≤ cs.size ∧ cs.size ≤ maxLen ∧ w' = (((w.setRow k (cur.setIfInBounds 0 (.pointer (some ⟨k, 0, none⟩)))).setCell ⟨k, 1, none⟩ (.slice (some ⟨w.heap.size, 0, none⟩) 0 cs.size)).alloc (.cells cs 5)).drew.drew.drew.drew := by
 have mixed : Tryd.prog.follows .mixedOrders = true := by kernel_rfl
 have h1s : 1 < cur.size := (Array.getElem?_eq_some_iff.1 h1).1
 have hcell : w.cell? ⟨k, 0, none⟩ = some (.pointer none) := by simp [World.cell?, hbk, h0]
 have hfz : w.frozen? ⟨k, 0, none⟩ = false := frozen_fr hbk hfr (by omega)
 have hcf := Tryd.copy_fresh k cur.size w hcell (shape_of hbk) (by omega) hfz
 have hW : w.setCell ⟨k, 0, none⟩ (.pointer (some ⟨k, 0, none⟩)) = w.setRow k (cur.setIfInBounds 0 (.pointer (some ⟨k, 0, none⟩))) := setCell_row hbk 0 _
 have hb2 : (w.setCell ⟨k, 0, none⟩ (.pointer (some ⟨k, 0, none⟩))).heap[k]? = some (.cells (cur.setIfInBounds 0 (.pointer (some ⟨k, 0, none⟩))) 56 fr) := by
   rw [hW]; exact setRow_heap w k cur _ _ fr hbk
 have hc1 : (cur.setIfInBounds 0 (.pointer (some ⟨k, 0, none⟩)))[1]? = some (.slice none 0 0) := by
   rw [Array.getElem?_setIfInBounds]; simpa using h1
 have c1' : (w.setCell ⟨k, 0, none⟩ (.pointer (some ⟨k, 0, none⟩))).drew.cell? ⟨k, 1, none⟩ = some (.slice none 0 0) := by
   have : (w.setCell ⟨k, 0, none⟩ (.pointer (some ⟨k, 0, none⟩))).drew.heap[k]? = _ := hb2
   simp [World.cell?, this, hc1]
 have hsz : (w.setCell ⟨k, 0, none⟩ (.pointer (some ⟨k, 0, none⟩))).heap.size = w.heap.size := by simp [World.setCell]
 have hgr := Tryd.grow_w k n _ (w.setCell ⟨k, 0, none⟩ (.pointer (some ⟨k, 0, none⟩))).drew (show _ = _ from hb2) (by simpa using hfr) hc1 hn
 rw [show (w.setCell ⟨k, 0, none⟩ (.pointer (some ⟨k, 0, none⟩))).drew.heap.size = w.heap.size from hsz] at hgr
 rw [hW] at hgr c1' hcf hb2
 go_enter Tryd.func40, Tryd.ntmps40
 go_wp2_with (go_at_call 38; refine hcf.mono ?_; rintro e w' ⟨rfl, rfl⟩)
 go_region_o
 all_goals go_wp2_with (go_at_call 64; refine hgr.mono ?_; rintro e w' ⟨rfl, cs, hcs, hcm, rfl⟩)
 all_goals (try (go_end0; exact ⟨rfl, cs, hcs, hcm, rfl⟩))
theorem set_row2 {w : World} {k : Nat} {cur : Array Value} {ty : TypeId} {fr : Nat × Nat} (h : w.heap[k]? = some (.cells cur ty fr)) (c1 : Array Value) : (w.setRow k c1).heap[k]? = some (.cells c1 ty fr) := setRow_heap w k cur c1 ty fr h
theorem Tryd.Grow_p {bx : Boxes} {b : Nat} (hb : bx b = some (bldV 56 .nilp .nils)) (n : Nat) (hn : n ≤ 281474976710656) (hn1 : 1 ≤ n) :
   AbsCall Tryd.prog 40 [.ptr b 2 0 0, .int .i64 n] bx fun r bx' => r = .tup [] ∧ ∃ bb, bb ≠ b ∧ bx bb = none ∧ bx' = upd (upd bx bb (some (.row 5 1 []))) b (some (bldV 56 (.ptr b 2 0 0) (.own bb 1 0 0))) := by
 unfold bldV at hb ⊢
 refine ⟨enters_of Tryd.func40 (by kernel_rfl) rfl, fun β M w vs hok hgl hvs hrep => ?_⟩
 have h0 := hrep 0 _ rfl
 have h1 := hrep 1 _ rfl
 have hv1 : vs = #[vs.getD 0 undef, vs.getD 1 undef] := by
   simp at hvs
   apply Array.ext
   · simpa using hvs
   · intro j g1 g2
     simp at g2
     have : j = 0 ∨ j = 1 := by omega
     rcases this with rfl | rfl <;> simp [g1]
 generalize vs.getD 0 undef = u at h0 hv1
 generalize vs.getD 1 undef = u1 at h1 hv1
 subst hv1
 rw [h1.int_inv]
 cases h0 with
 | ptr _ _ _ _ k hβ =>
   rcases hok.live b _ hb with ⟨h1, h2⟩ | ⟨k', h1, hlt, hM, cur, fr, hcur, hfr, hcl, hrow⟩
   · simp [Box.empty] at h2
   · rw [hβ] at h1
     injection h1 with h1
     injection h1 with h1
     subst h1
     obtain ⟨_, hr⟩ := hrow 0 _ rfl
     obtain ⟨o0, r0⟩ := hr 0 .nilp rfl
     obtain ⟨o1, r1⟩ := hr 1 .nils rfl
     simp only [Nat.zero_mul, Nat.zero_add] at o0 r0 o1 r1
     have hc2 : 2 ≤ cur.size := by simpa using hcl
     have e0 : cur[0]? = some (.pointer none) := by
       have : cur.getD 0 undef = .pointer none := by
         generalize cur.getD 0 undef = c at r0
         cases r0; rfl
       rw [Array.getD_eq_getD_getElem?, Array.getElem?_eq_getElem (by omega)] at this
       rw [Array.getElem?_eq_getElem (by omega)]
       exact congrArg some this
     have e1 : cur[1]? = some (.slice none 0 0) := by
       have : cur.getD 1 undef = .slice none 0 0 := by
         generalize cur.getD 1 undef = c at r1
         cases r1; rfl
       rw [Array.getD_eq_getD_getElem?, Array.getElem?_eq_getElem (by omega)] at this
       rw [Array.getElem?_eq_getElem (by omega)]
       exact congrArg some this
     refine (Tryd.Grow_w k n cur w hcur hfr e0 e1 hn hn1).mono ?_
     rintro e w' ⟨rfl, cs, hcs, hcm, rfl⟩
     have s0 : (cur.setIfInBounds 0 (.pointer (some ⟨k, 0, none⟩))).size = cur.size := by simp
     have g0 : (cur.setIfInBounds 0 (.pointer (some ⟨k, 0, none⟩))).getD 0 undef = .pointer (some ⟨k, 0, none⟩) := by simp [show 0 < cur.size by omega]
     have g1 : (cur.setIfInBounds 0 (.pointer (some ⟨k, 0, none⟩))).getD 1 undef = cur.getD 1 undef := by simp [Array.getD_eq_getD_getElem?]
     have hfr1 : FrOk (cur.setIfInBounds 0 (.pointer (some ⟨k, 0, none⟩))).size fr := by rw [s0]; exact hfr
     have hc1 := set_row2 hcur (cur.setIfInBounds 0 (.pointer (some ⟨k, 0, none⟩)))
     obtain ⟨k1, t1⟩ := write_box hok hb hβ hcur hfr (cur.setIfInBounds 0 (.pointer (some ⟨k, 0, none⟩))) (by simp) [.agg [.ptr b 2 0 0, .nils]] rfl (by simpa using hc2) (by
         intro i e hi
         rcases i with _ | i
         · simp at hi
           subst hi
           refine ⟨rfl, fun j c hj => ?_⟩
           rcases j with _ | _ | j
           · simp [V.cells] at hj
             subst hj
             simp only [Nat.zero_mul, Nat.zero_add]
             rw [g0]
             exact ⟨rfl, by simpa using Rep.ptr b 2 0 0 k hβ⟩
           · simp [V.cells] at hj
             subst hj
             simp only [Nat.zero_mul, Nat.zero_add]
             rw [g1]
             exact ⟨o1, r1⟩
           · simp [V.cells] at hj
         · simp at hi)
     generalize cur.setIfInBounds 0 (.pointer (some ⟨k, 0, none⟩)) = cur1 at *
     have hsz1 : (w.setRow k cur1).heap.size = w.heap.size := by simp [World.setRow]
     have hlt1 : k < (w.setRow k cur1).heap.size := by rw [hsz1]; exact hlt
     generalize hW1 : w.setRow k cur1 = W1 at *
     obtain ⟨bb, f1, f2⟩ := k1.fresh
     have hbb : bb ≠ b := by rintro rfl; rw [upd_eq] at f2; cases f2
     have hbx : bx bb = none := by rwa [upd_ne _ _ hbb] at f2
     obtain ⟨k2, t2⟩ := alloc_box k1 f1 f2 cs 5 1 [] (.inl (by decide)) (by simp) (fun i e he => by simp at he)
     have hal : (W1.alloc (.cells cs 5)).heap[k]? = some (.cells cur1 56 fr) := (Lib.alloc_old W1 _ k hlt1).trans hc1
     have hβ2 : upd β bb (some (some W1.heap.size)) b = some (some k) := by rw [upd_ne _ _ (Ne.symm hbb)]; exact hβ
     have hb2 : upd (upd bx b (some (.row 56 2 [.agg [.ptr b 2 0 0, .nils]]))) bb (some (.row 5 1 [])) b = some (.row 56 2 [.agg [.ptr b 2 0 0, .nils]]) := by rw [upd_ne _ _ (Ne.symm hbb), upd_eq]
     obtain ⟨k3, t3⟩ := write_box k2 hb2 hβ2 hal hfr1 (cur1.setIfInBounds 1 (.slice (some ⟨w.heap.size, 0, none⟩) 0 cs.size)) (by simp) [.agg [.ptr b 2 0 0, .own bb 1 0 0]] rfl (by simpa [s0] using hc2) (by
         intro i e hi
         rcases i with _ | i
         · simp at hi
           subst hi
           refine ⟨rfl, fun j c hj => ?_⟩
           rcases j with _ | _ | j
           · simp [V.cells] at hj
             subst hj
             simp only [Nat.zero_mul, Nat.zero_add]
             have : (cur1.setIfInBounds 1 (.slice (some ⟨w.heap.size, 0, none⟩) 0 cs.size)).getD 0 undef = .pointer (some ⟨k, 0, none⟩) := by
               rw [← g0]; simp [Array.getD_eq_getD_getElem?]
             rw [this]
             exact ⟨rfl, by simpa using Rep.ptr b 2 0 0 k hβ2⟩
           · simp [V.cells] at hj
             subst hj
             simp only [Nat.zero_mul, Nat.zero_add]
             have : (cur1.setIfInBounds 1 (.slice (some ⟨w.heap.size, 0, none⟩) 0 cs.size)).getD 1 undef = .slice (some ⟨w.heap.size, 0, none⟩) 0 cs.size := by simp [show 1 < cur1.size by omega]
             rw [this]
             refine ⟨rfl, ?_⟩
             have := Rep.own (β := upd β bb (some (some W1.heap.size))) (w := W1.alloc (.cells cs 5)) (F := Fz (upd β bb (some (some W1.heap.size))) M (upd (upd bx b (some (.row 56 2 [.agg [.ptr b 2 0 0, .nils]]))) bb (some (.row 5 1 []))) (W1.alloc (.cells cs 5))) bb 1 0 0 W1.heap.size cs.size cs.size 5 (upd_eq _ _ _) (shape_of (heap_alloc_new _ _)) (by simp) (Nat.zero_le _) (by simpa using hcm)
             rw [← hsz1]
             simpa using this
           · simp [V.cells] at hj
         · simp at hi)
     rw [← setCell_row hal, ← alloc_set hlt1] at k3 t3
     have key := ((Tr.drew k3).trans (Tr.drew k3.drew)).trans ((Tr.drew k3.drew.drew).trans (Tr.drew k3.drew.drew.drew))
     refine ⟨_, _, _, _, rfl, ⟨rfl, bb, hbb, hbx, ?_⟩, k3.drew.drew.drew.drew, ((t1.trans t2).trans t3).trans key, .tup [] #[] rfl (fun i c h => by simp at h)⟩
     funext c
     by_cases e1 : c = b
     · subst e1; rw [upd_eq, upd_eq]
     · rw [upd_ne _ _ e1, upd_ne _ _ e1]
       by_cases e2 : c = bb
       · subst e2; rw [upd_eq, upd_eq]
       · rw [upd_ne _ _ e2, upd_ne _ _ e2, upd_ne _ _ e1]
end Go.Proofs

set_option linter.unusedVariables false
set_option linter.unusedSimpArgs false
set_option maxRecDepth 100000
namespace Go.Proofs
open Go Go.Pl Go.RowKit Go.Shelf
theorem Tryd.Grow_b {bx : Boxes} {b : Nat} (hb : bx b = none) (hf : FinB bx) (n : Nat) (hn : n ≤ 281474976710656) (hn1 : 1 ≤ n) :
   AbsCall Tryd.prog 40 [.ptr b 2 0 0, .int .i64 n] (upd bx b (some (.row 56 2 [.agg [.nilp, .nils]]))) fun r bx' => r = .tup [] ∧ Bld bx bx' b [] := by
 refine (Tryd.Grow_p (bx := upd bx b (some (.row 56 2 [.agg [.nilp, .nils]]))) (upd_eq _ _ _) n hn hn1).mono ?_
 rintro r bx' ⟨rfl, bb, hne, h0, rfl⟩
 rw [upd_ne _ _ hne] at h0
 refine ⟨rfl, ⟨_, _, .inr rfl, upd_eq _ _ _, .inr ⟨bb, rfl, hne, h0, by rw [upd_ne _ _ hne, upd_eq]; rfl⟩⟩, hb, fun c hc => ?_, by simp [finB_upd, hf]⟩
 have c1 : c ≠ b := fun e => hc (by rw [e]; exact hb)
 have c2 : c ≠ bb := fun e => hc (by rw [e]; exact h0)
 simp only [upd_ne _ _ c1, upd_ne _ _ c2]
theorem Tryd.WriteByte_p {bx0 bx : Boxes} {b : Nat} {l : List UInt8} (h : Bld bx0 bx b l) (c : UInt8) (hs : l.length ≤ 100000000) :
   AbsCall Tryd.prog 41 [.ptr b 2 0 0, .int .u8 c.toNat] bx fun r bx' => r = .nili ∧ Bld bx0 bx' b (l ++ [c]) := by
 refine Tryd.ctr41 fun hf => ?_
 obtain ⟨a, v, ha, hb, hv⟩ := h.ex
 simp [go_sem, Tryd.C41, hf]
 refine callK_abs (Tryd.copy_p hb ha) ?_
 rintro r bx1 ⟨rfl, rfl⟩
 unfold bldV
 rcases hv with ⟨rfl, rfl⟩ | ⟨bb, rfl, hne, hbb0, hbb⟩
 · simp [go_sem, upd_eq, finB_upd, hf, appendA, srcEls, Tryd.knd22, Tryd.tsz5, Tryd.tzero5, Tryd.tby5, Tryd.knd9]
   intro b1 hb1 b' hb'
   have n1 : b1 ≠ b := fun e => by subst e; rw [upd_eq] at hb1; cases hb1
   have z1 : bx0 b1 = none := by rw [upd_ne _ _ n1] at hb1; exact h.ext.none hb1
   have n2 : b' ≠ b1 := fun e => by subst e; rw [upd_eq] at hb'; cases hb'
   have n3 : b' ≠ b := fun e => by subst e; rw [upd_ne _ _ n2, upd_eq] at hb'; cases hb'
   have z2 : bx0 b' = none := by rw [upd_ne _ _ n2, upd_ne _ _ n3] at hb'; exact h.ext.none hb'
   simp [go_sem, upd_eq, upd_ne, n1, n2, n3, Ne.symm n1, Ne.symm n2, Ne.symm n3, finB_upd, hf]
   refine ret_pure (by simp [go_sem]) ⟨by simp [go_sem], h.next (b' := b') (l' := [c]) rfl n3 z2 (by simp [go_sem, upd_eq]) (by simp [go_sem, upd_ne _ _ n3, upd_eq, byteV]) (fun x hx => ?_) (by simp [finB_upd, hf])⟩
   have c1 : x ≠ b := fun e => hx (by rw [e]; exact h.nb)
   have c2 : x ≠ b' := fun e => hx (by rw [e]; exact z2)
   have c3 : x ≠ b1 := fun e => hx (by rw [e]; exact z1)
   simp only [upd_ne _ _ c1, upd_ne _ _ c2, upd_ne _ _ c3]
   exact h.ext x hx
 · simp [go_sem, upd_eq, finB_upd, hf, upd_ne, hne, Ne.symm hne, hbb, appendA, srcEls, Tryd.knd22, Tryd.tsz5, Tryd.tzero5, Tryd.tby5, Tryd.knd9]
   intro b1 hb1
   have n1 : b1 ≠ b := fun e => by subst e; rw [upd_eq] at hb1; cases hb1
   have hb1' : bx b1 = none := by rw [upd_ne _ _ n1] at hb1; exact hb1
   have z1 : bx0 b1 = none := h.ext.none hb1'
   have n4 : b1 ≠ bb := fun e => by subst e; rw [hbb] at hb1'; cases hb1'
   rw [upd_ne _ _ (Ne.symm n4), upd_ne _ _ hne, hbb]
   refine ⟨rfl, rfl, by simp, by omega, by omega, fun b' hb' => ?_⟩
   have n2 : b' ≠ b1 := fun e => by subst e; rw [upd_ne _ _ n4, upd_eq] at hb'; cases hb'
   have n3 : b' ≠ b := fun e => by subst e; rw [upd_ne _ _ (Ne.symm hne), upd_ne _ _ (Ne.symm n1), upd_eq] at hb'; cases hb'
   have z2 : bx0 b' = none := by
     by_cases e : b' = bb
     · rw [e]; exact hbb0
     · rw [upd_ne _ _ e, upd_ne _ _ n2, upd_ne _ _ n3] at hb'
       exact h.ext.none hb'
   have htk : List.take l.length (l.map byteV) = l.map byteV := by rw [List.take_of_length_le (by simp)]
   rw [htk]
   simp [go_sem, upd_eq, upd_ne, n1, n2, n3, n4, hne, Ne.symm hne, Ne.symm n1, Ne.symm n2, Ne.symm n3, Ne.symm n4, finB_upd, hf]
   refine ret_pure (by simp [go_sem]) ⟨by simp [go_sem], h.next (b' := b') (l' := l ++ [c]) (n := l.length + 1) (by simp) n3 z2 (by simp [go_sem, upd_eq]) (by simp [go_sem, upd_ne _ _ n3, upd_eq, byteV]) (fun x hx => ?_) (by simp [finB_upd, hf])⟩
   have c1 : x ≠ b := fun e => hx (by rw [e]; exact h.nb)
   have c2 : x ≠ b' := fun e => hx (by rw [e]; exact z2)
   have c3 : x ≠ b1 := fun e => hx (by rw [e]; exact z1)
   have c4 : x ≠ bb := fun e => hx (by rw [e]; exact hbb0)
   simp only [upd_ne _ _ c1, upd_ne _ _ c2, upd_ne _ _ c3, upd_ne _ _ c4]
   exact h.ext x hx
end Go.Proofs

set_option linter.unusedVariables false
set_option linter.unusedSimpArgs false
set_option maxRecDepth 100000
namespace Go.Proofs
open Go Go.Pl
end Go.Proofs

set_option linter.unusedVariables false
set_option linter.unusedSimpArgs false
set_option maxRecDepth 100000
namespace Go.Proofs
open Go Go.Pl
theorem u8_eq {c : UInt8} (d : UInt8) : (c = d) ↔ ((c.toNat : Int) = d.toNat) := ⟨fun h => by rw [h], fun h => UInt8.toNat_inj.1 (by omega)⟩
end Go.Proofs

set_option linter.unusedVariables false
set_option linter.unusedSimpArgs false
set_option maxRecDepth 100000
namespace Go.Proofs
open Go Go.Pl
end Go.Proofs

set_option linter.unusedVariables false
set_option linter.unusedSimpArgs false
set_option maxRecDepth 100000
namespace Go.Proofs
open Go Go.Pl Go.RowKit Go.Shelf
theorem low_none {l : List UInt8} (h : ∀ c, c ∈ l → Lib.isUpperB c = false) : Lib.toLowerA l = l := by
 unfold Lib.toLowerA
 rw [List.map_congr_left (g := id) fun c hc => Lib.lowerB_of_not c (h c hc)]
 simp
theorem low_app (a b : List UInt8) : Lib.toLowerA (a ++ b) = Lib.toLowerA a ++ Lib.toLowerA b := by
 unfold Lib.toLowerA
 rw [List.map_append]
structure LJ (bx : Boxes) (b : Nat) (s : List UInt8) (k p : Nat) (bx1 : Boxes) : Prop where
 le : p ≤ k
 lb : k ≤ s.length
 bld : Bld bx bx1 b (Lib.toLowerA (s.take p))
 no : ∀ j, p ≤ j → j < k → Lib.isUpperB (s.getD j 0) = false
theorem LJ.piece {bx : Boxes} {b : Nat} {s : List UInt8} {k p : Nat} {bx1 : Boxes} (h : LJ bx b s k p bx1) : Lib.toLowerA (s.take k) = Lib.toLowerA (s.take p) ++ (s.take k).drop p := by
 have h1 := h.le
 have h2 := h.lb
 have e : s.take k = s.take p ++ (s.take k).drop p := by
   have := (List.take_append_drop p (s.take k)).symm
   rw [List.take_take, Nat.min_eq_left h1] at this
   exact this
 have hn : Lib.toLowerA ((s.take k).drop p) = (s.take k).drop p := low_none fun c hc => by
   obtain ⟨j, hj, e2⟩ := List.getElem_of_mem hc
   rw [List.getElem_drop, List.getElem_take] at e2
   simp at hj
   have := h.no (p + j) (by omega) (by omega)
   have hl : p + j < s.length := by omega
   simp [hl, e2] at this
   exact this
 conv => lhs; rw [e]
 rw [low_app, hn]
set_option maxHeartbeats 1000000 in
theorem Tryd.ToLower_c (s : List UInt8) (hs : ∀ c, c ∈ s → c.toNat < 128) (hl : s.length ≤ 100000) (bx : Boxes) : PureCall Tryd.prog 28 [.str s] bx (.str (Lib.toLowerA s)) := by
 refine Tryd.ctr28 fun hf => ?_
 simp [go_sem, Tryd.C28, hf]
 refine pw_upto s.length (fun k => ⟨78, slk [(0, .str s), (3, .bool true), (4, .bool ((s.take k).any Lib.isUpperB)), (5, .int .i64 k)], bx⟩) (cov_look (by simp [go_sem])) (fun k hk N hN => ?_) (fun N => ?_)
 · have hw := wr_succ (k := k) (by omega)
   have hk128 := hs s[k] (List.getElem_mem hk)
   have h128 : ¬ (128 : Int) ≤ (s[k].toNat : Int) := by omega
   have hA := Lib.any_take_succ Lib.isUpperB s k s[k] (List.getElem?_eq_getElem hk)
   rw [hA, Lib.isUpperB_int] at hN
   generalize (s.take k).any Lib.isUpperB = a at *
   cases a
   · by_cases h65 : (65 : Int) ≤ (s[k].toNat : Int)
     · simp [go_sem, Tryd.L28_0, hf, hk, h128, h65]
       exact hN _ (cov_look (by simp [go_sem, hw, h65]))
     · simp [go_sem, Tryd.L28_0, hf, hk, h128, h65]
       exact hN _ (cov_look (by simp [go_sem, hw, h65]))
   · simp [go_sem, Tryd.L28_0, hf, hk, h128]
     exact hN _ (cov_look (by simp [go_sem, hw]))
 · rw [List.take_length]
   cases hU : s.any Lib.isUpperB
   · have hlow := low_none (l := s) fun c hc => by
       have := List.any_eq_false.1 hU c hc
       simpa using this
     simp [go_sem, Tryd.L28_0, hf]
     exact ret_pure (by simp [go_sem]) ⟨by simp [go_sem, hlow], rfl⟩
   · have hne : s ≠ [] := by rintro rfl; simp at hU
     have hpos : 0 < s.length := List.length_pos_iff.2 hne
     simp [go_sem, Tryd.L28_0, hf]
     intro b hb
     refine callK_abs (Tryd.Grow_b hb hf s.length (by omega) (by omega)) ?_
     rintro r bx1 ⟨rfl, hB⟩
     simp [go_sem, hB.fin]
     refine pw_for (ι := Nat × Boxes) s.length (fun k i => LJ bx b s k i.1 i.2) (fun k i => ⟨78, slk [(0, .str s), (7, .ptr b 2 0 0), (8, .int .i64 i.1), (9, .int .i64 k)], i.2⟩) (0, bx1) ⟨Nat.le_refl _, Nat.zero_le _, by simpa [Lib.toLowerA] using hB, fun j h1 h2 => by omega⟩ (cov_look (by simp [go_sem])) (fun k i hk hJ N hN => ?_) (fun i hJ N => ?_)
     · obtain ⟨p, bx2⟩ := i
       dsimp only at hJ hN ⊢
       have hw := wr_succ (k := k) (by omega)
       have hle := hJ.le
       have hup := Lib.isUpperB_int s[k]
       have hg : s.getD k 0 = s[k] := by simp [hk]
       cases hU2 : Lib.isUpperB s[k]
       · rw [hU2] at hup
         have hup' : ¬ ((65 : Int) ≤ (s[k].toNat : Int) ∧ (s[k].toNat : Int) ≤ 90) := by
           rintro ⟨h1, h2⟩
           simp [h1, h2] at hup
         have hJ' : LJ bx b s (k + 1) p bx2 := ⟨by omega, by omega, hJ.bld, fun j h1 h2 => by
           by_cases e : j = k
           · subst e; rw [hg]; exact hU2
           · exact hJ.no j h1 (by omega)⟩
         by_cases h65 : (65 : Int) ≤ (s[k].toNat : Int)
         · have h90 : ¬ (s[k].toNat : Int) ≤ 90 := fun h => hup' ⟨h65, h⟩
           simp [go_sem, Tryd.L28_1, hJ.bld.fin, hk, h65, h90]
           exact hN _ (p, bx2) hJ' (cov_look (by simp [go_sem, hw]))
         · simp [go_sem, Tryd.L28_1, hJ.bld.fin, hk, h65]
           exact hN _ (p, bx2) hJ' (cov_look (by simp [go_sem, hw]))
       · rw [hU2] at hup
         have hup' : (65 : Int) ≤ (s[k].toNat : Int) ∧ (s[k].toNat : Int) ≤ 90 := by simpa using hup.symm
         have hlow := Lib.lowerB_int s[k] hU2
         have w1 : IntKind.u8.wrap ((s[k].toNat : Int) + 32) = ((Lib.lowerB s[k]).toNat : Int) := by rw [hlow]; exact wru8 (by omega)
         have hlast : Lib.toLowerA (s.take (k + 1)) = Lib.toLowerA (s.take k) ++ [Lib.lowerB s[k]] := by
           rw [take_snoc hk, low_app]; rfl
         have hpc := hJ.piece
         by_cases hpk : p < k
         · have hpk' : (p : Int) < k := by omega
           simp [go_sem, Tryd.L28_1, hJ.bld.fin, hk, hup'.1, hup'.2, w1, hpk']
           refine ⟨⟨hle, by omega⟩, ?_⟩
           have hlen1 : (Lib.toLowerA (s.take p)).length ≤ 100000 := by unfold Lib.toLowerA; simp; omega
           refine callK_abs (Tryd.WriteString_p hJ.bld _ (by simp; omega)) ?_
           rintro r bx3 ⟨rfl, hB3⟩
           rw [← hpc] at hB3
           simp [go_sem, hB3.fin]
           refine callK_abs (Tryd.WriteByte_p hB3 (Lib.lowerB s[k]) (by unfold Lib.toLowerA; simp; omega)) ?_
           rintro r bx4 ⟨rfl, hB4⟩
           rw [← hlast] at hB4
           simp [go_sem, hB4.fin]
           exact hN _ (k + 1, bx4) ⟨Nat.le_refl _, by omega, hB4, fun j h1 h2 => by omega⟩ (cov_look (by simp [go_sem, hw]))
         · have hpk' : ¬ (p : Int) < k := by omega
           simp [go_sem, Tryd.L28_1, hJ.bld.fin, hk, hup'.1, hup'.2, w1, hpk']
           have hpe : p = k := by omega
           subst hpe
           refine callK_abs (Tryd.WriteByte_p hJ.bld (Lib.lowerB s[p]) (by unfold Lib.toLowerA; simp; omega)) ?_
           rintro r bx4 ⟨rfl, hB4⟩
           rw [← hlast] at hB4
           simp [go_sem, hB4.fin]
           exact hN _ (p + 1, bx4) ⟨Nat.le_refl _, by omega, hB4, fun j h1 h2 => by omega⟩ (cov_look (by simp [go_sem, hw]))
     · obtain ⟨p, bx2⟩ := i
       dsimp only at hJ ⊢
       have hpc := hJ.piece
       rw [List.take_length] at hpc
       have hle := hJ.le
       have hne2 : Lib.toLowerA s ≠ [] := by unfold Lib.toLowerA; simpa using hne
       by_cases hps : p < s.length
       · have hps' : (p : Int) < s.length := by omega
         simp [go_sem, Tryd.L28_1, hJ.bld.fin, hps']
         refine ⟨hle, ?_⟩
         refine callK_abs (Tryd.WriteString_p hJ.bld _ (by unfold Lib.toLowerA; simp; omega)) ?_
         rintro r bx3 ⟨rfl, hB3⟩
         rw [← hpc] at hB3
         simp [go_sem, hB3.fin]
         refine callK_abs (Tryd.String_p hB3 hne2) ?_
         rintro r bx4 ⟨rfl, he, hf4⟩
         simp [go_sem, hf4]
         exact ret_drop (by simp [go_sem]) he ⟨by simp [go_sem], rfl⟩
       · have hps' : ¬ (p : Int) < s.length := by omega
         have hpe : p = s.length := by omega
         have hB := hJ.bld
         rw [hpe, List.take_length] at hB
         simp [go_sem, Tryd.L28_1, hJ.bld.fin, hps']
         refine callK_abs (Tryd.String_p hB hne2) ?_
         rintro r bx4 ⟨rfl, he, hf4⟩
         simp [go_sem, hf4]
         exact ret_drop (by simp [go_sem]) he ⟨by simp [go_sem], rfl⟩
end Go.Proofs

set_option linter.unusedVariables false
set_option linter.unusedSimpArgs false
set_option maxRecDepth 100000
namespace Go.Proofs
open Go Go.Pl
def trV (s : CS) : V := if s.ph = 4 then .sl 2 (s.tr.map fdV) else .nils
def csV (s : CS) : V := .agg [.int .i64 s.ph, .str s.line, .str s.data, .int .i64 s.left, trV s]
theorem okL_small {l : List Fd} (h : ∀ f, f ∈ l → OkF f) : Small l := fun f hf => by
 have h1 := (h f hf).len
 have h2 := (h f hf).tok
 unfold tokB at h2
 simp at h2
 omega
theorem parse_ok {l : List UInt8} (h : (parseF l).2.2 = 0) : Small (parseF l).1 ∧ (parseF l).1.length ≤ 100 := by
 rcases prs_inv (len := l.length) (len2 := 0) l.length 0 [] l (Nat.le_refl _) (fun f hf => by cases hf) (by simp) with ⟨h1, _⟩ | ⟨k, _, g2, g3, g4, g5, g6, g7, g8⟩
 · exact absurd h h1
 · exact ⟨okL_small g6, g7⟩
end Go.Proofs

set_option linter.unusedVariables false
set_option linter.unusedSimpArgs false
set_option maxRecDepth 100000
namespace Go.Proofs
open Go Go.Pl
def Asc (f : Fd) : Prop := f.1.length ≤ 100000 ∧ ∀ c, c ∈ f.1 → c.toNat < 128
theorem Tryd.bad1_c (f : Fd) (hf1 : Asc f) (bx : Boxes) : PureCall Tryd.prog 27 [fdV f] bx (.bool (bad1 f)) := by
 refine Tryd.ctr27 fun hf => ?_
 have cL := Tryd.ToLower_c f.1 hf1.2 hf1.1 bx
 have hb : bad1 f = badN.contains (Lib.toLowerA f.1) := rfl
 rw [hb]
 generalize Lib.toLowerA f.1 = w at cL ⊢
 have hw : badN.contains w = (decide (w = [99, 111, 110, 110, 101, 99, 116, 105, 111, 110]) || decide (w = [99, 111, 110, 116, 101, 110, 116, 45, 108, 101, 110, 103, 116, 104]) || decide (w = [104, 111, 115, 116]) || decide (w = [116, 114, 97, 105, 108, 101, 114]) || decide (w = [116, 114, 97, 110, 115, 102, 101, 114, 45, 101, 110, 99, 111, 100, 105, 110, 103])) := by
   rw [Bool.eq_iff_iff, List.contains_iff_mem]
   simp [badN, or_assoc]
 rw [hw]
 simp [go_sem, Tryd.C27, hf, fdV]
 refine callK_pure cL ?_
 by_cases k0 : w = [99, 111, 110, 110, 101, 99, 116, 105, 111, 110]
 · simp [go_sem, hf, k0]
   exact ret_pure (by simp [go_sem]) ⟨by simp [go_sem], rfl⟩
 by_cases k1 : w = [99, 111, 110, 116, 101, 110, 116, 45, 108, 101, 110, 103, 116, 104]
 · simp [go_sem, hf, k0, k1]
   exact ret_pure (by simp [go_sem]) ⟨by simp [go_sem], rfl⟩
 by_cases k2 : w = [104, 111, 115, 116]
 · simp [go_sem, hf, k0, k1, k2]
   exact ret_pure (by simp [go_sem]) ⟨by simp [go_sem], rfl⟩
 by_cases k3 : w = [116, 114, 97, 105, 108, 101, 114]
 · simp [go_sem, hf, k0, k1, k2, k3]
   exact ret_pure (by simp [go_sem]) ⟨by simp [go_sem], rfl⟩
 by_cases k4 : w = [116, 114, 97, 110, 115, 102, 101, 114, 45, 101, 110, 99, 111, 100, 105, 110, 103]
 · simp [go_sem, hf, k0, k1, k2, k3, k4]
   exact ret_pure (by simp [go_sem]) ⟨by simp [go_sem], rfl⟩
 simp [go_sem, hf, k0, k1, k2, k3, k4]
 exact ret_pure (by simp [go_sem]) ⟨by simp [go_sem], rfl⟩
theorem Tryd.indexF_c (l : List Fd) (hl : l.length ≤ 100000) (ha : ∀ f, f ∈ l → Asc f) (bx : Boxes) : AbsCall Tryd.prog 39 [.sl 2 (l.map fdV), .fn (.func 27) []] bx fun r bx' => bx' = bx ∧ ∃ n : Int, r = .int .i64 n ∧ (0 ≤ n ↔ badB l = true) := by
 refine Tryd.ctr39 fun hf => ?_
 simp [go_sem, Tryd.C39, hf]
 refine pw_find l.length (fun i => bad1 (l.getD i ([], []))) (fun i => ⟨19, slk [(0, .sl 2 (l.map fdV)), (1, .fn (.func 27) []), (7, .int .i64 l.length), (8, .int .i64 i)], bx⟩) (cov_look (by simp [go_sem])) (fun i hi hJ N hN => ?_) (fun hJ N => ?_)
 · have hw := wr_succ (k := i) (by omega)
   have hg : l.getD i ([], []) = l[i] := by simp [hi]
   rw [hg] at hN
   have cB := Tryd.bad1_c l[i] (ha _ (List.getElem_mem hi)) bx
   unfold fdV at cB
   simp [go_sem, Tryd.L39_0, hf, hi, fdV]
   refine callK_pure cB ?_
   cases hb : bad1 l[i]
   · simp [go_sem, hf, hw]
     exact hN _ hb (cov_look (by simp [go_sem, fdV]))
   · simp [go_sem, hf, hw]
     have : badB l = true := List.any_eq_true.2 ⟨l[i], List.getElem_mem hi, hb⟩
     exact ret_pure (by simp [go_sem]) ⟨rfl, i, by simp [go_sem], by simp [this]⟩
 · simp [go_sem, Tryd.L39_0, hf]
   have : badB l = false := by
     cases h : badB l with
     | false => rfl
     | true =>
       obtain ⟨f, hfm, hb1⟩ := List.any_eq_true.1 h
       obtain ⟨i, hi, rfl⟩ := List.getElem_of_mem hfm
       have := hJ i hi
       simp [hi, hb1] at this
   exact ret_pure (by simp [go_sem]) ⟨rfl, -1, by simp [go_sem], by simp [this]⟩
theorem Tryd.bad_c (l : List Fd) (hl : l.length ≤ 100000) (ha : ∀ f, f ∈ l → Asc f) (bx : Boxes) : PureCall Tryd.prog 15 [.sl 2 (l.map fdV)] bx (.bool (badB l)) := by
 have cC : PureCall Tryd.prog 26 [.sl 2 (l.map fdV), .fn (.func 27) []] bx (.bool (badB l)) := by
   refine Tryd.ctr26 fun hf => ?_
   simp [go_sem, Tryd.C26, hf]
   refine callK_abs (Tryd.indexF_c l hl ha bx) ?_
   rintro r bx1 ⟨rfl, n, rfl, hn⟩
   simp [go_sem, hf]
   refine ret_pure (by simp [go_sem]) ⟨?_, rfl⟩
   cases hb : badB l
   · rw [hb] at hn
     have : ¬ 0 ≤ n := fun h => by have := hn.1 h; cases this
     simp [go_sem, this]
   · have : 0 ≤ n := hn.2 hb
     simp [go_sem, this]
 refine Tryd.ctr15 fun hf => ?_
 simp [go_sem, Tryd.C15, hf]
 refine callK_pure cC ?_
 simp [go_sem, hf]
 exact ret_pure (by simp [go_sem]) ⟨by simp [go_sem], rfl⟩
theorem okF_asc {f : Fd} (h : OkF f) : Asc f := by
 refine ⟨?_, fun c hc => ?_⟩
 · have h2 := h.tok
   unfold tokB at h2
   simp at h2
   omega
 · have := tok_mem h.tok hc
   revert this
   revert c
   intro c _ hc2
   have key : ∀ n : Fin 256, letB (UInt8.ofNat n.val) = true → n.val < 128 := by decide +kernel
   have := key ⟨c.toNat, c.toNat_lt⟩
   simp at this
   exact this hc2
theorem parse_asc {l : List UInt8} (h : (parseF l).2.2 = 0) : ∀ f, f ∈ (parseF l).1 → Asc f := by
 rcases prs_inv (len := l.length) (len2 := 0) l.length 0 [] l (Nat.le_refl _) (fun f hf => by cases hf) (by simp) with ⟨h1, _⟩ | ⟨k, _, g2, g3, g4, g5, g6, g7, g8⟩
 · exact absurd h h1
 · exact fun f hf => okF_asc (g6 f hf)
theorem chk_asc {l : List Fd} (h : chkL l = 0) : ∀ f, f ∈ l → Asc f := fun f hf => okF_asc ((chkL_ok h).2.1 f hf)
end Go.Proofs

set_option linter.unusedVariables false
set_option linter.unusedSimpArgs false
set_option maxRecDepth 100000
namespace Go.Proofs
open Go Go.Pl
def iV (n : Int) : V := .int .i64 n
structure EJ (bx : Boxes) (R : Option (List UInt8 × List UInt8)) (ns : List Int) (k : Nat) (rest out : List UInt8) (v : V) (bx1 : Boxes) : Prop where
 eq : encS rest (ns.drop k) out = R
 acc : Acc bx 5 1 (out.map byteV) v bx1
 len : out.length + 13 * rest.length ≤ 26000
theorem enc_at {ns : List Int} {k : Nat} (hk : k < ns.length) (rest out : List UInt8) : encS rest (ns.drop k) out = if ns[k] < 1 ∨ (rest.length : Int) < ns[k] then none else encS (rest.drop ns[k].toNat) (ns.drop (k + 1)) (out ++ hexB ns[k].toNat ++ [13, 10] ++ rest.take ns[k].toNat ++ [13, 10]) := by
 rw [List.drop_eq_getElem_cons hk, encS]
theorem enc_wk (e : Int) : Wk (.tup [.nils, .int .i64 e]) (encV ([], e)) := wk_tup2 (wk_nils 1) (Wk.refl _)
set_option maxHeartbeats 4000000 in
theorem Tryd.Encode_c {bx : Boxes} (hm : Mk bx) (data : List UInt8) (ns : List Int) (l : List Fd) (hd : data.length ≤ 2000 ∨ 65536 < data.length) (hn : ns.length ≤ 100000) (hl : Small l) (hll : l.length ≤ 100000) :
   PureCall Tryd.prog 9 [.sl 1 (data.map byteV), .sl 1 (ns.map iV), .sl 2 (l.map fdV)] bx (encV (encF data ns l)) := by
 refine PureCall.wk (Tryd.ctr9 fun hf => ?_)
 unfold encF
 by_cases h6 : 65536 < data.length
 · have h6' : (65536 : Int) < data.length := by omega
   rw [if_pos h6]
   simp [go_sem, Tryd.C9, hf, h6']
   exact ret_wk0 (by simp [go_sem]) (by simp only [go_sem]; exact enc_wk 3)
 have h6' : ¬ (65536 : Int) < data.length := by omega
 rw [if_neg h6]
 simp [go_sem, Tryd.C9, hf, h6']
 refine pw_for (ι := List UInt8 × List UInt8 × V × Boxes) ns.length (fun k i => EJ bx (encS data ns []) ns k i.1 i.2.1 i.2.2.1 i.2.2.2) (fun k i => ⟨63, slk [(2, .sl 2 (l.map fdV)), (8, i.2.2.1), (9, .sl 1 (i.1.map byteV)), (18, .sl 1 (ns.map iV)), (19, .int .i64 ns.length), (20, .int .i64 k)], i.2.2.2⟩) (data, [], .nils, bx) ⟨by simp, acc_nil hf _ _, by simp; omega⟩ (cov_look (by simp [go_sem])) (fun k i hk hJ N hN => ?_) (fun i hJ N => ?_)
 · obtain ⟨rest, out, v, bx1⟩ := i
   dsimp only at hJ hN ⊢
   have hw := wr_succ (k := k) (by omega)
   have hfb := hJ.acc.fin
   have hR := hJ.eq
   have hlen := hJ.len
   rw [enc_at hk] at hR
   simp [go_sem, Tryd.L9_0, hk, hfb, hJ.acc.strip, hJ.acc.live, iV]
   refine ⟨fun h => ?_, fun c1 c2 => ?_⟩
   · rw [if_pos h] at hR
     rw [← hR]
     exact ret_drop (by simp [go_sem]) hJ.acc.ext ⟨by simp only [go_sem]; exact enc_wk 2, rfl⟩
   rw [if_neg (by omega)] at hR
   have hnat : ((ns[k].toNat : Nat) : Int) = ns[k] := by omega
   have cA := Tryd.AppendInt_c hJ.acc ns[k].toNat (by omega) (by omega) (by omega)
   rw [hnat] at cA
   have hx8 := hexB_len 8 ns[k].toNat (by have : (16 : Nat) ^ 8 = 4294967296 := by decide
                                          omega)
   refine callK_abs cA ?_
   intro r bx2 ha
   generalize hO : out ++ hexB ns[k].toNat = o2 at *
   have ho2 : o2.length ≤ out.length + 8 := by rw [← hO]; simp; omega
   simp [go_sem, ha.fin, ha.strip, ha.live]
   refine acc_append (es := o2.map byteV) (news := [.int .u8 13, .int .u8 10]) (e := 5) (sz := 1) (.int .u8 0) ha (Ext.refl _) ha.fin Tryd.knd22 Tryd.tsz5 (by simp [go_sem, srcEls, byteV]) Tryd.tzero5 (by simp [go_sem]) (by decide) (by simp [Tryd.tby5]; omega) (by simp; omega) (by simp [go_sem]) ?_
   intro v3 bx3 ha3
   simp [go_sem, ha3.fin, ha3.strip, ha3.live]
   refine ⟨⟨by omega, c2⟩, ?_⟩
   refine acc_append (es := o2.map byteV ++ [.int .u8 13, .int .u8 10]) (news := List.take ns[k].toNat (rest.map byteV)) (e := 5) (sz := 1) (.int .u8 0) ha3 (Ext.refl _) ha3.fin Tryd.knd22 Tryd.tsz5 (by simp [go_sem, srcEls, byteV]) Tryd.tzero5 (by simp [go_sem]) (by decide) (by simp [Tryd.tby5]; omega) (by simp; omega) (by simp [go_sem]) ?_
   intro v4 bx4 ha4
   simp [go_sem, ha4.fin, ha4.strip, ha4.live]
   refine acc_append (es := o2.map byteV ++ [.int .u8 13, .int .u8 10] ++ List.take ns[k].toNat (rest.map byteV)) (news := [.int .u8 13, .int .u8 10]) (e := 5) (sz := 1) (.int .u8 0) ha4 (Ext.refl _) ha4.fin Tryd.knd22 Tryd.tsz5 (by simp [go_sem, srcEls, byteV]) Tryd.tzero5 (by simp [go_sem]) (by decide) (by simp [Tryd.tby5]; omega) (by simp; omega) (by simp [go_sem]) ?_
   intro v5 bx5 ha5
   simp [go_sem, ha5.fin, ha5.strip, ha5.live, hw]
   refine ⟨⟨by omega, c2⟩, ?_⟩
   have e5 : o2.map byteV ++ [.int .u8 13, .int .u8 10] ++ List.take ns[k].toNat (rest.map byteV) ++ [.int .u8 13, .int .u8 10] = (o2 ++ [13, 10] ++ rest.take ns[k].toNat ++ [13, 10]).map byteV := by
     simp [byteV, List.map_take]
   rw [e5] at ha5
   have htk : List.take rest.length (rest.map byteV) = rest.map byteV := List.take_of_length_le (by simp)
   refine hN _ (rest.drop ns[k].toNat, o2 ++ [13, 10] ++ rest.take ns[k].toNat ++ [13, 10], v5, bx5) ⟨hR, ha5, by simp; omega⟩ (cov_look (by simp [go_sem, List.map_drop, List.map_take, htk]))
 · obtain ⟨rest, out, v, bx1⟩ := i
   dsimp only at hJ ⊢
   have hfb := hJ.acc.fin
   have hR := hJ.eq
   have hlen := hJ.len
   rw [List.drop_length, encS] at hR
   rw [← hR]
   have hmb := mk_ext hm hJ.acc.ext
   have cPr := Tryd.Print_c hmb l hl
   have cB := fun h : chkL l = 0 => Tryd.bad_c l hll (chk_asc h) bx1
   have hpl : chkL l = 0 → (prtB l).length ≤ 8192 := fun h => by rw [prt_len]; exact (chkL_ok h).2.2
   unfold encT
   dsimp only
   by_cases hr0 : rest = []
   · subst hr0
     rw [if_neg (by simp)]
     unfold prtR at cPr
     by_cases hk : chkL l = 0
     · have cB := cB hk
       have hpl := hpl hk
       rw [if_pos hk] at cPr
       rw [if_neg (by simp [hk])]
       cases hbad : badB l
       · rw [hbad] at cB
         rw [if_neg (by simp)]
         simp [go_sem, Tryd.L9_0, hfb]
         refine callK_pure cPr ?_
         simp [go_sem, hfb]
         refine callK_pure cB ?_
         simp [go_sem, hfb, hJ.acc.strip, hJ.acc.live]
         refine acc_append (es := out.map byteV) (news := [.int .u8 48, .int .u8 13, .int .u8 10]) (e := 5) (sz := 1) (.int .u8 0) hJ.acc (Ext.refl _) hfb Tryd.knd22 Tryd.tsz5 (by simp [go_sem, srcEls, byteV]) Tryd.tzero5 (by simp [go_sem]) (by decide) (by simp [Tryd.tby5]; omega) (by simp; omega) (by simp [go_sem]) ?_
         intro v3 bx3 ha3
         simp [go_sem, ha3.fin, ha3.strip, ha3.live]
         refine acc_append (es := out.map byteV ++ [.int .u8 48, .int .u8 13, .int .u8 10]) (news := (prtB l).map byteV) (e := 5) (sz := 1) (.int .u8 0) ha3 (Ext.refl _) ha3.fin Tryd.knd22 Tryd.tsz5 (by simp [go_sem, srcEls]) Tryd.tzero5 (by simp [go_sem]) (by decide) (by simp [Tryd.tby5]; omega) (by simp; omega) (by simp [go_sem]) ?_
         intro v4 bx4 ha4
         simp [go_sem, ha4.fin, ha4.strip, ha4.live]
         have e5 : out.map byteV ++ [.int .u8 48, .int .u8 13, .int .u8 10] ++ (prtB l).map byteV = (out ++ [48, 13, 10] ++ prtB l).map byteV := by simp [byteV]
         rw [e5] at ha4
         refine ret_frz 2 (by simp [go_sem]) ha4.ext ⟨?_, rfl⟩
         simp [go_sem, encV]
         exact wk_tup2 (by simpa using acc_frz1 ha4 (by decide)) (Wk.refl _)
       · rw [hbad] at cB
         rw [if_pos rfl]
         simp [go_sem, Tryd.L9_0, hfb]
         refine callK_pure cPr ?_
         simp [go_sem, hfb]
         refine callK_pure cB ?_
         simp [go_sem, hfb]
         exact ret_drop (by simp [go_sem]) hJ.acc.ext ⟨by simp only [go_sem]; exact enc_wk 6, rfl⟩
     · rw [if_neg hk] at cPr
       rw [if_pos hk]
       generalize chkL l = e at *
       simp [go_sem, Tryd.L9_0, hfb]
       refine callK_pure cPr ?_
       simp [go_sem, hfb, hk]
       exact ret_drop (by simp [go_sem]) hJ.acc.ext ⟨by simp only [go_sem]; exact enc_wk e, rfl⟩
   · rw [if_pos hr0]
     have hrl : 0 < rest.length := List.length_pos_iff.2 hr0
     have hrl' : (0 : Int) < rest.length := by omega
     simp [go_sem, Tryd.L9_0, hfb, hrl, hrl']
     exact ret_drop (by simp [go_sem]) hJ.acc.ext ⟨by simp only [go_sem]; exact enc_wk 2, rfl⟩
end Go.Proofs

set_option linter.unusedVariables false
set_option linter.unusedSimpArgs false
set_option maxRecDepth 100000
namespace Go.Proofs.YtfibpdlpnbnooaaDoor
open Go Go.Pl Go.Proofs
open Go.ChangeShapes Go.WideShapes Go.ChangeAt Go.RowKit
theorem own : ownKnob Tryd.prog.godebug = none := by kernel_rfl
theorem hasByte {n : Nat} {xs : List V} (h : HasL Tryd.prog n 5 xs) : ∃ c : UInt8, xs = [byteV c] := by
 obtain ⟨i, rfl, hw⟩ := h.int Tryd.knd5
 simp [Lit.wf, IntKind.min, IntKind.max, IntKind.signed, IntKind.bits] at hw
 refine ⟨UInt8.ofNat i.toNat, ?_⟩
 unfold byteV
 have : ((UInt8.ofNat i.toNat).toNat : Int) = i := by
   simp
   omega
 rw [this]
theorem hasBytes {n : Nat} {xs : List V} (h : HasL Tryd.prog (n + 1) 22 xs) : ∃ l : List UInt8, xs = [.sl 1 (l.map byteV)] := by
 obtain ⟨l, h, hl⟩ := HasL.slice (r := byteV) Tryd.knd22 h fun ys hy => by
   obtain ⟨c, rfl⟩ := hasByte hy
   exact ⟨c, elV_one Tryd.tagg5⟩
 rw [Tryd.tsz5] at h
 exact ⟨l, h⟩
theorem tabIs_of_laid {P : Program} {W : World} {name : String} {k : IntKind} {zs : List Int} {g : Nat} {t e : TypeId} {n : Nat}
   (hg : P.globalNamed name = some g) (hty : (P.globals[g]?).map (·.type) = some t) (ht : P.underlying t = some (.array n e)) (he : P.underlying e = some (.int k)) (hce : P.cellsOf e = 1) (hct : P.cellsOf t = n) :
   ∀ (laid : List (String × DataW Unit)) (ps : List MemPlace), (name, Lib.tabData k zs) ∈ laid → DataW.LaidVars P W laid ps → Lib.TabIs P W name k zs
 | [], _, hm, _ => by simp at hm
 | (n', d') :: r, ps, hm, h => by
   obtain ⟨g', t', cs, fuel, p, q, hg', ht', hvar, hd, hr, _⟩ := h
   rcases List.mem_cons.1 hm with e1 | e1
   · injection e1 with e1 e2
     subst e1 e2
     obtain rfl := Option.some.inj (hg.symm.trans hg')
     obtain rfl := Option.some.inj (hty.symm.trans ht')
     unfold Lib.TabIs
     rw [hvar, ← Lib.cells_of_tab ht he hce hct hd]
   · exact tabIs_of_laid hg hty ht he hce hct r q e1 hr
def debT : List Int := [0, 1, 56, 2, 57, 49, 28, 3, 61, 58, 42, 50, 38, 29, 17, 4, 62, 47, 59, 36, 45, 43, 51, 22, 53, 39, 33, 30, 24, 18, 12, 5, 63, 55, 48, 27, 60, 41, 37, 16, 46, 35, 44, 21, 52, 32, 23, 11, 54, 26, 40, 15, 34, 20, 31, 10, 25, 14, 19, 9, 13, 8, 7, 6]
theorem deb_data : (Rows.laid_math_bits_deBruijn64tab : DataW Unit) = Lib.tabData .u8 debT := by kernel_rfl
theorem pow_data : (Rows.laid_internal_strconv_uint64pow10 : DataW Unit) = Lib.tabData .u64 Lib.pow10Tab := by kernel_rfl
theorem gl_laid {laid : List (String × DataW Unit)} (h1 : ("math/bits.deBruijn64tab", (Rows.laid_math_bits_deBruijn64tab : DataW Unit)) ∈ laid) (h2 : ("internal/strconv.uint64pow10", (Rows.laid_internal_strconv_uint64pow10 : DataW Unit)) ∈ laid)
   (hp : (laid.all fun x => x.2.handleName?.isNone) = true) {W : World} (h : laidMetH Tryd.prog laid W) : GlOk Tryd.prog (beT 0 6) W (FzAll W) := by
 rw [MakeChecks.laidMetH_plain _ _ _ hp] at h
 obtain ⟨ps, h3, _⟩ := h
 rw [deb_data] at h1
 rw [pow_data] at h2
 exact gl_two (by kernel_rfl) (by kernel_rfl)
   (tabIs_of_laid (g := 0) (t := 113) (e := 69) (n := 20) (by kernel_rfl) (by kernel_rfl) (by kernel_rfl) (by kernel_rfl) (by kernel_rfl) (by kernel_rfl) laid ps h2 h3)
   (tabIs_of_laid (g := 6) (t := 138) (e := 5) (n := 64) (by kernel_rfl) (by kernel_rfl) (by kernel_rfl) (by kernel_rfl) (by kernel_rfl) (by kernel_rfl) laid ps h1 h3)
end Go.Proofs.YtfibpdlpnbnooaaDoor

set_option linter.unusedVariables false
set_option linter.unusedSimpArgs false
set_option maxRecDepth 100000
namespace Go.Proofs
open Go Go.Pl
structure EJr (R : Option (List UInt8 × List UInt8)) (data : List UInt8) (ns : List Int) (k at_ : Nat) (out : List UInt8) : Prop where
 eq : encS (data.drop at_) (ns.drop k) out = R
 le : at_ ≤ data.length
 len : out.length + 13 * (data.length - at_) ≤ 26000
end Go.Proofs

set_option linter.unusedVariables false
set_option linter.unusedSimpArgs false
set_option maxRecDepth 100000
namespace Go.Proofs
open Go Go.Pl
theorem cut_wk (e : Int) : Wk (.tup [.nils, .int .i64 e]) (cutV ([], e)) := wk_tup2 (wk_nils 1) (Wk.refl _)
structure CJ (bx : Boxes) (n m u : Nat) (out : List Nat) (v : V) (bx1 : Boxes) : Prop where
 eq : out ++ cutL u m = cutL n m
 len : out.length + u ≤ n
 acc : Acc bx 3 1 (intsV out) v bx1
theorem ints_snoc (out : List Nat) (x : Nat) : intsV out ++ [.int .i64 (x : Int)] = intsV (out ++ [x]) := by simp [intsV]
theorem ints_len (out : List Nat) : (intsV out).length = out.length := by simp [intsV]
set_option maxHeartbeats 1000000 in
theorem Tryd.Cut_c (n m : Int) (hn : -9223372036854775808 ≤ n ∧ n ≤ 9223372036854775807) (hm : -9223372036854775808 ≤ m ∧ m ≤ 9223372036854775807) (bx : Boxes) : PureCall Tryd.prog 10 [.int .i64 n, .int .i64 m] bx (cutV (cutF n m)) := by
 refine PureCall.wk (Tryd.ctr10 fun hf => ?_)
 unfold cutF
 by_cases c1 : n < 0
 · rw [if_pos (.inl c1)]
   simp [go_sem, Tryd.C10, hf, c1]
   exact ret_wk0 (by simp [go_sem]) (by simp only [go_sem]; exact cut_wk 2)
 by_cases c2 : m < 1
 · rw [if_pos (.inr c2)]
   simp [go_sem, Tryd.C10, hf, c1, c2]
   exact ret_wk0 (by simp [go_sem]) (by simp only [go_sem]; exact cut_wk 2)
 rw [if_neg (by omega)]
 by_cases c3 : 65536 < n
 · rw [if_pos c3]
   simp [go_sem, Tryd.C10, hf, c1, c2, c3]
   exact ret_wk0 (by simp [go_sem]) (by simp only [go_sem]; exact cut_wk 3)
 rw [if_neg c3]
 simp [go_sem, Tryd.C10, hf, c1, c2, c3]
 obtain ⟨n, rfl⟩ : ∃ k : Nat, n = k := ⟨n.toNat, by omega⟩
 obtain ⟨m, rfl⟩ : ∃ k : Nat, m = k := ⟨m.toNat, by omega⟩
 rw [Int.toNat_natCast, Int.toNat_natCast]
 refine pw_loop (ι := Nat × List Nat × V × Boxes) (fun i => CJ bx n m i.1 i.2.1 i.2.2.1 i.2.2.2) (fun i => ⟨29, slk [(0, .int .i64 i.1), (1, .int .i64 m), (6, i.2.2.1)], i.2.2.2⟩) (fun i => i.1) (n, [], .nils, bx) ⟨by simp, by simp, acc_nil hf _ _⟩ (cov_look (by simp [go_sem])) ?_
 rintro ⟨u, out, v, bx1⟩ hJ
 dsimp only at hJ ⊢
 have hfb := hJ.acc.fin
 have hlen := hJ.len
 have heq := hJ.eq
 by_cases h0 : u = 0
 · subst h0
   rw [cutL_0, List.append_nil] at heq
   subst heq
   simp [go_sem, Tryd.L10_0, hfb]
   refine ret_frz 2 (by simp [go_sem]) hJ.acc.ext ⟨?_, rfl⟩
   simp [go_sem, cutV]
   exact wk_tup2 (acc_frz1 hJ.acc (by decide)) (Wk.refl _)
 · have hu : 0 < u := by omega
   have hu' : (0 : Int) < u := by omega
   have hmin : (if m < u then (m : Int) else (u : Int)) = ((min u m : Nat) : Int) := by split <;> omega
   have w1 : IntKind.i64.wrap ((u : Int) - ((min u m : Nat) : Int)) = ((u - min u m : Nat) : Int) := by rw [wr64 (by omega)]; omega
   rw [cutL_pos h0 (by omega)] at heq
   have hm1 : 1 ≤ min u m := by omega
   have hm2 : min u m ≤ u := by omega
   generalize hx : min u m = x at *
   simp [go_sem, Tryd.L10_0, hfb, hu, hu', hJ.acc.strip, hJ.acc.live]
   intro b2 hb2
   rw [hmin]
   refine acc_append (es := intsV out) (news := [.int .i64 (x : Int)]) (e := 3) (sz := 1) (.int .i64 0) hJ.acc ((Ext.refl _).new hb2 _) (by simp [finB_upd, hfb]) Tryd.knd32 Tryd.tsz3 (by simp [go_sem, srcEls, upd_eq]) Tryd.tzero3 (by simp [go_sem]) (by decide) (by simp [Tryd.tby3, ints_len]; omega) (by simp [ints_len]; omega) (by simp [go_sem]) ?_
   intro v' bx3 ha'
   rw [ints_snoc] at ha'
   simp [go_sem, ha'.fin, hmin, w1]
   exact ⟨(u - x, out ++ [x], v', bx3), ⟨by simpa using heq, by simp; omega, ha'⟩, cov_look (by simp [go_sem]), by dsimp only; omega⟩
end Go.Proofs

set_option linter.unusedVariables false
set_option linter.unusedSimpArgs false
set_option maxRecDepth 100000
namespace Go.Proofs
open Go Go.Pl
theorem u8V (x : UInt8) : isU8 (byteV x) = true := rfl
theorem Tryd.bytes_c (a b : List UInt8) (bx : Boxes) : PureCall Tryd.prog 7 [.sl 1 (a.map byteV), .sl 1 (b.map byteV)] bx (.bool (decide (a = b))) := by
 refine Tryd.ctr7 fun hf => ?_
 have tb : toByte ∘ byteV = id := funext toByte_byteV
 simp [go_sem, Tryd.C7, hf, tb, u8V]
 exact ret_pure (by simp [go_sem]) ⟨by simp [go_sem], rfl⟩
end Go.Proofs

set_option linter.unusedVariables false
set_option linter.unusedSimpArgs false
set_option maxRecDepth 100000
namespace Go.Proofs
open Go Go.Pl Go.RowKit Go.Shelf
structure PK (bx : Boxes) (b : List UInt8) (R : List Fd × Nat × Int) (k : Nat) (out : List Fd) (v : V) (bx1 : Boxes) : Prop where
 lb : k ≤ b.length
 l8 : k ≤ 8192
 ol : out.length ≤ 100
 eq : prs b.length k out (b.drop k) = R
 acc : Acc bx 34 2 (out.map fdV) v bx1
theorem cutC_len (s : List UInt8) (c : UInt8) : (cutC s c).1.length ≤ s.length ∧ (cutC s c).2.1.length ≤ s.length := by
 rcases idx_lt s c with ⟨h1, h2⟩ | ⟨n, h1, h2, h3, h4⟩
 · unfold cutC
   rw [if_neg h2]
   simp
 · rw [cut_at h3 h4]
   simp
   omega
theorem trimB_len (s : List UInt8) : (trimB s).length ≤ s.length := by
 unfold trimB
 rw [List.length_reverse]
 refine Nat.le_trans (List.dropWhile_sublist _).length_le ?_
 rw [List.length_reverse]
 exact (List.dropWhile_sublist _).length_le
set_option maxHeartbeats 2000000 in
theorem Tryd.Parse_c {bx : Boxes} (hm : Mk bx) (b : List UInt8) (hbl : b.length ≤ 100000) : PureCall Tryd.prog 29 [.sl 1 (b.map byteV)] bx (prsV (parseF b)) := by
 refine PureCall.wk (Tryd.ctr29 fun hf => ?_)
 simp [go_sem, Tryd.C29, hf]
 have he (e : Int) (h : parseF b = ([], 0, e)) : Wk (.tup [.nils, .int .i64 0, .int .i64 e]) (prsV (parseF b)) := by
   rw [h]
   exact wk_tup3 (wk_nils 2) (Wk.refl _) (Wk.refl _)
 refine pw_loop (ι := Nat × List Fd × V × Boxes) (fun i => PK bx b (parseF b) i.1 i.2.1 i.2.2.1 i.2.2.2) (fun i => ⟨90, slk [(0, .sl 1 (b.map byteV)), (5, i.2.2.1), (6, .int .i64 i.1)], i.2.2.2⟩) (fun i => b.length - i.1) (0, [], .nils, bx) ⟨by simp, by simp, by simp, rfl, acc_nil hf _ _⟩ (cov_look (by simp [go_sem])) ?_
 rintro ⟨k, out, v, bx1⟩ hJ
 dsimp only at hJ ⊢
 have hfb := hJ.acc.fin
 have hlb := hJ.lb
 have hl8 := hJ.l8
 have hmk : Mk bx1 := mk_ext hm hJ.acc.ext
 have hdr : List.drop k (List.map byteV b) = (b.drop k).map byteV := by rw [List.map_drop]
 simp [go_sem, Tryd.L29_0, hfb]
 refine ⟨by omega, ?_⟩
 have cI := Tryd.IndexByte_p (b.drop k) 10 bx1
 rw [List.map_drop] at cI
 have htk : List.take b.length (List.map byteV b) = List.map byteV b := List.take_of_length_le (by simp)
 rw [htk]
 refine callK_pure cI ?_
 have hR := hJ.eq
 rcases idx_lt (b.drop k) 10 with ⟨h1, h2⟩ | ⟨n, h1, h2, h3, h4⟩
 · rw [h1]
   rw [prs_no h2] at hR
   have w1 : IntKind.i64.wrap ((k : Int) + -1) = (k : Int) + -1 := wr64 (by omega)
   by_cases hb8 : 8192 < b.length
   · have hb8' : (8192 : Int) < b.length := by omega
     rw [if_pos hb8] at hR
     simp [go_sem, hfb, hb8']
     exact ret_drop (by simp [go_sem]) hJ.acc.ext ⟨by simp only [go_sem]; exact he 3 hR.symm, rfl⟩
   · have hb8' : ¬ (8192 : Int) < b.length := by omega
     rw [if_neg hb8] at hR
     simp [go_sem, hfb, hb8', w1]
     refine ⟨fun h => absurd h (by omega), fun _ => ?_⟩
     exact ret_drop (by simp [go_sem]) hJ.acc.ext ⟨by simp only [go_sem]; exact he 10 hR.symm, rfl⟩
 · rw [h2]
   rw [prs_at h3 h4] at hR
   rw [List.length_drop] at h1
   have w1 : IntKind.i64.wrap ((k : Int) + (n : Int)) = ((k + n : Nat) : Int) := by rw [wr64 (by omega)]; omega
   have hpe : pieceB b k (k + n) = (b.drop k).take n := by rw [piece_eq]; congr 1; omega
   by_cases h8 : 8192 ≤ k + n
   · have h8' : (8192 : Int) ≤ (k : Int) + (n : Int) := by omega
     rw [if_pos h8] at hR
     simp [go_sem, hfb, w1, h8']
     exact ret_drop (by simp [go_sem]) hJ.acc.ext ⟨by simp only [go_sem]; exact he 3 hR.symm, rfl⟩
   · have h8' : ¬ (8192 : Int) ≤ (k : Int) + (n : Int) := by omega
     rw [if_neg h8] at hR
     have eL : List.drop k (List.take ((k : Int) + (n : Int)).toNat (List.map (toByte ∘ byteV) b)) = (b.drop k).take n := by
       rw [tbB, List.map_id, show ((k : Int) + (n : Int)).toNat = k + n by omega]
       exact hpe
     have hln : ((b.drop k).take n).length ≤ 100000 := by simp; omega
     simp [go_sem, hfb, w1, h8']
     refine ⟨⟨by omega, by omega⟩, piece_u8 b k _, ?_⟩
     rw [eL]
     generalize (b.drop k).take n = ln at *
     refine callK_pure (Tryd.CutSuffix_p ln 13 (by omega) _) ?_
     by_cases hx : ln.getLast? = some 13
     · have hcs : cutS ln 13 = (ln.dropLast, true) := if_pos hx
       have hdl : ln.dropLast.length ≤ 100000 := by simp; omega
       rw [hcs]
       unfold lineOk at hR
       rw [decide_eq_true hx, Bool.true_and] at hR
       simp [go_sem, hfb]
       generalize ln.dropLast = s at *
       refine gK_pure (Tryd.Contains_p hmk s 13) (by simp) (by simp [go_sem]) ?_
       by_cases hr : (13 : UInt8) ∈ s
       · rw [if_neg (by simp [hr])] at hR
         simp [go_sem, hfb, hr]
         exact ret_drop (by simp [go_sem]) hJ.acc.ext ⟨by simp only [go_sem]; exact he 6 hR.symm, rfl⟩
       rw [if_pos (by simp [hr])] at hR
       have w2 := wr_succ (k := n) (by omega)
       have w3 : IntKind.i64.wrap ((k : Int) + ((n : Int) + 1)) = (((k + n + 1 : Nat) : Int)) := by rw [wr64 (by omega)]; omega
       by_cases hs0 : s = []
       · rw [if_pos hs0] at hR
         simp [go_sem, hfb, hr, w2, w3, hs0]
         refine ret_frz 2 (by simp [go_sem]) hJ.acc.ext ⟨?_, rfl⟩
         simp [go_sem, ← hR, prsV]
         exact wk_tup3 (acc_frz1 hJ.acc (by decide)) (by simpa using Wk.refl _) (Wk.refl _)
       rw [if_neg hs0] at hR
       simp [go_sem, hfb, hr, w2, w3, hs0]
       refine callK_pure (Tryd.Cut_p hmk s 58 (by omega)) ?_
       have hcl := cutC_len s 58
       have hlf : lineF s = if ((cutC s 58).2.2 && tokB (cutC s 58).1 && plainB (cutC s 58).2.1) = true then some ((cutC s 58).1, trimB (cutC s 58).2.1) else none := rfl
       generalize cutC s 58 = ct at *
       obtain ⟨nm, vl, isf⟩ := ct
       dsimp only at hcl hlf ⊢
       have hol := hJ.ol
       cases isf
       · rw [if_neg (by simp)] at hlf
         rw [hlf] at hR
         simp [go_sem, hfb]
         refine gK_off (.bool false) (by simp [go_sem]) ?_
         simp [go_sem, hfb]
         refine gK_off (.bool false) (by simp [go_sem]) ?_
         simp [go_sem, hfb]
         exact ret_drop (by simp [go_sem]) hJ.acc.ext ⟨by simp only [go_sem]; exact he 6 hR.symm, rfl⟩
       simp [go_sem, hfb]
       refine gK_pure (Tryd.Token_c nm (by omega) _) (by simp) (by simp [go_sem]) ?_
       cases hT : tokB nm
       · rw [if_neg (by simp [hT])] at hlf
         rw [hlf] at hR
         simp [go_sem, hfb]
         refine gK_off (.bool false) (by simp [go_sem]) ?_
         simp [go_sem, hfb]
         exact ret_drop (by simp [go_sem]) hJ.acc.ext ⟨by simp only [go_sem]; exact he 6 hR.symm, rfl⟩
       simp [go_sem, hfb]
       refine gK_pure (Tryd.plain_p hmk vl) (by simp) (by simp [go_sem]) ?_
       cases hP : plainB vl
       · rw [if_neg (by simp [hP])] at hlf
         rw [hlf] at hR
         simp [go_sem, hfb]
         exact ret_drop (by simp [go_sem]) hJ.acc.ext ⟨by simp only [go_sem]; exact he 6 hR.symm, rfl⟩
       rw [if_pos (by simp [hT, hP])] at hlf
       rw [hlf] at hR
       simp [go_sem, hfb]
       refine callK_pure (Tryd.Trim_p hmk vl (by omega)) ?_
       have htl := trimB_len vl
       simp only [] at hR
       generalize trimB vl = tv at *
       by_cases h2 : 2000 < tv.length
       · have h2' : (2000 : Int) < tv.length := by omega
         rw [if_pos (.inl h2)] at hR
         simp [go_sem, hfb, h2']
         exact ret_drop (by simp [go_sem]) hJ.acc.ext ⟨by simp only [go_sem]; exact he 3 hR.symm, rfl⟩
       have h2' : ¬ (2000 : Int) < tv.length := by omega
       by_cases h1 : out.length = 100
       · rw [if_pos (.inr h1)] at hR
         obtain ⟨b5, g0, g2, g3⟩ := hJ.acc.row (by intro e; have := congrArg List.length e; simp [h1] at this)
         subst g2
         simp [go_sem, hfb, h2', h1]
         exact ret_drop (by simp [go_sem]) hJ.acc.ext ⟨by simp only [go_sem]; exact he 3 hR.symm, rfl⟩
       have h1' : ¬ (out.length : Int) = 100 := by omega
       rw [if_neg (by rintro (h | h); exact h2 h; exact h1 h)] at hR
       have hJ2 := hJ.acc.is
       rcases hJ2 with ⟨g1, g2⟩ | ⟨b5, g0, g2, g3⟩
       · subst g2
         simp [go_sem, hfb, h2']
         intro b2 hb2
         refine acc_append (es := out.map fdV) (news := [fdV (nm, tv)]) (e := 34) (sz := 2) (.agg #[.string ⟨#[]⟩, .string ⟨#[]⟩]) hJ.acc ((Ext.refl _).new hb2 _) (by simp [finB_upd, hfb]) Tryd.knd24 Tryd.tsz34 (by simp [go_sem, srcEls, upd_eq, fdV]) Tryd.tzero34 (by simp [go_sem, fdV]) (by decide) (by simp [Tryd.tby34] <;> omega) (by simp <;> omega) (by simp [go_sem, fdV]) ?_
         intro v' bx3 ha'
         simp [go_sem, ha'.fin, ha'.cells]
         have e1 : out.map fdV ++ [fdV (nm, tv)] = (out ++ [(nm, tv)]).map fdV := by simp
         rw [e1] at ha'
         have hR2 : prs b.length (k + n + 1) (out ++ [(nm, tv)]) (b.drop (k + n + 1)) = parseF b := by
           rw [← hR, List.drop_drop, Nat.add_assoc]
         exact ⟨(k + n + 1, out ++ [(nm, tv)], v', bx3), ⟨by dsimp only; omega, by dsimp only; omega, by simp; omega, hR2, ha'⟩, cov_look (by simp [go_sem, fdV]), by dsimp only; omega⟩
       · rw [List.length_map] at g2
         subst g2
         simp [go_sem, hfb, h2', h1']
         intro b2 hb2
         refine acc_append (es := out.map fdV) (news := [fdV (nm, tv)]) (e := 34) (sz := 2) (.agg #[.string ⟨#[]⟩, .string ⟨#[]⟩]) hJ.acc ((Ext.refl _).new hb2 _) (by simp [finB_upd, hfb]) Tryd.knd24 Tryd.tsz34 (by simp [go_sem, srcEls, upd_eq, fdV]) Tryd.tzero34 (by simp [go_sem, fdV]) (by decide) (by simp [Tryd.tby34] <;> omega) (by simp <;> omega) (by simp [go_sem, fdV]) ?_
         intro v' bx3 ha'
         simp [go_sem, ha'.fin, ha'.cells]
         have e1 : out.map fdV ++ [fdV (nm, tv)] = (out ++ [(nm, tv)]).map fdV := by simp
         rw [e1] at ha'
         have hR2 : prs b.length (k + n + 1) (out ++ [(nm, tv)]) (b.drop (k + n + 1)) = parseF b := by
           rw [← hR, List.drop_drop, Nat.add_assoc]
         exact ⟨(k + n + 1, out ++ [(nm, tv)], v', bx3), ⟨by dsimp only; omega, by dsimp only; omega, by simp; omega, hR2, ha'⟩, cov_look (by simp [go_sem, fdV]), by dsimp only; omega⟩
     · have hcs : cutS ln 13 = (ln, false) := if_neg hx
       rw [hcs]
       have hlo : lineOk ln = false := by unfold lineOk; simp [hx]
       rw [hlo, if_neg (by simp)] at hR
       simp [go_sem, hfb]
       refine gK_off (.bool false) (by simp [go_sem]) ?_
       simp [go_sem, hfb]
       exact ret_drop (by simp [go_sem]) hJ.acc.ext ⟨by simp only [go_sem]; exact he 6 hR.symm, rfl⟩
end Go.Proofs

set_option linter.unusedVariables false
set_option linter.unusedSimpArgs false
set_option maxRecDepth 100000
namespace Go.Proofs
open Go Go.Pl Go.RowKit Go.Shelf
def Tryd.layIBS_ren : Ren := { f := fun x => match x with | 137 => 31 | 217 => 48 | 266 => 74 | n => n, t := fun x => match x with | 9 => 9 | 5 => 5 | 3 => 3 | n => n, g := fun x => x }
theorem Tryd.layIBS : Lays.n137 Tryd.prog Tryd.layIBS_ren where
 mixed := by kernel_rfl
 f137 := Tryd.func31.trans (congrArg some (by kernel_rfl))
 f217 := Tryd.func48.trans (congrArg some (by kernel_rfl))
 f266 := Tryd.func74.trans (congrArg some (by kernel_rfl))
 t3 := Tryd.underlying3
 a3 := Tryd.isAgg3
 z3 := Tryd.sizeOf3
 v3 := Tryd.zeroValue3
 t5 := Tryd.underlying5
 a5 := Tryd.isAgg5
 z5 := Tryd.sizeOf5
 v5 := Tryd.zeroValue5
 t9 := Tryd.underlying9
 a9 := Tryd.isAgg9
 z9 := Tryd.sizeOf9
 v9 := Tryd.zeroValue9
theorem Tryd.IndexS_c {bx : Boxes} (hm : Mk bx) (s : List UInt8) (c : UInt8) : PureCall Tryd.prog 31 [.str s, .int .u8 c.toNat] bx (.int .i64 (Lib.indexByte s c)) := by
 refine lift_lits (us := [.string ⟨s.toArray⟩, .int .u8 c.toNat]) (u := .int .i64 (Lib.indexByte s c)) (enters_of Tryd.func31 (by kernel_rfl) rfl) rfl (fun β w F => .int _ _) hm fun w => ?_
 refine (Any.strings_IndexByte Tryd.layIBS ⟨s.toArray⟩ c.toNat w).mono ?_
 rintro e w' ⟨rfl, rfl⟩
 exact ⟨by simp, Below.refl _ _⟩
def hexS : List UInt8 := [48, 49, 50, 51, 52, 53, 54, 55, 56, 57, 97, 98, 99, 100, 101, 102]
theorem or32 (c : UInt8) : bits .or .u8 (c.toNat : Int) 32 = (((c ||| 32 : UInt8).toNat : Nat) : Int) := by
 have key : ∀ n : Fin 256, bits .or .u8 ((n.val : Nat) : Int) 32 = (((UInt8.ofNat n.val ||| 32 : UInt8).toNat : Nat) : Int) := by decide +kernel
 have := key ⟨c.toNat, c.toNat_lt⟩
 simpa using this
theorem hex_dgt (c : UInt8) : (if c.toNat < 48 ∨ (57 < c.toNat ∧ c.toNat < 65) then (-1 : Int) else Lib.indexByte hexS (c ||| 32)) = dgt c := by
 have key : ∀ n : Fin 256, (if (UInt8.ofNat n.val).toNat < 48 ∨ (57 < (UInt8.ofNat n.val).toNat ∧ (UInt8.ofNat n.val).toNat < 65) then (-1 : Int) else Lib.indexByte hexS (UInt8.ofNat n.val ||| 32)) = dgt (UInt8.ofNat n.val) := by decide +kernel
 have := key ⟨c.toNat, c.toNat_lt⟩
 simpa using this
def formL (l : List UInt8) : Int := if l = [] then 0 else if l.getLast? = some 13 then 3 else if many l = l.length then 1 else 2
def rdB (s : CS) (fo si : Int) (dv lv : V) : Box := .row 52 9 [.agg [.int .i64 s.ph, .str [], .str [], .int .i64 s.left, trV s, dv, lv, .int .i64 fo, .int .i64 si]]
structure RD (bx0 : Boxes) (br : Nat) (s : CS) (fo si : Int) (bx : Boxes) : Prop where
 ex : ∃ bx2 dv lv, Acc (upd bx0 br (some (rdB s fo si dv lv))) 5 1 (s.data.map byteV) dv bx2 ∧ Acc bx2 5 1 (s.line.map byteV) lv bx ∧ (s.line = [] → lv = .nils)
 nb : bx0 br = none
theorem RD.ext {bx0 bx : Boxes} {br : Nat} {s : CS} {fo si : Int} (h : RD bx0 br s fo si bx) : Ext bx0 bx := by
 obtain ⟨bx2, dv, lv, h1, h2, _⟩ := h.ex
 exact (((Ext.refl _).new h.nb _).trans h1.ext).trans h2.ext
theorem RD.fin {bx0 bx : Boxes} {br : Nat} {s : CS} {fo si : Int} (h : RD bx0 br s fo si bx) : FinB bx := by
 obtain ⟨bx2, dv, lv, h1, h2, _⟩ := h.ex
 exact h2.fin
def foS (s : CS) : Int := if s.ph = 0 then formL s.line else 0
def siS (s : CS) : Int := if s.ph = 0 then (valD s.line : Int) else 0
abbrev RS (bx0 : Boxes) (br : Nat) (s : CS) (bx : Boxes) : Prop := RD bx0 br s (foS s) (siS s) bx
theorem upd_same {bx : Boxes} {b : Nat} {x : Option Box} (h : bx b = x) : upd bx b x = bx := by
 funext c
 by_cases e : c = b
 · subst e; rw [upd_eq, h]
 · rw [upd_ne _ _ e]
theorem Acc.putL {bx bx' : Boxes} {e sz : Nat} {es : List V} {v : V} {b : Nat} {x : Box} (hb : bx b = some x) (h : Acc bx e sz es v bx') (y : Box) : Acc (upd bx b (some y)) e sz es v (upd bx' b (some y)) := by
 have e1 : upd bx b (some x) = bx := upd_same hb
 rw [← e1] at h
 exact h.put y
theorem RD.of {bx0 bx2 bx3 : Boxes} {br : Nat} {s : CS} {fo si : Int} {x : Box} {dv lv : V} (nb : bx0 br = none) (h1 : Acc (upd bx0 br (some x)) 5 1 (s.data.map byteV) dv bx2) (h2 : Acc bx2 5 1 (s.line.map byteV) lv bx3) (h3 : s.line = [] → lv = .nils) :
   RD bx0 br s fo si (upd bx3 br (some (rdB s fo si dv lv))) :=
 ⟨⟨upd bx2 br _, dv, lv, h1.put _, Acc.putL h1.at h2 _, h3⟩, nb⟩
theorem RD.base {bx0 bx bx' : Boxes} {br : Nat} {s : CS} {fo si : Int} (h : RD bx0 br s fo si bx) (hn : ∀ b, b ≠ br → bx b ≠ none → bx' b = bx b) : Ext bx0 bx' := fun b hb => by
 have e : b ≠ br := fun e => hb (by rw [e]; exact h.nb)
 have h1 := h.ext b hb
 rw [hn b e (by rw [h1]; exact hb), h1]
def StepK (bx0 : Boxes) (br : Nat) (x : CS × Int) (r : V) (bx' : Boxes) : Prop := r = .int .i64 x.2 ∧ Ext bx0 bx' ∧ (x.2 = 0 → RS bx0 br x.1 bx')
end Go.Proofs

set_option linter.unusedVariables false
set_option linter.unusedSimpArgs false
set_option maxRecDepth 100000
namespace Go.Proofs
open Go Go.Pl Go.RowKit Go.Shelf
def FzS (l : List UInt8) (v : V) : Prop := (l = [] ∧ v = .nils) ∨ v = .sl 1 (l.map byteV)
theorem tbB' : toByte ∘ byteV = id := funext toByte_byteV
theorem Tryd.stateF_c {bx : Boxes} {br : Nat} {s : CS} {dv lv : V} {fo si : Int} (hbr : bx br = some (rdB s fo si dv lv)) (hd : FzS s.data dv) (hl : FzS s.line lv) :
   AbsCall Tryd.prog 21 [.ptr br 9 0 0] bx fun r bx' => r = csV s ∧ ∀ b, b ≠ br → bx' b = bx b := by
 refine Tryd.ctr21 fun hf => ?_
 unfold rdB at hbr
 simp [go_sem, Tryd.C21, hf]
 intro b2 hb2
 have hne : b2 ≠ br := fun e => by rw [e, hbr] at hb2; cases hb2
 have ht : (trV s).cells = [trV s] ∧ (trV s).strip = trV s ∧ (trV s).liveB = true := by unfold trV; split <;> exact ⟨rfl, rfl, rfl⟩
 obtain ⟨t1, t2, t3⟩ := ht
 have hfin : FinB (upd bx b2 (some (.row 38 5 [.agg [.int .i64 0, .str [], .str [], .int .i64 0, .nils]]))) := (finB_upd _ _ _).2 hf
 have fin : ∀ {X : Box} {bxF : Boxes}, bxF br = some X → (∀ c, c ≠ br → c ≠ b2 → bxF c = bx c) → Ext (upd bx br (some X)) bxF := fun h1 h2 c hc => by
   by_cases e : c = br
   · subst e; rw [upd_eq, h1]
   · rw [upd_ne _ _ e]
     rw [upd_ne _ _ e] at hc
     exact h2 c e (fun e2 => hc (by rw [e2]; exact hb2))
 have u8 : ∀ x : UInt8, isU8 (byteV x) = true := fun x => rfl
 rcases hd with ⟨hd1, rfl⟩ | rfl
 · rcases hl with ⟨hl1, rfl⟩ | rfl
   · simp [go_sem, hbr, upd_eq, upd_ne, hne, Ne.symm hne, hfin, finB_upd, hf, t1, t2, t3, tbB', u8]
     exact ret_drop (bx := upd bx br (some (Box.row 52 9 [.agg [.int .i64 s.ph, .str [], .str [], .int .i64 s.left, trV s, V.nils, V.nils, .int .i64 fo, .int .i64 si]]))) (by simp [go_sem, upd_eq]) (fin (by dsimp only; rw [upd_ne _ _ (Ne.symm hne), upd_eq]) (fun c k1 k2 => by simp [upd_ne, k1, k2])) ⟨by simp [go_sem, upd_eq, csV, hd1, hl1], fun c k => upd_ne _ _ k⟩
   · simp [go_sem, hbr, upd_eq, upd_ne, hne, Ne.symm hne, hfin, finB_upd, hf, t1, t2, t3, tbB', u8]
     exact ret_drop (bx := upd bx br (some (Box.row 52 9 [.agg [.int .i64 s.ph, .str s.line, .str [], .int .i64 s.left, trV s, V.nils, V.sl 1 (s.line.map byteV), .int .i64 fo, .int .i64 si]]))) (by simp [go_sem, upd_eq]) (fin (by dsimp only; rw [upd_ne _ _ (Ne.symm hne), upd_eq]) (fun c k1 k2 => by simp [upd_ne, k1, k2])) ⟨by simp [go_sem, upd_eq, csV, hd1], fun c k => upd_ne _ _ k⟩
 · rcases hl with ⟨hl1, rfl⟩ | rfl
   · simp [go_sem, hbr, upd_eq, upd_ne, hne, Ne.symm hne, hfin, finB_upd, hf, t1, t2, t3, tbB', u8]
     exact ret_drop (bx := upd bx br (some (Box.row 52 9 [.agg [.int .i64 s.ph, .str [], .str s.data, .int .i64 s.left, trV s, V.sl 1 (s.data.map byteV), V.nils, .int .i64 fo, .int .i64 si]]))) (by simp [go_sem, upd_eq]) (fin (by dsimp only; rw [upd_ne _ _ (Ne.symm hne), upd_eq]) (fun c k1 k2 => by simp [upd_ne, k1, k2])) ⟨by simp [go_sem, upd_eq, csV, hl1], fun c k => upd_ne _ _ k⟩
   · simp [go_sem, hbr, upd_eq, upd_ne, hne, Ne.symm hne, hfin, finB_upd, hf, t1, t2, t3, tbB', u8]
     exact ret_drop (bx := upd bx br (some (Box.row 52 9 [.agg [.int .i64 s.ph, .str s.line, .str s.data, .int .i64 s.left, trV s, V.sl 1 (s.data.map byteV), V.sl 1 (s.line.map byteV), .int .i64 fo, .int .i64 si]]))) (by simp [go_sem, upd_eq]) (fin (by dsimp only; rw [upd_ne _ _ (Ne.symm hne), upd_eq]) (fun c k1 k2 => by simp [upd_ne, k1, k2])) ⟨by simp [go_sem, upd_eq, csV], fun c k => upd_ne _ _ k⟩
end Go.Proofs

set_option linter.unusedVariables false
set_option linter.unusedSimpArgs false
set_option maxRecDepth 100000
namespace Go.Proofs
open Go Go.Pl Go.RowKit Go.Shelf
theorem Tryd.state_c {bx0 bx : Boxes} {br : Nat} {s : CS} {fo si : Int} (h : RD bx0 br s fo si bx) :
   AbsCall Tryd.prog 21 [.ptr br 9 0 0] bx fun r bx' => r = csV s ∧ Ext bx0 bx' := by
 obtain ⟨bx2, dv, lv, h1, h2, h3⟩ := h.ex
 have hnb := h.nb
 have hbr : bx br = some (rdB s fo si dv lv) := by
   rw [h2.ext br (by rw [h1.at]; simp), h1.at]
 have key : ∀ (X : Box), ∃ dF lF, FzS s.data dF ∧ FzS s.line lF ∧ frz bx (upd bx0 br (some X)) 1 dv = dF ∧ frz bx (upd bx0 br (some X)) 1 lv = lF := by
   intro X
   have one : ∀ (l : List UInt8) (v : V), ((l.map byteV = [] ∧ v = .nils) ∨ ∃ b, b ≠ br ∧ bx0 b = none ∧ v = .own b 1 0 (l.map byteV).length ∧ bx b = some (.row 5 1 (l.map byteV))) → ∃ vF, FzS l vF ∧ frz bx (upd bx0 br (some X)) 1 v = vF := by
     rintro l v (⟨g1, rfl⟩ | ⟨b, g1, g2, rfl, g3⟩)
     · exact ⟨.nils, .inl ⟨by simpa using g1, rfl⟩, rfl⟩
     · exact ⟨_, .inr rfl, frz_own1 g3 (by rw [upd_ne _ _ g1]; exact g2) (by decide) rfl⟩
   obtain ⟨dF, a1, a2⟩ := one s.data dv (by
     rcases h1.is with g | ⟨b, g1, g2, g3⟩
     · exact .inl g
     · obtain ⟨n1, n2⟩ := new_ne g1
       exact .inr ⟨b, n1, n2, g2, by rw [h2.ext b (by rw [g3]; simp), g3]⟩)
   obtain ⟨lF, b1, b2⟩ := one s.line lv (by
     rcases h2.is with g | ⟨b, g1, g2, g3⟩
     · exact .inl g
     · obtain ⟨n1, n2⟩ := new_ne (h1.ext.none g1)
       exact .inr ⟨b, n1, n2, g2, g3⟩)
   exact ⟨dF, lF, a1, b1, a2, b2⟩
 have indep : ∀ (X Y : Box) (v : V), (v = dv ∨ v = lv) → frz bx (upd bx0 br (some X)) 1 v = frz bx (upd bx0 br (some Y)) 1 v := by
   intro X Y v hv
   have one : (v = .nils ∨ ∃ b n, b ≠ br ∧ v = .own b 1 0 n) → frz bx (upd bx0 br (some X)) 1 v = frz bx (upd bx0 br (some Y)) 1 v := by
     rintro (rfl | ⟨b, n, g1, rfl⟩)
     · rfl
     · simp only [frz, upd_ne _ _ g1, frz_0L]
   apply one
   rcases hv with rfl | rfl
   · rcases h1.is with ⟨_, g⟩ | ⟨b, g1, g2, g3⟩
     · exact .inl g
     · exact .inr ⟨b, _, (new_ne g1).1, g2⟩
   · rcases h2.is with ⟨_, g⟩ | ⟨b, g1, g2, g3⟩
     · exact .inl g
     · exact .inr ⟨b, _, (new_ne (h1.ext.none g1)).1, g2⟩
 obtain ⟨dF, lF, hdF, hlF, e1, e2⟩ := key (rdB s fo si .nils .nils)
 have hX1 : frz bx (upd bx0 br (some (rdB s fo si dF lF))) 1 dv = dF := (indep _ _ _ (.inl rfl)).trans e1
 have hX2 : frz bx (upd bx0 br (some (rdB s fo si dF lF))) 1 lv = lF := (indep _ _ _ (.inr rfl)).trans e2
 have ht : ∀ X : Box, frz bx (upd bx0 br (some X)) 1 (trV s) = trV s := fun X => by unfold trV; split <;> rfl
 refine (AbsCall.thaw (bx' := upd bx0 br (some (rdB s fo si dF lF))) (br := br) (sz := 9) (ty := 52) (by decide) hbr ?_ (fun b hb => ?_) (Tryd.stateF_c (upd_eq _ _ _) hdF hlF)).mono ?_
 · rw [upd_eq]
   simp only [List.map_cons, List.map_nil, hX1, hX2, ht, frz_int, frz_str]
   rfl
 · rw [upd_ne _ _ hb]
   by_cases g : bx0 b = none
   · exact .inl g
   · exact .inr (h.ext b g).symm
 · rintro r bx' ⟨rfl, g⟩
   refine ⟨rfl, fun b hb => ?_⟩
   have hne : b ≠ br := fun e => hb (by rw [e]; exact hnb)
   rw [g b hne, upd_ne _ _ hne]
theorem Tryd.begin_c {bx0 : Boxes} {br : Nat} (hb : bx0 br = none) :
   AbsCall Tryd.prog 30 [.ptr br 9 0 0] (upd bx0 br (some (rdB st0 0 0 .nils .nils))) fun r bx' => r = .bool true ∧ RS bx0 br st0 bx' := by
 refine Tryd.ctr30 fun hf => ?_
 have hf0 : FinB bx0 := (finB_upd _ _ _).1 hf
 have e0 : rdB st0 0 0 .nils .nils = .row 52 9 [.agg [.int .i64 0, .str [], .str [], .int .i64 0, .nils, .nils, .nils, .int .i64 0, .int .i64 0]] := rfl
 rw [e0] at hf ⊢
 simp [go_sem, Tryd.C30, hf, upd_eq, finB_upd, hf0, cvtP]
 intro b hb1
 obtain ⟨n1, n2⟩ := new_ne hb1
 simp [go_sem, hf, hf0, upd_eq, upd_ne, n1, Ne.symm n1, finB_upd]
 have hff : FinB (upd (upd (upd bx0 br (some (.row 52 9 [.agg [.int .i64 0, .str [], .str [], .int .i64 0, .nils, .nils, .nils, .int .i64 0, .int .i64 0]]))) b (some (.row 5 1 []))) br (some (.row 52 9 [.agg [.int .i64 0, .str [], .str [], .int .i64 0, .nils, .own b 1 0 0, .nils, .int .i64 0, .int .i64 0]]))) := by simp [finB_upd, hf0]
 refine pw_upto 0 (fun _ => ⟨53, slk [(0, .ptr br 9 0 0), (3, .str []), (34, .int .i64 0), (35, .int .i64 0)], upd (upd (upd bx0 br (some (.row 52 9 [.agg [.int .i64 0, .str [], .str [], .int .i64 0, .nils, .nils, .nils, .int .i64 0, .int .i64 0]]))) b (some (.row 5 1 []))) br (some (.row 52 9 [.agg [.int .i64 0, .str [], .str [], .int .i64 0, .nils, .own b 1 0 0, .nils, .int .i64 0, .int .i64 0]]))⟩) (cov_look (by simp [go_sem])) (fun k hk => absurd hk (by omega)) (fun N => ?_)
 simp [go_sem, Tryd.L30_0, hff]
 have hd := acc_new hb1 hf 5 1 [] 0 rfl
 have hrd := RD.of (s := st0) (fo := 0) (si := 0) hb hd (acc_nil hd.fin 5 1) (fun _ => rfl)
 exact ret_keep (by simp [go_sem]) ⟨by simp [go_sem], hrd⟩
theorem Tryd.open_c (bx : Boxes) :
   AbsCall Tryd.prog 16 [csV st0] bx fun r bx' => ∃ br, r = .tup [.ptr br 9 0 0, .int .i64 0] ∧ RS bx br st0 bx' := by
 refine Tryd.ctr16 fun hf => ?_
 have e0 : csV st0 = .agg [.int .i64 0, .str [], .str [], .int .i64 0, .nils] := rfl
 rw [e0]
 simp [go_sem, Tryd.C16, hf]
 intro br hbr
 refine gK_cases (fun _ => ⟨trivial, by simp [go_sem], callK_abs (Tryd.begin_c hbr) ?_⟩) (fun h => by cases h)
 rintro r bx' ⟨rfl, hrs⟩
 simp [go_sem, hrs.fin]
 exact ret_keep (by simp [go_sem]) ⟨br, by simp [go_sem], hrs⟩
theorem Tryd.Start_c (bx : Boxes) : PureCall Tryd.prog 12 [] bx (csV st0) := by
 refine Tryd.ctr12 fun hf => ?_
 simp [go_sem, Tryd.C12, hf]
 intro b hb
 exact ret_drop (by simp [go_sem, upd_eq]) ((Ext.refl _).new hb _) ⟨by simp [go_sem, upd_eq]; rfl, rfl⟩
end Go.Proofs

set_option linter.unusedVariables false
set_option linter.unusedSimpArgs false
set_option maxRecDepth 100000
namespace Go.Proofs
open Go Go.Pl Go.RowKit Go.Shelf
theorem Tryd.sized_c {bx0 bx : Boxes} {br : Nat} {s : CS} (h : RS bx0 br s bx) (hI : Inv s) (h0 : s.ph = 0) (hl : s.line.getLast? = some 13) :
   AbsCall Tryd.prog 32 [.ptr br 9 0 0] bx (StepK bx0 br (stepC s 10)) := by
 refine Tryd.ctr32 fun hf => ?_
 obtain ⟨bx2, dv, lv, h1, h2, h3⟩ := h.ex
 have hext := fun (bx' : Boxes) (hn : ∀ b, b ≠ br → bx b ≠ none → bx' b = bx b) => h.base hn
 have hnb := h.nb
 obtain ⟨g1, g2, q0, q1, q2, q3, q4, ql⟩ := hI
 obtain ⟨ph, left, tr, data, line⟩ := s
 dsimp only at g1 g2 q0 q1 q2 q3 q4 ql h0 hl h1 h2 h3
 subst h0
 have hl0 := ql (by decide)
 subst hl0
 obtain ⟨p1, p2, p3, p4⟩ := q0 rfl
 have hbr : bx br = some (rdB ⟨0, 0, tr, data, line⟩ (formL line) (valD line) dv lv) := by
   rw [h2.ext br (by rw [h1.at]; simp), h1.at]; rfl
 unfold rdB trV at hbr
 simp at hbr
 have hvb := valD_bound p2
 unfold stepC
 dsimp only
 rw [if_pos rfl, if_pos ⟨rfl, hl⟩]
 have hlen := fun bx' => acc_len (bx2 := bx') (t := 22) h1 Tryd.knd22
 simp [go_sem, h1.strip, h1.live] at hlen
 have w1 : IntKind.i64.wrap ((data.length : Int) + (valD line : Int)) = ((data.length + valD line : Nat) : Int) := by rw [wr64 (by omega)]; omega
 have hnil : Acc bx2 5 1 (([] : List UInt8).map byteV) .nils bx := ⟨h2.ext, h2.fin, .inl ⟨rfl, rfl⟩⟩
 have ho : ∀ y : Box, ∀ b, b ≠ br → bx b ≠ none → upd bx br (some y) b = bx b := fun y b hb _ => upd_ne _ _ hb
 by_cases hv : valD line = 0
 · rw [if_pos hv]
   have hv' : (valD line : Int) = 0 := by omega
   simp [go_sem, Tryd.C32, hf, hbr, upd_eq, hv, hv', h1.cells, h1.strip, h1.live, h2.cells, h2.strip, h2.live, finB_upd]
   refine ret_keep (by simp [go_sem]) ⟨by simp [go_sem], hext _ (ho _), fun _ => ?_⟩
   exact RD.of (s := ⟨3, 0, tr, data, []⟩) hnb h1 hnil fun _ => rfl
 · rw [if_neg hv]
   have hv' : ¬ (valD line : Int) = 0 := by omega
   by_cases hv6 : 65536 < data.length + valD line
   · rw [if_pos hv6]
     have hv6' : (65536 : Int) < ((data.length + valD line : Nat) : Int) := by omega
     simp [go_sem, Tryd.C32, hf, hbr, upd_eq, hv, hv', h1.cells, h1.strip, h1.live, h2.cells, h2.strip, h2.live, finB_upd, hlen, w1, hv6']
     refine ⟨fun _ => ret_keep (by simp [go_sem]) ⟨by simp [go_sem], hext _ (ho _), fun h => (by cases h)⟩, fun h => absurd h (by omega)⟩
   · rw [if_neg hv6]
     have hv6' : ¬ (65536 : Int) < ((data.length + valD line : Nat) : Int) := by omega
     simp [go_sem, Tryd.C32, hf, hbr, upd_eq, hv, hv', h1.cells, h1.strip, h1.live, h2.cells, h2.strip, h2.live, finB_upd, hlen, w1, hv6']
     refine ⟨fun h => absurd h (by omega), fun _ => ret_keep (by simp [go_sem]) ⟨by simp [go_sem], hext _ (ho _), fun _ => ?_⟩⟩
     exact RD.of (s := ⟨1, valD line, tr, data, []⟩) hnb h1 hnil fun _ => rfl
end Go.Proofs

set_option linter.unusedVariables false
set_option linter.unusedSimpArgs false
set_option maxRecDepth 100000
namespace Go.Proofs
open Go Go.Pl Go.RowKit Go.Shelf
set_option maxHeartbeats 8000000 in
theorem Tryd.inSize_c {bx0 bx : Boxes} (hm : Mk bx0) {br : Nat} {s : CS} (c : UInt8) (h : RS bx0 br s bx) (hI : Inv s) (h0 : s.ph = 0) :
   AbsCall Tryd.prog 17 [.ptr br 9 0 0, .int .u8 c.toNat] bx (StepK bx0 br (stepC s c)) := by
 refine Tryd.ctr17 fun hf => ?_
 have hmb := mk_ext hm h.ext
 have hfull := h
 have hIfull := hI
 obtain ⟨bx2, dv, lv, h1, h2, h3⟩ := h.ex
 have hext := fun (bx' : Boxes) (hn : ∀ b, b ≠ br → bx b ≠ none → bx' b = bx b) => h.base hn
 have hnb := h.nb
 obtain ⟨g1, g2, q0, q1, q2, q3, q4, ql⟩ := hI
 obtain ⟨ph, left, tr, data, line⟩ := s
 dsimp only at g1 g2 q0 q1 q2 q3 q4 ql h0 h1 h2 h3
 subst h0
 have hl0 := ql (by decide)
 subst hl0
 obtain ⟨p1, p2, p3, p4⟩ := q0 rfl
 have hbr : bx br = some (rdB ⟨0, 0, tr, data, line⟩ (formL line) (valD line) dv lv) := by
   rw [h2.ext br (by rw [h1.at]; simp), h1.at]; rfl
 unfold rdB trV at hbr
 simp at hbr
 have hvb := valD_bound p2
 have hlen := fun bx' => acc_len (bx2 := bx') (t := 22) h2 Tryd.knd22
 simp [go_sem, h2.strip, h2.live] at hlen
 have ho : ∀ y : Box, ∀ b, b ≠ br → bx b ≠ none → upd bx br (some y) b = bx b := fun y b hb _ => upd_ne _ _ hb
 have e10 := u8_eq (c := c) 10
 have e13 := u8_eq (c := c) 13
 have e59 := u8_eq (c := c) 59
 rw [show ((10 : UInt8).toNat : Int) = 10 from rfl] at e10
 rw [show ((13 : UInt8).toNat : Int) = 13 from rfl] at e13
 rw [show ((59 : UInt8).toNat : Int) = 59 from rfl] at e59
 have cI := Tryd.IndexS_c hmb hexS (c ||| 32)
 unfold hexS at cI
 rw [← or32] at cI
 simp [go_sem, Tryd.C17, hf]
 refine callK_pure cI ?_
 have hdg := hex_dgt c
 unfold hexS at hdg
 generalize Lib.indexByte [48, 49, 50, 51, 52, 53, 54, 55, 56, 57, 97, 98, 99, 100, 101, 102] (c ||| 32) = ix at *
 generalize hpost : StepK bx0 br (stepC ⟨0, 0, tr, data, line⟩ c) = Q
 by_cases hlast : line.getLast? = some 13
 · have hne : line ≠ [] := fun e => by rw [e] at hlast; cases hlast
   have hF : formL line = 3 := by unfold formL; rw [if_neg hne, if_pos hlast]
   rw [hF] at hbr
   by_cases k10 : (c.toNat : Int) = 10
   · have k48 : (c.toNat : Int) < 48 := by omega
     obtain rfl := e10.2 k10
     subst hpost
     simp [go_sem, hf, hbr, upd_eq, h2.cells, h2.strip, h2.live, h1.cells, h1.strip, h1.live]
     refine callK_abs (Tryd.sized_c hfull hIfull rfl hlast) ?_
     rintro r bx3 ⟨rfl, hx1, hx2⟩
     simp [go_sem]
     exact ret_keep (by simp [go_sem]) ⟨by simp [go_sem], hx1, hx2⟩
   · have k10' : ¬ c = 10 := fun e => k10 (e10.1 e)
     have hst : stepC ⟨0, 0, tr, data, line⟩ c = (⟨0, 0, tr, data, line ++ [c]⟩, moreC line c) := by
       unfold stepC
       dsimp only
       rw [if_pos rfl, if_neg (fun h => k10' h.1)]
     have hmo : moreC line c = 6 := by
       unfold moreC
       rw [if_pos hlast]
     rw [hst, hmo] at hpost
     subst hpost
     by_cases k48 : (c.toNat : Int) < 48
     · simp [go_sem, hf, hbr, upd_eq, k48, k10]
       exact ret_keep (by simp [go_sem]) ⟨by simp [go_sem], hfull.ext, fun h => (by cases h)⟩
     · by_cases k57 : (57 : Int) < c.toNat
       · by_cases k65 : (c.toNat : Int) < 65
         · simp [go_sem, hf, hbr, upd_eq, k48, k57, k65, k10]
           exact ret_keep (by simp [go_sem]) ⟨by simp [go_sem], hfull.ext, fun h => (by cases h)⟩
         · simp [go_sem, hf, hbr, upd_eq, k48, k57, k65, k10]
           exact ret_keep (by simp [go_sem]) ⟨by simp [go_sem], hfull.ext, fun h => (by cases h)⟩
       · simp [go_sem, hf, hbr, upd_eq, k48, k57, k10]
         exact ret_keep (by simp [go_sem]) ⟨by simp [go_sem], hfull.ext, fun h => (by cases h)⟩
 have hst : stepC ⟨0, 0, tr, data, line⟩ c = (⟨0, 0, tr, data, line ++ [c]⟩, moreC line c) := by
   unfold stepC
   dsimp only
   rw [if_pos rfl, if_neg (fun h => hlast h.2)]
 have eD : isD c = true ↔ 0 ≤ dgt c := by unfold isD; simp
 by_cases hl0 : line = []
 · have hF : formL line = 0 := by rw [hl0]; rfl
   have cm0 : many line = 0 := by rw [hl0]; rfl
   have cm : many line = line.length := by rw [hl0]; rfl
   have hvl : valD line = 0 := by rw [hl0]; rfl
   have hll : line.length = 0 := by rw [hl0]; rfl
   have c200 : ¬ 200 ≤ line.length := by omega
   have c200I : ¬ (200 : Int) ≤ line.length := by omega
   rw [hF] at hbr
   by_cases k48 : (c.toNat : Int) < 48
   · have hd : dgt c = -1 := by rw [← hdg]; rw [if_pos (by omega)]
     have hdN : dgt c < 0 := by omega
     have hD : isD c = false := by unfold isD; simp; omega
     have k59 : ¬ (c.toNat : Int) = 59 := by omega
     have k59' : ¬ c = 59 := fun e => k59 (e59.1 e)
     by_cases k13 : (c.toNat : Int) = 13
     · have k13' := e13.2 k13
       have hmo : moreC line c = 6 := by
         unfold moreC
         rw [if_neg hlast, if_pos k13', if_pos cm0]
       rw [hst, hmo] at hpost
       subst hpost
       simp [go_sem, hf, hbr, upd_eq, upd_ne, finB_upd, k48, k13, h2.cells, h2.strip, h2.live, h1.cells, h1.strip, h1.live, hlen]
       exact ret_keep (by simp [go_sem]) ⟨by simp [go_sem], hfull.ext, fun h => (by cases h)⟩
     · have k13' : ¬ c = 13 := fun e => k13 (e13.1 e)
       have hmo : moreC line c = 6 := by
         unfold moreC
         rw [if_neg hlast, if_neg k13', if_pos cm, if_neg (by simp [hD]), if_neg (fun h => k59' h.1)]
       rw [hst, hmo] at hpost
       subst hpost
       simp [go_sem, hf, hbr, upd_eq, upd_ne, finB_upd, k48, k13, k59, h2.cells, h2.strip, h2.live, h1.cells, h1.strip, h1.live, hlen]
       exact ret_keep (by simp [go_sem]) ⟨by simp [go_sem], hfull.ext, fun h => (by cases h)⟩
   by_cases k57 : (57 : Int) < c.toNat
   · by_cases k65 : (c.toNat : Int) < 65
     · have hd : dgt c = -1 := by rw [← hdg]; rw [if_pos (by omega)]
       have hdN : dgt c < 0 := by omega
       have hD : isD c = false := by unfold isD; simp; omega
       have k13 : ¬ (c.toNat : Int) = 13 := by omega
       have k13' : ¬ c = 13 := fun e => k13 (e13.1 e)
       by_cases k59 : (c.toNat : Int) = 59
       · have k59' := e59.2 k59
         have hmo : moreC line c = 6 := by
           unfold moreC
           rw [if_neg hlast, if_neg k13', if_pos cm, if_neg (by simp [hD]), if_neg (fun h => h.2 cm0)]
         rw [hst, hmo] at hpost
         subst hpost
         simp [go_sem, hf, hbr, upd_eq, upd_ne, finB_upd, k48, k57, k65, k13, k59, h2.cells, h2.strip, h2.live, h1.cells, h1.strip, h1.live, hlen]
         exact ret_keep (by simp [go_sem]) ⟨by simp [go_sem], hfull.ext, fun h => (by cases h)⟩
       · have k59' : ¬ c = 59 := fun e => k59 (e59.1 e)
         have hmo : moreC line c = 6 := by
           unfold moreC
           rw [if_neg hlast, if_neg k13', if_pos cm, if_neg (by simp [hD]), if_neg (fun h => k59' h.1)]
         rw [hst, hmo] at hpost
         subst hpost
         simp [go_sem, hf, hbr, upd_eq, upd_ne, finB_upd, k48, k57, k65, k13, k59, h2.cells, h2.strip, h2.live, h1.cells, h1.strip, h1.live, hlen]
         exact ret_keep (by simp [go_sem]) ⟨by simp [go_sem], hfull.ext, fun h => (by cases h)⟩
     · have hd : dgt c = ix := by rw [← hdg]; rw [if_neg (by omega)]
       rw [← hd]
       by_cases hd0 : 0 ≤ dgt c
       · have k13 : ¬ (c.toNat : Int) = 13 := by rintro e; rw [e13.2 e] at hd0; exact absurd hd0 (by decide)
         have k13' : ¬ c = 13 := fun e => k13 (e13.1 e)
         have k10 : ¬ (c.toNat : Int) = 10 := by rintro e; rw [e10.2 e] at hd0; exact absurd hd0 (by decide)
         have hdN : ¬ dgt c < 0 := by omega
         obtain ⟨md1, md2⟩ := many_dig cm (eD.2 hd0)
         have c8 : ¬ many line = 8 := by omega
         have c8I : ¬ (line.length : Int) = 8 := by omega
         have hr := dgt_rng c
         have w1 : IntKind.i64.wrap (16 * (valD line : Int)) = 16 * (valD line : Int) := wr64 (by omega)
         have w2 : IntKind.i64.wrap (16 * (valD line : Int) + dgt c) = 16 * (valD line : Int) + dgt c := wr64 (by omega)
         have hmo : moreC line c = 0 := by
           unfold moreC
           rw [if_neg hlast, if_neg k13', if_pos cm, if_pos (eD.2 hd0), if_neg c8, if_neg c200]
         rw [hst, hmo] at hpost
         subst hpost
         simp [go_sem, hf, hbr, upd_eq, upd_ne, finB_upd, k48, k57, k65, k13, hdN, hd0, c8I, c200I, w1, w2, h2.cells, h2.strip, h2.live, h1.cells, h1.strip, h1.live, hlen]
         refine acc_append (es := line.map byteV) (news := [byteV c]) (e := 5) (sz := 1) (.int .u8 0) (Acc.putL h1.at h2 (rdB ⟨0, 0, tr, data, line⟩ 1 (16 * (valD line : Int) + dgt c) dv lv)) (Ext.refl _) (by simp [finB_upd, hf]) Tryd.knd22 Tryd.tsz5 (by simp [go_sem, srcEls, byteV, k48, k57, k65, k13, hdN, hd0, c8I, c200I, w1, w2, ]) Tryd.tzero5 (by simp [go_sem]) (by decide) (by simp [Tryd.tby5]; omega) (by simp; omega) (by simp [go_sem]) ?_
         intro v' bx3 ha'
         have hb3 := ha'.ext br (by simp [upd_eq, h1.at])
         simp [upd_eq, h1.at, rdB, trV] at hb3
         have e1 : line.map byteV ++ [byteV c] = (line ++ [c]).map byteV := by simp
         rw [e1] at ha'
         simp [go_sem, hb3, upd_eq, ha'.cells, ha'.strip, ha'.live, ha'.okV, ha'.fin, h1.cells]
         have hfo : foS ⟨0, 0, tr, data, line ++ [c]⟩ = 1 := by
           unfold foS formL
           dsimp only
           rw [if_pos rfl, if_neg (by simp), List.getLast?_concat]
           rw [if_neg (by simp [k13']), md1, if_pos (by simp)]
         have hsi : siS ⟨0, 0, tr, data, line ++ [c]⟩ = (16 * (valD line : Int) + dgt c) := by
           unfold siS
           dsimp only
           rw [if_pos rfl]
           rw [md2]; unfold stepD; omega
         have hrd := RD.of (s := ⟨0, 0, tr, data, line ++ [c]⟩) (fo := 1) (si := (16 * (valD line : Int) + dgt c)) hnb (h1.put (rdB ⟨0, 0, tr, data, line⟩ 1 (16 * (valD line : Int) + dgt c) dv lv)) ha' (fun h => absurd h (by simp))
         refine ret_keep (by simp [go_sem]) ⟨by simp [go_sem], hrd.ext, fun _ => ?_⟩
         unfold RS
         rw [hfo, hsi]
         exact hrd
       · have hdN : dgt c < 0 := by omega
         have hD : isD c = false := by unfold isD; simp; omega
         have k13 : ¬ (c.toNat : Int) = 13 := by omega
         have k13' : ¬ c = 13 := fun e => k13 (e13.1 e)
         have k59 : ¬ (c.toNat : Int) = 59 := by omega
         have k59' : ¬ c = 59 := fun e => k59 (e59.1 e)
         have hmo : moreC line c = 6 := by
           unfold moreC
           rw [if_neg hlast, if_neg k13', if_pos cm, if_neg (by simp [hD]), if_neg (fun h => k59' h.1)]
         rw [hst, hmo] at hpost
         subst hpost
         simp [go_sem, hf, hbr, upd_eq, upd_ne, finB_upd, k48, k57, k65, k13, k59, hdN, hd0, h2.cells, h2.strip, h2.live, h1.cells, h1.strip, h1.live, hlen]
         exact ret_keep (by simp [go_sem]) ⟨by simp [go_sem], hfull.ext, fun h => (by cases h)⟩
   · have hd : dgt c = ix := by rw [← hdg]; rw [if_neg (by omega)]
     rw [← hd]
     have hd0 : 0 ≤ dgt c := by unfold dgt; rw [if_pos (by omega)]; omega
     have k13 : ¬ (c.toNat : Int) = 13 := by rintro e; rw [e13.2 e] at hd0; exact absurd hd0 (by decide)
     have k13' : ¬ c = 13 := fun e => k13 (e13.1 e)
     have k10 : ¬ (c.toNat : Int) = 10 := by rintro e; rw [e10.2 e] at hd0; exact absurd hd0 (by decide)
     have hdN : ¬ dgt c < 0 := by omega
     obtain ⟨md1, md2⟩ := many_dig cm (eD.2 hd0)
     have c8 : ¬ many line = 8 := by omega
     have c8I : ¬ (line.length : Int) = 8 := by omega
     have hr := dgt_rng c
     have w1 : IntKind.i64.wrap (16 * (valD line : Int)) = 16 * (valD line : Int) := wr64 (by omega)
     have w2 : IntKind.i64.wrap (16 * (valD line : Int) + dgt c) = 16 * (valD line : Int) + dgt c := wr64 (by omega)
     have hmo : moreC line c = 0 := by
       unfold moreC
       rw [if_neg hlast, if_neg k13', if_pos cm, if_pos (eD.2 hd0), if_neg c8, if_neg c200]
     rw [hst, hmo] at hpost
     subst hpost
     simp [go_sem, hf, hbr, upd_eq, upd_ne, finB_upd, k48, k57, k13, hdN, hd0, c8I, c200I, w1, w2, h2.cells, h2.strip, h2.live, h1.cells, h1.strip, h1.live, hlen]
     refine acc_append (es := line.map byteV) (news := [byteV c]) (e := 5) (sz := 1) (.int .u8 0) (Acc.putL h1.at h2 (rdB ⟨0, 0, tr, data, line⟩ 1 (16 * (valD line : Int) + dgt c) dv lv)) (Ext.refl _) (by simp [finB_upd, hf]) Tryd.knd22 Tryd.tsz5 (by simp [go_sem, srcEls, byteV, k48, k57, k13, hdN, hd0, c8I, c200I, w1, w2, ]) Tryd.tzero5 (by simp [go_sem]) (by decide) (by simp [Tryd.tby5]; omega) (by simp; omega) (by simp [go_sem]) ?_
     intro v' bx3 ha'
     have hb3 := ha'.ext br (by simp [upd_eq, h1.at])
     simp [upd_eq, h1.at, rdB, trV] at hb3
     have e1 : line.map byteV ++ [byteV c] = (line ++ [c]).map byteV := by simp
     rw [e1] at ha'
     simp [go_sem, hb3, upd_eq, ha'.cells, ha'.strip, ha'.live, ha'.okV, ha'.fin, h1.cells]
     have hfo : foS ⟨0, 0, tr, data, line ++ [c]⟩ = 1 := by
       unfold foS formL
       dsimp only
       rw [if_pos rfl, if_neg (by simp), List.getLast?_concat]
       rw [if_neg (by simp [k13']), md1, if_pos (by simp)]
     have hsi : siS ⟨0, 0, tr, data, line ++ [c]⟩ = (16 * (valD line : Int) + dgt c) := by
       unfold siS
       dsimp only
       rw [if_pos rfl]
       rw [md2]; unfold stepD; omega
     have hrd := RD.of (s := ⟨0, 0, tr, data, line ++ [c]⟩) (fo := 1) (si := (16 * (valD line : Int) + dgt c)) hnb (h1.put (rdB ⟨0, 0, tr, data, line⟩ 1 (16 * (valD line : Int) + dgt c) dv lv)) ha' (fun h => absurd h (by simp))
     refine ret_keep (by simp [go_sem]) ⟨by simp [go_sem], hrd.ext, fun _ => ?_⟩
     unfold RS
     rw [hfo, hsi]
     exact hrd
 by_cases cm : many line = line.length
 · have hF : formL line = 1 := by unfold formL; rw [if_neg hl0, if_neg hlast, if_pos cm]
   have hll : 0 < line.length := List.length_pos_iff.2 hl0
   have cm0 : ¬ many line = 0 := by omega
   have c200 : ¬ 200 ≤ line.length := by omega
   have c200I : ¬ (200 : Int) ≤ line.length := by omega
   rw [hF] at hbr
   by_cases k48 : (c.toNat : Int) < 48
   · have hd : dgt c = -1 := by rw [← hdg]; rw [if_pos (by omega)]
     have hdN : dgt c < 0 := by omega
     have hD : isD c = false := by unfold isD; simp; omega
     have k59 : ¬ (c.toNat : Int) = 59 := by omega
     have k59' : ¬ c = 59 := fun e => k59 (e59.1 e)
     by_cases k13 : (c.toNat : Int) = 13
     · have k13' := e13.2 k13
       have hmo : moreC line c = 0 := by
         unfold moreC
         rw [if_neg hlast, if_pos k13', if_neg cm0]
       rw [hst, hmo] at hpost
       subst hpost
       simp [go_sem, hf, hbr, upd_eq, upd_ne, finB_upd, k48, k13, h2.cells, h2.strip, h2.live, h1.cells, h1.strip, h1.live, hlen]
       refine acc_append (es := line.map byteV) (news := [byteV c]) (e := 5) (sz := 1) (.int .u8 0) (Acc.putL h1.at h2 (rdB ⟨0, 0, tr, data, line⟩ 3 (valD line) dv lv)) (Ext.refl _) (by simp [finB_upd, hf]) Tryd.knd22 Tryd.tsz5 (by simp [go_sem, srcEls, byteV, k48, k13, ]) Tryd.tzero5 (by simp [go_sem]) (by decide) (by simp [Tryd.tby5]; omega) (by simp; omega) (by simp [go_sem]) ?_
       intro v' bx3 ha'
       have hb3 := ha'.ext br (by simp [upd_eq, h1.at])
       simp [upd_eq, h1.at, rdB, trV] at hb3
       have e1 : line.map byteV ++ [byteV c] = (line ++ [c]).map byteV := by simp
       rw [e1] at ha'
       simp [go_sem, hb3, upd_eq, ha'.cells, ha'.strip, ha'.live, ha'.okV, ha'.fin, h1.cells]
       have hfo : foS ⟨0, 0, tr, data, line ++ [c]⟩ = 3 := by
         unfold foS formL
         dsimp only
         rw [if_pos rfl, if_neg (by simp), List.getLast?_concat]
         rw [k13', if_pos rfl]
       have hsi : siS ⟨0, 0, tr, data, line ++ [c]⟩ = (valD line : Int) := by
         unfold siS
         dsimp only
         rw [if_pos rfl]
         rw [(many_no (.inr (by rw [k13']; exact isD_13))).2]
       have hrd := RD.of (s := ⟨0, 0, tr, data, line ++ [c]⟩) (fo := 3) (si := (valD line : Int)) hnb (h1.put (rdB ⟨0, 0, tr, data, line⟩ 3 (valD line) dv lv)) ha' (fun h => absurd h (by simp))
       refine ret_keep (by simp [go_sem]) ⟨by simp [go_sem], hrd.ext, fun _ => ?_⟩
       unfold RS
       rw [hfo, hsi]
       exact hrd
     · have k13' : ¬ c = 13 := fun e => k13 (e13.1 e)
       have hmo : moreC line c = 6 := by
         unfold moreC
         rw [if_neg hlast, if_neg k13', if_pos cm, if_neg (by simp [hD]), if_neg (fun h => k59' h.1)]
       rw [hst, hmo] at hpost
       subst hpost
       simp [go_sem, hf, hbr, upd_eq, upd_ne, finB_upd, k48, k13, k59, h2.cells, h2.strip, h2.live, h1.cells, h1.strip, h1.live, hlen]
       exact ret_keep (by simp [go_sem]) ⟨by simp [go_sem], hfull.ext, fun h => (by cases h)⟩
   by_cases k57 : (57 : Int) < c.toNat
   · by_cases k65 : (c.toNat : Int) < 65
     · have hd : dgt c = -1 := by rw [← hdg]; rw [if_pos (by omega)]
       have hdN : dgt c < 0 := by omega
       have hD : isD c = false := by unfold isD; simp; omega
       have k13 : ¬ (c.toNat : Int) = 13 := by omega
       have k13' : ¬ c = 13 := fun e => k13 (e13.1 e)
       by_cases k59 : (c.toNat : Int) = 59
       · have k59' := e59.2 k59
         have hmo : moreC line c = 0 := by
           unfold moreC
           rw [if_neg hlast, if_neg k13', if_pos cm, if_neg (by simp [hD]), if_pos ⟨k59', cm0⟩, if_neg c200]
         rw [hst, hmo] at hpost
         subst hpost
         simp [go_sem, hf, hbr, upd_eq, upd_ne, finB_upd, k48, k57, k65, k13, k59, c200I, h2.cells, h2.strip, h2.live, h1.cells, h1.strip, h1.live, hlen]
         refine acc_append (es := line.map byteV) (news := [byteV c]) (e := 5) (sz := 1) (.int .u8 0) (Acc.putL h1.at h2 (rdB ⟨0, 0, tr, data, line⟩ 2 (valD line) dv lv)) (Ext.refl _) (by simp [finB_upd, hf]) Tryd.knd22 Tryd.tsz5 (by simp [go_sem, srcEls, byteV, k48, k57, k65, k13, k59, c200I, ]) Tryd.tzero5 (by simp [go_sem]) (by decide) (by simp [Tryd.tby5]; omega) (by simp; omega) (by simp [go_sem]) ?_
         intro v' bx3 ha'
         have hb3 := ha'.ext br (by simp [upd_eq, h1.at])
         simp [upd_eq, h1.at, rdB, trV] at hb3
         have e1 : line.map byteV ++ [byteV c] = (line ++ [c]).map byteV := by simp
         rw [e1] at ha'
         simp [go_sem, hb3, upd_eq, ha'.cells, ha'.strip, ha'.live, ha'.okV, ha'.fin, h1.cells]
         have hfo : foS ⟨0, 0, tr, data, line ++ [c]⟩ = 2 := by
           unfold foS formL
           dsimp only
           rw [if_pos rfl, if_neg (by simp), List.getLast?_concat]
           rw [if_neg (by simp [k13']), (many_no (.inr hD)).1, if_neg (by rw [List.length_append, List.length_singleton]; omega)]
         have hsi : siS ⟨0, 0, tr, data, line ++ [c]⟩ = (valD line : Int) := by
           unfold siS
           dsimp only
           rw [if_pos rfl]
           rw [(many_no (.inr hD)).2]
         have hrd := RD.of (s := ⟨0, 0, tr, data, line ++ [c]⟩) (fo := 2) (si := (valD line : Int)) hnb (h1.put (rdB ⟨0, 0, tr, data, line⟩ 2 (valD line) dv lv)) ha' (fun h => absurd h (by simp))
         refine ret_keep (by simp [go_sem]) ⟨by simp [go_sem], hrd.ext, fun _ => ?_⟩
         unfold RS
         rw [hfo, hsi]
         exact hrd
       · have k59' : ¬ c = 59 := fun e => k59 (e59.1 e)
         have hmo : moreC line c = 6 := by
           unfold moreC
           rw [if_neg hlast, if_neg k13', if_pos cm, if_neg (by simp [hD]), if_neg (fun h => k59' h.1)]
         rw [hst, hmo] at hpost
         subst hpost
         simp [go_sem, hf, hbr, upd_eq, upd_ne, finB_upd, k48, k57, k65, k13, k59, h2.cells, h2.strip, h2.live, h1.cells, h1.strip, h1.live, hlen]
         exact ret_keep (by simp [go_sem]) ⟨by simp [go_sem], hfull.ext, fun h => (by cases h)⟩
     · have hd : dgt c = ix := by rw [← hdg]; rw [if_neg (by omega)]
       rw [← hd]
       by_cases hd0 : 0 ≤ dgt c
       · have k13 : ¬ (c.toNat : Int) = 13 := by rintro e; rw [e13.2 e] at hd0; exact absurd hd0 (by decide)
         have k13' : ¬ c = 13 := fun e => k13 (e13.1 e)
         have k10 : ¬ (c.toNat : Int) = 10 := by rintro e; rw [e10.2 e] at hd0; exact absurd hd0 (by decide)
         have hdN : ¬ dgt c < 0 := by omega
         obtain ⟨md1, md2⟩ := many_dig cm (eD.2 hd0)
         by_cases c8 : many line = 8
         · have c8I : (line.length : Int) = 8 := by omega
           have hmo : moreC line c = 3 := by
             unfold moreC
             rw [if_neg hlast, if_neg k13', if_pos cm, if_pos (eD.2 hd0), if_pos c8]
           rw [hst, hmo] at hpost
           subst hpost
           simp [go_sem, hf, hbr, upd_eq, upd_ne, finB_upd, k48, k57, k65, k13, hdN, hd0, c8I, h2.cells, h2.strip, h2.live, h1.cells, h1.strip, h1.live, hlen]
           exact ret_keep (by simp [go_sem]) ⟨by simp [go_sem], hfull.ext, fun h => (by cases h)⟩
         · have c8I : ¬ (line.length : Int) = 8 := by omega
           have hr := dgt_rng c
           have w1 : IntKind.i64.wrap (16 * (valD line : Int)) = 16 * (valD line : Int) := wr64 (by omega)
           have w2 : IntKind.i64.wrap (16 * (valD line : Int) + dgt c) = 16 * (valD line : Int) + dgt c := wr64 (by omega)
           have hmo : moreC line c = 0 := by
             unfold moreC
             rw [if_neg hlast, if_neg k13', if_pos cm, if_pos (eD.2 hd0), if_neg c8, if_neg c200]
           rw [hst, hmo] at hpost
           subst hpost
           simp [go_sem, hf, hbr, upd_eq, upd_ne, finB_upd, k48, k57, k65, k13, hdN, hd0, c8I, c200I, w1, w2, h2.cells, h2.strip, h2.live, h1.cells, h1.strip, h1.live, hlen]
           refine acc_append (es := line.map byteV) (news := [byteV c]) (e := 5) (sz := 1) (.int .u8 0) (Acc.putL h1.at h2 (rdB ⟨0, 0, tr, data, line⟩ 1 (16 * (valD line : Int) + dgt c) dv lv)) (Ext.refl _) (by simp [finB_upd, hf]) Tryd.knd22 Tryd.tsz5 (by simp [go_sem, srcEls, byteV, k48, k57, k65, k13, hdN, hd0, c8I, c200I, w1, w2, ]) Tryd.tzero5 (by simp [go_sem]) (by decide) (by simp [Tryd.tby5]; omega) (by simp; omega) (by simp [go_sem]) ?_
           intro v' bx3 ha'
           have hb3 := ha'.ext br (by simp [upd_eq, h1.at])
           simp [upd_eq, h1.at, rdB, trV] at hb3
           have e1 : line.map byteV ++ [byteV c] = (line ++ [c]).map byteV := by simp
           rw [e1] at ha'
           simp [go_sem, hb3, upd_eq, ha'.cells, ha'.strip, ha'.live, ha'.okV, ha'.fin, h1.cells]
           have hfo : foS ⟨0, 0, tr, data, line ++ [c]⟩ = 1 := by
             unfold foS formL
             dsimp only
             rw [if_pos rfl, if_neg (by simp), List.getLast?_concat]
             rw [if_neg (by simp [k13']), md1, if_pos (by simp)]
           have hsi : siS ⟨0, 0, tr, data, line ++ [c]⟩ = (16 * (valD line : Int) + dgt c) := by
             unfold siS
             dsimp only
             rw [if_pos rfl]
             rw [md2]; unfold stepD; omega
           have hrd := RD.of (s := ⟨0, 0, tr, data, line ++ [c]⟩) (fo := 1) (si := (16 * (valD line : Int) + dgt c)) hnb (h1.put (rdB ⟨0, 0, tr, data, line⟩ 1 (16 * (valD line : Int) + dgt c) dv lv)) ha' (fun h => absurd h (by simp))
           refine ret_keep (by simp [go_sem]) ⟨by simp [go_sem], hrd.ext, fun _ => ?_⟩
           unfold RS
           rw [hfo, hsi]
           exact hrd
       · have hdN : dgt c < 0 := by omega
         have hD : isD c = false := by unfold isD; simp; omega
         have k13 : ¬ (c.toNat : Int) = 13 := by omega
         have k13' : ¬ c = 13 := fun e => k13 (e13.1 e)
         have k59 : ¬ (c.toNat : Int) = 59 := by omega
         have k59' : ¬ c = 59 := fun e => k59 (e59.1 e)
         have hmo : moreC line c = 6 := by
           unfold moreC
           rw [if_neg hlast, if_neg k13', if_pos cm, if_neg (by simp [hD]), if_neg (fun h => k59' h.1)]
         rw [hst, hmo] at hpost
         subst hpost
         simp [go_sem, hf, hbr, upd_eq, upd_ne, finB_upd, k48, k57, k65, k13, k59, hdN, hd0, h2.cells, h2.strip, h2.live, h1.cells, h1.strip, h1.live, hlen]
         exact ret_keep (by simp [go_sem]) ⟨by simp [go_sem], hfull.ext, fun h => (by cases h)⟩
   · have hd : dgt c = ix := by rw [← hdg]; rw [if_neg (by omega)]
     rw [← hd]
     have hd0 : 0 ≤ dgt c := by unfold dgt; rw [if_pos (by omega)]; omega
     have k13 : ¬ (c.toNat : Int) = 13 := by rintro e; rw [e13.2 e] at hd0; exact absurd hd0 (by decide)
     have k13' : ¬ c = 13 := fun e => k13 (e13.1 e)
     have k10 : ¬ (c.toNat : Int) = 10 := by rintro e; rw [e10.2 e] at hd0; exact absurd hd0 (by decide)
     have hdN : ¬ dgt c < 0 := by omega
     obtain ⟨md1, md2⟩ := many_dig cm (eD.2 hd0)
     by_cases c8 : many line = 8
     · have c8I : (line.length : Int) = 8 := by omega
       have hmo : moreC line c = 3 := by
         unfold moreC
         rw [if_neg hlast, if_neg k13', if_pos cm, if_pos (eD.2 hd0), if_pos c8]
       rw [hst, hmo] at hpost
       subst hpost
       simp [go_sem, hf, hbr, upd_eq, upd_ne, finB_upd, k48, k57, k13, hdN, hd0, c8I, h2.cells, h2.strip, h2.live, h1.cells, h1.strip, h1.live, hlen]
       exact ret_keep (by simp [go_sem]) ⟨by simp [go_sem], hfull.ext, fun h => (by cases h)⟩
     · have c8I : ¬ (line.length : Int) = 8 := by omega
       have hr := dgt_rng c
       have w1 : IntKind.i64.wrap (16 * (valD line : Int)) = 16 * (valD line : Int) := wr64 (by omega)
       have w2 : IntKind.i64.wrap (16 * (valD line : Int) + dgt c) = 16 * (valD line : Int) + dgt c := wr64 (by omega)
       have hmo : moreC line c = 0 := by
         unfold moreC
         rw [if_neg hlast, if_neg k13', if_pos cm, if_pos (eD.2 hd0), if_neg c8, if_neg c200]
       rw [hst, hmo] at hpost
       subst hpost
       simp [go_sem, hf, hbr, upd_eq, upd_ne, finB_upd, k48, k57, k13, hdN, hd0, c8I, c200I, w1, w2, h2.cells, h2.strip, h2.live, h1.cells, h1.strip, h1.live, hlen]
       refine acc_append (es := line.map byteV) (news := [byteV c]) (e := 5) (sz := 1) (.int .u8 0) (Acc.putL h1.at h2 (rdB ⟨0, 0, tr, data, line⟩ 1 (16 * (valD line : Int) + dgt c) dv lv)) (Ext.refl _) (by simp [finB_upd, hf]) Tryd.knd22 Tryd.tsz5 (by simp [go_sem, srcEls, byteV, k48, k57, k13, hdN, hd0, c8I, c200I, w1, w2, ]) Tryd.tzero5 (by simp [go_sem]) (by decide) (by simp [Tryd.tby5]; omega) (by simp; omega) (by simp [go_sem]) ?_
       intro v' bx3 ha'
       have hb3 := ha'.ext br (by simp [upd_eq, h1.at])
       simp [upd_eq, h1.at, rdB, trV] at hb3
       have e1 : line.map byteV ++ [byteV c] = (line ++ [c]).map byteV := by simp
       rw [e1] at ha'
       simp [go_sem, hb3, upd_eq, ha'.cells, ha'.strip, ha'.live, ha'.okV, ha'.fin, h1.cells]
       have hfo : foS ⟨0, 0, tr, data, line ++ [c]⟩ = 1 := by
         unfold foS formL
         dsimp only
         rw [if_pos rfl, if_neg (by simp), List.getLast?_concat]
         rw [if_neg (by simp [k13']), md1, if_pos (by simp)]
       have hsi : siS ⟨0, 0, tr, data, line ++ [c]⟩ = (16 * (valD line : Int) + dgt c) := by
         unfold siS
         dsimp only
         rw [if_pos rfl]
         rw [md2]; unfold stepD; omega
       have hrd := RD.of (s := ⟨0, 0, tr, data, line ++ [c]⟩) (fo := 1) (si := (16 * (valD line : Int) + dgt c)) hnb (h1.put (rdB ⟨0, 0, tr, data, line⟩ 1 (16 * (valD line : Int) + dgt c) dv lv)) ha' (fun h => absurd h (by simp))
       refine ret_keep (by simp [go_sem]) ⟨by simp [go_sem], hrd.ext, fun _ => ?_⟩
       unfold RS
       rw [hfo, hsi]
       exact hrd
 · have hF : formL line = 2 := by unfold formL; rw [if_neg hl0, if_neg hlast, if_neg cm]
   have cm0 : ¬ many line = 0 := by have := many_ne p1 cm; omega
   have hml := many_le line
   rw [hF] at hbr
   by_cases k48 : (c.toNat : Int) < 48
   · have hd : dgt c = -1 := by rw [← hdg]; rw [if_pos (by omega)]
     by_cases k13 : (c.toNat : Int) = 13
     · have k13' := e13.2 k13
       have hmo : moreC line c = 0 := by
         unfold moreC
         rw [if_neg hlast, if_pos k13', if_neg cm0]
       rw [hst, hmo] at hpost
       subst hpost
       simp [go_sem, hf, hbr, upd_eq, upd_ne, finB_upd, k48, k13, h2.cells, h2.strip, h2.live, h1.cells, h1.strip, h1.live, hlen]
       refine acc_append (es := line.map byteV) (news := [byteV c]) (e := 5) (sz := 1) (.int .u8 0) (Acc.putL h1.at h2 (rdB ⟨0, 0, tr, data, line⟩ 3 (valD line) dv lv)) (Ext.refl _) (by simp [finB_upd, hf]) Tryd.knd22 Tryd.tsz5 (by simp [go_sem, srcEls, byteV, k48, k13, ]) Tryd.tzero5 (by simp [go_sem]) (by decide) (by simp [Tryd.tby5]; omega) (by simp; omega) (by simp [go_sem]) ?_
       intro v' bx3 ha'
       have hb3 := ha'.ext br (by simp [upd_eq, h1.at])
       simp [upd_eq, h1.at, rdB, trV] at hb3
       have e1 : line.map byteV ++ [byteV c] = (line ++ [c]).map byteV := by simp
       rw [e1] at ha'
       simp [go_sem, hb3, upd_eq, ha'.cells, ha'.strip, ha'.live, ha'.okV, ha'.fin, h1.cells]
       have hfo : foS ⟨0, 0, tr, data, line ++ [c]⟩ = 3 := by
         unfold foS formL
         dsimp only
         rw [if_pos rfl, if_neg (by simp), List.getLast?_concat]
         rw [k13', if_pos rfl]
       have hsi : siS ⟨0, 0, tr, data, line ++ [c]⟩ = (valD line : Int) := by
         unfold siS
         dsimp only
         rw [if_pos rfl]
         rw [(many_no (.inr (by rw [k13']; exact isD_13))).2]
       have hrd := RD.of (s := ⟨0, 0, tr, data, line ++ [c]⟩) (fo := 3) (si := (valD line : Int)) hnb (h1.put (rdB ⟨0, 0, tr, data, line⟩ 3 (valD line) dv lv)) ha' (fun h => absurd h (by simp))
       refine ret_keep (by simp [go_sem]) ⟨by simp [go_sem], hrd.ext, fun _ => ?_⟩
       unfold RS
       rw [hfo, hsi]
       exact hrd
     · have k13' : ¬ c = 13 := fun e => k13 (e13.1 e)
       by_cases k9 : (c.toNat : Int) = 9
       · have htx : txt1 c = true := by
           have e9 := u8_eq (c := c) 9
           rw [show ((9 : UInt8).toNat : Int) = 9 from rfl] at e9
           unfold txt1
           simp [e9]
           omega
         by_cases c200 : 200 ≤ line.length
         · have c200I : (200 : Int) ≤ line.length := by omega
           have hmo : moreC line c = 3 := by
             unfold moreC
             rw [if_neg hlast, if_neg k13', if_neg cm, if_pos htx, if_pos c200]
           rw [hst, hmo] at hpost
           subst hpost
           simp [go_sem, hf, hbr, upd_eq, upd_ne, finB_upd, k48, k13, k9, c200I, h2.cells, h2.strip, h2.live, h1.cells, h1.strip, h1.live, hlen]
           exact ret_keep (by simp [go_sem]) ⟨by simp [go_sem], hfull.ext, fun h => (by cases h)⟩
         · have c200I : ¬ (200 : Int) ≤ line.length := by omega
           have hmo : moreC line c = 0 := by
             unfold moreC
             rw [if_neg hlast, if_neg k13', if_neg cm, if_pos htx, if_neg c200]
           rw [hst, hmo] at hpost
           subst hpost
           simp [go_sem, hf, hbr, upd_eq, upd_ne, finB_upd, k48, k13, k9, c200I, h2.cells, h2.strip, h2.live, h1.cells, h1.strip, h1.live, hlen]
           refine acc_append (es := line.map byteV) (news := [byteV c]) (e := 5) (sz := 1) (.int .u8 0) h2 (Ext.refl _) (by simp [finB_upd, hf]) Tryd.knd22 Tryd.tsz5 (by simp [go_sem, srcEls, byteV, k48, k13, k9, c200I, ]) Tryd.tzero5 (by simp [go_sem]) (by decide) (by simp [Tryd.tby5]; omega) (by simp; omega) (by simp [go_sem]) ?_
           intro v' bx3 ha'
           have hf2 : foS ⟨0, 0, tr, data, line⟩ = 2 := by unfold foS; rw [if_pos rfl]; exact hF
           have hs2 : siS ⟨0, 0, tr, data, line⟩ = (valD line : Int) := by unfold siS; rw [if_pos rfl]
           have hb3 := ha'.ext br (by simp [upd_eq, h1.at])
           simp [upd_eq, h1.at, rdB, trV, hf2, hs2] at hb3
           have e1 : line.map byteV ++ [byteV c] = (line ++ [c]).map byteV := by simp
           rw [e1] at ha'
           simp [go_sem, hb3, upd_eq, ha'.cells, ha'.strip, ha'.live, ha'.okV, ha'.fin, h1.cells]
           have hfo : foS ⟨0, 0, tr, data, line ++ [c]⟩ = 2 := by
             unfold foS formL
             dsimp only
             rw [if_pos rfl, if_neg (by simp), List.getLast?_concat]
             rw [if_neg (by simp [k13']), (many_no (.inl cm)).1, if_neg (by rw [List.length_append, List.length_singleton]; omega)]
           have hsi : siS ⟨0, 0, tr, data, line ++ [c]⟩ = (valD line : Int) := by
             unfold siS
             dsimp only
             rw [if_pos rfl]
             rw [(many_no (.inl cm)).2]
           have hrd := RD.of (s := ⟨0, 0, tr, data, line ++ [c]⟩) (fo := 2) (si := (valD line : Int)) hnb h1 ha' (fun h => absurd h (by simp))
           refine ret_keep (by simp [go_sem]) ⟨by simp [go_sem], hrd.ext, fun _ => ?_⟩
           unfold RS
           rw [hfo, hsi]
           exact hrd
       · by_cases k32 : (c.toNat : Int) < 32
         · have htx : txt1 c = false := by
             have e9 := u8_eq (c := c) 9
             rw [show ((9 : UInt8).toNat : Int) = 9 from rfl] at e9
             unfold txt1
             simp [e9]
             omega
           have hmo : moreC line c = 6 := by
             unfold moreC
             rw [if_neg hlast, if_neg k13', if_neg cm, if_neg (by simp [htx])]
           rw [hst, hmo] at hpost
           subst hpost
           simp [go_sem, hf, hbr, upd_eq, upd_ne, finB_upd, k48, k13, k9, k32, h2.cells, h2.strip, h2.live, h1.cells, h1.strip, h1.live, hlen]
           exact ret_keep (by simp [go_sem]) ⟨by simp [go_sem], hfull.ext, fun h => (by cases h)⟩
         · have k126 : ¬ (126 : Int) < c.toNat := by omega
           have htx : txt1 c = true := by
             have e9 := u8_eq (c := c) 9
             rw [show ((9 : UInt8).toNat : Int) = 9 from rfl] at e9
             unfold txt1
             simp [e9]
             omega
           by_cases c200 : 200 ≤ line.length
           · have c200I : (200 : Int) ≤ line.length := by omega
             have hmo : moreC line c = 3 := by
               unfold moreC
               rw [if_neg hlast, if_neg k13', if_neg cm, if_pos htx, if_pos c200]
             rw [hst, hmo] at hpost
             subst hpost
             simp [go_sem, hf, hbr, upd_eq, upd_ne, finB_upd, k48, k13, k9, k32, k126, c200I, h2.cells, h2.strip, h2.live, h1.cells, h1.strip, h1.live, hlen]
             exact ret_keep (by simp [go_sem]) ⟨by simp [go_sem], hfull.ext, fun h => (by cases h)⟩
           · have c200I : ¬ (200 : Int) ≤ line.length := by omega
             have hmo : moreC line c = 0 := by
               unfold moreC
               rw [if_neg hlast, if_neg k13', if_neg cm, if_pos htx, if_neg c200]
             rw [hst, hmo] at hpost
             subst hpost
             simp [go_sem, hf, hbr, upd_eq, upd_ne, finB_upd, k48, k13, k9, k32, k126, c200I, h2.cells, h2.strip, h2.live, h1.cells, h1.strip, h1.live, hlen]
             refine acc_append (es := line.map byteV) (news := [byteV c]) (e := 5) (sz := 1) (.int .u8 0) h2 (Ext.refl _) (by simp [finB_upd, hf]) Tryd.knd22 Tryd.tsz5 (by simp [go_sem, srcEls, byteV, k48, k13, k9, k32, k126, c200I, ]) Tryd.tzero5 (by simp [go_sem]) (by decide) (by simp [Tryd.tby5]; omega) (by simp; omega) (by simp [go_sem]) ?_
             intro v' bx3 ha'
             have hf2 : foS ⟨0, 0, tr, data, line⟩ = 2 := by unfold foS; rw [if_pos rfl]; exact hF
             have hs2 : siS ⟨0, 0, tr, data, line⟩ = (valD line : Int) := by unfold siS; rw [if_pos rfl]
             have hb3 := ha'.ext br (by simp [upd_eq, h1.at])
             simp [upd_eq, h1.at, rdB, trV, hf2, hs2] at hb3
             have e1 : line.map byteV ++ [byteV c] = (line ++ [c]).map byteV := by simp
             rw [e1] at ha'
             simp [go_sem, hb3, upd_eq, ha'.cells, ha'.strip, ha'.live, ha'.okV, ha'.fin, h1.cells]
             have hfo : foS ⟨0, 0, tr, data, line ++ [c]⟩ = 2 := by
               unfold foS formL
               dsimp only
               rw [if_pos rfl, if_neg (by simp), List.getLast?_concat]
               rw [if_neg (by simp [k13']), (many_no (.inl cm)).1, if_neg (by rw [List.length_append, List.length_singleton]; omega)]
             have hsi : siS ⟨0, 0, tr, data, line ++ [c]⟩ = (valD line : Int) := by
               unfold siS
               dsimp only
               rw [if_pos rfl]
               rw [(many_no (.inl cm)).2]
             have hrd := RD.of (s := ⟨0, 0, tr, data, line ++ [c]⟩) (fo := 2) (si := (valD line : Int)) hnb h1 ha' (fun h => absurd h (by simp))
             refine ret_keep (by simp [go_sem]) ⟨by simp [go_sem], hrd.ext, fun _ => ?_⟩
             unfold RS
             rw [hfo, hsi]
             exact hrd
   by_cases k57 : (57 : Int) < c.toNat
   · by_cases k65 : (c.toNat : Int) < 65
     · have hd : dgt c = -1 := by rw [← hdg]; rw [if_pos (by omega)]
       have k13 : ¬ (c.toNat : Int) = 13 := by omega
       have k13' : ¬ c = 13 := fun e => k13 (e13.1 e)
       have k9 : ¬ (c.toNat : Int) = 9 := by omega
       have k32 : ¬ (c.toNat : Int) < 32 := by omega
       have k126 : ¬ (126 : Int) < c.toNat := by omega
       have htx : txt1 c = true := by
         have e9 := u8_eq (c := c) 9
         rw [show ((9 : UInt8).toNat : Int) = 9 from rfl] at e9
         unfold txt1
         simp [e9]
         omega
       by_cases c200 : 200 ≤ line.length
       · have c200I : (200 : Int) ≤ line.length := by omega
         have hmo : moreC line c = 3 := by
           unfold moreC
           rw [if_neg hlast, if_neg k13', if_neg cm, if_pos htx, if_pos c200]
         rw [hst, hmo] at hpost
         subst hpost
         simp [go_sem, hf, hbr, upd_eq, upd_ne, finB_upd, k48, k57, k65, k13, k9, k32, k126, c200I, h2.cells, h2.strip, h2.live, h1.cells, h1.strip, h1.live, hlen]
         exact ret_keep (by simp [go_sem]) ⟨by simp [go_sem], hfull.ext, fun h => (by cases h)⟩
       · have c200I : ¬ (200 : Int) ≤ line.length := by omega
         have hmo : moreC line c = 0 := by
           unfold moreC
           rw [if_neg hlast, if_neg k13', if_neg cm, if_pos htx, if_neg c200]
         rw [hst, hmo] at hpost
         subst hpost
         simp [go_sem, hf, hbr, upd_eq, upd_ne, finB_upd, k48, k57, k65, k13, k9, k32, k126, c200I, h2.cells, h2.strip, h2.live, h1.cells, h1.strip, h1.live, hlen]
         refine acc_append (es := line.map byteV) (news := [byteV c]) (e := 5) (sz := 1) (.int .u8 0) h2 (Ext.refl _) (by simp [finB_upd, hf]) Tryd.knd22 Tryd.tsz5 (by simp [go_sem, srcEls, byteV, k48, k57, k65, k13, k9, k32, k126, c200I, ]) Tryd.tzero5 (by simp [go_sem]) (by decide) (by simp [Tryd.tby5]; omega) (by simp; omega) (by simp [go_sem]) ?_
         intro v' bx3 ha'
         have hf2 : foS ⟨0, 0, tr, data, line⟩ = 2 := by unfold foS; rw [if_pos rfl]; exact hF
         have hs2 : siS ⟨0, 0, tr, data, line⟩ = (valD line : Int) := by unfold siS; rw [if_pos rfl]
         have hb3 := ha'.ext br (by simp [upd_eq, h1.at])
         simp [upd_eq, h1.at, rdB, trV, hf2, hs2] at hb3
         have e1 : line.map byteV ++ [byteV c] = (line ++ [c]).map byteV := by simp
         rw [e1] at ha'
         simp [go_sem, hb3, upd_eq, ha'.cells, ha'.strip, ha'.live, ha'.okV, ha'.fin, h1.cells]
         have hfo : foS ⟨0, 0, tr, data, line ++ [c]⟩ = 2 := by
           unfold foS formL
           dsimp only
           rw [if_pos rfl, if_neg (by simp), List.getLast?_concat]
           rw [if_neg (by simp [k13']), (many_no (.inl cm)).1, if_neg (by rw [List.length_append, List.length_singleton]; omega)]
         have hsi : siS ⟨0, 0, tr, data, line ++ [c]⟩ = (valD line : Int) := by
           unfold siS
           dsimp only
           rw [if_pos rfl]
           rw [(many_no (.inl cm)).2]
         have hrd := RD.of (s := ⟨0, 0, tr, data, line ++ [c]⟩) (fo := 2) (si := (valD line : Int)) hnb h1 ha' (fun h => absurd h (by simp))
         refine ret_keep (by simp [go_sem]) ⟨by simp [go_sem], hrd.ext, fun _ => ?_⟩
         unfold RS
         rw [hfo, hsi]
         exact hrd
     · have hd : dgt c = ix := by rw [← hdg]; rw [if_neg (by omega)]
       rw [← hd]
       have k13 : ¬ (c.toNat : Int) = 13 := by omega
       have k13' : ¬ c = 13 := fun e => k13 (e13.1 e)
       have k9 : ¬ (c.toNat : Int) = 9 := by omega
       have k32 : ¬ (c.toNat : Int) < 32 := by omega
       by_cases k126 : (126 : Int) < c.toNat
       · have htx : txt1 c = false := by
           have e9 := u8_eq (c := c) 9
           rw [show ((9 : UInt8).toNat : Int) = 9 from rfl] at e9
           unfold txt1
           simp [e9]
           omega
         have hmo : moreC line c = 6 := by
           unfold moreC
           rw [if_neg hlast, if_neg k13', if_neg cm, if_neg (by simp [htx])]
         rw [hst, hmo] at hpost
         subst hpost
         simp [go_sem, hf, hbr, upd_eq, upd_ne, finB_upd, k48, k57, k65, k13, k9, k32, k126, h2.cells, h2.strip, h2.live, h1.cells, h1.strip, h1.live, hlen]
         exact ret_keep (by simp [go_sem]) ⟨by simp [go_sem], hfull.ext, fun h => (by cases h)⟩
       · have htx : txt1 c = true := by
           have e9 := u8_eq (c := c) 9
           rw [show ((9 : UInt8).toNat : Int) = 9 from rfl] at e9
           unfold txt1
           simp [e9]
           omega
         by_cases c200 : 200 ≤ line.length
         · have c200I : (200 : Int) ≤ line.length := by omega
           have hmo : moreC line c = 3 := by
             unfold moreC
             rw [if_neg hlast, if_neg k13', if_neg cm, if_pos htx, if_pos c200]
           rw [hst, hmo] at hpost
           subst hpost
           simp [go_sem, hf, hbr, upd_eq, upd_ne, finB_upd, k48, k57, k65, k13, k9, k32, k126, c200I, h2.cells, h2.strip, h2.live, h1.cells, h1.strip, h1.live, hlen]
           exact ret_keep (by simp [go_sem]) ⟨by simp [go_sem], hfull.ext, fun h => (by cases h)⟩
         · have c200I : ¬ (200 : Int) ≤ line.length := by omega
           have hmo : moreC line c = 0 := by
             unfold moreC
             rw [if_neg hlast, if_neg k13', if_neg cm, if_pos htx, if_neg c200]
           rw [hst, hmo] at hpost
           subst hpost
           simp [go_sem, hf, hbr, upd_eq, upd_ne, finB_upd, k48, k57, k65, k13, k9, k32, k126, c200I, h2.cells, h2.strip, h2.live, h1.cells, h1.strip, h1.live, hlen]
           refine acc_append (es := line.map byteV) (news := [byteV c]) (e := 5) (sz := 1) (.int .u8 0) h2 (Ext.refl _) (by simp [finB_upd, hf]) Tryd.knd22 Tryd.tsz5 (by simp [go_sem, srcEls, byteV, k48, k57, k65, k13, k9, k32, k126, c200I, ]) Tryd.tzero5 (by simp [go_sem]) (by decide) (by simp [Tryd.tby5]; omega) (by simp; omega) (by simp [go_sem]) ?_
           intro v' bx3 ha'
           have hf2 : foS ⟨0, 0, tr, data, line⟩ = 2 := by unfold foS; rw [if_pos rfl]; exact hF
           have hs2 : siS ⟨0, 0, tr, data, line⟩ = (valD line : Int) := by unfold siS; rw [if_pos rfl]
           have hb3 := ha'.ext br (by simp [upd_eq, h1.at])
           simp [upd_eq, h1.at, rdB, trV, hf2, hs2] at hb3
           have e1 : line.map byteV ++ [byteV c] = (line ++ [c]).map byteV := by simp
           rw [e1] at ha'
           simp [go_sem, hb3, upd_eq, ha'.cells, ha'.strip, ha'.live, ha'.okV, ha'.fin, h1.cells]
           have hfo : foS ⟨0, 0, tr, data, line ++ [c]⟩ = 2 := by
             unfold foS formL
             dsimp only
             rw [if_pos rfl, if_neg (by simp), List.getLast?_concat]
             rw [if_neg (by simp [k13']), (many_no (.inl cm)).1, if_neg (by rw [List.length_append, List.length_singleton]; omega)]
           have hsi : siS ⟨0, 0, tr, data, line ++ [c]⟩ = (valD line : Int) := by
             unfold siS
             dsimp only
             rw [if_pos rfl]
             rw [(many_no (.inl cm)).2]
           have hrd := RD.of (s := ⟨0, 0, tr, data, line ++ [c]⟩) (fo := 2) (si := (valD line : Int)) hnb h1 ha' (fun h => absurd h (by simp))
           refine ret_keep (by simp [go_sem]) ⟨by simp [go_sem], hrd.ext, fun _ => ?_⟩
           unfold RS
           rw [hfo, hsi]
           exact hrd
   · have hd : dgt c = ix := by rw [← hdg]; rw [if_neg (by omega)]
     rw [← hd]
     have hd0 : 0 ≤ dgt c := by unfold dgt; rw [if_pos (by omega)]; omega
     have k13 : ¬ (c.toNat : Int) = 13 := by omega
     have k13' : ¬ c = 13 := fun e => k13 (e13.1 e)
     have k9 : ¬ (c.toNat : Int) = 9 := by omega
     have k32 : ¬ (c.toNat : Int) < 32 := by omega
     have k126 : ¬ (126 : Int) < c.toNat := by omega
     have htx : txt1 c = true := by
       have e9 := u8_eq (c := c) 9
       rw [show ((9 : UInt8).toNat : Int) = 9 from rfl] at e9
       unfold txt1
       simp [e9]
       omega
     by_cases c200 : 200 ≤ line.length
     · have c200I : (200 : Int) ≤ line.length := by omega
       have hmo : moreC line c = 3 := by
         unfold moreC
         rw [if_neg hlast, if_neg k13', if_neg cm, if_pos htx, if_pos c200]
       rw [hst, hmo] at hpost
       subst hpost
       simp [go_sem, hf, hbr, upd_eq, upd_ne, finB_upd, k48, k57, k13, k9, k32, k126, c200I, h2.cells, h2.strip, h2.live, h1.cells, h1.strip, h1.live, hlen]
       exact ret_keep (by simp [go_sem]) ⟨by simp [go_sem], hfull.ext, fun h => (by cases h)⟩
     · have c200I : ¬ (200 : Int) ≤ line.length := by omega
       have hmo : moreC line c = 0 := by
         unfold moreC
         rw [if_neg hlast, if_neg k13', if_neg cm, if_pos htx, if_neg c200]
       rw [hst, hmo] at hpost
       subst hpost
       simp [go_sem, hf, hbr, upd_eq, upd_ne, finB_upd, k48, k57, k13, k9, k32, k126, c200I, h2.cells, h2.strip, h2.live, h1.cells, h1.strip, h1.live, hlen]
       refine acc_append (es := line.map byteV) (news := [byteV c]) (e := 5) (sz := 1) (.int .u8 0) h2 (Ext.refl _) (by simp [finB_upd, hf]) Tryd.knd22 Tryd.tsz5 (by simp [go_sem, srcEls, byteV, k48, k57, k13, k9, k32, k126, c200I, ]) Tryd.tzero5 (by simp [go_sem]) (by decide) (by simp [Tryd.tby5]; omega) (by simp; omega) (by simp [go_sem]) ?_
       intro v' bx3 ha'
       have hf2 : foS ⟨0, 0, tr, data, line⟩ = 2 := by unfold foS; rw [if_pos rfl]; exact hF
       have hs2 : siS ⟨0, 0, tr, data, line⟩ = (valD line : Int) := by unfold siS; rw [if_pos rfl]
       have hb3 := ha'.ext br (by simp [upd_eq, h1.at])
       simp [upd_eq, h1.at, rdB, trV, hf2, hs2] at hb3
       have e1 : line.map byteV ++ [byteV c] = (line ++ [c]).map byteV := by simp
       rw [e1] at ha'
       simp [go_sem, hb3, upd_eq, ha'.cells, ha'.strip, ha'.live, ha'.okV, ha'.fin, h1.cells]
       have hfo : foS ⟨0, 0, tr, data, line ++ [c]⟩ = 2 := by
         unfold foS formL
         dsimp only
         rw [if_pos rfl, if_neg (by simp), List.getLast?_concat]
         rw [if_neg (by simp [k13']), (many_no (.inl cm)).1, if_neg (by rw [List.length_append, List.length_singleton]; omega)]
       have hsi : siS ⟨0, 0, tr, data, line ++ [c]⟩ = (valD line : Int) := by
         unfold siS
         dsimp only
         rw [if_pos rfl]
         rw [(many_no (.inl cm)).2]
       have hrd := RD.of (s := ⟨0, 0, tr, data, line ++ [c]⟩) (fo := 2) (si := (valD line : Int)) hnb h1 ha' (fun h => absurd h (by simp))
       refine ret_keep (by simp [go_sem]) ⟨by simp [go_sem], hrd.ext, fun _ => ?_⟩
       unfold RS
       rw [hfo, hsi]
       exact hrd
end Go.Proofs

set_option linter.unusedVariables false
set_option linter.unusedSimpArgs false
set_option maxRecDepth 100000
namespace Go.Proofs
open Go Go.Pl Go.RowKit Go.Shelf
theorem Tryd.inData_c {bx0 bx : Boxes} {br : Nat} {s : CS} (c : UInt8) (h : RS bx0 br s bx) (hI : Inv s) (h0 : s.ph = 1) :
   AbsCall Tryd.prog 18 [.ptr br 9 0 0, .int .u8 c.toNat] bx (StepK bx0 br (stepC s c)) := by
 refine Tryd.ctr18 fun hf => ?_
 obtain ⟨bx2, dv, lv, h1, h2, h3⟩ := h.ex
 have hnb := h.nb
 obtain ⟨g1, g2, q0, q1, q2, q3, q4, ql⟩ := hI
 obtain ⟨ph, left, tr, data, line⟩ := s
 dsimp only at g1 g2 q0 q1 q2 q3 q4 ql h0 h1 h2 h3
 subst h0
 obtain ⟨e1, e2⟩ := q1 rfl
 subst e1
 obtain rfl := h3 rfl
 have hd := h1.ext' h2.ext h2.fin
 have hbr : bx br = some (rdB ⟨1, left, tr, data, []⟩ 0 0 dv .nils) := by
   rw [h2.ext br (by rw [h1.at]; simp), h1.at]; rfl
 unfold rdB trV at hbr
 simp at hbr
 have w0 : IntKind.i64.wrap ((left : Int) - 1) = ((left - 1 : Nat) : Int) := by rw [wr64 (by omega)]; omega
 have hst : stepC ⟨1, left, tr, data, []⟩ c = (⟨if left = 1 then 2 else 1, left - 1, tr, data ++ [c], []⟩, 0) := by
   unfold stepC
   dsimp only
   rw [if_neg (by decide), if_pos rfl]
 rw [hst]
 simp [go_sem, Tryd.C18, hf, hbr, h1.cells, h1.strip, h1.live]
 refine acc_append (es := data.map byteV) (news := [byteV c]) (e := 5) (sz := 1) (.int .u8 0) hd (Ext.refl _) hf Tryd.knd22 Tryd.tsz5 (by simp [go_sem, srcEls, byteV]) Tryd.tzero5 (by simp [go_sem]) (by decide) (by simp [Tryd.tby5]; omega) (by simp; omega) (by simp [go_sem]) ?_
 intro v' bx3 ha'
 have hb3 := ha'.at
 simp [rdB, trV, foS, siS] at hb3
 have e1 : data.map byteV ++ [byteV c] = (data ++ [c]).map byteV := by simp
 rw [e1] at ha'
 have fin (s' : CS) (e1 : s'.data = data ++ [c]) (e2 : s'.line = []) (e3 : foS s' = 0) (e4 : siS s' = 0) : RS bx0 br s' (upd bx3 br (some (rdB s' 0 0 v' .nils))) := by
   have ha2 := ha'
   rw [← e1] at ha2
   have hl2 : Acc bx3 5 1 (s'.line.map byteV) .nils bx3 := by rw [e2]; exact acc_nil ha'.fin _ _
   unfold RS
   rw [e3, e4]
   exact RD.of hnb ha2 hl2 fun _ => rfl
 by_cases hl1 : left = 1
 · subst hl1
   have w00 : IntKind.i64.wrap 0 = 0 := wr64 (by omega)
   simp [go_sem, hb3, upd_eq, ha'.cells, ha'.strip, ha'.live, ha'.okV, ha'.fin, h1.cells, finB_upd, w00]
   have hrs := fin ⟨2, 0, tr, data ++ [c], []⟩ rfl rfl rfl rfl
   refine ret_keep (by simp [go_sem]) ⟨by simp [go_sem], hrs.ext, fun _ => hrs⟩
 · have hl2 : ¬ ((left - 1 : Nat) : Int) = 0 := by omega
   have hl3 : ¬ left - 1 = 0 := by omega
   simp [go_sem, hb3, upd_eq, ha'.cells, ha'.strip, ha'.live, ha'.okV, ha'.fin, h1.cells, finB_upd, w0, hl1, hl2, hl3]
   have hrs := fin ⟨1, left - 1, tr, data ++ [c], []⟩ rfl rfl rfl rfl
   refine ret_keep (by simp [go_sem]) ⟨by simp [go_sem], hrs.ext, fun _ => hrs⟩
theorem Tryd.inEnd_c {bx0 bx : Boxes} {br : Nat} {s : CS} (c : UInt8) (h : RS bx0 br s bx) (hI : Inv s) (h0 : s.ph = 2) :
   AbsCall Tryd.prog 19 [.ptr br 9 0 0, .int .u8 c.toNat] bx (StepK bx0 br (stepC s c)) := by
 refine Tryd.ctr19 fun hf => ?_
 have hfull := h
 obtain ⟨bx2, dv, lv, h1, h2, h3⟩ := h.ex
 have hnb := h.nb
 obtain ⟨g1, g2, q0, q1, q2, q3, q4, ql⟩ := hI
 obtain ⟨ph, left, tr, data, line⟩ := s
 dsimp only at g1 g2 q0 q1 q2 q3 q4 ql h0 h1 h2 h3
 subst h0
 have hl0 := ql (by decide)
 subst hl0
 have hbr : bx br = some (rdB ⟨2, 0, tr, data, line⟩ 0 0 dv lv) := by
   rw [h2.ext br (by rw [h1.at]; simp), h1.at]; rfl
 unfold rdB trV at hbr
 simp at hbr
 have e10 := u8_eq (c := c) 10
 have e13 := u8_eq (c := c) 13
 rw [show ((10 : UInt8).toNat : Int) = 10 from rfl] at e10
 rw [show ((13 : UInt8).toNat : Int) = 13 from rfl] at e13
 unfold stepC
 dsimp only
 rw [if_neg (by decide), if_neg (by decide), if_pos rfl]
 have hnil : Acc bx2 5 1 (([] : List UInt8).map byteV) .nils bx := ⟨h2.ext, h2.fin, .inl ⟨rfl, rfl⟩⟩
 rcases q2 rfl with rfl | rfl
 · obtain rfl := h3 rfl
   by_cases c13 : c = 13
   · rw [if_pos ⟨rfl, c13⟩]
     have k13 := e13.1 c13
     simp [go_sem, Tryd.C19, hf, hbr, k13, h1.cells, h1.strip, h1.live]
     intro b hb
     have hne : b ≠ br := fun e => by rw [e, hbr] at hb; cases hb
     simp [go_sem, hf, hbr, upd_eq, upd_ne, hne, Ne.symm hne, finB_upd, h1.cells]
     have hd := h1.ext' h2.ext h2.fin
     have hl := acc_new hb hf 5 1 [V.int IntKind.u8 13] 1 rfl
     have hrs : RS bx0 br ⟨2, 0, tr, data, [13]⟩ _ := RD.of (s := ⟨2, 0, tr, data, [13]⟩) (fo := 0) (si := 0) hnb hd hl fun h => by cases h
     exact ret_keep (by simp [go_sem]) ⟨by simp [go_sem], hrs.ext, fun _ => hrs⟩
   · rw [if_neg (fun h => c13 h.2), if_neg (fun h => by cases h.1)]
     have k13 : ¬ (c.toNat : Int) = 13 := fun e => c13 (e13.2 e)
     simp [go_sem, Tryd.C19, hf, hbr, k13, h1.cells, h1.strip, h1.live]
     exact ret_keep (by simp [go_sem]) ⟨by simp [go_sem], hfull.ext, fun h => (by cases h)⟩
 · rw [if_neg (fun h => by cases h.1)]
   have hlen := fun bx' => acc_len (bx2 := bx') (t := 22) h2 Tryd.knd22
   simp [go_sem, h2.strip, h2.live] at hlen
   by_cases c10 : c = 10
   · rw [if_pos ⟨rfl, c10⟩]
     have k10 := e10.1 c10
     simp [go_sem, Tryd.C19, hf, hbr, k10, upd_eq, h1.cells, h1.strip, h1.live, h2.cells, h2.strip, h2.live, hlen, finB_upd]
     have hrs : RS bx0 br ⟨0, 0, tr, data, []⟩ _ := RD.of (s := ⟨0, 0, tr, data, []⟩) (fo := 0) (si := 0) hnb h1 hnil fun _ => rfl
     exact ret_keep (by simp [go_sem]) ⟨by simp [go_sem], hrs.ext, fun _ => hrs⟩
   · rw [if_neg (fun h => c10 h.2)]
     have k10 : ¬ (c.toNat : Int) = 10 := fun e => c10 (e10.2 e)
     simp [go_sem, Tryd.C19, hf, hbr, k10, upd_eq, h1.cells, h1.strip, h1.live, h2.cells, h2.strip, h2.live, hlen, finB_upd]
     exact ret_keep (by simp [go_sem]) ⟨by simp [go_sem], hfull.ext, fun h => (by cases h)⟩
end Go.Proofs

set_option linter.unusedVariables false
set_option linter.unusedSimpArgs false
set_option maxRecDepth 100000
namespace Go.Proofs
open Go Go.Pl Go.RowKit Go.Shelf
theorem ten_flat {β β' : Beta} {w w' : World} {F F' : Nat → Prop} {u : Value} (h : Rep β w F (prsV ([], 0, 10)) u) : Rep β' w' F' (prsV ([], 0, 10)) u := by
 unfold prsV at h ⊢
 cases h with
 | tup cs us hl hr =>
   refine .tup _ us hl fun i c hc => ?_
   have := hr i c hc
   generalize us.getD i undef = x at this ⊢
   match i, hc with
   | 0, hc =>
     simp at hc
     subst hc
     cases this with
     | sl sz es A cap u hcap hmax hA hsz hcell hrep => exact Rep.sl 2 [] _ _ u (Nat.zero_le _) hmax (fun h => absurd rfl h) (fun e he => by cases he) (fun i e j c he => by simp at he) (fun i e j c he => by simp at he)
   | 1, hc =>
     simp at hc
     subst hc
     rw [this.int_inv]
     exact .int _ _
   | 2, hc =>
     simp at hc
     subst hc
     rw [this.int_inv]
     exact .int _ _
   | i + 3, hc => simp at hc
set_option maxHeartbeats 4000000 in
theorem Tryd.inTrailer_c {bx0 bx : Boxes} (hm : Mk bx0) {br : Nat} {s : CS} (c : UInt8) (h : RS bx0 br s bx) (hI : Inv s) (h0 : s.ph = 3) :
   AbsCall Tryd.prog 20 [.ptr br 9 0 0, .int .u8 c.toNat] bx (StepK bx0 br (stepC s c)) := by
 refine Tryd.ctr20 fun hf => ?_
 obtain ⟨bx2, dv, lv, h1, h2, h3⟩ := h.ex
 have hnb := h.nb
 obtain ⟨g1, g2, q0, q1, q2, q3, q4, ql⟩ := hI
 obtain ⟨ph, left, tr, data, line⟩ := s
 dsimp only at g1 g2 q0 q1 q2 q3 q4 ql h0 h1 h2 h3
 subst h0
 have hl0 := ql (by decide)
 subst hl0
 obtain ⟨p1, p2⟩ := q3 rfl
 have hbr : bx br = some (rdB ⟨3, 0, tr, data, line⟩ 0 0 dv lv) := by
   rw [h2.ext br (by rw [h1.at]; simp), h1.at]; rfl
 unfold rdB trV at hbr
 simp at hbr
 have e10 := u8_eq (c := c) 10
 rw [show ((10 : UInt8).toNat : Int) = 10 from rfl] at e10
 simp [go_sem, Tryd.C20, hf, hbr, h2.cells, h2.strip, h2.live]
 refine acc_append (es := line.map byteV) (news := [byteV c]) (e := 5) (sz := 1) (.int .u8 0) h2 (Ext.refl _) hf Tryd.knd22 Tryd.tsz5 (by simp [go_sem, srcEls, byteV]) Tryd.tzero5 (by simp [go_sem]) (by decide) (by simp [Tryd.tby5]; omega) (by simp; omega) (by simp [go_sem]) ?_
 intro v' bx3 ha'
 have hb3 := ha'.ext br (by simp [h1.at])
 simp [h1.at, rdB, trV, foS, siS] at hb3
 have e1 : line.map byteV ++ [byteV c] = (line ++ [c]).map byteV := by simp
 rw [e1] at ha'
 obtain ⟨b, hb0, rfl, hbb⟩ := ha'.row (by simp)
 rw [List.length_map] at ha'
 generalize hL : line ++ [c] = L at *
 have hLl : L.length = line.length + 1 := by rw [← hL]; simp
 have hLne : L ≠ [] := by rw [← hL]; simp
 have hrs := RD.of (s := ⟨3, 0, tr, data, L⟩) (fo := 0) (si := 0) hnb h1 ha' (fun h => absurd h hLne)
 have hbne : b ≠ br := fun e => by rw [e, hb3] at hbb; cases hbb
 have hst : stepC ⟨3, 0, tr, data, line⟩ c = if (parseF L).2.2 = 10 then (⟨3, 0, tr, data, L⟩, 0)
   else if (parseF L).2.2 ≠ 0 then (⟨4, 0, (parseF L).1, data, []⟩, (parseF L).2.2)
   else if badB (parseF L).1 = true then (⟨4, 0, (parseF L).1, data, []⟩, 6)
   else if chkL (parseF L).1 ≠ 0 then (⟨4, 0, (parseF L).1, data, []⟩, chkL (parseF L).1)
   else (⟨4, 0, (parseF L).1, data, []⟩, 0) := by
   unfold stepC
   dsimp only
   rw [if_neg (by decide), if_neg (by decide), if_neg (by decide), hL]
 rw [hst]
 have hok := parse_ok (l := L)
 have hasc := parse_asc (l := L)
 have hten := parse_ten (l := L)
 have hsnoc : ¬ c = 10 → L.length ≤ 8192 → parseF L = ([], 0, 10) := fun k1 k2 => by rw [← hL]; exact parse_snoc p1 k1 (by omega)
 have cP := fun (bx : Boxes) (hm : Mk bx) => Tryd.Parse_c hm L (by omega)
 generalize parseF L = p at *
 obtain ⟨fl, used, e⟩ := p
 dsimp only at hok hasc hten cP ⊢
 have hbase : ∀ y, Ext bx0 (upd bx2 br (some y)) := fun y => ((Ext.refl _).new hnb _).trans (h1.put y).ext
 simp [go_sem, hb3, upd_eq, ha'.fin, h1.cells, finB_upd]
 have hfo : foS ⟨3, 0, tr, data, L⟩ = 0 := rfl
 have hsi : siS ⟨3, 0, tr, data, L⟩ = 0 := rfl
 by_cases hq : ¬ (c.toNat : Int) = 10 ∧ L.length ≤ 8192
 · obtain ⟨k1, k2⟩ := hq
   have hp := hsnoc (fun h => k1 (e10.1 h)) k2
   have k2I : (L.length : Int) ≤ 8192 := by omega
   injection hp with hp1 hp2
   injection hp2 with hp2 hp3
   subst hp3
   refine ⟨fun _ _ => ret_keep (by simp [go_sem]) ⟨by simp [go_sem], hrs.ext, fun _ => ?_⟩, fun h => absurd (h k1) (by omega)⟩
   exact hrs
 refine ⟨fun k1 k2 => absurd ⟨k1, by omega⟩ hq, fun _ => ?_⟩
 have hX : ∀ X : Box, Mk (upd bx3 br (some X)) := fun X => mk_ext hm ((hbase X).trans (Acc.putL h1.at ha' X).ext)
 by_cases he10 : e = 10
 · have hp := hten he10
   obtain ⟨hp, _⟩ := hp
   injection hp with hp1 hp2
   injection hp2 with hp2 hp3
   subst hp1 hp2 hp3
   have cF : PureCall Tryd.prog 29 [.own b 1 0 L.length] (upd bx3 br (some (.row 52 9 [.agg [.int .i64 3, .str [], .str [], .int .i64 0, .nils, dv, .own b 1 0 L.length, .int .i64 0, .int .i64 0]]))) (prsV ([], 0, 10)) := by
     refine PureCall.frameM 1 (cP _ (mk_mkOf (hX _))) ?_ ten_flat
     have hbb2 : upd bx3 br (some (.row 52 9 [.agg [.int .i64 3, .str [], .str [], .int .i64 0, .nils, dv, .own b 1 0 L.length, .int .i64 0, .int .i64 0]])) b = some (.row 5 1 (L.map byteV)) := by rw [upd_ne _ _ hbne]; exact hbb
     rw [List.map_cons, List.map_nil, frz_own1 hbb2 (mkOf_row hbb2 (by decide)) (by decide) (by simp)]
   unfold prsV at cF
   refine callK_pure cF ?_
   simp [go_sem, ha'.fin, finB_upd]
   exact ret_keep (by simp [go_sem]) ⟨by simp [go_sem], hrs.ext, fun _ => hrs⟩
 have cA := fun X => AbsCall.acc1 (rest := []) (Acc.putL h1.at ha' X) (by decide) (cP _ (mk_ext hm (hbase X)))
 unfold prsV at cA
 refine callK_abs (cA (.row 52 9 [.agg [.int .i64 3, .str [], .str [], .int .i64 0, .nils, dv, .own b 1 0 L.length, .int .i64 0, .int .i64 0]])) ?_
 rintro r bx4 ⟨rfl, rfl⟩
 by_cases he0 : e = 0
 · subst he0
   obtain ⟨hs, hl⟩ := hok rfl
   have cB := fun bx => Tryd.bad_c fl (by omega) (hasc rfl) bx
   have cC := fun (X : Box) => Tryd.Check_c (mk_ext hm (hbase X)) fl hs
   simp [go_sem, h1.fin, finB_upd, upd_eq, h1.cells]
   refine callK_pure (cB _) ?_
   cases hbad : badB fl
   · simp [go_sem, h1.fin, finB_upd, upd_eq, h1.cells]
     refine callK_pure (cC _) ?_
     generalize chkL fl = k
     by_cases hk : k = 0
     · subst hk
       simp [go_sem, h1.fin, finB_upd, upd_eq, h1.cells]
       have hrd := RD.of (s := ⟨4, 0, fl, data, []⟩) (fo := 0) (si := 0) hnb h1 (acc_nil h1.fin 5 1) (fun _ => rfl)
       exact ret_keep (by simp [go_sem]) ⟨by simp [go_sem], hrd.ext, fun _ => hrd⟩
     · simp [go_sem, h1.fin, finB_upd, upd_eq, h1.cells, hk]
       exact ret_keep (by simp [go_sem]) ⟨by simp [go_sem], hbase _, fun h => absurd h hk⟩
   · simp [go_sem, h1.fin, finB_upd, upd_eq, h1.cells]
     exact ret_keep (by simp [go_sem]) ⟨by simp [go_sem], hbase _, fun h => (by cases h)⟩
 · simp [go_sem, h1.fin, finB_upd, upd_eq, h1.cells, he0, he10]
   exact ret_keep (by simp [go_sem]) ⟨by simp [go_sem], hbase _, fun h => absurd h he0⟩
end Go.Proofs

set_option linter.unusedVariables false
set_option linter.unusedSimpArgs false
set_option maxRecDepth 100000
namespace Go.Proofs
open Go Go.Pl
theorem cs0 : csV st0 = .agg [.int .i64 0, .str [], .str [], .int .i64 0, .nils] := rfl
def feedV (R : CS × Nat × Int) : V := .tup [if R.2.2 = 0 then csV R.1 else csV st0, .int .i64 R.2.1, .int .i64 R.2.2]
structure FJ (b : List UInt8) (R : CS × Nat × Int) (k : Nat) (s : CS) : Prop where
 lb : k ≤ b.length
 inv : Inv s
 eq : runC s k (b.drop k) = R
theorem run_inv : ∀ (b : List UInt8) (s : CS) (n : Nat), Inv s → (runC s n b).2.2 = 0 → Inv (runC s n b).1
 | [], s, n, h, _ => h
 | c :: b, s, n, h, h0 => by
   rw [runC] at h0 ⊢
   by_cases h4 : s.ph = 4
   · rw [if_pos h4]; exact h
   rw [if_neg h4] at h0 ⊢
   by_cases he : (stepC s c).2 ≠ 0
   · rw [if_pos he] at h0; exact absurd h0 he
   rw [if_neg he] at h0 ⊢
   exact run_inv b _ _ (step_inv h h4 (Decidable.not_not.1 he)) h0
end Go.Proofs

set_option linter.unusedVariables false
set_option linter.unusedSimpArgs false
set_option maxRecDepth 100000
namespace Go.Proofs
open Go Go.Pl Go.RowKit Go.Shelf
theorem RD.at {bx0 bx : Boxes} {br : Nat} {s : CS} {fo si : Int} (h : RD bx0 br s fo si bx) : ∃ dv lv, bx br = some (rdB s fo si dv lv) := by
 obtain ⟨bx2, dv, lv, h1, h2, h3⟩ := h.ex
 exact ⟨dv, lv, by rw [h2.ext br (by rw [h1.at]; simp), h1.at]⟩
structure IJ (bx0 : Boxes) (br : Nat) (b : List UInt8) (R : CS × Nat × Int) (k : Nat) (s : CS) (bx : Boxes) : Prop where
 j : FJ b R k s
 rs : RS bx0 br s bx
theorem extB {bx bx3 : Boxes} {b4 : Nat} {Y : Box} (hb : bx b4 = none) (hx : Ext (upd bx b4 (some Y)) bx3) (y : Option Box) : Ext bx (upd bx3 b4 y) := fun c hc => by
 have hne : c ≠ b4 := fun e => hc (by rw [e]; exact hb)
 rw [upd_ne _ _ hne, hx c (by rw [upd_ne _ _ hne]; exact hc), upd_ne _ _ hne]
set_option maxHeartbeats 4000000 in
theorem Tryd.Feed_c {bx : Boxes} (hm : Mk bx) (b : List UInt8) (hbl : b.length ≤ 100000) : PureCall Tryd.prog 11 [csV st0, .sl 1 (b.map byteV)] bx (feedV (runC st0 0 b)) := by
 refine Tryd.ctr11 fun hf => ?_
 have e0 : csV st0 = .agg [.int .i64 0, .str [], .str [], .int .i64 0, .nils] := rfl
 rw [e0]
 simp [go_sem, Tryd.C11, hf]
 intro b4 hb4
 have hX : ∀ y, Ext bx (upd bx b4 y) := fun y => (Ext.refl _).new hb4 y
 have cO := Tryd.open_c (upd bx b4 (some (.row 38 5 [.agg [.int .i64 0, .str [], .str [], .int .i64 0, .nils]])))
 rw [e0] at cO
 refine callK_abs cO ?_
 rintro r bx1 ⟨br, rfl, hrs⟩
 simp [go_sem, hrs.fin]
 intro b9 hb9
 rw [upd_self hb9]
 have hmA := mk_ext hm (hX (some (.row 38 5 [.agg [.int .i64 0, .str [], .str [], .int .i64 0, .nils]])))
 refine pw_for (ι := CS × Boxes) b.length (fun k i => IJ (upd bx b4 (some (.row 38 5 [.agg [.int .i64 0, .str [], .str [], .int .i64 0, .nils]]))) br b (runC st0 0 b) k i.1 i.2) (fun k i => ⟨65, slk [(1, .sl 1 (b.map byteV)), (2, .ep (.agg [.int .i64 0, .str [], .str [], .int .i64 0, .nils]) 0), (4, .ptr b4 5 0 0), (7, .ptr br 9 0 0), (9, .ep (.agg [V.fn (Fn.yield 17) [V.ptr br 9 0 0], V.fn (Fn.yield 18) [V.ptr br 9 0 0], V.fn (Fn.yield 19) [V.ptr br 9 0 0], V.fn (Fn.yield 20) [V.ptr br 9 0 0]]) 0), (31, .sl 1 (b.map byteV)), (32, .int .i64 b.length), (33, .int .i64 k)], i.2⟩) (st0, bx1) ⟨⟨Nat.zero_le _, inv0, by simp⟩, hrs⟩ (cov_look (by simp [go_sem])) (fun k i hk hJ N hN => ?_) (fun i hJ N => ?_)
 · obtain ⟨s, bx2⟩ := i
   dsimp only at hJ hN ⊢
   have hw := wr_succ (k := k) (by omega)
   have hfb := hJ.rs.fin
   have hR := hJ.j.eq
   have hI := hJ.j.inv
   rw [run_at hk] at hR
   obtain ⟨dv, lv, hbr⟩ := hJ.rs.at
   have h4x := hJ.rs.ext b4 (by rw [upd_eq]; simp)
   rw [upd_eq] at h4x
   unfold rdB at hbr
   by_cases h4 : s.ph = 4
   · have h4' : (s.ph : Int) = 4 := by omega
     rw [h4'] at hbr
     rw [if_pos h4] at hR
     rw [← hR]
     simp [go_sem, Tryd.L11_0, hk, hfb, hbr, byteV]
     refine callK_abs (Tryd.state_c hJ.rs) ?_
     rintro r bx3 ⟨rfl, hx⟩
     have h43 := hx b4 (by rw [upd_eq]; simp)
     rw [upd_eq] at h43
     unfold csV
     simp [go_sem, h43, upd_eq]
     exact ret_drop (by simp [go_sem, upd_eq]) (extB hb4 hx _) ⟨by simp [go_sem, upd_eq, feedV, csV], rfl⟩
   · rw [if_neg h4] at hR
     have hin := step_inv (c := b[k]) hI h4
     have hph : s.ph = 0 ∨ s.ph = 1 ∨ s.ph = 2 ∨ s.ph = 3 := by have := hI.ph; omega
     rcases hph with h0 | h0 | h0 | h0
     · have h0I : (s.ph : Int) = 0 := by omega
       rw [h0I] at hbr
       have cS := Tryd.inSize_c hmA b[k] hJ.rs hI h0
       simp [go_sem, Tryd.L11_0, hk, hfb, hbr, byteV]
       refine callK_abs cS ?_
       rintro r bx3 ⟨rfl, hx1, hx2⟩
       generalize stepC s b[k] = p at *
       obtain ⟨s', e⟩ := p
       dsimp only at hR hin hx2 ⊢
       have h43 := hx1 b4 (by rw [upd_eq]; simp)
       rw [upd_eq] at h43
       by_cases he : e = 0
       · subst he
         rw [if_neg (by simp)] at hR
         simp [go_sem, hw, (hx2 rfl).fin]
         exact hN _ (s', bx3) ⟨⟨hk, hin rfl, hR⟩, hx2 rfl⟩ (cov_look (by simp [go_sem]))
       · rw [if_pos he] at hR
         rw [← hR]
         simp [go_sem, hw, he, h43, upd_eq]
         exact ret_drop (by simp [go_sem, upd_eq]) (extB hb4 hx1 _) ⟨by simp [go_sem, upd_eq, feedV, e0, he], rfl⟩
     · have h0I : (s.ph : Int) = 1 := by omega
       rw [h0I] at hbr
       have cS := Tryd.inData_c b[k] hJ.rs hI h0
       simp [go_sem, Tryd.L11_0, hk, hfb, hbr, byteV]
       refine callK_abs cS ?_
       rintro r bx3 ⟨rfl, hx1, hx2⟩
       generalize stepC s b[k] = p at *
       obtain ⟨s', e⟩ := p
       dsimp only at hR hin hx2 ⊢
       have h43 := hx1 b4 (by rw [upd_eq]; simp)
       rw [upd_eq] at h43
       by_cases he : e = 0
       · subst he
         rw [if_neg (by simp)] at hR
         simp [go_sem, hw, (hx2 rfl).fin]
         exact hN _ (s', bx3) ⟨⟨hk, hin rfl, hR⟩, hx2 rfl⟩ (cov_look (by simp [go_sem]))
       · rw [if_pos he] at hR
         rw [← hR]
         simp [go_sem, hw, he, h43, upd_eq]
         exact ret_drop (by simp [go_sem, upd_eq]) (extB hb4 hx1 _) ⟨by simp [go_sem, upd_eq, feedV, e0, he], rfl⟩
     · have h0I : (s.ph : Int) = 2 := by omega
       rw [h0I] at hbr
       have cS := Tryd.inEnd_c b[k] hJ.rs hI h0
       simp [go_sem, Tryd.L11_0, hk, hfb, hbr, byteV]
       refine callK_abs cS ?_
       rintro r bx3 ⟨rfl, hx1, hx2⟩
       generalize stepC s b[k] = p at *
       obtain ⟨s', e⟩ := p
       dsimp only at hR hin hx2 ⊢
       have h43 := hx1 b4 (by rw [upd_eq]; simp)
       rw [upd_eq] at h43
       by_cases he : e = 0
       · subst he
         rw [if_neg (by simp)] at hR
         simp [go_sem, hw, (hx2 rfl).fin]
         exact hN _ (s', bx3) ⟨⟨hk, hin rfl, hR⟩, hx2 rfl⟩ (cov_look (by simp [go_sem]))
       · rw [if_pos he] at hR
         rw [← hR]
         simp [go_sem, hw, he, h43, upd_eq]
         exact ret_drop (by simp [go_sem, upd_eq]) (extB hb4 hx1 _) ⟨by simp [go_sem, upd_eq, feedV, e0, he], rfl⟩
     · have h0I : (s.ph : Int) = 3 := by omega
       rw [h0I] at hbr
       have cS := Tryd.inTrailer_c hmA b[k] hJ.rs hI h0
       simp [go_sem, Tryd.L11_0, hk, hfb, hbr, byteV]
       refine callK_abs cS ?_
       rintro r bx3 ⟨rfl, hx1, hx2⟩
       generalize stepC s b[k] = p at *
       obtain ⟨s', e⟩ := p
       dsimp only at hR hin hx2 ⊢
       have h43 := hx1 b4 (by rw [upd_eq]; simp)
       rw [upd_eq] at h43
       by_cases he : e = 0
       · subst he
         rw [if_neg (by simp)] at hR
         simp [go_sem, hw, (hx2 rfl).fin]
         exact hN _ (s', bx3) ⟨⟨hk, hin rfl, hR⟩, hx2 rfl⟩ (cov_look (by simp [go_sem]))
       · rw [if_pos he] at hR
         rw [← hR]
         simp [go_sem, hw, he, h43, upd_eq]
         exact ret_drop (by simp [go_sem, upd_eq]) (extB hb4 hx1 _) ⟨by simp [go_sem, upd_eq, feedV, e0, he], rfl⟩
 · obtain ⟨s, bx2⟩ := i
   dsimp only at hJ ⊢
   have hfb := hJ.rs.fin
   have hR := hJ.j.eq
   rw [List.drop_length, runC] at hR
   rw [← hR]
   simp [go_sem, Tryd.L11_0, hfb]
   refine callK_abs (Tryd.state_c hJ.rs) ?_
   rintro r bx3 ⟨rfl, hx⟩
   have h43 := hx b4 (by rw [upd_eq]; simp)
   rw [upd_eq] at h43
   unfold csV
   simp [go_sem, h43, upd_eq]
   exact ret_drop (by simp [go_sem, upd_eq]) (extB hb4 hx _) ⟨by simp [go_sem, upd_eq, feedV, csV], rfl⟩
theorem Tryd.Decode_c {bx : Boxes} (hm : Mk bx) (b : List UInt8) (hbl : b.length ≤ 100000) : PureCall Tryd.prog 6 [.sl 1 (b.map byteV)] bx (decV (decF b)) := by
 refine PureCall.wk (Tryd.ctr6 fun hf => ?_)
 have cF := Tryd.Feed_c hm b hbl
 unfold decF
 have hri := run_inv b st0 0 inv0
 generalize runC st0 0 b = R at *
 obtain ⟨s, n, e⟩ := R
 unfold feedV at cF
 dsimp only at cF hri ⊢
 have e0 (e : Int) : Wk (.tup [.nils, .nils, .int .i64 0, .int .i64 e]) (decV ([], [], 0, e)) := by
   refine wk_tupL rfl fun i x y hx hy => ?_
   match i with
   | 0 => simp at hx hy; subst hx hy; exact wk_nils 1
   | 1 => simp at hx hy; subst hx hy; exact wk_nils 2
   | 2 => simp at hx hy; subst hx hy; exact Wk.refl _
   | 3 => simp at hx hy; subst hx hy; exact Wk.refl _
   | i + 4 => simp at hx
 simp [go_sem, Tryd.C6, hf]
 refine callK_pure (Tryd.Start_c bx) ?_
 simp [go_sem, hf]
 rw [cs0] at cF ⊢
 simp [go_sem, hf]
 refine callK_pure cF ?_
 by_cases he : e = 0
 · subst he
   unfold csV
   by_cases h4 : s.ph = 4
   · have h4' : (s.ph : Int) = 4 := by omega
     simp [go_sem, hf, h4, h4']
     intro b6 hb6
     rw [upd_self hb6]
     have hd := (hri rfl).d
     refine ⟨by omega, ret_wk0 (by simp [go_sem]) (by simp [go_sem, decV, trV, h4]; exact Wk.refl _)⟩
   · have h4' : ¬ (s.ph : Int) = 4 := by omega
     simp [go_sem, hf, h4, h4']
     intro b6 hb6
     rw [upd_self hb6]
     exact ret_wk0 (by simp [go_sem]) (by simp only [go_sem]; exact e0 10)
 · simp [go_sem, hf, he]
   intro b6 hb6
   rw [upd_self hb6]
   exact ret_wk0 (by simp [go_sem]) (by simp only [go_sem]; exact e0 e)
end Go.Proofs
