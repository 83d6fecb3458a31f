/- Texts of the proof, put together: EA, EL, EB, EM, ET, EN, EU, EP, EQ, ER, EX, EY. -/
import Derived.Test.YtkjhfnlnbjmahaaGreatDoorGh
import Derived.Test.YtkjhfnlnbjmahaaGreatDoorGd
import Derived.Test.YtkjhfnlnbjmahaaGreatDoorGe
import Derived.Lib.Case
import Derived.Test.YtkjhfnlnbjmahaaGreatDoorGf
import Derived.Shelf.GgClosure.StringsIndexFunc
import Derived.Shelf.Strings.SlTrimAscii
import Derived.Shelf.Strings.Count
import Derived.Shelf.Strings.Search2
import Derived.Shelf.Bytes.SlIndexAt
import Derived.Shelf.Strings.Builder2
import Derived.Shelf.Strings.Builder1
import Derived.Shelf.RegionOpenPlain
import Derived.Lib.MakeNoZero

set_option linter.unusedSimpArgs false
set_option linter.unusedVariables false
set_option maxRecDepth 100000
namespace Go.Proofs
open Go Go.Pl
def tkS : List UInt8 := [33, 35, 36, 37, 38, 39, 42, 43, 45, 46, 94, 95, 96, 124, 126]
def isDig (c : UInt8) : Bool := 48 ≤ c && c ≤ 57
def letB (c : UInt8) : Bool := Lib.isLowerB c || Lib.isUpperB c || isDig c || tkS.contains c
def tokB (s : List UInt8) : Bool := decide (1 ≤ s.length ∧ s.length ≤ 64) && s.all letB
def plain1 (c : UInt8) : Bool := c == 9 || (32 ≤ c && c ≤ 126)
def plainB (s : List UInt8) : Bool := s.all plain1
def blank1 (c : UInt8) : Bool := c == 9 || c == 32
def trimB (s : List UInt8) : List UInt8 := ((s.dropWhile blank1).reverse.dropWhile blank1).reverse
theorem isDig_int (c : UInt8) : isDig c = (decide ((48 : Int) ≤ (c.toNat : Int)) && decide ((c.toNat : Int) ≤ 57)) := by
 unfold isDig
 have h1 : (48 ≤ c) ↔ ((48 : Int) ≤ (c.toNat : Int)) := by rw [UInt8.le_iff_toNat_le]; simp; omega
 have h2 : (c ≤ 57) ↔ ((c.toNat : Int) ≤ 57) := by rw [UInt8.le_iff_toNat_le]; simp; omega
 simp [h1, h2]
theorem beq_int (a c : UInt8) : (a == c) = decide ((a.toNat : Int) = (c.toNat : Int)) := by
 by_cases h : a = c
 · subst h; simp
 · have : ¬ (a.toNat : Int) = (c.toNat : Int) := fun e => h (UInt8.toNat_inj.1 (by omega))
   simp [h, this]
theorem Tryz.letter_c (c : UInt8) (bx : Boxes) : PureCall Tryz.prog 107 [.int .u8 c.toNat] bx (.bool (letB c)) := by
 refine Tryz.ctr107 fun hf => ?_
 unfold letB
 rw [Lib.isLowerB_int, Lib.isUpperB_int, isDig_int]
 generalize hn : (c.toNat : Int) = n
 simp [go_sem, Tryz.C107, hf]
 refine ⟨by omega, by omega, by omega, by omega, fun h => ?_, fun h1 h2 h3 => ?_⟩
 · refine ret_pure (by simp [go_sem]) ⟨?_, rfl⟩
   have : (decide (97 ≤ n) && decide (n ≤ 122) || decide (65 ≤ n) && decide (n ≤ 90) || decide (48 ≤ n) && decide (n ≤ 57)) = true := by simpa using h
   simp [go_sem, this]
 have hl : (decide (97 ≤ n) && decide (n ≤ 122) || decide (65 ≤ n) && decide (n ≤ 90) || decide (48 ≤ n) && decide (n ≤ 57)) = false := by
   simp; omega
 rw [hl]
 refine pw_find tkS.length (fun j => tkS.getD j 0 == c) (fun j => ⟨38, slk [(0, .int .u8 n), (3, .str tkS), (4, .int .i64 j)], bx⟩) (cov_look (by simp [go_sem, tkS])) (fun j hj hJ N hN => ?_) (fun hJ N => ?_)
 · have hw := wr_succ (k := j) (by simp [tkS] at hj; omega)
   have hg : tkS.getD j 0 = tkS[j] := by simp [hj]
   rw [hg, beq_int, hn] at hN
   simp [go_sem, Tryz.L107_0, hj, hf, hw]
   refine ⟨fun h => ret_pure (by simp [go_sem]) ⟨?_, rfl⟩, fun h => hN _ (by simpa using h) (cov_look (by simp [go_sem]))⟩
   have : c ∈ tkS := by
     have e : tkS[j] = c := UInt8.toNat_inj.1 (by omega)
     rw [← e]; exact List.getElem_mem hj
   simp [go_sem, this]
 · simp [go_sem, Tryz.L107_0, hf]
   refine ret_pure (by simp [go_sem]) ⟨?_, rfl⟩
   have : ¬ c ∈ tkS := by
     intro h
     obtain ⟨j, hj, rfl⟩ := List.getElem_of_mem h
     have := hJ j hj
     simp [hj] at this
   simp [go_sem, this]
theorem Tryz.rToken_c (s : List UInt8) (bx : Boxes) : PureCall Tryz.prog 71 [.str s] bx (.bool (tokB s)) := by
 refine Tryz.ctr71 fun hf => ?_
 unfold tokB
 by_cases h1 : 1 ≤ s.length ∧ s.length ≤ 64
 · have e1 : ¬ (s.length : Int) < 1 := by omega
   have e2 : ¬ (64 : Int) < s.length := by omega
   have e0 : s ≠ [] := by intro e; rw [e] at h1; simp at h1
   simp [go_sem, Tryz.C71, hf, e1, e2, e0]
   refine pw_find s.length (fun j => !letB (s.getD j 0)) (fun j => ⟨23, slk [(0, .str s), (3, .int .i64 j)], bx⟩) (cov_look (by simp [go_sem])) (fun j hj hJ N hN => ?_) (fun hJ N => ?_)
   · have hw := wr_succ (k := j) (by omega)
     have hg : s.getD j 0 = s[j] := by simp [hj]
     rw [hg] at hN
     simp [go_sem, Tryz.L71_0, hj, hf, hw]
     refine callK_pure (Tryz.letter_c s[j] bx) ?_
     cases hb : letB s[j]
     · simp [go_sem]
       refine ret_pure (by simp [go_sem]) ⟨?_, rfl⟩
       have : s.all letB = false := by
         rw [List.all_eq_false]; exact ⟨s[j], List.getElem_mem hj, by simp [hb]⟩
       simp [go_sem, this]
     · simp [go_sem, hw]
       exact hN _ (by simp [hb]) (cov_look (by simp [go_sem]))
   · simp [go_sem, Tryz.L71_0, hf]
     refine ret_pure (by simp [go_sem]) ⟨?_, rfl⟩
     have : s.all letB = true := by
       rw [List.all_eq_true]
       intro x hx
       obtain ⟨j, hj, rfl⟩ := List.getElem_of_mem hx
       have := hJ j hj
       simpa [hj] using this
     simp [go_sem, this, h1.1, h1.2]
 · have e1 : (s.length : Int) < 1 ∨ (64 : Int) < s.length := by omega
   have h2 : decide (1 ≤ s.length ∧ s.length ≤ 64) = false := by simp; omega
   rw [h2]
   by_cases e2 : (s.length : Int) < 1
   · have e0 : s = [] := List.length_eq_zero_iff.1 (by omega)
     subst e0
     simp [go_sem, Tryz.C71, hf]
     exact ret_pure (by simp [go_sem]) ⟨by simp [go_sem], rfl⟩
   · have e3 : (64 : Int) < s.length := by omega
     simp [go_sem, Tryz.C71, hf, e2, e3]
     exact ret_pure (by simp [go_sem]) ⟨by simp [go_sem], rfl⟩
theorem plain1_int (c : UInt8) : plain1 c = (decide ((c.toNat : Int) = 9) || (decide ((32 : Int) ≤ (c.toNat : Int)) && decide ((c.toNat : Int) ≤ 126))) := by
 unfold plain1
 have h1 : (32 ≤ c) ↔ ((32 : Int) ≤ (c.toNat : Int)) := by rw [UInt8.le_iff_toNat_le]; simp; omega
 have h2 : (c ≤ 126) ↔ ((c.toNat : Int) ≤ 126) := by rw [UInt8.le_iff_toNat_le]; simp; omega
 rw [beq_int]
 simp [h1, h2]
theorem blank1_int (c : UInt8) : blank1 c = (decide ((c.toNat : Int) = 9) || decide ((c.toNat : Int) = 32)) := by
 unfold blank1
 rw [beq_int, beq_int]
 simp
theorem all_of_find {p : UInt8 → Bool} {s : List UInt8} (h : ∀ j, j < s.length → (!p (s.getD j 0)) = false) : s.all p = true := by
 rw [List.all_eq_true]
 intro x hx
 obtain ⟨j, hj, rfl⟩ := List.getElem_of_mem hx
 have := h j hj
 simpa [hj] using this
theorem all_miss {p : UInt8 → Bool} {s : List UInt8} {j : Nat} (hj : j < s.length) (h : p s[j] = false) : s.all p = false := by
 rw [List.all_eq_false]; exact ⟨s[j], List.getElem_mem hj, by simp [h]⟩
theorem Tryz.rplain_c (s : List UInt8) (hs : s.length < 1000000000) (bx : Boxes) : PureCall Tryz.prog 73 [.str s] bx (.bool (plainB s)) := by
 refine Tryz.ctr73 fun hf => ?_
 unfold plainB
 simp [go_sem, Tryz.C73, hf]
 refine pw_find s.length (fun j => !plain1 (s.getD j 0)) (fun j => ⟨26, slk [(0, .str s), (3, .int .i64 j)], bx⟩) (cov_look (by simp [go_sem])) (fun j hj hJ N hN => ?_) (fun hJ N => ?_)
 · have hw := wr_succ (k := j) (by omega)
   have hg : s.getD j 0 = s[j] := by simp [hj]
   have hp := plain1_int s[j]
   rw [hg] at hN
   simp [go_sem, Tryz.L73_0, hj, hf, hw]
   refine ⟨by omega, fun h1 h2 => ?_, fun h => hN _ ?_ (cov_look (by simp [go_sem]))⟩
   · refine ret_pure (by simp [go_sem]) ⟨?_, rfl⟩
     have : plain1 s[j] = false := by rw [hp]; simp; omega
     simp [go_sem, all_miss hj this]
   · rw [hp]; simp; omega
 · simp [go_sem, Tryz.L73_0, hf]
   refine ret_pure (by simp [go_sem]) ⟨?_, rfl⟩
   simp [go_sem, all_of_find hJ]
theorem Tryz.blank_c (c : UInt8) (bx : Boxes) : PureCall Tryz.prog 108 [.int .u8 c.toNat] bx (.bool (blank1 c)) := by
 refine Tryz.ctr108 fun hf => ?_
 rw [blank1_int]
 simp [go_sem, Tryz.C108, hf]
 exact ret_pure (by simp [go_sem]) ⟨by simp [go_sem], rfl⟩
def trimR (s : List UInt8) : List UInt8 := (s.reverse.dropWhile blank1).reverse
theorem trimR_snoc (s : List UInt8) (c : UInt8) : trimR (s ++ [c]) = if blank1 c = true then trimR s else s ++ [c] := by
 unfold trimR
 rw [List.reverse_append, List.reverse_singleton, List.singleton_append, List.dropWhile_cons]
 split
 · rfl
 · rw [List.reverse_cons, List.reverse_reverse]
theorem Tryz.rtrim_2 (s : List UInt8) (bx : Boxes) (hf : FinB bx) (Q : Exit → St → Prop) (st : St) (t : List UInt8) (hc : Cov st ⟨30, slk [(0, .str t)], bx⟩) (h1 : t.length < 1000000000) (h2 : trimR t = trimB s)
   (hQ : Q (.exit 2) ⟨30, slk [(0, .str (trimB s)), (23, .bool false)], bx⟩) : pw Tryz.prog (.loop Tryz.L74_1) Q st := by
 refine pw_loop (ι := List UInt8) (fun u => u.length < 1000000000 ∧ trimR u = trimB s) (fun u => ⟨30, slk [(0, .str u)], bx⟩) (fun u => u.length) t ⟨h1, h2⟩ hc ?_
 rintro u ⟨h1, h2⟩
 rcases List.eq_nil_or_concat u with rfl | ⟨v, c, rfl⟩
 · have e0 : trimB s = [] := by rw [← h2]; rfl
   rw [e0] at hQ
   simp [go_sem, Tryz.L74_1, hf]
   refine gK_off (.bool false) (by simp [go_sem]) ?_
   simp [go_sem]
   exact hQ
 · rw [List.concat_eq_append] at h1 h2 ⊢
   have hw : IntKind.i64.wrap (v.length : Int) = (v.length : Int) := wr64 (by simp at h1; omega)
   have hg : (v ++ [c])[v.length]? = some c := by simp
   have e1 : (0 : Int) ≤ v.length := by omega
   have e2 : (v.length : Int) < v.length + 1 := by omega
   have e3 : (v.length : Int) ≤ v.length + 1 := by omega
   rw [trimR_snoc] at h2
   simp [go_sem, Tryz.L74_1, hf, hw, hg, e2]
   refine gK_pure (Tryz.blank_c c bx) (by simp) (by simp [go_sem]) ?_
   cases hb : blank1 c
   · rw [hb, if_neg (by decide)] at h2
     rw [← h2] at hQ
     simp [go_sem]
     exact hQ
   · rw [hb, if_pos rfl] at h2
     simp [go_sem, hw, e3]
     exact ⟨v, ⟨by simp at h1; omega, h2⟩, cov_look (by simp [go_sem]), by simp⟩
theorem Tryz.rtrim_c (s : List UInt8) (hs : s.length < 1000000000) (bx : Boxes) : PureCall Tryz.prog 74 [.str s] bx (.str (trimB s)) := by
 refine Tryz.ctr74 fun hf => ?_
 simp [go_sem, Tryz.C74, hf]
 refine pw_loop (ι := List UInt8) (fun t => t.length < 1000000000 ∧ t.dropWhile blank1 = s.dropWhile blank1) (fun t => ⟨30, slk [(0, .str t)], bx⟩) (fun t => t.length) s ⟨hs, rfl⟩ (cov_look (by simp [go_sem])) ?_
 rintro t ⟨h1, h2⟩
 cases t with
 | nil =>
   simp [go_sem, Tryz.L74_0, hf]
   refine gK_off (.bool false) (by simp [go_sem]) ?_
   simp [go_sem]
   refine Tryz.rtrim_2 s bx hf _ _ [] (cov_look (by simp [go_sem])) (by simp) (by unfold trimB; rw [← h2]; rfl) ?_
   simp [go_sem]
   exact ret_pure (by simp [go_sem]) ⟨by simp [go_sem], rfl⟩
 | cons c t =>
   simp at h1
   simp [go_sem, Tryz.L74_0, hf]
   refine gK_pure (Tryz.blank_c c bx) (by simp) (by simp [go_sem]) ?_
   rw [List.dropWhile_cons] at h2
   cases hb : blank1 c
   · rw [hb, if_neg (by decide)] at h2
     simp [go_sem]
     refine Tryz.rtrim_2 s bx hf _ _ (c :: t) (cov_look (by simp [go_sem])) (by simp; omega) (by unfold trimB; rw [← h2]; rfl) ?_
     simp [go_sem]
     exact ret_pure (by simp [go_sem]) ⟨by simp [go_sem], rfl⟩
   · rw [hb, if_pos rfl] at h2
     simp [go_sem]
     exact ⟨by omega, t, ⟨by omega, h2⟩, cov_look (by simp [go_sem]), by simp⟩
end Go.Proofs

set_option linter.unusedSimpArgs false
set_option linter.unusedVariables false
set_option maxRecDepth 100000
namespace Go.Proofs
open Go Go.Pl Go.RowKit Go.Lib Go.Shelf
def Tryz.layIF_ren : Ren := { f := fun x => match x with | 315 => 150 | n => n, t := fun x => match x with | 9 => 9 | 40 => 107 | 4 => 4 | 3 => 3 | 0 => 0 | 21 => 21 | n => n, g := fun x => x }
theorem Tryz.layIF : Lays.n315 Tryz.prog Tryz.layIF_ren where
 mixed := by kernel_rfl
 f315 := Tryz.func150.trans (congrArg some (by kernel_rfl))
 t0 := Tryz.underlying0
 a0 := Tryz.isAgg0
 z0 := Tryz.sizeOf0
 v0 := Tryz.zeroValue0
 t3 := Tryz.underlying3
 a3 := Tryz.isAgg3
 z3 := Tryz.sizeOf3
 v3 := Tryz.zeroValue3
 t4 := Tryz.underlying4
 a4 := Tryz.isAgg4
 z4 := Tryz.sizeOf4
 v4 := Tryz.zeroValue4
 t9 := Tryz.underlying9
 a9 := Tryz.isAgg9
 z9 := Tryz.sizeOf9
 v9 := Tryz.zeroValue9
 t21 := Tryz.underlying21
 a21 := Tryz.isAgg21
 z21 := Tryz.sizeOf21
 v21 := Tryz.zeroValue21
 t40 := Tryz.underlying107
 a40 := Tryz.isAgg107
 z40 := Tryz.sizeOf107
 v40 := Tryz.zeroValue107
def Tryz.layIB_ren : Ren := { f := fun x => match x with | 187 => 63 | 255 => 99 | n => n, t := fun x => match x with | 37 => 43 | 5 => 5 | 3 => 3 | n => n, g := fun x => x }
theorem Tryz.layIB : Lays.n187 Tryz.prog Tryz.layIB_ren where
 mixed := by kernel_rfl
 f187 := Tryz.func63.trans (congrArg some (by kernel_rfl))
 f255 := Tryz.func99.trans (congrArg some (by kernel_rfl))
 t3 := Tryz.underlying3
 a3 := Tryz.isAgg3
 z3 := Tryz.sizeOf3
 v3 := Tryz.zeroValue3
 t5 := Tryz.underlying5
 a5 := Tryz.isAgg5
 z5 := Tryz.sizeOf5
 v5 := Tryz.zeroValue5
 t37 := Tryz.underlying43
 a37 := Tryz.isAgg43
 z37 := Tryz.sizeOf43
 v37 := Tryz.zeroValue43
def Tryz.layTrim_ren : Ren := { f := fun x => match x with | 160 => 55 | 232 => 90 | 231 => 89 | 227 => 91 | 234 => 93 | 233 => 92 | 236 => 95 | 235 => 94 | 228 => 119 | 271 => 122 | 151 => 121 | 197 => 120 | 120 => 153 | 152 => 152 | 260 => 151 | 137 => 169 | 119 => 170 | 224 => 157 | 225 => 156 | 217 => 155 | 266 => 171 | n => n, t := fun x => match x with | 9 => 9 | 4 => 4 | 3 => 3 | 5 => 5 | 117 => 111 | 116 => 110 | 0 => 0 | 124 => 114 | 21 => 21 | 105 => 131 | 46 => 129 | 119 => 172 | 139 => 175 | 138 => 174 | n => n, g := fun x => match x with | 3 => 2 | 4 => 3 | n => n }
theorem Tryz.layTrim : Lays.n160 Tryz.prog Tryz.layTrim_ren where
 mixed := by kernel_rfl
 f119 := Tryz.func170.trans (congrArg some (by kernel_rfl))
 f120 := Tryz.func153.trans (congrArg some (by kernel_rfl))
 f137 := Tryz.func169.trans (congrArg some (by kernel_rfl))
 f151 := Tryz.func121.trans (congrArg some (by kernel_rfl))
 f152 := Tryz.func152.trans (congrArg some (by kernel_rfl))
 f160 := Tryz.func55.trans (congrArg some (by kernel_rfl))
 f197 := Tryz.func120.trans (congrArg some (by kernel_rfl))
 f217 := Tryz.func155.trans (congrArg some (by kernel_rfl))
 f224 := Tryz.func157.trans (congrArg some (by kernel_rfl))
 f225 := Tryz.func156.trans (congrArg some (by kernel_rfl))
 f227 := Tryz.func91.trans (congrArg some (by kernel_rfl))
 f228 := Tryz.func119.trans (congrArg some (by kernel_rfl))
 f231 := Tryz.func89.trans (congrArg some (by kernel_rfl))
 f232 := Tryz.func90.trans (congrArg some (by kernel_rfl))
 f233 := Tryz.func92.trans (congrArg some (by kernel_rfl))
 f234 := Tryz.func93.trans (congrArg some (by kernel_rfl))
 f235 := Tryz.func94.trans (congrArg some (by kernel_rfl))
 f236 := Tryz.func95.trans (congrArg some (by kernel_rfl))
 f260 := Tryz.func151.trans (congrArg some (by kernel_rfl))
 f266 := Tryz.func171.trans (congrArg some (by kernel_rfl))
 f271 := Tryz.func122.trans (congrArg some (by kernel_rfl))
 t0 := Tryz.underlying0
 a0 := Tryz.isAgg0
 z0 := Tryz.sizeOf0
 v0 := Tryz.zeroValue0
 t3 := Tryz.underlying3
 a3 := Tryz.isAgg3
 z3 := Tryz.sizeOf3
 v3 := Tryz.zeroValue3
 t4 := Tryz.underlying4
 a4 := Tryz.isAgg4
 z4 := Tryz.sizeOf4
 v4 := Tryz.zeroValue4
 t5 := Tryz.underlying5
 a5 := Tryz.isAgg5
 z5 := Tryz.sizeOf5
 v5 := Tryz.zeroValue5
 t9 := Tryz.underlying9
 a9 := Tryz.isAgg9
 z9 := Tryz.sizeOf9
 v9 := Tryz.zeroValue9
 t21 := Tryz.underlying21
 a21 := Tryz.isAgg21
 z21 := Tryz.sizeOf21
 v21 := Tryz.zeroValue21
 t46 := Tryz.underlying129
 a46 := Tryz.isAgg129
 z46 := Tryz.sizeOf129
 v46 := Tryz.zeroValue129
 t105 := Tryz.underlying131
 a105 := Tryz.isAgg131
 z105 := Tryz.sizeOf131
 v105 := Tryz.zeroValue131
 t116 := Tryz.underlying110
 a116 := Tryz.isAgg110
 z116 := Tryz.sizeOf110
 t117 := Tryz.underlying111
 a117 := Tryz.isAgg111
 z117 := Tryz.sizeOf111
 v117 := Tryz.zeroValue111
 t119 := Tryz.underlying172
 a119 := Tryz.isAgg172
 z119 := Tryz.sizeOf172
 t124 := Tryz.underlying114
 a124 := Tryz.isAgg114
 z124 := Tryz.sizeOf114
 v124 := Tryz.zeroValue114
 t138 := Tryz.underlying174
 a138 := Tryz.isAgg174
 z138 := Tryz.sizeOf174
 v138 := Tryz.zeroValue174
 t139 := Tryz.underlying175
 a139 := Tryz.isAgg175
 z139 := Tryz.sizeOf175
 v139 := Tryz.zeroValue175
 g3 := by kernel_rfl
 g4 := by kernel_rfl
def Tryz.layCount_ren : Ren := { f := fun x => match x with | 138 => 128 | 195 => 159 | 218 => 160 | 143 => 101 | 219 => 126 | 217 => 155 | 225 => 156 | 224 => 157 | 267 => 158 | 266 => 171 | 314 => 172 | n => n, t := fun x => match x with | 9 => 9 | 3 => 3 | 4 => 4 | 5 => 5 | 0 => 0 | 46 => 129 | 146 => 176 | 51 => 152 | n => n, g := fun x => match x with | 1 => 0 | n => n }
theorem Tryz.layCount : Lays.n138 Tryz.prog Tryz.layCount_ren where
 mixed := by kernel_rfl
 f138 := Tryz.func128.trans (congrArg some (by kernel_rfl))
 f143 := Tryz.func101.trans (congrArg some (by kernel_rfl))
 f195 := Tryz.func159.trans (congrArg some (by kernel_rfl))
 f217 := Tryz.func155.trans (congrArg some (by kernel_rfl))
 f218 := Tryz.func160.trans (congrArg some (by kernel_rfl))
 f219 := Tryz.func126.trans (congrArg some (by kernel_rfl))
 f224 := Tryz.func157.trans (congrArg some (by kernel_rfl))
 f225 := Tryz.func156.trans (congrArg some (by kernel_rfl))
 f266 := Tryz.func171.trans (congrArg some (by kernel_rfl))
 f267 := Tryz.func158.trans (congrArg some (by kernel_rfl))
 f314 := Tryz.func172.trans (congrArg some (by kernel_rfl))
 t0 := Tryz.underlying0
 a0 := Tryz.isAgg0
 z0 := Tryz.sizeOf0
 v0 := Tryz.zeroValue0
 t3 := Tryz.underlying3
 a3 := Tryz.isAgg3
 z3 := Tryz.sizeOf3
 v3 := Tryz.zeroValue3
 t4 := Tryz.underlying4
 a4 := Tryz.isAgg4
 z4 := Tryz.sizeOf4
 v4 := Tryz.zeroValue4
 t5 := Tryz.underlying5
 a5 := Tryz.isAgg5
 z5 := Tryz.sizeOf5
 v5 := Tryz.zeroValue5
 t9 := Tryz.underlying9
 a9 := Tryz.isAgg9
 z9 := Tryz.sizeOf9
 v9 := Tryz.zeroValue9
 t46 := Tryz.underlying129
 a46 := Tryz.isAgg129
 z46 := Tryz.sizeOf129
 v46 := Tryz.zeroValue129
 t51 := Tryz.underlying152
 a51 := Tryz.isAgg152
 z51 := Tryz.sizeOf152
 v51 := Tryz.zeroValue152
 t146 := Tryz.underlying176
 a146 := Tryz.isAgg176
 z146 := Tryz.sizeOf176
 v146 := Tryz.zeroValue176
 g1 := by kernel_rfl
def Tryz.layIdx_ren : Ren := { f := fun x => match x with | 219 => 126 | 217 => 155 | 225 => 156 | 224 => 157 | 267 => 158 | 266 => 171 | 314 => 172 | n => n, t := fun x => match x with | 9 => 9 | 3 => 3 | 4 => 4 | 5 => 5 | 46 => 129 | 146 => 176 | 51 => 152 | n => n, g := fun x => match x with | 1 => 0 | n => n }
theorem Tryz.layIdx : Lays.n219 Tryz.prog Tryz.layIdx_ren where
 mixed := by kernel_rfl
 f217 := Tryz.func155.trans (congrArg some (by kernel_rfl))
 f219 := Tryz.func126.trans (congrArg some (by kernel_rfl))
 f224 := Tryz.func157.trans (congrArg some (by kernel_rfl))
 f225 := Tryz.func156.trans (congrArg some (by kernel_rfl))
 f266 := Tryz.func171.trans (congrArg some (by kernel_rfl))
 f267 := Tryz.func158.trans (congrArg some (by kernel_rfl))
 f314 := Tryz.func172.trans (congrArg some (by kernel_rfl))
 t3 := Tryz.underlying3
 a3 := Tryz.isAgg3
 z3 := Tryz.sizeOf3
 v3 := Tryz.zeroValue3
 t4 := Tryz.underlying4
 a4 := Tryz.isAgg4
 z4 := Tryz.sizeOf4
 v4 := Tryz.zeroValue4
 t5 := Tryz.underlying5
 a5 := Tryz.isAgg5
 z5 := Tryz.sizeOf5
 v5 := Tryz.zeroValue5
 t9 := Tryz.underlying9
 a9 := Tryz.isAgg9
 z9 := Tryz.sizeOf9
 v9 := Tryz.zeroValue9
 t46 := Tryz.underlying129
 a46 := Tryz.isAgg129
 z46 := Tryz.sizeOf129
 v46 := Tryz.zeroValue129
 t51 := Tryz.underlying152
 a51 := Tryz.isAgg152
 z51 := Tryz.sizeOf152
 v51 := Tryz.zeroValue152
 t146 := Tryz.underlying176
 a146 := Tryz.isAgg176
 z146 := Tryz.sizeOf176
 v146 := Tryz.zeroValue176
 g1 := by kernel_rfl
theorem dec_low {s : ByteArray} {i : Nat} (h : (s.get! i).toNat < 128) : Utf8.decode s i = ((s.get! i).toNat, 1) := by
 unfold Utf8.decode
 simp only [Nat.add_zero]
 rw [if_pos (by simpa using h)]
theorem dec_high {s : ByteArray} {i : Nat} (h : 128 ≤ (s.get! i).toNat) : 128 ≤ (Utf8.decode s i).1 := by
 have hr : (128 : Nat) ≤ Utf8.runeError := by decide
 unfold Utf8.decode
 simp only [Nat.add_zero]
 rw [if_neg (by omega)]
 split
 · split
   · dsimp only; omega
   · exact hr
 · split
   · split
     · rename_i hc
       simp only [Bool.and_eq_true, decide_eq_true_eq] at hc
       dsimp only; omega
     · exact hr
   · split
     · split
       · rename_i hc
         simp only [Bool.and_eq_true, decide_eq_true_eq] at hc
         dsimp only; omega
       · exact hr
     · exact hr
def badR (r : Nat) : Bool := decide (r ≠ 9) && (decide (r < 32) || decide (126 < r))
theorem bad_byte (c : UInt8) : badR c.toNat = !plain1 c := by
 rw [plain1_int]
 unfold badR
 by_cases h1 : c.toNat = 9 <;> by_cases h2 : c.toNat < 32 <;> by_cases h3 : 126 < c.toNat <;> simp [h1, h2, h3] <;> omega
theorem get_at {s : ByteArray} {i : Nat} (h : i < s.size) : s.get! i = s.data.toList.getD i 0 := by
 have h2 : i < s.data.size := h
 cases s with
 | mk d =>
   show d[i]! = _
   rw [getElem!_pos d i h2]
   simp [h2]
theorem idx_bad (s : ByteArray) : ∀ (f pos : Nat), s.size ≤ pos + f → (0 ≤ idxFuncFrom badR true s f pos ↔ (s.data.toList.drop pos).all plain1 = false)
 | 0, pos, h => by
   have h1 : s.data.toList.length = s.size := by simp
   rw [List.drop_eq_nil_of_le (by omega)]
   simp [idxFuncFrom]
 | f + 1, pos, h => by
   have h1 : s.data.toList.length = s.size := by simp
   by_cases hp : pos < s.size
   · have hd : s.data.toList.drop pos = s.data.toList.getD pos 0 :: s.data.toList.drop (pos + 1) := by
       rw [List.drop_eq_getElem_cons (by omega)]
       congr 1
       rw [List.getD_eq_getElem?_getD, List.getElem?_eq_getElem (by omega)]; rfl
     have hg := get_at hp
     rw [hd, List.all_cons]
     generalize s.data.toList.getD pos 0 = c at *
     by_cases hlow : c.toNat < 128
     · have hdec := dec_low (s := s) (i := pos) (by rw [hg]; exact hlow)
       rw [hg] at hdec
       have hb := bad_byte c
       unfold idxFuncFrom
       rw [if_pos hp]
       simp only [hdec, hb]
       cases hpl : plain1 c
       · simp
       · have := idx_bad s f (pos + 1) (by omega)
         simpa using this
     · have hhi := dec_high (s := s) (i := pos) (by rw [hg]; omega)
       have hb : badR (Utf8.decode s pos).1 = true := by unfold badR; simp; omega
       have hpl : plain1 c = false := by
         have := bad_byte c
         unfold badR at this
         have h3 : (decide (c.toNat ≠ 9) && (decide (c.toNat < 32) || decide (126 < c.toNat))) = true := by simp; omega
         rw [h3] at this
         simpa using this.symm
       unfold idxFuncFrom
       rw [if_pos hp]
       simp [hb, hpl]
   · rw [List.drop_eq_nil_of_le (by omega)]
     unfold idxFuncFrom
     rw [if_neg hp]
     simp
theorem Tryz.bad_at (w : World) : PredAt Tryz.prog 88 #[] encR badR w := by
 intro W r _
 unfold FnGives
 have hb : badR r = (decide (r ≠ 9) && (decide (r < 32) || decide (126 < r))) := rfl
 by_cases h1 : r = 9
 · subst h1
   go_enter Tryz.func88, Tryz.ntmps88
   go_wp2
   go_ret
   exact ⟨rfl, 0, rfl⟩
 · have g1 : ¬ (r : Int) = 9 := by omega
   by_cases h2 : r < 32
   · have g2 : (r : Int) < 32 := by omega
     have e : badR r = true := by rw [hb]; simp [h1, h2]
     rw [e]
     clear hb e
     go_enter Tryz.func88, Tryz.ntmps88
     go_wp2
     go_ret
     first
       | exact ⟨rfl, 0, rfl⟩
       | (refine ⟨?_, 0, rfl⟩
          simp
          omega)
   · have g2 : ¬ (r : Int) < 32 := by omega
     by_cases h3 : 126 < r
     · have g3 : (126 : Int) < r := by omega
       have e : badR r = true := by rw [hb]; simp [h1, h3]
       rw [e]
       clear hb e
       go_enter Tryz.func88, Tryz.ntmps88
       go_wp2
       go_ret
       first
         | exact ⟨rfl, 0, rfl⟩
         | (refine ⟨?_, 0, rfl⟩
            simp
            omega)
     · have g3 : ¬ (126 : Int) < r := by omega
       have e : badR r = false := by rw [hb]; simp [h2, h3]
       rw [e]
       clear hb e
       go_enter Tryz.func88, Tryz.ntmps88
       go_wp2
       go_ret
       first
         | exact ⟨rfl, 0, rfl⟩
         | (refine ⟨?_, 0, rfl⟩
            simp
            omega)
theorem Tryz.plain_w (s : ByteArray) (w : World) : Calls Tryz.prog 54 #[.string s] w fun e w' => e = .returned (.bool (plainB s.data.toList)) ∧ Below w.heap.size w w' := by
 have e88 : ∀ args w, (callFunc 88 args).run Tryz.prog w = .ok (.enter 88 args) w := enters_of Tryz.func88 (by kernel_rfl) rfl
 have e150 : ∀ args w, (callFunc 150 args).run Tryz.prog w = .ok (.enter 150 args) w := enters_of Tryz.func150 (by kernel_rfl) rfl
 have e118 : ∀ args w, (callFunc 118 args).run Tryz.prog w = .ok (.enter 118 args) w := enters_of Tryz.func118 (by kernel_rfl) rfl
 have e87 : ∀ args w, (callFunc 87 args).run Tryz.prog w = .ok (.enter 87 args) w := enters_of Tryz.func87 (by kernel_rfl) rfl
 obtain ⟨I, hI⟩ : ∃ I, idxFunc badR true s = I := ⟨_, rfl⟩
 have hall : plainB s.data.toList = !decide (0 ≤ I) := by
   have := idx_bad s s.size 0 (by omega)
   rw [← hI]
   unfold idxFunc plainB
   rw [List.drop_zero] at this
   by_cases h : 0 ≤ idxFuncFrom badR true s s.size 0
   · simp [h, this.1 h]
   · have h2 : ¬ (s.data.toList.all plain1 = false) := fun e => h (this.2 e)
     have h3 : s.data.toList.all plain1 = true := by simpa using h2
     rw [h3]; simp [h]
 have c1 : ∀ w, Calls Tryz.prog 150 #[.string s, .func (.func 88) #[] #[], .bool true] w fun e w' => e = .returned (.int .i64 I) ∧ Below w.heap.size w w' := fun w => by
   have := Any.strings_indexFunc Tryz.layIF 88 #[] e88 badR true s w (Tryz.bad_at w)
   rw [hI] at this
   exact this
 have c2 : ∀ w, Calls Tryz.prog 118 #[.string s, .func (.func 88) #[] #[]] w fun e w' => e = .returned (.int .i64 I) ∧ Below w.heap.size w w' := fun w => by
   go_enter Tryz.func118, Tryz.ntmps118
   go_wp2_with (go_at_fn 150; refine (c1 _).mono ?_; rintro e w' ⟨rfl, hb⟩)
   go_ret
   exact ⟨rfl, hb⟩
 have c3 : ∀ w, Calls Tryz.prog 87 #[.string s, .func (.func 88) #[] #[]] w fun e w' => e = .returned (.bool (decide (0 ≤ I))) ∧ Below w.heap.size w w' := fun w => by
   go_enter Tryz.func87, Tryz.ntmps87
   go_wp2_with (go_at_fn 118; refine (c2 _).mono ?_; rintro e w' ⟨rfl, hb⟩)
   go_ret
   exact ⟨rfl, hb⟩
 rw [hall]
 clear hall hI c1 c2
 go_enter Tryz.func54, Tryz.ntmps54
 go_wp2_with (go_at_fn 87; refine (c3 _).mono ?_; rintro e w' ⟨rfl, hb⟩)
 go_ret
 exact ⟨rfl, hb⟩
end Go.Proofs

set_option linter.unusedSimpArgs false
set_option linter.unusedVariables false
set_option maxRecDepth 100000
namespace Go.Proofs
open Go Go.Pl
abbrev Fd := List UInt8 × List UInt8
def fdV (f : Fd) : V := .agg [.str f.1, .str f.2]
def Small (l : List Fd) : Prop := ∀ f, f ∈ l → f.1.length ≤ 100000 ∧ f.2.length ≤ 100000
def chkF (f : Fd) : Int := if (tokB f.1 && plainB f.2 && decide (trimB f.2 = f.2)) = true then (if 2000 < f.2.length then 3 else 0) else 6
def sizF (f : Fd) : Nat := f.1.length + f.2.length + 4
def sumF (l : List Fd) : Nat := 2 + (l.map sizF).sum
def chkL (l : List Fd) : Int := if 100 < l.length then 3 else match l.find? (fun f => decide (chkF f ≠ 0)) with
 | some f => chkF f
 | none => if 8192 < sumF l then 3 else 0
theorem sumF_take {l : List Fd} {j : Nat} (hj : j < l.length) : sumF (l.take (j + 1)) = sumF (l.take j) + sizF l[j] := by
 unfold sumF
 rw [List.take_succ_eq_append_getElem hj, List.map_append, List.sum_append]
 simp
 omega
theorem sumF_le {l : List Fd} (h : Small l) : ∀ j, j ≤ l.length → sumF (l.take j) ≤ 2 + j * 200004
 | 0, _ => by simp [sumF]
 | j + 1, hj => by
   have ih := sumF_le h j (by omega)
   have h1 := h l[j] (List.getElem_mem (by omega))
   rw [sumF_take (by omega)]
   unfold sizF
   omega
theorem find_hit {l : List Fd} {j : Nat} (hj : j < l.length) (hJ : ∀ i, i < j → decide (chkF (l.getD i ([], [])) ≠ 0) = false) (h : chkF l[j] ≠ 0) : l.find? (fun f => decide (chkF f ≠ 0)) = some l[j] := by
 rw [List.find?_eq_some_iff_getElem]
 refine ⟨by simpa using h, j, hj, rfl, fun i hi => ?_⟩
 have := hJ i hi
 have h2 : i < l.length := by omega
 simp [h2] at this
 simp [this]
theorem find_none {l : List Fd} (hJ : ∀ i, i < l.length → decide (chkF (l.getD i ([], [])) ≠ 0) = false) : l.find? (fun f => decide (chkF f ≠ 0)) = none := by
 rw [List.find?_eq_none]
 intro f hf
 obtain ⟨i, hi, rfl⟩ := List.getElem_of_mem hf
 have := hJ i hi
 simp [hi] at this
 simp [this]
theorem Tryz.rCheck_c (l : List Fd) (hl : Small l) (bx : Boxes) : PureCall Tryz.prog 32 [.sl 2 (l.map fdV)] bx (.int .i64 (chkL l)) := by
 refine Tryz.ctr32 fun hf => ?_
 by_cases h1 : 100 < l.length
 · have h2 : (100 : Int) < l.length := by omega
   simp [go_sem, Tryz.C32, hf, h2]
   exact ret_pure (by simp [go_sem]) ⟨by simp [go_sem, chkL, h1], rfl⟩
 have h2 : ¬ (100 : Int) < l.length := by omega
 simp [go_sem, Tryz.C32, hf, h2]
 refine pw_find l.length (fun i => decide (chkF (l.getD i ([], [])) ≠ 0)) (fun i => ⟨54, slk [(0, .sl 2 (l.map fdV)), (3, .int .i64 (sumF (l.take i))), (4, .int .i64 i)], bx⟩) (cov_look (by simp [go_sem, sumF])) (fun i hi hJ N hN => ?_) (fun hJ N => ?_)
 · have hw := wr_succ (k := i) (by omega)
   obtain ⟨hs1, hs2⟩ := hl l[i] (List.getElem_mem hi)
   have hg : l.getD i ([], []) = l[i] := by simp [hi]
   have hsum := sumF_le hl i (by omega)
   have hst := sumF_take hi
   have hhit := find_hit hi hJ
   rw [hg] at hN
   simp [go_sem, Tryz.L32_0, hi, hf, hw, fdV]
   generalize l[i] = f at *
   obtain ⟨nm, vl⟩ := f
   dsimp only at hs1 hs2 ⊢
   have hC : ∀ e, chkF (nm, vl) = e → e ≠ 0 → chkL l = e := by
     intro e g1 g2
     unfold chkL
     rw [if_neg h1, hhit (by rw [g1]; exact g2)]
     exact g1
   clear hhit
   unfold sizF at hst
   dsimp only at hst
   generalize sumF (l.take i) = S at *
   generalize sumF (l.take (i + 1)) = S2 at *
   have hi100 : i < 100 := by omega
   have w1 : IntKind.i64.wrap ((S : Int) + nm.length) = (S : Int) + nm.length := wr64 (by omega)
   have w2 : IntKind.i64.wrap ((S : Int) + nm.length + 2) = (S : Int) + nm.length + 2 := wr64 (by omega)
   have w3 : IntKind.i64.wrap ((S : Int) + nm.length + 2 + vl.length) = (S : Int) + nm.length + 2 + vl.length := wr64 (by omega)
   have w4 : IntKind.i64.wrap ((S : Int) + nm.length + 2 + vl.length + 2) = (S2 : Int) := by rw [wr64 (by omega)]; omega
   intro b hb
   have cT := Tryz.rToken_c nm bx
   have cP := Tryz.rplain_c vl (by omega) bx
   have cR := Tryz.rtrim_c vl (by omega) bx
   rw [upd_none hb]
   refine callK_pure cT ?_
   cases hT : tokB nm
   · simp [go_sem]
     refine gK_off (.bool false) (by simp [go_sem]) ?_
     simp [go_sem]
     refine gK_off (.bool false) (by simp [go_sem]) ?_
     simp [go_sem]
     refine ret_pure (by simp [go_sem]) ⟨?_, rfl⟩
     simp [go_sem, hC 6 (by simp [chkF, hT]) (by decide)]
   simp [go_sem]
   refine gK_pure cP (by simp) (by simp [go_sem]) ?_
   cases hP : plainB vl
   · simp [go_sem]
     refine gK_off (.bool false) (by simp [go_sem]) ?_
     simp [go_sem]
     refine ret_pure (by simp [go_sem]) ⟨?_, rfl⟩
     simp [go_sem, hC 6 (by simp [chkF, hT, hP]) (by decide)]
   simp [go_sem]
   refine gK_pure cR (by simp) (by simp [go_sem]) ?_
   by_cases hR : trimB vl = vl
   · simp [go_sem, hR, w1, w2, w3, w4, hw]
     refine ⟨fun h => ret_pure (by simp [go_sem]) ⟨?_, rfl⟩, fun h => hN _ ?_ (cov_look (by simp [go_sem]))⟩
     · simp [go_sem, hC 3 (by have : 2000 < vl.length := by omega
                              simp [chkF, hT, hP, hR, this]) (by decide)]
     · have : ¬ 2000 < vl.length := by omega
       simp [chkF, hT, hP, hR, this]
   · simp [go_sem, hR]
     refine ret_pure (by simp [go_sem]) ⟨?_, rfl⟩
     simp [go_sem, hC 6 (by simp [chkF, hT, hP, hR]) (by decide)]
 · have hnone := find_none hJ
   rw [List.take_length]
   simp [go_sem, Tryz.L32_0, hf]
   refine ⟨fun h => ret_pure (by simp [go_sem]) ⟨?_, rfl⟩, fun h => ret_pure (by simp [go_sem]) ⟨?_, rfl⟩⟩
   · have : 8192 < sumF l := by omega
     unfold chkL
     rw [if_neg h1, hnone]
     simp [go_sem, this]
   · have : ¬ 8192 < sumF l := by omega
     unfold chkL
     rw [if_neg h1, hnone]
     simp [go_sem, this]
end Go.Proofs

set_option linter.unusedSimpArgs false
set_option linter.unusedVariables false
set_option maxRecDepth 100000
namespace Go.Proofs
open Go Go.Pl Go.RowKit
variable {bx : Boxes}
theorem Tryz.rFold_p (bx : Boxes) (s : List UInt8) (hs : s.length ≤ 100000) : PureCall Tryz.prog 22 [.str s] bx (.str (Lib.toLowerA s)) :=
 lift_litsD (us := [.string ⟨s.toArray⟩]) (enters_of Tryz.func22 (by kernel_rfl) rfl) rfl (fun β w F => rep_str _) fun w => Tryz.rFold_w ⟨s.toArray⟩ w (by show s.toArray.size ≤ _; simp; omega)
theorem Tryz.Fold_p (bx : Boxes) (s : List UInt8) (hs : s.length ≤ 100000) : PureCall Tryz.prog 42 [.str s] bx (.str (Lib.toLowerA s)) :=
 lift_litsD (us := [.string ⟨s.toArray⟩]) (enters_of Tryz.func42 (by kernel_rfl) rfl) rfl (fun β w F => rep_str _) fun w => Tryz.Fold_w ⟨s.toArray⟩ w (by show s.toArray.size ≤ _; simp; omega)
theorem Tryz.plain_p (hm : Mk bx) (s : List UInt8) : PureCall Tryz.prog 54 [.str s] bx (.bool (plainB s)) :=
 lift_lits (us := [.string ⟨s.toArray⟩]) (enters_of Tryz.func54 (by kernel_rfl) rfl) rfl (fun β w F => .bool _) hm fun w => Tryz.plain_w ⟨s.toArray⟩ w
theorem rdrop_cons (p : UInt8 → Bool) (a : UInt8) (t : List UInt8) : ((a :: t).reverse.dropWhile p).reverse = if (t.reverse.dropWhile p).reverse = [] then (if p a = true then [] else [a]) else a :: (t.reverse.dropWhile p).reverse := by
 rw [List.reverse_cons, List.dropWhile_append]
 cases h : t.reverse.dropWhile p with
 | nil => by_cases hp : p a = true <;> simp [hp]
 | cons b u => simp
theorem drop_comm (p : UInt8 → Bool) : ∀ s : List UInt8, ((s.reverse.dropWhile p).reverse).dropWhile p = ((s.dropWhile p).reverse.dropWhile p).reverse
 | [] => rfl
 | a :: t => by
   have ih := drop_comm p t
   by_cases hp : p a = true
   · rw [List.dropWhile_cons_of_pos hp, ← ih, rdrop_cons]
     by_cases h : (t.reverse.dropWhile p).reverse = []
     · rw [if_pos h, if_pos hp, h]
     · rw [if_neg h, List.dropWhile_cons_of_pos hp]
   · rw [List.dropWhile_cons_of_neg hp, rdrop_cons]
     by_cases h : (t.reverse.dropWhile p).reverse = []
     · rw [if_pos h, if_neg hp, List.dropWhile_cons_of_neg hp]
     · rw [if_neg h, List.dropWhile_cons_of_neg hp]
theorem trimS_blanks (s : List UInt8) : Lib.trimS s [32, 9] = trimB s := by
 have h : (fun b => [32, 9].contains b) = blank1 := by
   funext b
   unfold blank1
   simp only [List.contains_cons, List.contains_nil, Bool.or_false]
   rw [Bool.or_comm]
 unfold Lib.trimS Lib.trimLeftS Lib.trimRightS trimB
 rw [h]
 exact drop_comm blank1 s
theorem Tryz.Trim_p (hm : Mk bx) (s : List UInt8) (hs : s.length ≤ 100000) : PureCall Tryz.prog 55 [.str s, .str [32, 9]] bx (.str (trimB s)) := by
 refine lift_lits (us := [.string ⟨s.toArray⟩, .string ⟨#[32, 9]⟩]) (u := .string ⟨(trimB s).toArray⟩) (enters_of Tryz.func55 (by kernel_rfl) rfl) rfl (fun β w F => rep_str _) hm fun w => ?_
 have := Any.strings_Trim_laid Tryz.layTrim (by kernel_rfl) ⟨s.toArray⟩ ⟨#[32, 9]⟩ w (by show s.toArray.size ≤ _; simp; omega) (by decide) (by
   intro j b hb
   rcases j with _ | _ | j
   · simp at hb; subst hb; decide
   · simp at hb; subst hb; decide
   · simp at hb)
 refine this.mono ?_
 rintro e w' ⟨rfl, hb⟩
 exact ⟨by rw [show (⟨#[32, 9]⟩ : ByteArray).data.toList = [32, 9] from rfl, trimS_blanks], hb⟩
theorem Tryz.Index_p (hm : Mk bx) (s : List UInt8) (c : UInt8) : PureCall Tryz.prog 126 [.str s, .str [c]] bx (.int .i64 (Lib.indexByte s c)) := by
 refine lift_lits (us := [.string ⟨s.toArray⟩, .string ⟨#[c]⟩]) (u := .int .i64 (Lib.indexByte s c)) (enters_of Tryz.func126 (by kernel_rfl) rfl) rfl (fun β w F => .int _ _) hm fun w => ?_
 refine (Any.stringslite_Index_one Tryz.layIdx ⟨s.toArray⟩ c w).mono ?_
 rintro e w' ⟨rfl, rfl⟩
 exact ⟨rfl, Below.refl _ _⟩
theorem Tryz.Count_p (hm : Mk bx) (s : List UInt8) (c : UInt8) : PureCall Tryz.prog 128 [.str s, .str [c]] bx (.int .i64 (Lib.countByte s c)) := by
 refine lift_lits (us := [.string ⟨s.toArray⟩, .string ⟨#[c]⟩]) (u := .int .i64 (Lib.countByte s c)) (enters_of Tryz.func128 (by kernel_rfl) rfl) rfl (fun β w F => .int _ _) hm fun w => ?_
 refine (Any.strings_Count_one Tryz.layCount ⟨s.toArray⟩ c w).mono ?_
 rintro e w' ⟨rfl, rfl⟩
 exact ⟨rfl, Below.refl _ _⟩
end Go.Proofs

set_option linter.unusedVariables false
set_option linter.unusedSimpArgs false
set_option maxRecDepth 100000
namespace Go.Proofs
open Go Go.Pl Go.RowKit Go.Shelf
theorem mk_ext {bx bx' : Boxes} (h : Mk bx) (he : Ext bx bx') : Mk bx' := by
 obtain ⟨b, ty, hb⟩ := h
 exact ⟨b, ty, by rw [he b (by rw [hb]; simp), hb]⟩
theorem mk_new {bx : Boxes} (h : Mk bx) {b : Nat} (hb : bx b = none) (x : Option Box) : Mk (upd bx b x) := mk_ext h ((Ext.refl _).new hb x)
theorem bytesOf_nat (l : List UInt8) : Lib.bytesOf (l.map fun b => (b.toNat : Int)) = l := by
 unfold Lib.bytesOf
 rw [List.map_map]
 exact (List.map_congr_left fun b _ => by simp).trans (List.map_id l)
set_option maxHeartbeats 2000000 in
theorem Tryz.IndexByte_nil (c cap : Nat) (cv : Int) (w : World) : Calls Tryz.prog 63 #[.slice none c cap, .int .u8 cv] w fun e w' => e = .returned (.int .i64 (-1)) ∧ w' = w := by
 have mixed : Tryz.prog.follows .mixedOrders = true := by kernel_rfl
 go_enter Tryz.func63, Tryz.ntmps63
 go_wp2
 rw [run_callFunc_extern Tryz.func99 (by kernel_rfl) (by kernel_rfl) (by kernel_rfl) (e := Extern.BytealgIndexByte.indexByte) (by kernel_rfl), Lib.run_indexByteNil (P := Tryz.prog) w c cap cv]
 simp only [Result.andThen]
 rw [Oper.upon_value]
 go_wp2
 go_ret
 exact ⟨rfl, rfl⟩
theorem Tryz.IndexByte_p (l : List UInt8) (c : UInt8) (bx : Boxes) : PureCall Tryz.prog 63 [.sl 1 (l.map byteV), .int .u8 c.toNat] bx (.int .i64 (Lib.indexByte l c)) := by
 refine ⟨enters_of Tryz.func63 (by kernel_rfl) rfl, fun β M w vs hok hgl hvs hrep => ?_⟩
 have r0 := hrep 0 _ rfl
 have r1 := hrep 1 _ rfl
 have hv : vs = #[vs.getD 0 undef, vs.getD 1 undef] := by
   simp at hvs
   apply Array.ext
   · simpa using hvs
   · intro j g1 g2
     simp at g2
     have : j = 0 ∨ j = 1 := by omega
     rcases this with rfl | rfl <;> simp [g1]
 generalize vs.getD 0 undef = u at r0 hv
 generalize vs.getD 1 undef = u1 at r1 hv
 subst hv
 obtain ⟨A, cap, rfl, hA⟩ := sl_bytes r0
 rw [r1.int_inv]
 have key : Calls Tryz.prog 63 #[.slice A l.length cap, .int .u8 c.toNat] w fun e w' => e = .returned (.int .i64 (Lib.indexByte l c)) ∧ w' = w := by
   rcases hA with ⟨rfl, rfl⟩ | ⟨a, rfl, hc⟩
   · exact Tryz.IndexByte_nil _ _ _ w
   · have := Any.bytes_IndexByte_at Tryz.layIB a l.length cap (l.map fun b => (b.toNat : Int)) c.toNat w (by simp) hc
     rw [bytesOf_nat, show ((c.toNat : Int).toNat.toUInt8) = c by simp] at this
     exact this
 refine key.mono ?_
 rintro e w' ⟨rfl, rfl⟩
 exact ⟨_, _, bx, β, rfl, ⟨rfl, rfl⟩, hok, Tr.refl _ _ _, .int _ _⟩
theorem idx_none {l : List UInt8} {c : UInt8} (h : ¬ c ∈ l) : Lib.indexByte l c = -1 := by
 induction l with
 | nil => rfl
 | cons b l ih =>
   simp at h
   unfold Lib.indexByte
   rw [if_neg (by simp; exact fun e => h.1 e.symm), ih h.2]
   rfl
theorem idx_some {l : List UInt8} {c : UInt8} (h : c ∈ l) : ∃ n : Nat, n < l.length ∧ Lib.indexByte l c = n ∧ l[n]? = some c ∧ ¬ c ∈ l.take n := by
 induction l with
 | nil => cases h
 | cons b l ih =>
   by_cases e : b = c
   · subst e
     exact ⟨0, by simp, by simp [Lib.indexByte], by simp, by simp⟩
   · obtain ⟨n, h1, h2, h3, h4⟩ := ih (by simpa [Ne.symm e, eq_comm] using h)
     refine ⟨n + 1, by simp; omega, ?_, by simpa using h3, by simp [h4]; exact fun h => e h.symm⟩
     unfold Lib.indexByte
     rw [if_neg (by simpa using e), h2, if_neg (by simp)]
     omega
theorem idx_lt (l : List UInt8) (c : UInt8) : (Lib.indexByte l c = -1 ∧ ¬ c ∈ l) ∨ ∃ n : Nat, n < l.length ∧ Lib.indexByte l c = n ∧ l[n]? = some c ∧ ¬ c ∈ l.take n := by
 by_cases h : c ∈ l
 · exact .inr (idx_some h)
 · exact .inl ⟨idx_none h, h⟩
def cutS (s : List UInt8) (c : UInt8) : List UInt8 × Bool := if s.getLast? = some c then (s.dropLast, true) else (s, false)
theorem Tryz.HasSuffix_p (s : List UInt8) (c : UInt8) (hs : s.length ≤ 100000000) (bx : Boxes) : PureCall Tryz.prog 125 [.str s, .str [c]] bx (.bool (decide (s.getLast? = some c))) := by
 refine Tryz.ctr125 fun hf => ?_
 by_cases h0 : 1 ≤ s.length
 · obtain ⟨t, a, rfl⟩ : ∃ t a, s = t ++ [a] := ⟨s.dropLast, s.getLast (by intro e; rw [e] at h0; simp at h0), (List.dropLast_concat_getLast _).symm⟩
   have h1 : (1 : Int) ≤ (t ++ [a]).length := by omega
   have w1 : IntKind.i64.wrap (t.length : Int) = t.length := wr64 (by simp at hs; omega)
   have e1 : (1 : Int) ≤ (t.length : Int) + 1 := by omega
   simp [go_sem, Tryz.C125, hf, w1, e1]
   refine ⟨by omega, ret_pure (by simp [go_sem]) ⟨?_, rfl⟩⟩
   have e2 : List.take (t.length + 1) (t ++ [a]) = t ++ [a] := List.take_of_length_le (by simp)
   simp [go_sem, e2]
 · have : s = [] := by cases s with | nil => rfl | cons _ _ => simp at h0
   subst this
   simp [go_sem, Tryz.C125, hf]
   exact ret_pure (by simp [go_sem]) ⟨by simp [go_sem], rfl⟩
theorem Tryz.CutSuffix_p (s : List UInt8) (c : UInt8) (hs : s.length ≤ 100000000) (bx : Boxes) : PureCall Tryz.prog 64 [.str s, .str [c]] bx (.tup [.str (cutS s c).1, .bool (cutS s c).2]) := by
 have cI : PureCall Tryz.prog 100 [.str s, .str [c]] bx (.tup [.str (cutS s c).1, .bool (cutS s c).2]) := by
   refine Tryz.ctr100 fun hf => ?_
   simp [go_sem, Tryz.C100, hf]
   refine callK_pure (Tryz.HasSuffix_p s c hs bx) ?_
   by_cases h : s.getLast? = some c
   · have h0 : s ≠ [] := by intro e; rw [e] at h; cases h
     have h1 : 1 ≤ s.length := List.length_pos_iff.2 h0
     have w1 : IntKind.i64.wrap ((s.length : Int) - 1) = ((s.length - 1 : Nat) : Int) := by
       rw [show ((s.length : Int) - 1) = ((s.length - 1 : Nat) : Int) by omega]
       exact wr64 (by omega)
     simp [go_sem, h, w1]
     refine ret_pure (by simp [go_sem]) ⟨?_, rfl⟩
     simp [go_sem, cutS, h, List.dropLast_eq_take]
   · simp [go_sem, h]
     exact ret_pure (by simp [go_sem]) ⟨by simp [go_sem, cutS, h], rfl⟩
 refine Tryz.ctr64 fun hf => ?_
 simp [go_sem, Tryz.C64, hf]
 refine callK_pure cI ?_
 simp [go_sem]
 exact ret_pure (by simp [go_sem]) ⟨by simp [go_sem], rfl⟩
theorem Tryz.Index2_p {bx : Boxes} (hm : Mk bx) (s : List UInt8) (c : UInt8) : PureCall Tryz.prog 101 [.str s, .str [c]] bx (.int .i64 (Lib.indexByte s c)) := by
 refine Tryz.ctr101 fun hf => ?_
 simp [go_sem, Tryz.C101, hf]
 refine callK_pure (Tryz.Index_p hm s c) ?_
 simp [go_sem]
 exact ret_pure (by simp [go_sem]) ⟨by simp [go_sem], rfl⟩
theorem Tryz.Contains_p {bx : Boxes} (hm : Mk bx) (s : List UInt8) (c : UInt8) : PureCall Tryz.prog 65 [.str s, .str [c]] bx (.bool (decide (c ∈ s))) := by
 refine Tryz.ctr65 fun hf => ?_
 simp [go_sem, Tryz.C65, hf]
 refine callK_pure (Tryz.Index2_p hm s c) ?_
 simp [go_sem]
 refine ret_pure (by simp [go_sem]) ⟨?_, rfl⟩
 rcases idx_lt s c with ⟨h1, h2⟩ | ⟨n, h1, h2, h3, h4⟩
 · simp [go_sem, h1, h2]
 · have : c ∈ s := List.mem_of_getElem? h3
   simp [go_sem, h2, this]
def cutC (s : List UInt8) (c : UInt8) : List UInt8 × List UInt8 × Bool := if c ∈ s then (s.takeWhile (· != c), (s.dropWhile (· != c)).drop 1, true) else (s, [], false)
theorem cut_at {s : List UInt8} {c : UInt8} {n : Nat} (h3 : s[n]? = some c) (h4 : ¬ c ∈ s.take n) : cutC s c = (s.take n, s.drop (n + 1), true) := by
 have hc : c ∈ s := List.mem_of_getElem? h3
 have hn := (List.getElem?_eq_some_iff.1 h3).1
 have hs : s = s.take n ++ c :: s.drop (n + 1) := by
   have h5 : s.drop n = c :: s.drop (n + 1) := by
     rw [List.drop_eq_getElem_cons hn]
     rw [(List.getElem?_eq_some_iff.1 h3).2]
   rw [← h5, List.take_append_drop]
 have ha : ∀ x, x ∈ s.take n → (x != c) = true := by
   intro x hx
   simp
   rintro rfl
   exact h4 hx
 have h1 : s.takeWhile (· != c) = s.take n := by
   conv => lhs; rw [hs]
   rw [List.takeWhile_append_of_pos ha, List.takeWhile_cons_of_neg (by simp)]
   simp
 have h2 : s.dropWhile (· != c) = c :: s.drop (n + 1) := by
   conv => lhs; rw [hs]
   rw [List.dropWhile_append_of_pos ha, List.dropWhile_cons_of_neg (by simp)]
 unfold cutC
 rw [if_pos hc, h1, h2]
 rfl
theorem Tryz.Cut_p {bx : Boxes} (hm : Mk bx) (s : List UInt8) (c : UInt8) (hs : s.length ≤ 100000000) : PureCall Tryz.prog 66 [.str s, .str [c]] bx (.tup [.str (cutC s c).1, .str (cutC s c).2.1, .bool (cutC s c).2.2]) := by
 have cI : PureCall Tryz.prog 102 [.str s, .str [c]] bx (.tup [.str (cutC s c).1, .str (cutC s c).2.1, .bool (cutC s c).2.2]) := by
   refine Tryz.ctr102 fun hf => ?_
   simp [go_sem, Tryz.C102, hf]
   refine callK_pure (Tryz.Index_p hm s c) ?_
   rcases idx_lt s c with ⟨h1, h2⟩ | ⟨n, h1, h2, h3, h4⟩
   · simp [go_sem, h1]
     exact ret_pure (by simp [go_sem]) ⟨by simp [go_sem, cutC, h2], rfl⟩
   · have hw := wr_succ (k := n) (by omega)
     simp [go_sem, h2, hw]
     refine ⟨by omega, ⟨by omega, by omega⟩, ret_pure (by simp [go_sem]) ⟨?_, rfl⟩⟩
     simp [go_sem, cut_at h3 h4]
 refine Tryz.ctr66 fun hf => ?_
 simp [go_sem, Tryz.C66, hf]
 refine callK_pure cI ?_
 simp [go_sem]
 exact ret_pure (by simp [go_sem]) ⟨by simp [go_sem], rfl⟩
end Go.Proofs

set_option linter.unusedSimpArgs false
set_option linter.unusedVariables false
set_option maxRecDepth 100000
namespace Go.Proofs
open Go Go.Pl Go.RowKit
def kindS : List UInt8 := List.append [48, 48, 48, 48, 48, 48, 48, 48, 48, 50, 48, 48, 48, 48, 48, 48, 48, 48, 48, 48, 48, 48, 48, 48, 48, 48, 48, 48, 48, 48, 48, 48, 50, 51, 49, 51, 51, 51, 51, 51, 49, 49, 51, 51, 49, 51, 51, 49, 51, 51, 51, 51, 51, 51, 51, 51, 51, 51, 49, 49, 49, 49, 49, 49] [49, 51, 51, 51, 51, 51, 51, 51, 51, 51, 51, 51, 51, 51, 51, 51, 51, 51, 51, 51, 51, 51, 51, 51, 51, 51, 51, 49, 49, 49, 51, 51, 51, 51, 51, 51, 51, 51, 51, 51, 51, 51, 51, 51, 51, 51, 51, 51, 51, 51, 51, 51, 51, 51, 51, 51, 51, 51, 51, 49, 51, 49, 51, 48]
def kindN (c : UInt8) : Nat := if 128 ≤ c.toNat then 0 else (kindS.getD c.toNat 48).toNat - 48
theorem kind_let : ∀ n : Fin 256, (kindN (UInt8.ofNat n.val) == 3) = letB (UInt8.ofNat n.val) := by decide +kernel
theorem kind3 (c : UInt8) : (kindN c == 3) = letB c := by
 have := kind_let ⟨c.toNat, c.toNat_lt⟩
 simpa using this
theorem kindS_len : kindS.length = 128 := by decide
theorem kindS_ge : ∀ n : Fin 128, 48 ≤ (kindS.getD n.val 48).toNat ∧ (kindS.getD n.val 48).toNat < 58 := by decide
theorem Tryz.kind_c (c : UInt8) (bx : Boxes) : PureCall Tryz.prog 86 [.int .u8 c.toNat] bx (.int .i64 (kindN c)) := by
 refine Tryz.ctr86 fun hf => ?_
 have hc := c.toNat_lt
 have w1 : IntKind.i64.wrap (c.toNat : Int) = (c.toNat : Int) := wr64 (by omega)
 by_cases h : 128 ≤ c.toNat
 · have h2 : (128 : Int) ≤ c.toNat := by omega
   simp [go_sem, Tryz.C86, hf, w1, h2]
   exact ret_pure (by simp [go_sem]) ⟨by simp [go_sem, kindN, h], rfl⟩
 · have h2 : ¬ (128 : Int) ≤ c.toNat := by omega
   have hk := kindS_ge ⟨c.toNat, by omega⟩
   have hl := kindS_len
   have hg : kindS[c.toNat]? = some (kindS.getD c.toNat 48) := by
     rw [List.getD_eq_getElem?_getD, List.getElem?_eq_getElem (by omega)]; rfl
   simp [go_sem, Tryz.C86, hf, w1, h2]
   refine ⟨by omega, ret_pure (by simp [go_sem]) ⟨?_, rfl⟩⟩
   show V.int .i64 (IntKind.i64.wrap (IntKind.u8.wrap ((((kindS[c.toNat]?).getD 0).toNat : Int) - 48))) = _
   rw [hg]
   dsimp only at hk
   unfold kindN
   rw [if_neg h]
   generalize kindS.getD c.toNat 48 = x at *
   have w2 : IntKind.u8.wrap (((some x).getD 0).toNat - 48 : Int) = ((x.toNat - 48 : Nat) : Int) := by
     show IntKind.u8.wrap ((x.toNat : Int) - 48) = _
     have e : (x.toNat : Int) - 48 = ((x.toNat - 48 : Nat) : Int) := by omega
     rw [e]
     exact wru8 (by omega)
   rw [w2, wr64 (by omega)]
theorem Tryz.Token_c (s : List UInt8) (hs : s.length ≤ 100000) (bx : Boxes) : PureCall Tryz.prog 53 [.str s] bx (.bool (tokB s)) := by
 refine Tryz.ctr53 fun hf => ?_
 simp [go_sem, Tryz.C53, hf]
 refine ⟨by omega, ?_⟩
 refine pw_find s.length (fun j => !letB (s.getD j 0)) (fun j => ⟨24, slk [(0, .str s), (6, .sl 1 (s.map byteV)), (7, .int .i64 s.length), (8, .int .i64 j)], bx⟩) (cov_look (by simp [go_sem])) (fun j hj hJ N hN => ?_) (fun hJ N => ?_)
 · have hw := wr_succ (k := j) (by omega)
   have hg : s.getD j 0 = s[j] := by simp [hj]
   have hk := kind3 s[j]
   rw [hg, ← hk] at hN
   have cK := Tryz.kind_c s[j] bx
   simp [go_sem, Tryz.L53_0, hj, hf, hw, byteV]
   refine callK_pure cK ?_
   by_cases h3 : kindN s[j] = 3
   · simp [go_sem, h3, hw]
     exact hN _ (by simp [h3]) (cov_look (by simp [go_sem, byteV]))
   · have h4 : ¬ (kindN s[j] : Int) = 3 := by omega
     simp [go_sem, h4, hw]
     refine ret_pure (by simp [go_sem]) ⟨?_, rfl⟩
     have hl : letB s[j] = false := by rw [← hk]; simp [h3]
     simp [go_sem, tokB, all_miss hj hl]
 · simp [go_sem, Tryz.L53_0, hf]
   refine ret_pure (by simp [go_sem]) ⟨?_, rfl⟩
   unfold tokB
   rw [all_of_find hJ]
   have e1 : (0 < s.length) ↔ (1 ≤ s.length) := by omega
   have e2 : ((s.length : Int) ≤ 64) ↔ (s.length ≤ 64) := by omega
   simp [go_sem, e1, e2]
theorem Tryz.size_c (f : Fd) (hf : f.1.length ≤ 100000 ∧ f.2.length ≤ 100000) (bx : Boxes) : PureCall Tryz.prog 56 [fdV f] bx (.int .i64 (sizF f)) := by
 refine Tryz.ctr56 fun hb => ?_
 have w1 : IntKind.i64.wrap ((f.1.length : Int) + f.2.length) = (f.1.length : Int) + f.2.length := wr64 (by omega)
 have w2 : IntKind.i64.wrap ((f.1.length : Int) + f.2.length + 4) = (sizF f : Int) := by rw [wr64 (by omega)]; unfold sizF; omega
 simp [go_sem, Tryz.C56, hb, fdV, w1, w2]
 exact ret_pure (by simp [go_sem]) ⟨by simp [go_sem], rfl⟩
theorem Tryz.Check_c {bx : Boxes} (hm : Mk bx) (l : List Fd) (hl : Small l) : PureCall Tryz.prog 21 [.sl 2 (l.map fdV)] bx (.int .i64 (chkL l)) := by
 refine Tryz.ctr21 fun hf => ?_
 by_cases h1 : 100 < l.length
 · have h2 : (100 : Int) < l.length := by omega
   simp [go_sem, Tryz.C21, hf, h2]
   exact ret_pure (by simp [go_sem]) ⟨by simp [go_sem, chkL, h1], rfl⟩
 have h2 : ¬ (100 : Int) < l.length := by omega
 simp [go_sem, Tryz.C21, hf, h2]
 refine pw_find l.length (fun i => decide (chkF (l.getD i ([], [])) ≠ 0)) (fun i => ⟨46, slk [(3, .int .i64 (sumF (l.take i))), (9, .sl 2 (l.map fdV)), (10, .int .i64 l.length), (11, .int .i64 i)], bx⟩) (cov_look (by simp [go_sem, sumF])) (fun i hi hJ N hN => ?_) (fun hJ N => ?_)
 · have hw := wr_succ (k := i) (by omega)
   have hsm := hl l[i] (List.getElem_mem hi)
   have hg : l.getD i ([], []) = l[i] := by simp [hi]
   have hsum := sumF_le hl i (by omega)
   have hst := sumF_take hi
   have hhit := find_hit hi hJ
   rw [hg] at hN
   have cS := Tryz.size_c l[i] hsm bx
   unfold fdV at cS
   simp [go_sem, Tryz.L21_0, hi, hf, hw, fdV]
   generalize l[i] = f at *
   obtain ⟨nm, vl⟩ := f
   dsimp only at hsm cS ⊢
   obtain ⟨hs1, hs2⟩ := hsm
   have hC : ∀ e, chkF (nm, vl) = e → e ≠ 0 → chkL l = e := by
     intro e g1 g2
     unfold chkL
     rw [if_neg h1, hhit (by rw [g1]; exact g2)]
     exact g1
   clear hhit
   have hsz : sizF (nm, vl) ≤ 200004 := by unfold sizF; dsimp only; omega
   generalize sizF (nm, vl) = Z at *
   generalize sumF (l.take i) = S at *
   generalize sumF (l.take (i + 1)) = S2 at *
   have hi100 : i < 100 := by omega
   have w1 : IntKind.i64.wrap ((S : Int) + Z) = (S2 : Int) := by rw [wr64 (by omega)]; omega
   intro b hb
   rw [upd_none hb]
   refine callK_pure (Tryz.Token_c nm hs1 bx) ?_
   cases hT : tokB nm
   · simp [go_sem]
     refine gK_off (.bool false) (by simp [go_sem]) ?_
     simp [go_sem]
     refine gK_off (.bool false) (by simp [go_sem]) ?_
     simp [go_sem]
     refine ret_pure (by simp [go_sem]) ⟨?_, rfl⟩
     simp [go_sem, hC 6 (by simp [chkF, hT]) (by decide)]
   simp [go_sem]
   refine gK_pure (Tryz.plain_p hm vl) (by simp) (by simp [go_sem]) ?_
   cases hP : plainB vl
   · simp [go_sem]
     refine gK_off (.bool false) (by simp [go_sem]) ?_
     simp [go_sem]
     refine ret_pure (by simp [go_sem]) ⟨?_, rfl⟩
     simp [go_sem, hC 6 (by simp [chkF, hT, hP]) (by decide)]
   simp [go_sem]
   refine gK_pure (Tryz.Trim_p hm vl hs2) (by simp) (by simp [go_sem]) ?_
   by_cases hR : trimB vl = vl
   · simp [go_sem, hR]
     refine ⟨fun h => ret_pure (by simp [go_sem]) ⟨?_, rfl⟩, fun h => ?_⟩
     · simp [go_sem, hC 3 (by have : 2000 < vl.length := by omega
                              simp [chkF, hT, hP, hR, this]) (by decide)]
     · refine callK_pure cS ?_
       simp [go_sem, w1, hw]
       refine hN _ ?_ (cov_look (by simp [go_sem]))
       have : ¬ 2000 < vl.length := by omega
       simp [chkF, hT, hP, hR, this]
   · simp [go_sem, hR]
     refine ret_pure (by simp [go_sem]) ⟨?_, rfl⟩
     simp [go_sem, hC 6 (by simp [chkF, hT, hP, hR]) (by decide)]
 · have hnone := find_none hJ
   rw [List.take_length]
   simp [go_sem, Tryz.L21_0, hf]
   refine ⟨fun h => ret_pure (by simp [go_sem]) ⟨?_, rfl⟩, fun h => ret_pure (by simp [go_sem]) ⟨?_, rfl⟩⟩
   · have : 8192 < sumF l := by omega
     unfold chkL
     rw [if_neg h1, hnone]
     simp [go_sem, this]
   · have : ¬ 8192 < sumF l := by omega
     unfold chkL
     rw [if_neg h1, hnone]
     simp [go_sem, this]
end Go.Proofs

set_option linter.unusedVariables false
set_option linter.unusedSimpArgs false
set_option maxRecDepth 100000
namespace Go.Proofs
open Go Go.Pl Go.RowKit Go.Shelf
def lineF (s : List UInt8) : Option Fd := if ((cutC s 58).2.2 && tokB (cutC s 58).1 && plainB (cutC s 58).2.1) = true then some ((cutC s 58).1, trimB (cutC s 58).2.1) else none
def lineOk (ln : List UInt8) : Bool := decide (ln.getLast? = some 13) && !decide ((13 : UInt8) ∈ ln.dropLast)
theorem cutC_lt {s : List UInt8} {c : UInt8} (h : c ∈ s) : (cutC s c).2.1.length < s.length := by
 obtain ⟨n, h1, h2, h3, h4⟩ := idx_some h
 rw [cut_at h3 h4]
 simp
 omega
def prs (len at_ : Nat) (out : List Fd) (r : List UInt8) : List Fd × Nat × Int :=
 if h : (10 : UInt8) ∈ r then
   if 8192 ≤ at_ + (cutC r 10).1.length then ([], 0, 3)
   else if lineOk (cutC r 10).1 = true then
     if (cutC r 10).1.dropLast = [] then (out, at_ + (cutC r 10).1.length + 1, 0)
     else match lineF (cutC r 10).1.dropLast with
       | none => ([], 0, 6)
       | some f => if 2000 < f.2.length ∨ out.length = 100 then ([], 0, 3) else prs len (at_ + (cutC r 10).1.length + 1) (out ++ [f]) (cutC r 10).2.1
   else ([], 0, 6)
 else if 8192 < len then ([], 0, 3) else ([], 0, 10)
termination_by r.length
decreasing_by exact cutC_lt h
theorem prs_no {len at_ : Nat} {out : List Fd} {r : List UInt8} (h : ¬ (10 : UInt8) ∈ r) : prs len at_ out r = ([], 0, if 8192 < len then 3 else 10) := by
 rw [prs, dif_neg h]
 split <;> rfl
theorem prs_at {len at_ : Nat} {out : List Fd} {r : List UInt8} {n : Nat} (h3 : r[n]? = some 10) (h4 : ¬ (10 : UInt8) ∈ r.take n) : prs len at_ out r =
   if 8192 ≤ at_ + n then ([], 0, 3)
   else if lineOk (r.take n) = true then
     if (r.take n).dropLast = [] then (out, at_ + n + 1, 0)
     else match lineF (r.take n).dropLast with
       | none => ([], 0, 6)
       | some f => if 2000 < f.2.length ∨ out.length = 100 then ([], 0, 3) else prs len (at_ + n + 1) (out ++ [f]) (r.drop (n + 1))
   else ([], 0, 6) := by
 have hn := (List.getElem?_eq_some_iff.1 h3).1
 rw [prs, dif_pos (List.mem_of_getElem? h3), cut_at h3 h4]
 simp only [List.length_take, Nat.min_eq_left (Nat.le_of_lt hn)]
def prsV (x : List Fd × Nat × Int) : V := .tup [.sl 2 (x.1.map fdV), .int .i64 x.2.1, .int .i64 x.2.2]
def parseF (b : List UInt8) : List Fd × Nat × Int := prs b.length 0 [] b
end Go.Proofs

set_option linter.unusedVariables false
set_option linter.unusedSimpArgs false
set_option maxRecDepth 100000
namespace Go.Proofs
open Go Go.Pl Go.RowKit Go.Shelf
theorem lies_one {P : Program} {e : TypeId} {c : Nat} (hd : 0 < P.depth) (hs : P.cellsOf e ≠ 0) (hc : 1 ≤ c) : liesAt P P.depth e c 0 e 1 = true := by
 obtain ⟨d, hd⟩ : ∃ d, P.depth = d + 1 := ⟨P.depth - 1, by omega⟩
 have h1 : sameLayout P P.depth e e = true := by rw [hd]; simp [sameLayout]
 have h2 : rowAt P (fun t => sameLayout P P.depth t e) P.depth e c 0 1 = true := by
   rw [hd] at h1 ⊢
   unfold rowAt
   rw [if_neg hs]
   simp [h1, hc]
 rw [hd] at h2 ⊢
 unfold liesAt
 rw [hd]
 rw [h2]
 rfl
theorem Tryz.szB : (Tryz.prog.info? 82).map (·.size) = some 2 := by kernel_rfl
theorem Tryz.cellsB : Tryz.prog.cellsOf 82 = 2 := by kernel_rfl
theorem Tryz.depth0 : 0 < Tryz.prog.depth := by
 have h : decide (0 < Tryz.prog.depth) = true := by kernel_rfl
 exact of_decide_eq_true h
theorem Tryz.copy_used (b : Nat) (w : World) (h0 : w.cell? ⟨b, 0, none⟩ = some (.pointer (some ⟨b, 0, none⟩))) :
   Calls Tryz.prog 98 #[.pointer (some ⟨b, 0, none⟩)] w fun e w' => e = .returned (.tuple #[]) ∧ w' = w := by
 obtain ⟨j, hj, hjs⟩ := Option.map_eq_some_iff.1 Tryz.szB
 go_enter Tryz.func98, Tryz.ntmps98
 go_wp2
 rw [Lib.run_neq_ptr_same w _ (show Tryz.prog.underlying 80 = some (.pointer 82) by kernel_rfl) hj]
 go_wp2
 go_end0
 exact ⟨rfl, rfl⟩
theorem Tryz.copy_fresh (b n : Nat) (w : World) (h0 : w.cell? ⟨b, 0, none⟩ = some (.pointer none)) (hsh : w.shape? b = some (82, n)) (hn : 2 ≤ n) (hfz : w.frozen? ⟨b, 0, none⟩ = false) :
   Calls Tryz.prog 98 #[.pointer (some ⟨b, 0, none⟩)] w fun e w' => e = .returned (.tuple #[]) ∧ w' = w.setCell ⟨b, 0, none⟩ (.pointer (some ⟨b, 0, none⟩)) := by
 obtain ⟨j, hj, hjs⟩ := Option.map_eq_some_iff.1 Tryz.szB
 have hlies : liesAt Tryz.prog Tryz.prog.depth 82 (n / Tryz.prog.cellsOf 82) 0 82 1 = true := lies_one Tryz.depth0 (by rw [Tryz.cellsB]; decide) (by rw [Tryz.cellsB]; exact (Nat.le_div_iff_mul_le (by decide)).2 (by omega))
 go_enter Tryz.func98, Tryz.ntmps98
 go_wp2
 rw [Lib.run_to_unsafe w ⟨b, 0, none⟩ (t := 82) (by kernel_rfl) (by kernel_rfl) hj (by rw [hjs]; decide) hsh (show 0 < n by omega)]
 simp only [Result.andThen]
 rw [Oper.upon_value]
 go_wp2
 rw [run_callFunc_extern Tryz.func124 (by kernel_rfl) (by kernel_rfl) (by kernel_rfl) (e := Extern.AbiNoEscape.same) (by kernel_rfl)]
 rw [Lib.run_noEscape]
 simp only [Result.andThen]
 rw [Oper.upon_value]
 go_wp2
 rw [Lib.run_from_unsafe w ⟨b, 0, none⟩ (u := 82) (by kernel_rfl) (by kernel_rfl) hj hsh hlies]
 simp only [Result.andThen]
 rw [Oper.upon_value]
 go_wp2
 go_end0
 exact ⟨rfl, rfl⟩
end Go.Proofs

set_option linter.unusedVariables false
set_option linter.unusedSimpArgs false
set_option maxRecDepth 100000
namespace Go.Proofs
open Go Go.Pl Go.RowKit Go.Shelf
theorem setCell_row {w : World} {k : Nat} {cur : Array Value} {ty : TypeId} {fr : Nat × Nat} (h : w.heap[k]? = some (.cells cur ty fr)) (i : Nat) (v : Value) : w.setCell ⟨k, i, none⟩ v = w.setRow k (cur.setIfInBounds i v) := by
 unfold World.setCell World.setRow
 refine congrArg (fun h => ({ w with heap := h } : World)) ?_
 apply Array.ext_getElem?
 intro j
 rw [Array.getElem?_modify, Array.getElem?_modify]
 by_cases e : k = j
 · subst e
   simp [h]
 · simp [e]
def bldV (T : TypeId) (a v : V) : Box := .row T 2 [.agg [a, v]]
theorem Tryz.copy_p {bx : Boxes} {b : Nat} {a v : V} (hb : bx b = some (bldV 82 a v)) (ha : a = .nilp ∨ a = .ptr b 2 0 0) :
   AbsCall Tryz.prog 98 [.ptr b 2 0 0] bx fun r bx' => r = .tup [] ∧ bx' = upd bx b (some (bldV 82 (.ptr b 2 0 0) v)) := by
 unfold bldV at hb ⊢
 refine ⟨enters_of Tryz.func98 (by kernel_rfl) rfl, fun β M w vs hok hgl hvs hrep => ?_⟩
 have h0 := hrep 0 _ rfl
 have hv1 : vs = #[vs.getD 0 undef] := by
   apply Array.ext
   · simpa using hvs
   · intro j g1 g2
     simp at hvs g2
     subst g2
     simp [g1]
 generalize vs.getD 0 undef = u at h0 hv1
 subst hv1
 cases h0 with
 | ptr _ _ _ _ k hβ =>
   rcases hok.live b _ hb with ⟨h1, h2⟩ | ⟨k', h1, hlt, hM, cur, fr, hcur, hfr, hcl, hrow⟩
   · simp [Box.empty] at h2
   · rw [hβ] at h1
     injection h1 with h1
     injection h1 with h1
     subst h1
     obtain ⟨_, hr⟩ := hrow 0 _ rfl
     obtain ⟨o0, r0⟩ := hr 0 a rfl
     obtain ⟨o1, r1⟩ := hr 1 v rfl
     simp only [Nat.zero_mul, Nat.zero_add] at o0 r0 o1 r1
     have hc2 : 2 ≤ cur.size := by simpa using hcl
     have hcell : w.cell? ⟨k, 0, none⟩ = some (cur.getD 0 undef) := by
       simp [World.cell?, hcur, show 0 < cur.size by omega]
     have hfz : w.frozen? ⟨k, 0, none⟩ = false := frozen_fr hcur hfr (by omega)
     rcases ha with rfl | rfl
     · have e0 : cur.getD 0 undef = .pointer none := by
         generalize cur.getD 0 undef = c at r0
         cases r0; rfl
       rw [e0] at hcell
       refine (Tryz.copy_fresh k cur.size w hcell (shape_of hcur) hc2 hfz).mono ?_
       rintro e w' ⟨rfl, rfl⟩
       rw [setCell_row hcur]
       obtain ⟨g1, g2⟩ := write_box hok hb hβ hcur hfr (cur.setIfInBounds 0 (.pointer (some ⟨k, 0, none⟩))) (by simp) [.agg [.ptr b 2 0 0, v]] rfl (by simpa using hc2) (by
         intro i e hi
         rcases i with _ | i
         · simp at hi
           subst hi
           refine ⟨rfl, fun j c hj => ?_⟩
           rcases j with _ | _ | j
           · simp [V.cells] at hj
             subst hj
             simp only [Nat.zero_mul, Nat.zero_add]
             have : (cur.setIfInBounds 0 (.pointer (some ⟨k, 0, none⟩))).getD 0 undef = .pointer (some ⟨k, 0, none⟩) := by simp [show 0 < cur.size by omega]
             rw [this]
             exact ⟨rfl, by simpa using Rep.ptr b 2 0 0 k hβ⟩
           · simp [V.cells] at hj
             subst hj
             simp only [Nat.zero_mul, Nat.zero_add]
             have : (cur.setIfInBounds 0 (.pointer (some ⟨k, 0, none⟩))).getD 1 undef = cur.getD 1 undef := by
               simp [Array.getD_eq_getD_getElem?]
             rw [this]
             exact ⟨o1, r1⟩
           · simp [V.cells] at hj
         · simp at hi)
       exact ⟨_, _, _, β, rfl, ⟨rfl, rfl⟩, g1, g2, .tup [] #[] rfl (fun i c h => by simp at h)⟩
     · have e0 : cur.getD 0 undef = .pointer (some ⟨k, 0, none⟩) := by
         generalize cur.getD 0 undef = c at r0
         cases r0 with
         | ptr _ _ _ _ k2 hβ2 =>
           rw [hβ] at hβ2
           injection hβ2 with hβ2
           injection hβ2 with hβ2
           subst hβ2
           rfl
       rw [e0] at hcell
       refine (Tryz.copy_used k w hcell).mono ?_
       rintro e w' ⟨rfl, rfl⟩
       have hs : upd bx b (some (.row 82 2 [.agg [.ptr b 2 0 0, v]])) = bx := by
         funext c
         by_cases e : c = b
         · subst e; rw [upd_eq, hb]
         · rw [upd_ne _ _ e]
       rw [hs]
       exact ⟨_, _, _, β, rfl, ⟨rfl, rfl⟩, hok, Tr.refl _ _ _, .tup [] #[] rfl (fun i c h => by simp at h)⟩
end Go.Proofs

set_option linter.unusedVariables false
set_option linter.unusedSimpArgs false
set_option maxRecDepth 100000
namespace Go.Proofs
open Go Go.Pl Go.RowKit Go.Shelf
structure Bld (bx0 bx : Boxes) (b : Nat) (l : List UInt8) : Prop where
 ex : ∃ a v, (a = .nilp ∨ a = .ptr b 2 0 0) ∧ bx b = some (bldV 82 a v) ∧ ((v = .nils ∧ l = []) ∨ ∃ bb, v = .own bb 1 0 l.length ∧ bb ≠ b ∧ bx0 bb = none ∧ bx bb = some (.row 5 1 (l.map byteV)))
 nb : bx0 b = none
 ext : Ext bx0 bx
 fin : FinB bx
theorem Bld.start {bx : Boxes} {b : Nat} (hb : bx b = none) (hf : FinB bx) : Bld bx (upd bx b (some (.row 82 2 [.agg [.nilp, .nils]]))) b [] :=
 ⟨⟨.nilp, .nils, .inl rfl, upd_eq _ _ _, .inl ⟨rfl, rfl⟩⟩, hb, (Ext.refl _).new hb _, (finB_upd _ _ _).2 hf⟩
theorem Bld.next {bx0 bx : Boxes} {b : Nat} {l : List UInt8} (h : Bld bx0 bx b l) {bx1 : Boxes} {b' : Nat} {l' : List UInt8} {n : Nat} (hn : n = l'.length) (hne : b' ≠ b) (h0 : bx0 b' = none) (hb : bx1 b = some (.row 82 2 [.agg [.ptr b 2 0 0, .own b' 1 0 n]])) (hb' : bx1 b' = some (.row 5 1 (l'.map byteV))) (he : Ext bx0 bx1) (hf : FinB bx1) : Bld bx0 bx1 b l' := by
 subst hn
 exact ⟨⟨_, _, .inr rfl, hb, .inr ⟨b', rfl, hne, h0, hb'⟩⟩, h.nb, he, hf⟩
theorem Tryz.WriteString_p {bx0 bx : Boxes} {b : Nat} {l : List UInt8} (h : Bld bx0 bx b l) (s : List UInt8) (hs : l.length + s.length ≤ 100000000) :
   AbsCall Tryz.prog 60 [.ptr b 2 0 0, .str s] bx fun r bx' => r = .tup [.int .i64 s.length, .nili] ∧ Bld bx0 bx' b (l ++ s) := by
 refine Tryz.ctr60 fun hf => ?_
 obtain ⟨a, v, ha, hb, hv⟩ := h.ex
 simp [go_sem, Tryz.C60, hf]
 refine callK_abs (Tryz.copy_p hb ha) ?_
 rintro r bx1 ⟨rfl, rfl⟩
 unfold bldV
 rcases hv with ⟨rfl, rfl⟩ | ⟨bb, rfl, hne, hbb0, hbb⟩
 · simp [go_sem, upd_eq, finB_upd, hf, appendA, srcEls, Tryz.knd43, Tryz.tsz5, Tryz.tzero5, Tryz.tby5, Tryz.knd9]
   refine ⟨by omega, by omega, fun b' hb' => ?_⟩
   have hne : b' ≠ b := fun e => by subst e; rw [upd_eq] at hb'; cases hb'
   have hb2 : bx b' = none := by rw [upd_ne _ _ hne] at hb'; exact hb'
   have h0 := h.ext.none hb2
   simp [go_sem, upd_eq, upd_ne, Ne.symm hne, hne, finB_upd, hf]
   refine ret_pure (by simp [go_sem]) ⟨by simp [go_sem], h.next (b' := b') (l' := s) rfl hne h0 (by simp [go_sem, upd_eq]) (by simp [go_sem, upd_ne _ _ hne, upd_eq]) (fun c hc => ?_) (by simp [finB_upd, hf])⟩
   have c1 : c ≠ b := fun e => hc (by rw [e]; exact h.nb)
   have c2 : c ≠ b' := fun e => hc (by rw [e]; exact h0)
   simp only [upd_ne _ _ c1, upd_ne _ _ c2]
   exact h.ext c hc
 · simp [go_sem, upd_eq, finB_upd, hf, upd_ne, hne, Ne.symm hne, hbb, appendA, srcEls, Tryz.knd43, Tryz.tsz5, Tryz.tzero5, Tryz.tby5, Tryz.knd9]
   refine ⟨by omega, by omega, fun b' hb' => ?_⟩
   have hne' : b' ≠ b := fun e => by subst e; rw [upd_ne _ _ (Ne.symm hne), upd_eq] at hb'; cases hb'
   have h0 : bx0 b' = none := by
     by_cases e : b' = bb
     · rw [e]; exact hbb0
     · rw [upd_ne _ _ e, upd_ne _ _ hne'] at hb'
       exact h.ext.none hb'
   have htk : (l.map byteV).take l.length = l.map byteV := by rw [List.take_of_length_le (by simp)]
   rw [htk, ← List.map_append]
   simp [go_sem, upd_eq, upd_ne, Ne.symm hne', hne', hne, Ne.symm hne, finB_upd, hf]
   refine ret_pure (by simp [go_sem]) ⟨by simp [go_sem], h.next (b' := b') (l' := l ++ s) (n := l.length + s.length) (by simp) hne' h0 (by simp [go_sem, upd_eq]) (by simp [go_sem, upd_ne _ _ hne', upd_eq]) (fun c hc => ?_) (by simp [finB_upd, hf])⟩
   have c1 : c ≠ b := fun e => hc (by rw [e]; exact h.nb)
   have c2 : c ≠ b' := fun e => hc (by rw [e]; exact h0)
   have c3 : c ≠ bb := fun e => hc (by rw [e]; exact hbb0)
   simp only [upd_ne _ _ c1, upd_ne _ _ c2, upd_ne _ _ c3]
   exact h.ext c hc
set_option maxHeartbeats 4000000 in
theorem Tryz.str_w (k g cap : Nat) (cur : Array Value) {fr : Nat × Nat} (l : List UInt8) (h0 : l ≠ []) (w : World) (hbk : w.cell? ⟨k, 1, none⟩ = some (.slice (some ⟨g, 0, none⟩) l.length cap)) (hg : w.heap[g]? = some (.cells cur 5 fr)) (hcur : ∀ (j : Nat) (x : UInt8), l[j]? = some x → cur[j]? = some (.int .u8 x.toNat)) (hle : l.length ≤ cap) (hmax : cap ≤ maxLen) :
   Calls Tryz.prog 61 #[.pointer (some ⟨k, 0, none⟩)] w fun e w' => e = .returned (.string ⟨l.toArray⟩) ∧ w' = w.drew.freeze ⟨g, 0, none⟩ l.length := by
 have mixed : Tryz.prog.follows .mixedOrders = true := by kernel_rfl
 have hl0 : l.length ≠ 0 := by simpa using h0
 have c1 : w.drew.cell? ⟨k, 1, none⟩ = some (.slice (some ⟨g, 0, none⟩) l.length cap) := hbk
 have hSD : (Builtin.unsafeSliceData_ #[43] 117 #[.slice (some ⟨g, 0, none⟩) l.length cap]).run Tryz.prog w.drew = .ok (.pointer (some ⟨g, 0, none⟩)) w.drew :=
   Lib.run_unsafeSliceData_row _ _ _ _ _ _ (by omega)
 have hUS : (Builtin.unsafeString_ #[117, 3] 9 #[.pointer (some ⟨g, 0, none⟩), .int .i64 l.length]).run Tryz.prog w.drew = .ok (.string ⟨l.toArray⟩) (w.drew.freeze ⟨g, 0, none⟩ l.length) := by
   refine Lib.run_unsafeString_row w.drew 117 3 9 5 (by kernel_rfl) (by kernel_rfl) g cur.size (by have hg' : w.drew.heap[g]? = some (.cells cur 5 fr) := hg; simp [World.shape?, hg']) l h0 ?_ (by unfold maxLen at hmax; omega) ?_
   · rcases hx : l.length with _ | n
     · omega
     · have hn : n < l.length := by omega
       have := hcur n _ (List.getElem?_eq_getElem hn)
       have := (Array.getElem?_eq_some_iff.1 this).1
       omega
   · intro j x hx
     have h2 := hcur j x hx
     have e : (⟨g, 0, none⟩ : Addr).add j = ⟨g, j, none⟩ := by unfold Addr.add; by_cases h : j = 0 <;> simp [h]
     rw [e]
     show w.cell? ⟨g, j, none⟩ = _
     simp [World.cell?, hg, h2]
 go_enter Tryz.func61, Tryz.ntmps61
 go_wp2
 go_region_o
 all_goals (go_wp2; go_ret; exact ⟨rfl, rfl⟩)
theorem box_frz {β : Beta} {M : Off} {w : World} {bx : Boxes} (h : WOk β M bx w) {b k : Nat} {ty : TypeId} {sz : Nat} {es : List V} (hb : bx b = some (.row ty sz es)) (hβ : β b = some (some k)) {cur : Array Value} {fr0 : Nat × Nat} (hcur : w.heap[k]? = some (.cells cur ty fr0)) (m : Nat) :
   WOk β M (upd bx b none) (w.freeze ⟨k, 0, none⟩ m) ∧ Tr β bx w β (upd bx b none) (w.freeze ⟨k, 0, none⟩ m) := by
 obtain ⟨fr, hkk, hko, hsz⟩ : ∃ fr, (w.freeze ⟨k, 0, none⟩ m).heap[k]? = some (.cells cur ty fr) ∧ (∀ q, q ≠ k → (w.freeze ⟨k, 0, none⟩ m).heap[q]? = w.heap[q]?) ∧ (w.freeze ⟨k, 0, none⟩ m).heap.size = w.heap.size := by
   unfold World.freeze
   split
   · exact ⟨_, hcur, fun _ _ => rfl, rfl⟩
   · obtain ⟨lo, hi⟩ := fr0
     refine ⟨_, by simp only [Array.getElem?_modify, if_pos, hcur, Option.map_some]; rfl, fun q hq => ?_, by simp⟩
     · simp only [Array.getElem?_modify]
       rw [if_neg (Ne.symm hq)]
 have hos : (w.freeze ⟨k, 0, none⟩ m).os = w.os ∧ (w.freeze ⟨k, 0, none⟩ m).tape = w.tape ∧ (w.freeze ⟨k, 0, none⟩ m).output = w.output ∧ (w.freeze ⟨k, 0, none⟩ m).drawn = w.drawn := by
   unfold World.freeze; split <;> exact ⟨rfl, rfl, rfl, rfl⟩
 generalize w.freeze ⟨k, 0, none⟩ m = w' at *
 have hlive := h.live b _ hb
 obtain ⟨hlt, hM⟩ : k < w.heap.size ∧ M k = none := by
   rcases hlive with ⟨h1, _⟩ | ⟨k', h1, h2, h3, _⟩
   · rw [hβ] at h1; cases h1
   · rw [hβ] at h1; injection h1 with h1; injection h1 with h1; subst h1; exact ⟨h2, h3⟩
 have hdom : ∀ b', upd bx b none b' ≠ none → bx b' ≠ none ∧ b' ≠ b := by
   intro b' hb'
   by_cases e : b' = b
   · subst e; simp [upd_eq] at hb'
   · rw [upd_ne _ _ e] at hb'; exact ⟨hb', e⟩
 have hs : ∀ q x, w.shape? q = some x → w'.shape? q = some x := by
   intro q x hx
   by_cases e : q = k
   · subst e; rw [shape_of hkk, ← shape_of hcur]; exact hx
   · rw [shape_heap (hko q e)]; exact hx
 have ht : Tr β bx w β (upd bx b none) w' :=
   ⟨hos.1, hos.2.1, hos.2.2.1, fun _ => by rw [hos.2.2.2]; exact Nat.le_refl _, fun hm => Mk.of_upd hm (fun _ h => by cases h), by omega, fun q h1 h2 => hko q (by rintro rfl; exact h2 b (by rw [hb]; simp) hβ), hs, fun _ _ h => h, fun b' q h1 h2 => .inl ⟨b', (hdom b' h1).1, h2⟩⟩
 refine ⟨⟨h.fin, fun q y hq => (hko q (by rintro rfl; rw [hM] at hq; cases hq)).trans (h.mlt q y hq), fun b' box' hb' => ?_, fun b1 b2 q h1 h2 h3 h4 => h.inj b1 b2 q (hdom _ h1).1 (hdom _ h2).1 h3 h4⟩, ht⟩
 have hne := (hdom b' (by rw [hb']; simp)).2
 rw [upd_ne _ _ hne] at hb'
 rcases h.live b' box' hb' with h1 | ⟨k', h1, h2, h3, h4⟩
 · exact .inl h1
 · have e : k' ≠ k := by rintro rfl; exact hne (h.inj b' b k' (by rw [hb']; simp) (by rw [hb]; simp) h1 hβ)
   exact .inr ⟨k', h1, by omega, h3, boxAt_mono h4 (hko k' e) (fun _ _ h => h) (fun _ hk => ht.fz hk) ht.shape⟩
theorem Tryz.String_p {bx0 bx : Boxes} {b : Nat} {l : List UInt8} (h : Bld bx0 bx b l) (h0 : l ≠ []) :
   AbsCall Tryz.prog 61 [.ptr b 2 0 0] bx fun r bx' => r = .str l ∧ Ext bx0 bx' ∧ FinB bx' := by
 obtain ⟨a, v, ha, hb, hv⟩ := h.ex
 unfold bldV at hb
 rcases hv with ⟨_, e⟩ | ⟨bb, rfl, hne, hbb0, hbb⟩
 · exact absurd e h0
 refine ⟨enters_of Tryz.func61 (by kernel_rfl) rfl, fun β M w vs hok hgl hvs hrep => ?_⟩
 have r0 := hrep 0 _ rfl
 have hv1 : vs = #[vs.getD 0 undef] := by
   apply Array.ext
   · simpa using hvs
   · intro j g1 g2
     simp at hvs g2
     subst g2
     simp [g1]
 generalize vs.getD 0 undef = u at r0 hv1
 subst hv1
 cases r0 with
 | ptr _ _ _ _ k hβ =>
   rcases hok.live b _ hb with ⟨h1, h2⟩ | ⟨k', h1, hlt, hM, cur, fr, hcur, hfr, hcl, hrow⟩
   · simp [Box.empty] at h2
   rw [hβ] at h1
   injection h1 with h1
   injection h1 with h1
   subst h1
   obtain ⟨_, hr⟩ := hrow 0 _ rfl
   obtain ⟨o1, r1⟩ := hr 1 _ rfl
   simp only [Nat.zero_mul, Nat.zero_add] at o1 r1
   have hc2 : 2 ≤ cur.size := by simpa using hcl
   have hcell : w.cell? ⟨k, 1, none⟩ = some (cur.getD 1 undef) := by
     simp [World.cell?, hcur, show 1 < cur.size by omega]
   generalize cur.getD 1 undef = c1 at r1 hcell
   rcases hok.live bb _ hbb with ⟨_, g2⟩ | ⟨g, g1, glt, gM, gcur, gfr, ghcur, ghfr, gcl, grow⟩
   · simp [Box.empty] at g2; exact absurd g2 h0
   have hpos : l.length ≠ 0 := by simpa using h0
   generalize hn : l.length = n at r1
   cases r1 with
   | own0 _ _ hβ2 => omega
   | own _ _ _ _ g2 cap m ty hβ2 hs hm hnc hmax =>
     rw [g1] at hβ2
     injection hβ2 with hβ2
     injection hβ2 with hβ2
     subst hβ2
     subst hn
     have hcells : ∀ (j : Nat) (x : UInt8), l[j]? = some x → gcur[j]? = some (.int .u8 x.toNat) := by
       intro j x hx
       obtain ⟨_, hrj⟩ := grow j (byteV x) (by simp [hx])
       obtain ⟨_, h3⟩ := hrj 0 _ rfl
       simp only [Nat.mul_one, Nat.add_zero] at h3
       have h4 := h3.int_inv
       have hj : j < gcur.size := by
         have := (List.getElem?_eq_some_iff.1 hx).1
         simp at gcl
         omega
       rw [Array.getD_eq_getD_getElem?, Array.getElem?_eq_getElem hj] at h4
       rw [Array.getElem?_eq_getElem hj]
       exact congrArg some h4
     refine (Tryz.str_w k g cap gcur l h0 w (by simpa using hcell) ghcur hcells hnc (by simpa using hmax)).mono ?_
     rintro e w' ⟨rfl, rfl⟩
     obtain ⟨g3, g4⟩ := box_frz hok.drew hbb g1 (show w.drew.heap[g]? = _ from ghcur) l.length
     refine ⟨_, _, _, β, rfl, ⟨rfl, fun c hc => ?_, (finB_upd _ _ _).2 h.fin⟩, g3, (Tr.drew hok).trans g4, rep_str _⟩
     rw [upd_ne _ _ (fun e => hc (by rw [e]; exact hbb0))]
     exact h.ext c hc
end Go.Proofs

set_option linter.unusedVariables false
set_option linter.unusedSimpArgs false
set_option maxRecDepth 100000
namespace Go.Proofs
open Go Go.Pl Go.RowKit Go.Shelf
set_option maxHeartbeats 4000000 in
theorem Tryz.grow_w (k n : Nat) (cur : Array Value) {fr : Nat × Nat} (w : World) (hbk : w.heap[k]? = some (.cells cur 82 fr)) (hfr : FrOk cur.size fr) (h1 : cur[1]? = some (.slice none 0 0)) (hn : n ≤ 281474976710656) :
   Calls Tryz.prog 123 #[.pointer (some ⟨k, 0, none⟩), .int .i64 n] w fun e w' => e = .returned (.tuple #[]) ∧ ∃ cs : Array Value, n ≤ cs.size ∧ cs.size ≤ maxLen ∧ w' = ((w.setCell ⟨k, 1, none⟩ (.slice (some ⟨w.heap.size, 0, none⟩) 0 cs.size)).alloc (.cells cs 5)).drew.drew.drew := by
 obtain ⟨cs, hrun, hle, hmax⟩ := Lib.run_makeNoZero (P := Tryz.prog) w.drew #[3] 43 5 (by kernel_rfl) n hn
 have hmax := hmax (by unfold maxLen; omega)
 have mixed : Tryz.prog.follows .mixedOrders = true := by kernel_rfl
 have hw : IntKind.i64.wrap (IntKind.i64.wrap 0 + (n : Int)) = n := by
   rw [IntKind.wrap_i64, IntKind.wrap_i64]
   omega
 have hcall : (callFunc 154 #[.int .i64 (IntKind.i64.wrap (IntKind.i64.wrap 0 + (n : Int)))]).run Tryz.prog w.drew = .ok (.value (.slice (some ⟨w.drew.heap.size, 0, none⟩) n cs.size)) (w.drew.drew.drew.alloc (.cells cs 5)) := by
   rw [hw, run_callFunc_extern Tryz.func154 (by kernel_rfl) (by kernel_rfl) (by kernel_rfl) (e := Extern.BytealgMakeNoZero.makeNoZero #[3] #[43]) (by kernel_rfl), hrun]
   rfl
 have hlt : k < w.heap.size := (Array.getElem?_eq_some_iff.1 hbk).1
 have h1s : 1 < cur.size := (Array.getElem?_eq_some_iff.1 h1).1
 have c1 : w.drew.cell? ⟨k, 1, none⟩ = some (.slice none 0 0) := by
   have : w.drew.heap[k]? = _ := hbk
   simp [World.cell?, this, h1]
 have hal : (w.alloc (.cells cs 5)).heap[k]? = some (.cells cur 82 fr) := (Lib.alloc_old w _ k hlt).trans hbk
 have c2 : (w.alloc (.cells cs 5)).cell? ⟨k, 1, none⟩ = some (.slice none 0 0) := by
   simp [World.cell?, hal, h1]
 have f2 : (w.alloc (.cells cs 5)).frozen? ⟨k, 1, none⟩ = false := frozen_fr hal hfr h1s
 have hcopy : ∀ W : World, (Builtin.copy_ #[43, 43] 3 #[.slice (some ⟨w.heap.size, 0, none⟩) 0 cs.size, .slice none 0 0]).run Tryz.prog W = .ok (goInt 0) W :=
   fun W => run_copy_none W 43 43 3 5 _ _ 0 cs.size 0 0 (by kernel_rfl) (by kernel_rfl) rfl
 clear hw
 go_enter Tryz.func123, Tryz.ntmps123
 go_wp2
 go_region_o
 all_goals (go_wp2; go_end0; exact ⟨rfl, cs, hle, hmax, rfl⟩)
end Go.Proofs

set_option linter.unusedVariables false
set_option linter.unusedSimpArgs false
set_option maxRecDepth 100000
namespace Go.Proofs
open Go Go.Pl Go.RowKit Go.Shelf
theorem alloc_set {w : World} {k : Nat} (hk : k < w.heap.size) (i : Nat) (v : Value) (o : Obj) : (w.setCell ⟨k, i, none⟩ v).alloc o = (w.alloc o).setCell ⟨k, i, none⟩ v := by
 unfold World.setCell World.alloc
 refine congrArg (fun h => ({ w with heap := h } : World)) ?_
 apply Array.ext_getElem?
 intro j
 simp only [Array.getElem?_modify, Array.getElem?_push, Array.size_modify]
 by_cases e : j = w.heap.size
 · rw [if_pos e, if_pos e, if_neg (by omega)]
 · rw [if_neg e, if_neg e]
set_option maxHeartbeats 4000000 in
theorem Tryz.Grow_w (k n : Nat) (cur : Array Value) {fr : Nat × Nat} (w : World) (hbk : w.heap[k]? = some (.cells cur 82 fr)) (hfr : FrOk cur.size fr) (h0 : cur[0]? = some (.pointer none)) (h1 : cur[1]? = some (.slice none 0 0)) (hn : n ≤ 281474976710656) (hn1 : 1 ≤ n) :
   Calls Tryz.prog 97 #[.pointer (some ⟨k, 0, none⟩), .int .i64 n] w fun e w' => e = .returned (.tuple #[]) ∧ ∃ cs : Array Value, n ≤ cs.size ∧ cs.size ≤ maxLen ∧ w' = (((w.setRow k (cur.setIfInBounds 0 (.pointer (some ⟨k, 0, none⟩)))).setCell ⟨k, 1, none⟩ (.slice (some ⟨w.heap.size, 0, none⟩) 0 cs.size)).alloc (.cells cs 5)).drew.drew.drew.drew := by
 have mixed : Tryz.prog.follows .mixedOrders = true := by kernel_rfl
 have h1s : 1 < cur.size := (Array.getElem?_eq_some_iff.1 h1).1
 have hcell : w.cell? ⟨k, 0, none⟩ = some (.pointer none) := by simp [World.cell?, hbk, h0]
 have hfz : w.frozen? ⟨k, 0, none⟩ = false := frozen_fr hbk hfr (by omega)
 have hcf := Tryz.copy_fresh k cur.size w hcell (shape_of hbk) (by omega) hfz
 have hW : w.setCell ⟨k, 0, none⟩ (.pointer (some ⟨k, 0, none⟩)) = w.setRow k (cur.setIfInBounds 0 (.pointer (some ⟨k, 0, none⟩))) := setCell_row hbk 0 _
 have hb2 : (w.setCell ⟨k, 0, none⟩ (.pointer (some ⟨k, 0, none⟩))).heap[k]? = some (.cells (cur.setIfInBounds 0 (.pointer (some ⟨k, 0, none⟩))) 82 fr) := by
   rw [hW]; exact setRow_heap w k cur _ _ fr hbk
 have hc1 : (cur.setIfInBounds 0 (.pointer (some ⟨k, 0, none⟩)))[1]? = some (.slice none 0 0) := by
   rw [Array.getElem?_setIfInBounds]; simpa using h1
 have c1' : (w.setCell ⟨k, 0, none⟩ (.pointer (some ⟨k, 0, none⟩))).drew.cell? ⟨k, 1, none⟩ = some (.slice none 0 0) := by
   have : (w.setCell ⟨k, 0, none⟩ (.pointer (some ⟨k, 0, none⟩))).drew.heap[k]? = _ := hb2
   simp [World.cell?, this, hc1]
 have hsz : (w.setCell ⟨k, 0, none⟩ (.pointer (some ⟨k, 0, none⟩))).heap.size = w.heap.size := by simp [World.setCell]
 have hgr := Tryz.grow_w k n _ (w.setCell ⟨k, 0, none⟩ (.pointer (some ⟨k, 0, none⟩))).drew (show _ = _ from hb2) (by simpa using hfr) hc1 hn
 rw [show (w.setCell ⟨k, 0, none⟩ (.pointer (some ⟨k, 0, none⟩))).drew.heap.size = w.heap.size from hsz] at hgr
 rw [hW] at hgr c1' hcf hb2
 go_enter Tryz.func97, Tryz.ntmps97
 go_wp2_with (go_at_call 98; refine hcf.mono ?_; rintro e w' ⟨rfl, rfl⟩)
 go_region_o
 all_goals go_wp2_with (go_at_call 123; refine hgr.mono ?_; rintro e w' ⟨rfl, cs, hcs, hcm, rfl⟩)
 all_goals (try (go_end0; exact ⟨rfl, cs, hcs, hcm, rfl⟩))
theorem set_row2 {w : World} {k : Nat} {cur : Array Value} {ty : TypeId} {fr : Nat × Nat} (h : w.heap[k]? = some (.cells cur ty fr)) (c1 : Array Value) : (w.setRow k c1).heap[k]? = some (.cells c1 ty fr) := setRow_heap w k cur c1 ty fr h
theorem Tryz.Grow_p {bx : Boxes} {b : Nat} (hb : bx b = some (bldV 82 .nilp .nils)) (n : Nat) (hn : n ≤ 281474976710656) (hn1 : 1 ≤ n) :
   AbsCall Tryz.prog 97 [.ptr b 2 0 0, .int .i64 n] bx fun r bx' => r = .tup [] ∧ ∃ bb, bb ≠ b ∧ bx bb = none ∧ bx' = upd (upd bx bb (some (.row 5 1 []))) b (some (bldV 82 (.ptr b 2 0 0) (.own bb 1 0 0))) := by
 unfold bldV at hb ⊢
 refine ⟨enters_of Tryz.func97 (by kernel_rfl) rfl, fun β M w vs hok hgl hvs hrep => ?_⟩
 have h0 := hrep 0 _ rfl
 have h1 := hrep 1 _ rfl
 have hv1 : vs = #[vs.getD 0 undef, vs.getD 1 undef] := by
   simp at hvs
   apply Array.ext
   · simpa using hvs
   · intro j g1 g2
     simp at g2
     have : j = 0 ∨ j = 1 := by omega
     rcases this with rfl | rfl <;> simp [g1]
 generalize vs.getD 0 undef = u at h0 hv1
 generalize vs.getD 1 undef = u1 at h1 hv1
 subst hv1
 rw [h1.int_inv]
 cases h0 with
 | ptr _ _ _ _ k hβ =>
   rcases hok.live b _ hb with ⟨h1, h2⟩ | ⟨k', h1, hlt, hM, cur, fr, hcur, hfr, hcl, hrow⟩
   · simp [Box.empty] at h2
   · rw [hβ] at h1
     injection h1 with h1
     injection h1 with h1
     subst h1
     obtain ⟨_, hr⟩ := hrow 0 _ rfl
     obtain ⟨o0, r0⟩ := hr 0 .nilp rfl
     obtain ⟨o1, r1⟩ := hr 1 .nils rfl
     simp only [Nat.zero_mul, Nat.zero_add] at o0 r0 o1 r1
     have hc2 : 2 ≤ cur.size := by simpa using hcl
     have e0 : cur[0]? = some (.pointer none) := by
       have : cur.getD 0 undef = .pointer none := by
         generalize cur.getD 0 undef = c at r0
         cases r0; rfl
       rw [Array.getD_eq_getD_getElem?, Array.getElem?_eq_getElem (by omega)] at this
       rw [Array.getElem?_eq_getElem (by omega)]
       exact congrArg some this
     have e1 : cur[1]? = some (.slice none 0 0) := by
       have : cur.getD 1 undef = .slice none 0 0 := by
         generalize cur.getD 1 undef = c at r1
         cases r1; rfl
       rw [Array.getD_eq_getD_getElem?, Array.getElem?_eq_getElem (by omega)] at this
       rw [Array.getElem?_eq_getElem (by omega)]
       exact congrArg some this
     refine (Tryz.Grow_w k n cur w hcur hfr e0 e1 hn hn1).mono ?_
     rintro e w' ⟨rfl, cs, hcs, hcm, rfl⟩
     have s0 : (cur.setIfInBounds 0 (.pointer (some ⟨k, 0, none⟩))).size = cur.size := by simp
     have g0 : (cur.setIfInBounds 0 (.pointer (some ⟨k, 0, none⟩))).getD 0 undef = .pointer (some ⟨k, 0, none⟩) := by simp [show 0 < cur.size by omega]
     have g1 : (cur.setIfInBounds 0 (.pointer (some ⟨k, 0, none⟩))).getD 1 undef = cur.getD 1 undef := by simp [Array.getD_eq_getD_getElem?]
     have hfr1 : FrOk (cur.setIfInBounds 0 (.pointer (some ⟨k, 0, none⟩))).size fr := by rw [s0]; exact hfr
     have hc1 := set_row2 hcur (cur.setIfInBounds 0 (.pointer (some ⟨k, 0, none⟩)))
     obtain ⟨k1, t1⟩ := write_box hok hb hβ hcur hfr (cur.setIfInBounds 0 (.pointer (some ⟨k, 0, none⟩))) (by simp) [.agg [.ptr b 2 0 0, .nils]] rfl (by simpa using hc2) (by
         intro i e hi
         rcases i with _ | i
         · simp at hi
           subst hi
           refine ⟨rfl, fun j c hj => ?_⟩
           rcases j with _ | _ | j
           · simp [V.cells] at hj
             subst hj
             simp only [Nat.zero_mul, Nat.zero_add]
             rw [g0]
             exact ⟨rfl, by simpa using Rep.ptr b 2 0 0 k hβ⟩
           · simp [V.cells] at hj
             subst hj
             simp only [Nat.zero_mul, Nat.zero_add]
             rw [g1]
             exact ⟨o1, r1⟩
           · simp [V.cells] at hj
         · simp at hi)
     generalize cur.setIfInBounds 0 (.pointer (some ⟨k, 0, none⟩)) = cur1 at *
     have hsz1 : (w.setRow k cur1).heap.size = w.heap.size := by simp [World.setRow]
     have hlt1 : k < (w.setRow k cur1).heap.size := by rw [hsz1]; exact hlt
     generalize hW1 : w.setRow k cur1 = W1 at *
     obtain ⟨bb, f1, f2⟩ := k1.fresh
     have hbb : bb ≠ b := by rintro rfl; rw [upd_eq] at f2; cases f2
     have hbx : bx bb = none := by rwa [upd_ne _ _ hbb] at f2
     obtain ⟨k2, t2⟩ := alloc_box k1 f1 f2 cs 5 1 [] (.inl (by decide)) (by simp) (fun i e he => by simp at he)
     have hal : (W1.alloc (.cells cs 5)).heap[k]? = some (.cells cur1 82 fr) := (Lib.alloc_old W1 _ k hlt1).trans hc1
     have hβ2 : upd β bb (some (some W1.heap.size)) b = some (some k) := by rw [upd_ne _ _ (Ne.symm hbb)]; exact hβ
     have hb2 : upd (upd bx b (some (.row 82 2 [.agg [.ptr b 2 0 0, .nils]]))) bb (some (.row 5 1 [])) b = some (.row 82 2 [.agg [.ptr b 2 0 0, .nils]]) := by rw [upd_ne _ _ (Ne.symm hbb), upd_eq]
     obtain ⟨k3, t3⟩ := write_box k2 hb2 hβ2 hal hfr1 (cur1.setIfInBounds 1 (.slice (some ⟨w.heap.size, 0, none⟩) 0 cs.size)) (by simp) [.agg [.ptr b 2 0 0, .own bb 1 0 0]] rfl (by simpa [s0] using hc2) (by
         intro i e hi
         rcases i with _ | i
         · simp at hi
           subst hi
           refine ⟨rfl, fun j c hj => ?_⟩
           rcases j with _ | _ | j
           · simp [V.cells] at hj
             subst hj
             simp only [Nat.zero_mul, Nat.zero_add]
             have : (cur1.setIfInBounds 1 (.slice (some ⟨w.heap.size, 0, none⟩) 0 cs.size)).getD 0 undef = .pointer (some ⟨k, 0, none⟩) := by
               rw [← g0]; simp [Array.getD_eq_getD_getElem?]
             rw [this]
             exact ⟨rfl, by simpa using Rep.ptr b 2 0 0 k hβ2⟩
           · simp [V.cells] at hj
             subst hj
             simp only [Nat.zero_mul, Nat.zero_add]
             have : (cur1.setIfInBounds 1 (.slice (some ⟨w.heap.size, 0, none⟩) 0 cs.size)).getD 1 undef = .slice (some ⟨w.heap.size, 0, none⟩) 0 cs.size := by simp [show 1 < cur1.size by omega]
             rw [this]
             refine ⟨rfl, ?_⟩
             have := Rep.own (β := upd β bb (some (some W1.heap.size))) (w := W1.alloc (.cells cs 5)) (F := Fz (upd β bb (some (some W1.heap.size))) M (upd (upd bx b (some (.row 82 2 [.agg [.ptr b 2 0 0, .nils]]))) bb (some (.row 5 1 []))) (W1.alloc (.cells cs 5))) bb 1 0 0 W1.heap.size cs.size cs.size 5 (upd_eq _ _ _) (shape_of (heap_alloc_new _ _)) (by simp) (Nat.zero_le _) (by simpa using hcm)
             rw [← hsz1]
             simpa using this
           · simp [V.cells] at hj
         · simp at hi)
     rw [← setCell_row hal, ← alloc_set hlt1] at k3 t3
     have key := ((Tr.drew k3).trans (Tr.drew k3.drew)).trans ((Tr.drew k3.drew.drew).trans (Tr.drew k3.drew.drew.drew))
     refine ⟨_, _, _, _, rfl, ⟨rfl, bb, hbb, hbx, ?_⟩, k3.drew.drew.drew.drew, ((t1.trans t2).trans t3).trans key, .tup [] #[] rfl (fun i c h => by simp at h)⟩
     funext c
     by_cases e1 : c = b
     · subst e1; rw [upd_eq, upd_eq]
     · rw [upd_ne _ _ e1, upd_ne _ _ e1]
       by_cases e2 : c = bb
       · subst e2; rw [upd_eq, upd_eq]
       · rw [upd_ne _ _ e2, upd_ne _ _ e2, upd_ne _ _ e1]
end Go.Proofs
