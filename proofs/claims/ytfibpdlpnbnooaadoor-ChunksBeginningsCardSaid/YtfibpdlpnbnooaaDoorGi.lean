/- Texts of the proof, put together: EA, EL, EB, EM, ET, EN, EU, EV, EP, EQ, ER, ES, FU, DA, DB. -/
import Derived.Test.YtfibpdlpnbnooaaDoorGh
import Derived.Test.YtfibpdlpnbnooaaDoorGd
import Derived.Test.YtfibpdlpnbnooaaDoorGe
import Derived.Lib.Case
import Derived.Test.YtfibpdlpnbnooaaDoorGf
import Derived.Shelf.GgClosure.StringsIndexFunc
import Derived.Shelf.Strings.SlTrimAscii
import Derived.Shelf.Strings.Search2
import Derived.Shelf.Bytes.SlIndexAt
import Derived.Shelf.Strings.Builder2
import Derived.Shelf.Strings.Builder1
import Derived.Shelf.RegionOpenPlain

set_option linter.unusedSimpArgs false
set_option linter.unusedVariables false
set_option maxRecDepth 100000
namespace Go.Proofs
open Go Go.Pl
def tkS : List UInt8 := [33, 35, 36, 37, 38, 39, 42, 43, 45, 46, 94, 95, 96, 124, 126]
def isDig (c : UInt8) : Bool := 48 ≤ c && c ≤ 57
def letB (c : UInt8) : Bool := Lib.isLowerB c || Lib.isUpperB c || isDig c || tkS.contains c
def tokB (s : List UInt8) : Bool := decide (1 ≤ s.length ∧ s.length ≤ 64) && s.all letB
def plain1 (c : UInt8) : Bool := c == 9 || (32 ≤ c && c ≤ 126)
def plainB (s : List UInt8) : Bool := s.all plain1
def blank1 (c : UInt8) : Bool := c == 9 || c == 32
def trimB (s : List UInt8) : List UInt8 := ((s.dropWhile blank1).reverse.dropWhile blank1).reverse
theorem beq_int (a c : UInt8) : (a == c) = decide ((a.toNat : Int) = (c.toNat : Int)) := by
 by_cases h : a = c
 · subst h; simp
 · have : ¬ (a.toNat : Int) = (c.toNat : Int) := fun e => h (UInt8.toNat_inj.1 (by omega))
   simp [h, this]
theorem plain1_int (c : UInt8) : plain1 c = (decide ((c.toNat : Int) = 9) || (decide ((32 : Int) ≤ (c.toNat : Int)) && decide ((c.toNat : Int) ≤ 126))) := by
 unfold plain1
 have h1 : (32 ≤ c) ↔ ((32 : Int) ≤ (c.toNat : Int)) := by rw [UInt8.le_iff_toNat_le]; simp; omega
 have h2 : (c ≤ 126) ↔ ((c.toNat : Int) ≤ 126) := by rw [UInt8.le_iff_toNat_le]; simp; omega
 rw [beq_int]
 simp [h1, h2]
theorem all_of_find {p : UInt8 → Bool} {s : List UInt8} (h : ∀ j, j < s.length → (!p (s.getD j 0)) = false) : s.all p = true := by
 rw [List.all_eq_true]
 intro x hx
 obtain ⟨j, hj, rfl⟩ := List.getElem_of_mem hx
 have := h j hj
 simpa [hj] using this
theorem all_miss {p : UInt8 → Bool} {s : List UInt8} {j : Nat} (hj : j < s.length) (h : p s[j] = false) : s.all p = false := by
 rw [List.all_eq_false]; exact ⟨s[j], List.getElem_mem hj, by simp [h]⟩
end Go.Proofs

set_option linter.unusedSimpArgs false
set_option linter.unusedVariables false
set_option maxRecDepth 100000
namespace Go.Proofs
open Go Go.Pl Go.RowKit Go.Lib Go.Shelf
def Tryd.layIF_ren : Ren := { f := fun x => match x with | 315 => 92 | n => n, t := fun x => match x with | 9 => 9 | 40 => 94 | 4 => 4 | 3 => 3 | 0 => 0 | 21 => 21 | n => n, g := fun x => x }
theorem Tryd.layIF : Lays.n315 Tryd.prog Tryd.layIF_ren where
 mixed := by kernel_rfl
 f315 := Tryd.func92.trans (congrArg some (by kernel_rfl))
 t0 := Tryd.underlying0
 a0 := Tryd.isAgg0
 z0 := Tryd.sizeOf0
 v0 := Tryd.zeroValue0
 t3 := Tryd.underlying3
 a3 := Tryd.isAgg3
 z3 := Tryd.sizeOf3
 v3 := Tryd.zeroValue3
 t4 := Tryd.underlying4
 a4 := Tryd.isAgg4
 z4 := Tryd.sizeOf4
 v4 := Tryd.zeroValue4
 t9 := Tryd.underlying9
 a9 := Tryd.isAgg9
 z9 := Tryd.sizeOf9
 v9 := Tryd.zeroValue9
 t21 := Tryd.underlying21
 a21 := Tryd.isAgg21
 z21 := Tryd.sizeOf21
 v21 := Tryd.zeroValue21
 t40 := Tryd.underlying94
 a40 := Tryd.isAgg94
 z40 := Tryd.sizeOf94
 v40 := Tryd.zeroValue94
def Tryd.layIB_ren : Ren := { f := fun x => match x with | 187 => 44 | 255 => 70 | n => n, t := fun x => match x with | 37 => 22 | 5 => 5 | 3 => 3 | n => n, g := fun x => x }
theorem Tryd.layIB : Lays.n187 Tryd.prog Tryd.layIB_ren where
 mixed := by kernel_rfl
 f187 := Tryd.func44.trans (congrArg some (by kernel_rfl))
 f255 := Tryd.func70.trans (congrArg some (by kernel_rfl))
 t3 := Tryd.underlying3
 a3 := Tryd.isAgg3
 z3 := Tryd.sizeOf3
 v3 := Tryd.zeroValue3
 t5 := Tryd.underlying5
 a5 := Tryd.isAgg5
 z5 := Tryd.sizeOf5
 v5 := Tryd.zeroValue5
 t37 := Tryd.underlying22
 a37 := Tryd.isAgg22
 z37 := Tryd.sizeOf22
 v37 := Tryd.zeroValue22
def Tryd.layTrim_ren : Ren := { f := fun x => match x with | 160 => 36 | 232 => 57 | 231 => 56 | 227 => 58 | 234 => 60 | 233 => 59 | 236 => 62 | 235 => 61 | 228 => 81 | 271 => 83 | 151 => 82 | 197 => 65 | 120 => 94 | 152 => 93 | 260 => 85 | 137 => 31 | 119 => 101 | 224 => 99 | 225 => 98 | 217 => 48 | 266 => 74 | n => n, t := fun x => match x with | 9 => 9 | 4 => 4 | 3 => 3 | 5 => 5 | 117 => 98 | 116 => 97 | 0 => 0 | 124 => 101 | 21 => 21 | 105 => 104 | 46 => 117 | 119 => 130 | 139 => 133 | 138 => 132 | n => n, g := fun x => match x with | 3 => 3 | 4 => 4 | n => n }
theorem Tryd.layTrim : Lays.n160 Tryd.prog Tryd.layTrim_ren where
 mixed := by kernel_rfl
 f119 := Tryd.func101.trans (congrArg some (by kernel_rfl))
 f120 := Tryd.func94.trans (congrArg some (by kernel_rfl))
 f137 := Tryd.func31.trans (congrArg some (by kernel_rfl))
 f151 := Tryd.func82.trans (congrArg some (by kernel_rfl))
 f152 := Tryd.func93.trans (congrArg some (by kernel_rfl))
 f160 := Tryd.func36.trans (congrArg some (by kernel_rfl))
 f197 := Tryd.func65.trans (congrArg some (by kernel_rfl))
 f217 := Tryd.func48.trans (congrArg some (by kernel_rfl))
 f224 := Tryd.func99.trans (congrArg some (by kernel_rfl))
 f225 := Tryd.func98.trans (congrArg some (by kernel_rfl))
 f227 := Tryd.func58.trans (congrArg some (by kernel_rfl))
 f228 := Tryd.func81.trans (congrArg some (by kernel_rfl))
 f231 := Tryd.func56.trans (congrArg some (by kernel_rfl))
 f232 := Tryd.func57.trans (congrArg some (by kernel_rfl))
 f233 := Tryd.func59.trans (congrArg some (by kernel_rfl))
 f234 := Tryd.func60.trans (congrArg some (by kernel_rfl))
 f235 := Tryd.func61.trans (congrArg some (by kernel_rfl))
 f236 := Tryd.func62.trans (congrArg some (by kernel_rfl))
 f260 := Tryd.func85.trans (congrArg some (by kernel_rfl))
 f266 := Tryd.func74.trans (congrArg some (by kernel_rfl))
 f271 := Tryd.func83.trans (congrArg some (by kernel_rfl))
 t0 := Tryd.underlying0
 a0 := Tryd.isAgg0
 z0 := Tryd.sizeOf0
 v0 := Tryd.zeroValue0
 t3 := Tryd.underlying3
 a3 := Tryd.isAgg3
 z3 := Tryd.sizeOf3
 v3 := Tryd.zeroValue3
 t4 := Tryd.underlying4
 a4 := Tryd.isAgg4
 z4 := Tryd.sizeOf4
 v4 := Tryd.zeroValue4
 t5 := Tryd.underlying5
 a5 := Tryd.isAgg5
 z5 := Tryd.sizeOf5
 v5 := Tryd.zeroValue5
 t9 := Tryd.underlying9
 a9 := Tryd.isAgg9
 z9 := Tryd.sizeOf9
 v9 := Tryd.zeroValue9
 t21 := Tryd.underlying21
 a21 := Tryd.isAgg21
 z21 := Tryd.sizeOf21
 v21 := Tryd.zeroValue21
 t46 := Tryd.underlying117
 a46 := Tryd.isAgg117
 z46 := Tryd.sizeOf117
 v46 := Tryd.zeroValue117
 t105 := Tryd.underlying104
 a105 := Tryd.isAgg104
 z105 := Tryd.sizeOf104
 v105 := Tryd.zeroValue104
 t116 := Tryd.underlying97
 a116 := Tryd.isAgg97
 z116 := Tryd.sizeOf97
 t117 := Tryd.underlying98
 a117 := Tryd.isAgg98
 z117 := Tryd.sizeOf98
 v117 := Tryd.zeroValue98
 t119 := Tryd.underlying130
 a119 := Tryd.isAgg130
 z119 := Tryd.sizeOf130
 t124 := Tryd.underlying101
 a124 := Tryd.isAgg101
 z124 := Tryd.sizeOf101
 v124 := Tryd.zeroValue101
 t138 := Tryd.underlying132
 a138 := Tryd.isAgg132
 z138 := Tryd.sizeOf132
 v138 := Tryd.zeroValue132
 t139 := Tryd.underlying133
 a139 := Tryd.isAgg133
 z139 := Tryd.sizeOf133
 v139 := Tryd.zeroValue133
 g3 := by kernel_rfl
 g4 := by kernel_rfl
def Tryd.layIdx_ren : Ren := { f := fun x => match x with | 219 => 89 | 217 => 48 | 225 => 98 | 224 => 99 | 267 => 100 | 266 => 74 | 314 => 102 | n => n, t := fun x => match x with | 9 => 9 | 3 => 3 | 4 => 4 | 5 => 5 | 46 => 117 | 146 => 143 | 51 => 114 | n => n, g := fun x => match x with | 1 => 2 | n => n }
theorem Tryd.layIdx : Lays.n219 Tryd.prog Tryd.layIdx_ren where
 mixed := by kernel_rfl
 f217 := Tryd.func48.trans (congrArg some (by kernel_rfl))
 f219 := Tryd.func89.trans (congrArg some (by kernel_rfl))
 f224 := Tryd.func99.trans (congrArg some (by kernel_rfl))
 f225 := Tryd.func98.trans (congrArg some (by kernel_rfl))
 f266 := Tryd.func74.trans (congrArg some (by kernel_rfl))
 f267 := Tryd.func100.trans (congrArg some (by kernel_rfl))
 f314 := Tryd.func102.trans (congrArg some (by kernel_rfl))
 t3 := Tryd.underlying3
 a3 := Tryd.isAgg3
 z3 := Tryd.sizeOf3
 v3 := Tryd.zeroValue3
 t4 := Tryd.underlying4
 a4 := Tryd.isAgg4
 z4 := Tryd.sizeOf4
 v4 := Tryd.zeroValue4
 t5 := Tryd.underlying5
 a5 := Tryd.isAgg5
 z5 := Tryd.sizeOf5
 v5 := Tryd.zeroValue5
 t9 := Tryd.underlying9
 a9 := Tryd.isAgg9
 z9 := Tryd.sizeOf9
 v9 := Tryd.zeroValue9
 t46 := Tryd.underlying117
 a46 := Tryd.isAgg117
 z46 := Tryd.sizeOf117
 v46 := Tryd.zeroValue117
 t51 := Tryd.underlying114
 a51 := Tryd.isAgg114
 z51 := Tryd.sizeOf114
 v51 := Tryd.zeroValue114
 t146 := Tryd.underlying143
 a146 := Tryd.isAgg143
 z146 := Tryd.sizeOf143
 v146 := Tryd.zeroValue143
 g1 := by kernel_rfl
theorem dec_low {s : ByteArray} {i : Nat} (h : (s.get! i).toNat < 128) : Utf8.decode s i = ((s.get! i).toNat, 1) := by
 unfold Utf8.decode
 simp only [Nat.add_zero]
 rw [if_pos (by simpa using h)]
theorem dec_high {s : ByteArray} {i : Nat} (h : 128 ≤ (s.get! i).toNat) : 128 ≤ (Utf8.decode s i).1 := by
 have hr : (128 : Nat) ≤ Utf8.runeError := by decide
 unfold Utf8.decode
 simp only [Nat.add_zero]
 rw [if_neg (by omega)]
 split
 · split
   · dsimp only; omega
   · exact hr
 · split
   · split
     · rename_i hc
       simp only [Bool.and_eq_true, decide_eq_true_eq] at hc
       dsimp only; omega
     · exact hr
   · split
     · split
       · rename_i hc
         simp only [Bool.and_eq_true, decide_eq_true_eq] at hc
         dsimp only; omega
       · exact hr
     · exact hr
def badR (r : Nat) : Bool := decide (r ≠ 9) && (decide (r < 32) || decide (126 < r))
theorem bad_byte (c : UInt8) : badR c.toNat = !plain1 c := by
 rw [plain1_int]
 unfold badR
 by_cases h1 : c.toNat = 9 <;> by_cases h2 : c.toNat < 32 <;> by_cases h3 : 126 < c.toNat <;> simp [h1, h2, h3] <;> omega
theorem get_at {s : ByteArray} {i : Nat} (h : i < s.size) : s.get! i = s.data.toList.getD i 0 := by
 have h2 : i < s.data.size := h
 cases s with
 | mk d =>
   show d[i]! = _
   rw [getElem!_pos d i h2]
   simp [h2]
theorem idx_bad (s : ByteArray) : ∀ (f pos : Nat), s.size ≤ pos + f → (0 ≤ idxFuncFrom badR true s f pos ↔ (s.data.toList.drop pos).all plain1 = false)
 | 0, pos, h => by
   have h1 : s.data.toList.length = s.size := by simp
   rw [List.drop_eq_nil_of_le (by omega)]
   simp [idxFuncFrom]
 | f + 1, pos, h => by
   have h1 : s.data.toList.length = s.size := by simp
   by_cases hp : pos < s.size
   · have hd : s.data.toList.drop pos = s.data.toList.getD pos 0 :: s.data.toList.drop (pos + 1) := by
       rw [List.drop_eq_getElem_cons (by omega)]
       congr 1
       rw [List.getD_eq_getElem?_getD, List.getElem?_eq_getElem (by omega)]; rfl
     have hg := get_at hp
     rw [hd, List.all_cons]
     generalize s.data.toList.getD pos 0 = c at *
     by_cases hlow : c.toNat < 128
     · have hdec := dec_low (s := s) (i := pos) (by rw [hg]; exact hlow)
       rw [hg] at hdec
       have hb := bad_byte c
       unfold idxFuncFrom
       rw [if_pos hp]
       simp only [hdec, hb]
       cases hpl : plain1 c
       · simp
       · have := idx_bad s f (pos + 1) (by omega)
         simpa using this
     · have hhi := dec_high (s := s) (i := pos) (by rw [hg]; omega)
       have hb : badR (Utf8.decode s pos).1 = true := by unfold badR; simp; omega
       have hpl : plain1 c = false := by
         have := bad_byte c
         unfold badR at this
         have h3 : (decide (c.toNat ≠ 9) && (decide (c.toNat < 32) || decide (126 < c.toNat))) = true := by simp; omega
         rw [h3] at this
         simpa using this.symm
       unfold idxFuncFrom
       rw [if_pos hp]
       simp [hb, hpl]
   · rw [List.drop_eq_nil_of_le (by omega)]
     unfold idxFuncFrom
     rw [if_neg hp]
     simp
theorem Tryd.bad_at (w : World) : PredAt Tryd.prog 55 #[] encR badR w := by
 intro W r _
 unfold FnGives
 have hb : badR r = (decide (r ≠ 9) && (decide (r < 32) || decide (126 < r))) := rfl
 by_cases h1 : r = 9
 · subst h1
   go_enter Tryd.func55, Tryd.ntmps55
   go_wp2
   go_ret
   exact ⟨rfl, 0, rfl⟩
 · have g1 : ¬ (r : Int) = 9 := by omega
   by_cases h2 : r < 32
   · have g2 : (r : Int) < 32 := by omega
     have e : badR r = true := by rw [hb]; simp [h1, h2]
     rw [e]
     clear hb e
     go_enter Tryd.func55, Tryd.ntmps55
     go_wp2
     go_ret
     first
       | exact ⟨rfl, 0, rfl⟩
       | (refine ⟨?_, 0, rfl⟩
          simp
          omega)
   · have g2 : ¬ (r : Int) < 32 := by omega
     by_cases h3 : 126 < r
     · have g3 : (126 : Int) < r := by omega
       have e : badR r = true := by rw [hb]; simp [h1, h3]
       rw [e]
       clear hb e
       go_enter Tryd.func55, Tryd.ntmps55
       go_wp2
       go_ret
       first
         | exact ⟨rfl, 0, rfl⟩
         | (refine ⟨?_, 0, rfl⟩
            simp
            omega)
     · have g3 : ¬ (126 : Int) < r := by omega
       have e : badR r = false := by rw [hb]; simp [h2, h3]
       rw [e]
       clear hb e
       go_enter Tryd.func55, Tryd.ntmps55
       go_wp2
       go_ret
       first
         | exact ⟨rfl, 0, rfl⟩
         | (refine ⟨?_, 0, rfl⟩
            simp
            omega)
theorem Tryd.plain_w (s : ByteArray) (w : World) : Calls Tryd.prog 35 #[.string s] w fun e w' => e = .returned (.bool (plainB s.data.toList)) ∧ Below w.heap.size w w' := by
 have e88 : ∀ args w, (callFunc 55 args).run Tryd.prog w = .ok (.enter 55 args) w := enters_of Tryd.func55 (by kernel_rfl) rfl
 have e150 : ∀ args w, (callFunc 92 args).run Tryd.prog w = .ok (.enter 92 args) w := enters_of Tryd.func92 (by kernel_rfl) rfl
 have e118 : ∀ args w, (callFunc 80 args).run Tryd.prog w = .ok (.enter 80 args) w := enters_of Tryd.func80 (by kernel_rfl) rfl
 have e87 : ∀ args w, (callFunc 54 args).run Tryd.prog w = .ok (.enter 54 args) w := enters_of Tryd.func54 (by kernel_rfl) rfl
 obtain ⟨I, hI⟩ : ∃ I, idxFunc badR true s = I := ⟨_, rfl⟩
 have hall : plainB s.data.toList = !decide (0 ≤ I) := by
   have := idx_bad s s.size 0 (by omega)
   rw [← hI]
   unfold idxFunc plainB
   rw [List.drop_zero] at this
   by_cases h : 0 ≤ idxFuncFrom badR true s s.size 0
   · simp [h, this.1 h]
   · have h2 : ¬ (s.data.toList.all plain1 = false) := fun e => h (this.2 e)
     have h3 : s.data.toList.all plain1 = true := by simpa using h2
     rw [h3]; simp [h]
 have c1 : ∀ w, Calls Tryd.prog 92 #[.string s, .func (.func 55) #[] #[], .bool true] w fun e w' => e = .returned (.int .i64 I) ∧ Below w.heap.size w w' := fun w => by
   have := Any.strings_indexFunc Tryd.layIF 55 #[] e88 badR true s w (Tryd.bad_at w)
   rw [hI] at this
   exact this
 have c2 : ∀ w, Calls Tryd.prog 80 #[.string s, .func (.func 55) #[] #[]] w fun e w' => e = .returned (.int .i64 I) ∧ Below w.heap.size w w' := fun w => by
   go_enter Tryd.func80, Tryd.ntmps80
   go_wp2_with (go_at_fn 92; refine (c1 _).mono ?_; rintro e w' ⟨rfl, hb⟩)
   go_ret
   exact ⟨rfl, hb⟩
 have c3 : ∀ w, Calls Tryd.prog 54 #[.string s, .func (.func 55) #[] #[]] w fun e w' => e = .returned (.bool (decide (0 ≤ I))) ∧ Below w.heap.size w w' := fun w => by
   go_enter Tryd.func54, Tryd.ntmps54
   go_wp2_with (go_at_fn 80; refine (c2 _).mono ?_; rintro e w' ⟨rfl, hb⟩)
   go_ret
   exact ⟨rfl, hb⟩
 rw [hall]
 clear hall hI c1 c2
 go_enter Tryd.func35, Tryd.ntmps35
 go_wp2_with (go_at_fn 54; refine (c3 _).mono ?_; rintro e w' ⟨rfl, hb⟩)
 go_ret
 exact ⟨rfl, hb⟩
end Go.Proofs

set_option linter.unusedSimpArgs false
set_option linter.unusedVariables false
set_option maxRecDepth 100000
namespace Go.Proofs
open Go Go.Pl
abbrev Fd := List UInt8 × List UInt8
def fdV (f : Fd) : V := .agg [.str f.1, .str f.2]
def Small (l : List Fd) : Prop := ∀ f, f ∈ l → f.1.length ≤ 100000 ∧ f.2.length ≤ 100000
def chkF (f : Fd) : Int := if (tokB f.1 && plainB f.2 && decide (trimB f.2 = f.2)) = true then (if 2000 < f.2.length then 3 else 0) else 6
def sizF (f : Fd) : Nat := f.1.length + f.2.length + 4
def sumF (l : List Fd) : Nat := 2 + (l.map sizF).sum
def chkL (l : List Fd) : Int := if 100 < l.length then 3 else match l.find? (fun f => decide (chkF f ≠ 0)) with
 | some f => chkF f
 | none => if 8192 < sumF l then 3 else 0
theorem sumF_take {l : List Fd} {j : Nat} (hj : j < l.length) : sumF (l.take (j + 1)) = sumF (l.take j) + sizF l[j] := by
 unfold sumF
 rw [List.take_succ_eq_append_getElem hj, List.map_append, List.sum_append]
 simp
 omega
theorem sumF_le {l : List Fd} (h : Small l) : ∀ j, j ≤ l.length → sumF (l.take j) ≤ 2 + j * 200004
 | 0, _ => by simp [sumF]
 | j + 1, hj => by
   have ih := sumF_le h j (by omega)
   have h1 := h l[j] (List.getElem_mem (by omega))
   rw [sumF_take (by omega)]
   unfold sizF
   omega
theorem find_hit {l : List Fd} {j : Nat} (hj : j < l.length) (hJ : ∀ i, i < j → decide (chkF (l.getD i ([], [])) ≠ 0) = false) (h : chkF l[j] ≠ 0) : l.find? (fun f => decide (chkF f ≠ 0)) = some l[j] := by
 rw [List.find?_eq_some_iff_getElem]
 refine ⟨by simpa using h, j, hj, rfl, fun i hi => ?_⟩
 have := hJ i hi
 have h2 : i < l.length := by omega
 simp [h2] at this
 simp [this]
theorem find_none {l : List Fd} (hJ : ∀ i, i < l.length → decide (chkF (l.getD i ([], [])) ≠ 0) = false) : l.find? (fun f => decide (chkF f ≠ 0)) = none := by
 rw [List.find?_eq_none]
 intro f hf
 obtain ⟨i, hi, rfl⟩ := List.getElem_of_mem hf
 have := hJ i hi
 simp [hi] at this
 simp [this]
end Go.Proofs

set_option linter.unusedSimpArgs false
set_option linter.unusedVariables false
set_option maxRecDepth 100000
namespace Go.Proofs
open Go Go.Pl Go.RowKit
variable {bx : Boxes}
theorem Tryd.plain_p (hm : Mk bx) (s : List UInt8) : PureCall Tryd.prog 35 [.str s] bx (.bool (plainB s)) :=
 lift_lits (us := [.string ⟨s.toArray⟩]) (enters_of Tryd.func35 (by kernel_rfl) rfl) rfl (fun β w F => .bool _) hm fun w => Tryd.plain_w ⟨s.toArray⟩ w
theorem rdrop_cons (p : UInt8 → Bool) (a : UInt8) (t : List UInt8) : ((a :: t).reverse.dropWhile p).reverse = if (t.reverse.dropWhile p).reverse = [] then (if p a = true then [] else [a]) else a :: (t.reverse.dropWhile p).reverse := by
 rw [List.reverse_cons, List.dropWhile_append]
 cases h : t.reverse.dropWhile p with
 | nil => by_cases hp : p a = true <;> simp [hp]
 | cons b u => simp
theorem drop_comm (p : UInt8 → Bool) : ∀ s : List UInt8, ((s.reverse.dropWhile p).reverse).dropWhile p = ((s.dropWhile p).reverse.dropWhile p).reverse
 | [] => rfl
 | a :: t => by
   have ih := drop_comm p t
   by_cases hp : p a = true
   · rw [List.dropWhile_cons_of_pos hp, ← ih, rdrop_cons]
     by_cases h : (t.reverse.dropWhile p).reverse = []
     · rw [if_pos h, if_pos hp, h]
     · rw [if_neg h, List.dropWhile_cons_of_pos hp]
   · rw [List.dropWhile_cons_of_neg hp, rdrop_cons]
     by_cases h : (t.reverse.dropWhile p).reverse = []
     · rw [if_pos h, if_neg hp, List.dropWhile_cons_of_neg hp]
     · rw [if_neg h, List.dropWhile_cons_of_neg hp]
theorem trimS_blanks (s : List UInt8) : Lib.trimS s [32, 9] = trimB s := by
 have h : (fun b => [32, 9].contains b) = blank1 := by
   funext b
   unfold blank1
   simp only [List.contains_cons, List.contains_nil, Bool.or_false]
   rw [Bool.or_comm]
 unfold Lib.trimS Lib.trimLeftS Lib.trimRightS trimB
 rw [h]
 exact drop_comm blank1 s
theorem Tryd.Trim_p (hm : Mk bx) (s : List UInt8) (hs : s.length ≤ 100000) : PureCall Tryd.prog 36 [.str s, .str [32, 9]] bx (.str (trimB s)) := by
 refine lift_lits (us := [.string ⟨s.toArray⟩, .string ⟨#[32, 9]⟩]) (u := .string ⟨(trimB s).toArray⟩) (enters_of Tryd.func36 (by kernel_rfl) rfl) rfl (fun β w F => rep_str _) hm fun w => ?_
 have := Any.strings_Trim_laid Tryd.layTrim (by kernel_rfl) ⟨s.toArray⟩ ⟨#[32, 9]⟩ w (by show s.toArray.size ≤ _; simp; omega) (by decide) (by
   intro j b hb
   rcases j with _ | _ | j
   · simp at hb; subst hb; decide
   · simp at hb; subst hb; decide
   · simp at hb)
 refine this.mono ?_
 rintro e w' ⟨rfl, hb⟩
 exact ⟨by rw [show (⟨#[32, 9]⟩ : ByteArray).data.toList = [32, 9] from rfl, trimS_blanks], hb⟩
theorem Tryd.Index_p (hm : Mk bx) (s : List UInt8) (c : UInt8) : PureCall Tryd.prog 89 [.str s, .str [c]] bx (.int .i64 (Lib.indexByte s c)) := by
 refine lift_lits (us := [.string ⟨s.toArray⟩, .string ⟨#[c]⟩]) (u := .int .i64 (Lib.indexByte s c)) (enters_of Tryd.func89 (by kernel_rfl) rfl) rfl (fun β w F => .int _ _) hm fun w => ?_
 refine (Any.stringslite_Index_one Tryd.layIdx ⟨s.toArray⟩ c w).mono ?_
 rintro e w' ⟨rfl, rfl⟩
 exact ⟨rfl, Below.refl _ _⟩
end Go.Proofs

set_option linter.unusedVariables false
set_option linter.unusedSimpArgs false
set_option maxRecDepth 100000
namespace Go.Proofs
open Go Go.Pl Go.RowKit Go.Shelf
theorem mk_ext {bx bx' : Boxes} (h : Mk bx) (he : Ext bx bx') : Mk bx' := by
 obtain ⟨b, ty, hb⟩ := h
 exact ⟨b, ty, by rw [he b (by rw [hb]; simp), hb]⟩
theorem bytesOf_nat (l : List UInt8) : Lib.bytesOf (l.map fun b => (b.toNat : Int)) = l := by
 unfold Lib.bytesOf
 rw [List.map_map]
 exact (List.map_congr_left fun b _ => by simp).trans (List.map_id l)
set_option maxHeartbeats 2000000 in
theorem Tryd.IndexByte_nil (c cap : Nat) (cv : Int) (w : World) : Calls Tryd.prog 44 #[.slice none c cap, .int .u8 cv] w fun e w' => e = .returned (.int .i64 (-1)) ∧ w' = w := by
 have mixed : Tryd.prog.follows .mixedOrders = true := by kernel_rfl
 go_enter Tryd.func44, Tryd.ntmps44
 go_wp2
 rw [run_callFunc_extern Tryd.func70 (by kernel_rfl) (by kernel_rfl) (by kernel_rfl) (e := Extern.BytealgIndexByte.indexByte) (by kernel_rfl), Lib.run_indexByteNil (P := Tryd.prog) w c cap cv]
 simp only [Result.andThen]
 rw [Oper.upon_value]
 go_wp2
 go_ret
 exact ⟨rfl, rfl⟩
theorem Tryd.IndexByte_p (l : List UInt8) (c : UInt8) (bx : Boxes) : PureCall Tryd.prog 44 [.sl 1 (l.map byteV), .int .u8 c.toNat] bx (.int .i64 (Lib.indexByte l c)) := by
 refine ⟨enters_of Tryd.func44 (by kernel_rfl) rfl, fun β M w vs hok hgl hvs hrep => ?_⟩
 have r0 := hrep 0 _ rfl
 have r1 := hrep 1 _ rfl
 have hv : vs = #[vs.getD 0 undef, vs.getD 1 undef] := by
   simp at hvs
   apply Array.ext
   · simpa using hvs
   · intro j g1 g2
     simp at g2
     have : j = 0 ∨ j = 1 := by omega
     rcases this with rfl | rfl <;> simp [g1]
 generalize vs.getD 0 undef = u at r0 hv
 generalize vs.getD 1 undef = u1 at r1 hv
 subst hv
 obtain ⟨A, cap, rfl, hA⟩ := sl_bytes r0
 rw [r1.int_inv]
 have key : Calls Tryd.prog 44 #[.slice A l.length cap, .int .u8 c.toNat] w fun e w' => e = .returned (.int .i64 (Lib.indexByte l c)) ∧ w' = w := by
   rcases hA with ⟨rfl, rfl⟩ | ⟨a, rfl, hc⟩
   · exact Tryd.IndexByte_nil _ _ _ w
   · have := Any.bytes_IndexByte_at Tryd.layIB a l.length cap (l.map fun b => (b.toNat : Int)) c.toNat w (by simp) hc
     rw [bytesOf_nat, show ((c.toNat : Int).toNat.toUInt8) = c by simp] at this
     exact this
 refine key.mono ?_
 rintro e w' ⟨rfl, rfl⟩
 exact ⟨_, _, bx, β, rfl, ⟨rfl, rfl⟩, hok, Tr.refl _ _ _, .int _ _⟩
theorem idx_none {l : List UInt8} {c : UInt8} (h : ¬ c ∈ l) : Lib.indexByte l c = -1 := by
 induction l with
 | nil => rfl
 | cons b l ih =>
   simp at h
   unfold Lib.indexByte
   rw [if_neg (by simp; exact fun e => h.1 e.symm), ih h.2]
   rfl
theorem idx_some {l : List UInt8} {c : UInt8} (h : c ∈ l) : ∃ n : Nat, n < l.length ∧ Lib.indexByte l c = n ∧ l[n]? = some c ∧ ¬ c ∈ l.take n := by
 induction l with
 | nil => cases h
 | cons b l ih =>
   by_cases e : b = c
   · subst e
     exact ⟨0, by simp, by simp [Lib.indexByte], by simp, by simp⟩
   · obtain ⟨n, h1, h2, h3, h4⟩ := ih (by simpa [Ne.symm e, eq_comm] using h)
     refine ⟨n + 1, by simp; omega, ?_, by simpa using h3, by simp [h4]; exact fun h => e h.symm⟩
     unfold Lib.indexByte
     rw [if_neg (by simpa using e), h2, if_neg (by simp)]
     omega
theorem idx_lt (l : List UInt8) (c : UInt8) : (Lib.indexByte l c = -1 ∧ ¬ c ∈ l) ∨ ∃ n : Nat, n < l.length ∧ Lib.indexByte l c = n ∧ l[n]? = some c ∧ ¬ c ∈ l.take n := by
 by_cases h : c ∈ l
 · exact .inr (idx_some h)
 · exact .inl ⟨idx_none h, h⟩
def cutS (s : List UInt8) (c : UInt8) : List UInt8 × Bool := if s.getLast? = some c then (s.dropLast, true) else (s, false)
theorem Tryd.HasSuffix_p (s : List UInt8) (c : UInt8) (hs : s.length ≤ 100000000) (bx : Boxes) : PureCall Tryd.prog 88 [.str s, .str [c]] bx (.bool (decide (s.getLast? = some c))) := by
 refine Tryd.ctr88 fun hf => ?_
 by_cases h0 : 1 ≤ s.length
 · obtain ⟨t, a, rfl⟩ : ∃ t a, s = t ++ [a] := ⟨s.dropLast, s.getLast (by intro e; rw [e] at h0; simp at h0), (List.dropLast_concat_getLast _).symm⟩
   have h1 : (1 : Int) ≤ (t ++ [a]).length := by omega
   have w1 : IntKind.i64.wrap (t.length : Int) = t.length := wr64 (by simp at hs; omega)
   have e1 : (1 : Int) ≤ (t.length : Int) + 1 := by omega
   simp [go_sem, Tryd.C88, hf, w1, e1]
   refine ⟨by omega, ret_pure (by simp [go_sem]) ⟨?_, rfl⟩⟩
   have e2 : List.take (t.length + 1) (t ++ [a]) = t ++ [a] := List.take_of_length_le (by simp)
   simp [go_sem, e2]
 · have : s = [] := by cases s with | nil => rfl | cons _ _ => simp at h0
   subst this
   simp [go_sem, Tryd.C88, hf]
   exact ret_pure (by simp [go_sem]) ⟨by simp [go_sem], rfl⟩
theorem Tryd.CutSuffix_p (s : List UInt8) (c : UInt8) (hs : s.length ≤ 100000000) (bx : Boxes) : PureCall Tryd.prog 45 [.str s, .str [c]] bx (.tup [.str (cutS s c).1, .bool (cutS s c).2]) := by
 have cI : PureCall Tryd.prog 71 [.str s, .str [c]] bx (.tup [.str (cutS s c).1, .bool (cutS s c).2]) := by
   refine Tryd.ctr71 fun hf => ?_
   simp [go_sem, Tryd.C71, hf]
   refine callK_pure (Tryd.HasSuffix_p s c hs bx) ?_
   by_cases h : s.getLast? = some c
   · have h0 : s ≠ [] := by intro e; rw [e] at h; cases h
     have h1 : 1 ≤ s.length := List.length_pos_iff.2 h0
     have w1 : IntKind.i64.wrap ((s.length : Int) - 1) = ((s.length - 1 : Nat) : Int) := by
       rw [show ((s.length : Int) - 1) = ((s.length - 1 : Nat) : Int) by omega]
       exact wr64 (by omega)
     simp [go_sem, h, w1]
     refine ret_pure (by simp [go_sem]) ⟨?_, rfl⟩
     simp [go_sem, cutS, h, List.dropLast_eq_take]
   · simp [go_sem, h]
     exact ret_pure (by simp [go_sem]) ⟨by simp [go_sem, cutS, h], rfl⟩
 refine Tryd.ctr45 fun hf => ?_
 simp [go_sem, Tryd.C45, hf]
 refine callK_pure cI ?_
 simp [go_sem]
 exact ret_pure (by simp [go_sem]) ⟨by simp [go_sem], rfl⟩
theorem Tryd.Index2_p {bx : Boxes} (hm : Mk bx) (s : List UInt8) (c : UInt8) : PureCall Tryd.prog 72 [.str s, .str [c]] bx (.int .i64 (Lib.indexByte s c)) := by
 refine Tryd.ctr72 fun hf => ?_
 simp [go_sem, Tryd.C72, hf]
 refine callK_pure (Tryd.Index_p hm s c) ?_
 simp [go_sem]
 exact ret_pure (by simp [go_sem]) ⟨by simp [go_sem], rfl⟩
theorem Tryd.Contains_p {bx : Boxes} (hm : Mk bx) (s : List UInt8) (c : UInt8) : PureCall Tryd.prog 46 [.str s, .str [c]] bx (.bool (decide (c ∈ s))) := by
 refine Tryd.ctr46 fun hf => ?_
 simp [go_sem, Tryd.C46, hf]
 refine callK_pure (Tryd.Index2_p hm s c) ?_
 simp [go_sem]
 refine ret_pure (by simp [go_sem]) ⟨?_, rfl⟩
 rcases idx_lt s c with ⟨h1, h2⟩ | ⟨n, h1, h2, h3, h4⟩
 · simp [go_sem, h1, h2]
 · have : c ∈ s := List.mem_of_getElem? h3
   simp [go_sem, h2, this]
def cutC (s : List UInt8) (c : UInt8) : List UInt8 × List UInt8 × Bool := if c ∈ s then (s.takeWhile (· != c), (s.dropWhile (· != c)).drop 1, true) else (s, [], false)
theorem cut_at {s : List UInt8} {c : UInt8} {n : Nat} (h3 : s[n]? = some c) (h4 : ¬ c ∈ s.take n) : cutC s c = (s.take n, s.drop (n + 1), true) := by
 have hc : c ∈ s := List.mem_of_getElem? h3
 have hn := (List.getElem?_eq_some_iff.1 h3).1
 have hs : s = s.take n ++ c :: s.drop (n + 1) := by
   have h5 : s.drop n = c :: s.drop (n + 1) := by
     rw [List.drop_eq_getElem_cons hn]
     rw [(List.getElem?_eq_some_iff.1 h3).2]
   rw [← h5, List.take_append_drop]
 have ha : ∀ x, x ∈ s.take n → (x != c) = true := by
   intro x hx
   simp
   rintro rfl
   exact h4 hx
 have h1 : s.takeWhile (· != c) = s.take n := by
   conv => lhs; rw [hs]
   rw [List.takeWhile_append_of_pos ha, List.takeWhile_cons_of_neg (by simp)]
   simp
 have h2 : s.dropWhile (· != c) = c :: s.drop (n + 1) := by
   conv => lhs; rw [hs]
   rw [List.dropWhile_append_of_pos ha, List.dropWhile_cons_of_neg (by simp)]
 unfold cutC
 rw [if_pos hc, h1, h2]
 rfl
theorem Tryd.Cut_p {bx : Boxes} (hm : Mk bx) (s : List UInt8) (c : UInt8) (hs : s.length ≤ 100000000) : PureCall Tryd.prog 47 [.str s, .str [c]] bx (.tup [.str (cutC s c).1, .str (cutC s c).2.1, .bool (cutC s c).2.2]) := by
 have cI : PureCall Tryd.prog 73 [.str s, .str [c]] bx (.tup [.str (cutC s c).1, .str (cutC s c).2.1, .bool (cutC s c).2.2]) := by
   refine Tryd.ctr73 fun hf => ?_
   simp [go_sem, Tryd.C73, hf]
   refine callK_pure (Tryd.Index_p hm s c) ?_
   rcases idx_lt s c with ⟨h1, h2⟩ | ⟨n, h1, h2, h3, h4⟩
   · simp [go_sem, h1]
     exact ret_pure (by simp [go_sem]) ⟨by simp [go_sem, cutC, h2], rfl⟩
   · have hw := wr_succ (k := n) (by omega)
     simp [go_sem, h2, hw]
     refine ⟨by omega, ⟨by omega, by omega⟩, ret_pure (by simp [go_sem]) ⟨?_, rfl⟩⟩
     simp [go_sem, cut_at h3 h4]
 refine Tryd.ctr47 fun hf => ?_
 simp [go_sem, Tryd.C47, hf]
 refine callK_pure cI ?_
 simp [go_sem]
 exact ret_pure (by simp [go_sem]) ⟨by simp [go_sem], rfl⟩
end Go.Proofs

set_option linter.unusedSimpArgs false
set_option linter.unusedVariables false
set_option maxRecDepth 100000
namespace Go.Proofs
open Go Go.Pl Go.RowKit
def kindS : List UInt8 := List.append [48, 48, 48, 48, 48, 48, 48, 48, 48, 50, 48, 48, 48, 48, 48, 48, 48, 48, 48, 48, 48, 48, 48, 48, 48, 48, 48, 48, 48, 48, 48, 48, 50, 51, 49, 51, 51, 51, 51, 51, 49, 49, 51, 51, 49, 51, 51, 49, 51, 51, 51, 51, 51, 51, 51, 51, 51, 51, 49, 49, 49, 49, 49, 49] [49, 51, 51, 51, 51, 51, 51, 51, 51, 51, 51, 51, 51, 51, 51, 51, 51, 51, 51, 51, 51, 51, 51, 51, 51, 51, 51, 49, 49, 49, 51, 51, 51, 51, 51, 51, 51, 51, 51, 51, 51, 51, 51, 51, 51, 51, 51, 51, 51, 51, 51, 51, 51, 51, 51, 51, 51, 51, 51, 49, 51, 49, 51, 48]
def kindN (c : UInt8) : Nat := if 128 ≤ c.toNat then 0 else (kindS.getD c.toNat 48).toNat - 48
theorem kind_let : ∀ n : Fin 256, (kindN (UInt8.ofNat n.val) == 3) = letB (UInt8.ofNat n.val) := by decide +kernel
theorem kind3 (c : UInt8) : (kindN c == 3) = letB c := by
 have := kind_let ⟨c.toNat, c.toNat_lt⟩
 simpa using this
theorem kindS_len : kindS.length = 128 := by decide
theorem kindS_ge : ∀ n : Fin 128, 48 ≤ (kindS.getD n.val 48).toNat ∧ (kindS.getD n.val 48).toNat < 58 := by decide
theorem Tryd.kind_c (c : UInt8) (bx : Boxes) : PureCall Tryd.prog 53 [.int .u8 c.toNat] bx (.int .i64 (kindN c)) := by
 refine Tryd.ctr53 fun hf => ?_
 have hc := c.toNat_lt
 have w1 : IntKind.i64.wrap (c.toNat : Int) = (c.toNat : Int) := wr64 (by omega)
 by_cases h : 128 ≤ c.toNat
 · have h2 : (128 : Int) ≤ c.toNat := by omega
   simp [go_sem, Tryd.C53, hf, w1, h2]
   exact ret_pure (by simp [go_sem]) ⟨by simp [go_sem, kindN, h], rfl⟩
 · have h2 : ¬ (128 : Int) ≤ c.toNat := by omega
   have hk := kindS_ge ⟨c.toNat, by omega⟩
   have hl := kindS_len
   have hg : kindS[c.toNat]? = some (kindS.getD c.toNat 48) := by
     rw [List.getD_eq_getElem?_getD, List.getElem?_eq_getElem (by omega)]; rfl
   simp [go_sem, Tryd.C53, hf, w1, h2]
   refine ⟨by omega, ret_pure (by simp [go_sem]) ⟨?_, rfl⟩⟩
   show V.int .i64 (IntKind.i64.wrap (IntKind.u8.wrap ((((kindS[c.toNat]?).getD 0).toNat : Int) - 48))) = _
   rw [hg]
   dsimp only at hk
   unfold kindN
   rw [if_neg h]
   generalize kindS.getD c.toNat 48 = x at *
   have w2 : IntKind.u8.wrap (((some x).getD 0).toNat - 48 : Int) = ((x.toNat - 48 : Nat) : Int) := by
     show IntKind.u8.wrap ((x.toNat : Int) - 48) = _
     have e : (x.toNat : Int) - 48 = ((x.toNat - 48 : Nat) : Int) := by omega
     rw [e]
     exact wru8 (by omega)
   rw [w2, wr64 (by omega)]
theorem Tryd.Token_c (s : List UInt8) (hs : s.length ≤ 100000) (bx : Boxes) : PureCall Tryd.prog 34 [.str s] bx (.bool (tokB s)) := by
 refine Tryd.ctr34 fun hf => ?_
 simp [go_sem, Tryd.C34, hf]
 refine ⟨by omega, ?_⟩
 refine pw_find s.length (fun j => !letB (s.getD j 0)) (fun j => ⟨24, slk [(0, .str s), (6, .sl 1 (s.map byteV)), (7, .int .i64 s.length), (8, .int .i64 j)], bx⟩) (cov_look (by simp [go_sem])) (fun j hj hJ N hN => ?_) (fun hJ N => ?_)
 · have hw := wr_succ (k := j) (by omega)
   have hg : s.getD j 0 = s[j] := by simp [hj]
   have hk := kind3 s[j]
   rw [hg, ← hk] at hN
   have cK := Tryd.kind_c s[j] bx
   simp [go_sem, Tryd.L34_0, hj, hf, hw, byteV]
   refine callK_pure cK ?_
   by_cases h3 : kindN s[j] = 3
   · simp [go_sem, h3, hw]
     exact hN _ (by simp [h3]) (cov_look (by simp [go_sem, byteV]))
   · have h4 : ¬ (kindN s[j] : Int) = 3 := by omega
     simp [go_sem, h4, hw]
     refine ret_pure (by simp [go_sem]) ⟨?_, rfl⟩
     have hl : letB s[j] = false := by rw [← hk]; simp [h3]
     simp [go_sem, tokB, all_miss hj hl]
 · simp [go_sem, Tryd.L34_0, hf]
   refine ret_pure (by simp [go_sem]) ⟨?_, rfl⟩
   unfold tokB
   rw [all_of_find hJ]
   have e1 : (0 < s.length) ↔ (1 ≤ s.length) := by omega
   have e2 : ((s.length : Int) ≤ 64) ↔ (s.length ≤ 64) := by omega
   simp [go_sem, e1, e2]
theorem Tryd.size_c (f : Fd) (hf : f.1.length ≤ 100000 ∧ f.2.length ≤ 100000) (bx : Boxes) : PureCall Tryd.prog 37 [fdV f] bx (.int .i64 (sizF f)) := by
 refine Tryd.ctr37 fun hb => ?_
 have w1 : IntKind.i64.wrap ((f.1.length : Int) + f.2.length) = (f.1.length : Int) + f.2.length := wr64 (by omega)
 have w2 : IntKind.i64.wrap ((f.1.length : Int) + f.2.length + 4) = (sizF f : Int) := by rw [wr64 (by omega)]; unfold sizF; omega
 simp [go_sem, Tryd.C37, hb, fdV, w1, w2]
 exact ret_pure (by simp [go_sem]) ⟨by simp [go_sem], rfl⟩
theorem Tryd.Check_c {bx : Boxes} (hm : Mk bx) (l : List Fd) (hl : Small l) : PureCall Tryd.prog 23 [.sl 2 (l.map fdV)] bx (.int .i64 (chkL l)) := by
 refine Tryd.ctr23 fun hf => ?_
 by_cases h1 : 100 < l.length
 · have h2 : (100 : Int) < l.length := by omega
   simp [go_sem, Tryd.C23, hf, h2]
   exact ret_pure (by simp [go_sem]) ⟨by simp [go_sem, chkL, h1], rfl⟩
 have h2 : ¬ (100 : Int) < l.length := by omega
 simp [go_sem, Tryd.C23, hf, h2]
 refine pw_find l.length (fun i => decide (chkF (l.getD i ([], [])) ≠ 0)) (fun i => ⟨46, slk [(3, .int .i64 (sumF (l.take i))), (9, .sl 2 (l.map fdV)), (10, .int .i64 l.length), (11, .int .i64 i)], bx⟩) (cov_look (by simp [go_sem, sumF])) (fun i hi hJ N hN => ?_) (fun hJ N => ?_)
 · have hw := wr_succ (k := i) (by omega)
   have hsm := hl l[i] (List.getElem_mem hi)
   have hg : l.getD i ([], []) = l[i] := by simp [hi]
   have hsum := sumF_le hl i (by omega)
   have hst := sumF_take hi
   have hhit := find_hit hi hJ
   rw [hg] at hN
   have cS := Tryd.size_c l[i] hsm bx
   unfold fdV at cS
   simp [go_sem, Tryd.L23_0, hi, hf, hw, fdV]
   generalize l[i] = f at *
   obtain ⟨nm, vl⟩ := f
   dsimp only at hsm cS ⊢
   obtain ⟨hs1, hs2⟩ := hsm
   have hC : ∀ e, chkF (nm, vl) = e → e ≠ 0 → chkL l = e := by
     intro e g1 g2
     unfold chkL
     rw [if_neg h1, hhit (by rw [g1]; exact g2)]
     exact g1
   clear hhit
   have hsz : sizF (nm, vl) ≤ 200004 := by unfold sizF; dsimp only; omega
   generalize sizF (nm, vl) = Z at *
   generalize sumF (l.take i) = S at *
   generalize sumF (l.take (i + 1)) = S2 at *
   have hi100 : i < 100 := by omega
   have w1 : IntKind.i64.wrap ((S : Int) + Z) = (S2 : Int) := by rw [wr64 (by omega)]; omega
   intro b hb
   rw [upd_none hb]
   refine callK_pure (Tryd.Token_c nm hs1 bx) ?_
   cases hT : tokB nm
   · simp [go_sem]
     refine gK_off (.bool false) (by simp [go_sem]) ?_
     simp [go_sem]
     refine gK_off (.bool false) (by simp [go_sem]) ?_
     simp [go_sem]
     refine ret_pure (by simp [go_sem]) ⟨?_, rfl⟩
     simp [go_sem, hC 6 (by simp [chkF, hT]) (by decide)]
   simp [go_sem]
   refine gK_pure (Tryd.plain_p hm vl) (by simp) (by simp [go_sem]) ?_
   cases hP : plainB vl
   · simp [go_sem]
     refine gK_off (.bool false) (by simp [go_sem]) ?_
     simp [go_sem]
     refine ret_pure (by simp [go_sem]) ⟨?_, rfl⟩
     simp [go_sem, hC 6 (by simp [chkF, hT, hP]) (by decide)]
   simp [go_sem]
   refine gK_pure (Tryd.Trim_p hm vl hs2) (by simp) (by simp [go_sem]) ?_
   by_cases hR : trimB vl = vl
   · simp [go_sem, hR]
     refine ⟨fun h => ret_pure (by simp [go_sem]) ⟨?_, rfl⟩, fun h => ?_⟩
     · simp [go_sem, hC 3 (by have : 2000 < vl.length := by omega
                              simp [chkF, hT, hP, hR, this]) (by decide)]
     · refine callK_pure cS ?_
       simp [go_sem, w1, hw]
       refine hN _ ?_ (cov_look (by simp [go_sem]))
       have : ¬ 2000 < vl.length := by omega
       simp [chkF, hT, hP, hR, this]
   · simp [go_sem, hR]
     refine ret_pure (by simp [go_sem]) ⟨?_, rfl⟩
     simp [go_sem, hC 6 (by simp [chkF, hT, hP, hR]) (by decide)]
 · have hnone := find_none hJ
   rw [List.take_length]
   simp [go_sem, Tryd.L23_0, hf]
   refine ⟨fun h => ret_pure (by simp [go_sem]) ⟨?_, rfl⟩, fun h => ret_pure (by simp [go_sem]) ⟨?_, rfl⟩⟩
   · have : 8192 < sumF l := by omega
     unfold chkL
     rw [if_neg h1, hnone]
     simp [go_sem, this]
   · have : ¬ 8192 < sumF l := by omega
     unfold chkL
     rw [if_neg h1, hnone]
     simp [go_sem, this]
end Go.Proofs

set_option linter.unusedVariables false
set_option linter.unusedSimpArgs false
set_option maxRecDepth 100000
namespace Go.Proofs
open Go Go.Pl Go.RowKit Go.Shelf
def lineF (s : List UInt8) : Option Fd := if ((cutC s 58).2.2 && tokB (cutC s 58).1 && plainB (cutC s 58).2.1) = true then some ((cutC s 58).1, trimB (cutC s 58).2.1) else none
def lineOk (ln : List UInt8) : Bool := decide (ln.getLast? = some 13) && !decide ((13 : UInt8) ∈ ln.dropLast)
theorem cutC_lt {s : List UInt8} {c : UInt8} (h : c ∈ s) : (cutC s c).2.1.length < s.length := by
 obtain ⟨n, h1, h2, h3, h4⟩ := idx_some h
 rw [cut_at h3 h4]
 simp
 omega
def prs (len at_ : Nat) (out : List Fd) (r : List UInt8) : List Fd × Nat × Int :=
 if h : (10 : UInt8) ∈ r then
   if 8192 ≤ at_ + (cutC r 10).1.length then ([], 0, 3)
   else if lineOk (cutC r 10).1 = true then
     if (cutC r 10).1.dropLast = [] then (out, at_ + (cutC r 10).1.length + 1, 0)
     else match lineF (cutC r 10).1.dropLast with
       | none => ([], 0, 6)
       | some f => if 2000 < f.2.length ∨ out.length = 100 then ([], 0, 3) else prs len (at_ + (cutC r 10).1.length + 1) (out ++ [f]) (cutC r 10).2.1
   else ([], 0, 6)
 else if 8192 < len then ([], 0, 3) else ([], 0, 10)
termination_by r.length
decreasing_by exact cutC_lt h
theorem prs_no {len at_ : Nat} {out : List Fd} {r : List UInt8} (h : ¬ (10 : UInt8) ∈ r) : prs len at_ out r = ([], 0, if 8192 < len then 3 else 10) := by
 rw [prs, dif_neg h]
 split <;> rfl
theorem prs_at {len at_ : Nat} {out : List Fd} {r : List UInt8} {n : Nat} (h3 : r[n]? = some 10) (h4 : ¬ (10 : UInt8) ∈ r.take n) : prs len at_ out r =
   if 8192 ≤ at_ + n then ([], 0, 3)
   else if lineOk (r.take n) = true then
     if (r.take n).dropLast = [] then (out, at_ + n + 1, 0)
     else match lineF (r.take n).dropLast with
       | none => ([], 0, 6)
       | some f => if 2000 < f.2.length ∨ out.length = 100 then ([], 0, 3) else prs len (at_ + n + 1) (out ++ [f]) (r.drop (n + 1))
   else ([], 0, 6) := by
 have hn := (List.getElem?_eq_some_iff.1 h3).1
 rw [prs, dif_pos (List.mem_of_getElem? h3), cut_at h3 h4]
 simp only [List.length_take, Nat.min_eq_left (Nat.le_of_lt hn)]
def prsV (x : List Fd × Nat × Int) : V := .tup [.sl 2 (x.1.map fdV), .int .i64 x.2.1, .int .i64 x.2.2]
def parseF (b : List UInt8) : List Fd × Nat × Int := prs b.length 0 [] b
end Go.Proofs

set_option linter.unusedVariables false
set_option linter.unusedSimpArgs false
set_option maxRecDepth 100000
namespace Go.Proofs
open Go Go.Pl Go.RowKit Go.Shelf
theorem toByte_byteV (c : UInt8) : toByte (byteV c) = c := by unfold byteV toByte; simp
abbrev pieceB (b : List UInt8) (fr hi : Nat) : List UInt8 := (b.take hi).drop fr
theorem piece_eq (b : List UInt8) (fr hi : Nat) : pieceB b fr hi = (b.drop fr).take (hi - fr) := List.drop_take
theorem tbB : toByte ∘ byteV = id := funext toByte_byteV
theorem piece_init {b : List UInt8} {fr k : Nat} (h2 : k ≤ b.length) : (pieceB b fr k).dropLast = pieceB b fr (k - 1) := by
 rw [piece_eq, piece_eq, List.dropLast_eq_take, List.length_take, List.length_drop, List.take_take]
 congr 1
 omega
theorem piece_u8 (b : List UInt8) (fr hi : Nat) : ∀ x, x ∈ List.drop fr (List.take hi (List.map byteV b)) → isU8 x = true := by
 intro x hx
 obtain ⟨y, _, rfl⟩ := List.mem_map.1 (List.mem_of_mem_take (List.mem_of_mem_drop hx))
 rfl
theorem acc_frz1 {bx bx1 : Boxes} {e : TypeId} {sz : Nat} {es : List V} {v : V} (ha : Acc bx e sz es v bx1) (h : 0 < sz) : Wk (frz bx1 bx 1 v) (.sl sz es) := by
 rcases ha.is with ⟨g1, rfl⟩ | ⟨b, g1, rfl, g2⟩
 · rw [g1]; exact wk_nils sz
 · rw [frz_own1 g2 g1 h rfl]
   exact Wk.refl _
theorem acc_len {bx bx1 bx2 : Boxes} {e t : TypeId} {sz : Nat} {es : List V} {v : V} {P : Program} (ha : Acc bx e sz es v bx1) {e' : TypeId} (ht : knd P t = .slice e') : lenV P bx2 t v = (True, .int .i64 es.length) := by
 unfold lenV
 rw [ht]
 rcases ha.is with ⟨rfl, rfl⟩ | ⟨b, g1, rfl, g2⟩ <;> simp [V.strip, V.liveB]
structure PJ (bx : Boxes) (b : List UInt8) (R : List Fd × Nat × Int) (k fr : Nat) (out : List Fd) (v : V) (bx1 : Boxes) : Prop where
 le : fr ≤ k
 lb : k ≤ b.length
 no : ¬ (10 : UInt8) ∈ pieceB b fr k
 ol : out.length ≤ 100
 eq : prs b.length fr out (b.drop fr) = R
 acc : Acc bx 34 2 (out.map fdV) v bx1
theorem PJ.next {bx : Boxes} {b : List UInt8} {R : List Fd × Nat × Int} {k fr : Nat} {out : List Fd} {v : V} {bx1 : Boxes} (h : PJ bx b R k fr out v bx1) (hk : k < b.length) (hc : b[k] ≠ 10) : PJ bx b R (k + 1) fr out v bx1 := by
 refine ⟨by have := h.le; omega, hk, fun hm => ?_, h.ol, h.eq, h.acc⟩
 have h1 := h.le
 rw [piece_eq, show k + 1 - fr = (k - fr) + 1 by omega, List.take_succ_eq_append_getElem (by simp; omega)] at hm
 rcases List.mem_append.1 hm with h2 | h2
 · exact h.no (by rw [piece_eq]; exact h2)
 · simp at h2
   have e : fr + (k - fr) = k := by omega
   simp only [e] at h2
   exact hc h2.symm
theorem PJ.at {bx : Boxes} {b : List UInt8} {R : List Fd × Nat × Int} {k fr : Nat} {out : List Fd} {v : V} {bx1 : Boxes} (h : PJ bx b R k fr out v bx1) (hk : k < b.length) (hc : b[k] = 10) : R =
   if 8192 ≤ k then ([], 0, 3)
   else if lineOk (pieceB b fr k) = true then
     if pieceB b fr (k - 1) = [] then (out, k + 1, 0)
     else match lineF (pieceB b fr (k - 1)) with
       | none => ([], 0, 6)
       | some f => if 2000 < f.2.length ∨ out.length = 100 then ([], 0, 3) else prs b.length (k + 1) (out ++ [f]) (b.drop (k + 1))
   else ([], 0, 6) := by
 have h1 := h.le
 have h3 : (b.drop fr)[k - fr]? = some 10 := by
   rw [List.getElem?_drop, show fr + (k - fr) = k by omega]
   simp [hk, hc]
 have h2 := h.eq
 rw [prs_at h3 (by rw [← piece_eq]; exact h.no)] at h2
 rw [← h2, show fr + (k - fr) = k by omega, List.drop_drop, show fr + (k - fr + 1) = k + 1 by omega]
 have e : (b.drop fr).take (k - fr) = pieceB b fr k := (piece_eq ..).symm
 (rw [e, piece_init (by omega)]) <;> rfl
end Go.Proofs

set_option linter.unusedVariables false
set_option linter.unusedSimpArgs false
set_option maxRecDepth 100000
namespace Go.Proofs
open Go Go.Pl Go.RowKit Go.Shelf
theorem lies_one {P : Program} {e : TypeId} {c : Nat} (hd : 0 < P.depth) (hs : P.cellsOf e ≠ 0) (hc : 1 ≤ c) : liesAt P P.depth e c 0 e 1 = true := by
 obtain ⟨d, hd⟩ : ∃ d, P.depth = d + 1 := ⟨P.depth - 1, by omega⟩
 have h1 : sameLayout P P.depth e e = true := by rw [hd]; simp [sameLayout]
 have h2 : rowAt P (fun t => sameLayout P P.depth t e) P.depth e c 0 1 = true := by
   rw [hd] at h1 ⊢
   unfold rowAt
   rw [if_neg hs]
   simp [h1, hc]
 rw [hd] at h2 ⊢
 unfold liesAt
 rw [hd]
 rw [h2]
 rfl
theorem Tryd.szB : (Tryd.prog.info? 56).map (·.size) = some 2 := by kernel_rfl
theorem Tryd.cellsB : Tryd.prog.cellsOf 56 = 2 := by kernel_rfl
theorem Tryd.depth0 : 0 < Tryd.prog.depth := by
 have h : decide (0 < Tryd.prog.depth) = true := by kernel_rfl
 exact of_decide_eq_true h
theorem Tryd.copy_used (b : Nat) (w : World) (h0 : w.cell? ⟨b, 0, none⟩ = some (.pointer (some ⟨b, 0, none⟩))) :
   Calls Tryd.prog 38 #[.pointer (some ⟨b, 0, none⟩)] w fun e w' => e = .returned (.tuple #[]) ∧ w' = w := by
 obtain ⟨j, hj, hjs⟩ := Option.map_eq_some_iff.1 Tryd.szB
 go_enter Tryd.func38, Tryd.ntmps38
 go_wp2
 rw [Lib.run_neq_ptr_same w _ (show Tryd.prog.underlying 54 = some (.pointer 56) by kernel_rfl) hj]
 go_wp2
 go_end0
 exact ⟨rfl, rfl⟩
theorem Tryd.copy_fresh (b n : Nat) (w : World) (h0 : w.cell? ⟨b, 0, none⟩ = some (.pointer none)) (hsh : w.shape? b = some (56, n)) (hn : 2 ≤ n) (hfz : w.frozen? ⟨b, 0, none⟩ = false) :
   Calls Tryd.prog 38 #[.pointer (some ⟨b, 0, none⟩)] w fun e w' => e = .returned (.tuple #[]) ∧ w' = w.setCell ⟨b, 0, none⟩ (.pointer (some ⟨b, 0, none⟩)) := by
 obtain ⟨j, hj, hjs⟩ := Option.map_eq_some_iff.1 Tryd.szB
 have hlies : liesAt Tryd.prog Tryd.prog.depth 56 (n / Tryd.prog.cellsOf 56) 0 56 1 = true := lies_one Tryd.depth0 (by rw [Tryd.cellsB]; decide) (by rw [Tryd.cellsB]; exact (Nat.le_div_iff_mul_le (by decide)).2 (by omega))
 go_enter Tryd.func38, Tryd.ntmps38
 go_wp2
 rw [Lib.run_to_unsafe w ⟨b, 0, none⟩ (t := 56) (by kernel_rfl) (by kernel_rfl) hj (by rw [hjs]; decide) hsh (show 0 < n by omega)]
 simp only [Result.andThen]
 rw [Oper.upon_value]
 go_wp2
 rw [run_callFunc_extern Tryd.func63 (by kernel_rfl) (by kernel_rfl) (by kernel_rfl) (e := Extern.AbiNoEscape.same) (by kernel_rfl)]
 rw [Lib.run_noEscape]
 simp only [Result.andThen]
 rw [Oper.upon_value]
 go_wp2
 rw [Lib.run_from_unsafe w ⟨b, 0, none⟩ (u := 56) (by kernel_rfl) (by kernel_rfl) hj hsh hlies]
 simp only [Result.andThen]
 rw [Oper.upon_value]
 go_wp2
 go_end0
 exact ⟨rfl, rfl⟩
end Go.Proofs

set_option linter.unusedVariables false
set_option linter.unusedSimpArgs false
set_option maxRecDepth 100000
namespace Go.Proofs
open Go Go.Pl Go.RowKit Go.Shelf
theorem setCell_row {w : World} {k : Nat} {cur : Array Value} {ty : TypeId} {fr : Nat × Nat} (h : w.heap[k]? = some (.cells cur ty fr)) (i : Nat) (v : Value) : w.setCell ⟨k, i, none⟩ v = w.setRow k (cur.setIfInBounds i v) := by
 unfold World.setCell World.setRow
 refine congrArg (fun h => ({ w with heap := h } : World)) ?_
 apply Array.ext_getElem?
 intro j
 rw [Array.getElem?_modify, Array.getElem?_modify]
 by_cases e : k = j
 · subst e
   simp [h]
 · simp [e]
def bldV (T : TypeId) (a v : V) : Box := .row T 2 [.agg [a, v]]
theorem Tryd.copy_p {bx : Boxes} {b : Nat} {a v : V} (hb : bx b = some (bldV 56 a v)) (ha : a = .nilp ∨ a = .ptr b 2 0 0) :
   AbsCall Tryd.prog 38 [.ptr b 2 0 0] bx fun r bx' => r = .tup [] ∧ bx' = upd bx b (some (bldV 56 (.ptr b 2 0 0) v)) := by
 unfold bldV at hb ⊢
 refine ⟨enters_of Tryd.func38 (by kernel_rfl) rfl, fun β M w vs hok hgl hvs hrep => ?_⟩
 have h0 := hrep 0 _ rfl
 have hv1 : vs = #[vs.getD 0 undef] := by
   apply Array.ext
   · simpa using hvs
   · intro j g1 g2
     simp at hvs g2
     subst g2
     simp [g1]
 generalize vs.getD 0 undef = u at h0 hv1
 subst hv1
 cases h0 with
 | ptr _ _ _ _ k hβ =>
   rcases hok.live b _ hb with ⟨h1, h2⟩ | ⟨k', h1, hlt, hM, cur, fr, hcur, hfr, hcl, hrow⟩
   · simp [Box.empty] at h2
   · rw [hβ] at h1
     injection h1 with h1
     injection h1 with h1
     subst h1
     obtain ⟨_, hr⟩ := hrow 0 _ rfl
     obtain ⟨o0, r0⟩ := hr 0 a rfl
     obtain ⟨o1, r1⟩ := hr 1 v rfl
     simp only [Nat.zero_mul, Nat.zero_add] at o0 r0 o1 r1
     have hc2 : 2 ≤ cur.size := by simpa using hcl
     have hcell : w.cell? ⟨k, 0, none⟩ = some (cur.getD 0 undef) := by
       simp [World.cell?, hcur, show 0 < cur.size by omega]
     have hfz : w.frozen? ⟨k, 0, none⟩ = false := frozen_fr hcur hfr (by omega)
     rcases ha with rfl | rfl
     · have e0 : cur.getD 0 undef = .pointer none := by
         generalize cur.getD 0 undef = c at r0
         cases r0; rfl
       rw [e0] at hcell
       refine (Tryd.copy_fresh k cur.size w hcell (shape_of hcur) hc2 hfz).mono ?_
       rintro e w' ⟨rfl, rfl⟩
       rw [setCell_row hcur]
       obtain ⟨g1, g2⟩ := write_box hok hb hβ hcur hfr (cur.setIfInBounds 0 (.pointer (some ⟨k, 0, none⟩))) (by simp) [.agg [.ptr b 2 0 0, v]] rfl (by simpa using hc2) (by
         intro i e hi
         rcases i with _ | i
         · simp at hi
           subst hi
           refine ⟨rfl, fun j c hj => ?_⟩
           rcases j with _ | _ | j
           · simp [V.cells] at hj
             subst hj
             simp only [Nat.zero_mul, Nat.zero_add]
             have : (cur.setIfInBounds 0 (.pointer (some ⟨k, 0, none⟩))).getD 0 undef = .pointer (some ⟨k, 0, none⟩) := by simp [show 0 < cur.size by omega]
             rw [this]
             exact ⟨rfl, by simpa using Rep.ptr b 2 0 0 k hβ⟩
           · simp [V.cells] at hj
             subst hj
             simp only [Nat.zero_mul, Nat.zero_add]
             have : (cur.setIfInBounds 0 (.pointer (some ⟨k, 0, none⟩))).getD 1 undef = cur.getD 1 undef := by
               simp [Array.getD_eq_getD_getElem?]
             rw [this]
             exact ⟨o1, r1⟩
           · simp [V.cells] at hj
         · simp at hi)
       exact ⟨_, _, _, β, rfl, ⟨rfl, rfl⟩, g1, g2, .tup [] #[] rfl (fun i c h => by simp at h)⟩
     · have e0 : cur.getD 0 undef = .pointer (some ⟨k, 0, none⟩) := by
         generalize cur.getD 0 undef = c at r0
         cases r0 with
         | ptr _ _ _ _ k2 hβ2 =>
           rw [hβ] at hβ2
           injection hβ2 with hβ2
           injection hβ2 with hβ2
           subst hβ2
           rfl
       rw [e0] at hcell
       refine (Tryd.copy_used k w hcell).mono ?_
       rintro e w' ⟨rfl, rfl⟩
       have hs : upd bx b (some (.row 56 2 [.agg [.ptr b 2 0 0, v]])) = bx := by
         funext c
         by_cases e : c = b
         · subst e; rw [upd_eq, hb]
         · rw [upd_ne _ _ e]
       rw [hs]
       exact ⟨_, _, _, β, rfl, ⟨rfl, rfl⟩, hok, Tr.refl _ _ _, .tup [] #[] rfl (fun i c h => by simp at h)⟩
end Go.Proofs

set_option linter.unusedVariables false
set_option linter.unusedSimpArgs false
set_option maxRecDepth 100000
namespace Go.Proofs
open Go Go.Pl Go.RowKit Go.Shelf
structure Bld (bx0 bx : Boxes) (b : Nat) (l : List UInt8) : Prop where
 ex : ∃ a v, (a = .nilp ∨ a = .ptr b 2 0 0) ∧ bx b = some (bldV 56 a v) ∧ ((v = .nils ∧ l = []) ∨ ∃ bb, v = .own bb 1 0 l.length ∧ bb ≠ b ∧ bx0 bb = none ∧ bx bb = some (.row 5 1 (l.map byteV)))
 nb : bx0 b = none
 ext : Ext bx0 bx
 fin : FinB bx
theorem Bld.start {bx : Boxes} {b : Nat} (hb : bx b = none) (hf : FinB bx) : Bld bx (upd bx b (some (.row 56 2 [.agg [.nilp, .nils]]))) b [] :=
 ⟨⟨.nilp, .nils, .inl rfl, upd_eq _ _ _, .inl ⟨rfl, rfl⟩⟩, hb, (Ext.refl _).new hb _, (finB_upd _ _ _).2 hf⟩
theorem Bld.next {bx0 bx : Boxes} {b : Nat} {l : List UInt8} (h : Bld bx0 bx b l) {bx1 : Boxes} {b' : Nat} {l' : List UInt8} {n : Nat} (hn : n = l'.length) (hne : b' ≠ b) (h0 : bx0 b' = none) (hb : bx1 b = some (.row 56 2 [.agg [.ptr b 2 0 0, .own b' 1 0 n]])) (hb' : bx1 b' = some (.row 5 1 (l'.map byteV))) (he : Ext bx0 bx1) (hf : FinB bx1) : Bld bx0 bx1 b l' := by
 subst hn
 exact ⟨⟨_, _, .inr rfl, hb, .inr ⟨b', rfl, hne, h0, hb'⟩⟩, h.nb, he, hf⟩
theorem Tryd.WriteString_p {bx0 bx : Boxes} {b : Nat} {l : List UInt8} (h : Bld bx0 bx b l) (s : List UInt8) (hs : l.length + s.length ≤ 100000000) :
   AbsCall Tryd.prog 24 [.ptr b 2 0 0, .str s] bx fun r bx' => r = .tup [.int .i64 s.length, .nili] ∧ Bld bx0 bx' b (l ++ s) := by
 refine Tryd.ctr24 fun hf => ?_
 obtain ⟨a, v, ha, hb, hv⟩ := h.ex
 simp [go_sem, Tryd.C24, hf]
 refine callK_abs (Tryd.copy_p hb ha) ?_
 rintro r bx1 ⟨rfl, rfl⟩
 unfold bldV
 rcases hv with ⟨rfl, rfl⟩ | ⟨bb, rfl, hne, hbb0, hbb⟩
 · simp [go_sem, upd_eq, finB_upd, hf, appendA, srcEls, Tryd.knd22, Tryd.tsz5, Tryd.tzero5, Tryd.tby5, Tryd.knd9]
   refine ⟨by omega, by omega, fun b' hb' => ?_⟩
   have hne : b' ≠ b := fun e => by subst e; rw [upd_eq] at hb'; cases hb'
   have hb2 : bx b' = none := by rw [upd_ne _ _ hne] at hb'; exact hb'
   have h0 := h.ext.none hb2
   simp [go_sem, upd_eq, upd_ne, Ne.symm hne, hne, finB_upd, hf]
   refine ret_pure (by simp [go_sem]) ⟨by simp [go_sem], h.next (b' := b') (l' := s) rfl hne h0 (by simp [go_sem, upd_eq]) (by simp [go_sem, upd_ne _ _ hne, upd_eq]) (fun c hc => ?_) (by simp [finB_upd, hf])⟩
   have c1 : c ≠ b := fun e => hc (by rw [e]; exact h.nb)
   have c2 : c ≠ b' := fun e => hc (by rw [e]; exact h0)
   simp only [upd_ne _ _ c1, upd_ne _ _ c2]
   exact h.ext c hc
 · simp [go_sem, upd_eq, finB_upd, hf, upd_ne, hne, Ne.symm hne, hbb, appendA, srcEls, Tryd.knd22, Tryd.tsz5, Tryd.tzero5, Tryd.tby5, Tryd.knd9]
   refine ⟨by omega, by omega, fun b' hb' => ?_⟩
   have hne' : b' ≠ b := fun e => by subst e; rw [upd_ne _ _ (Ne.symm hne), upd_eq] at hb'; cases hb'
   have h0 : bx0 b' = none := by
     by_cases e : b' = bb
     · rw [e]; exact hbb0
     · rw [upd_ne _ _ e, upd_ne _ _ hne'] at hb'
       exact h.ext.none hb'
   have htk : (l.map byteV).take l.length = l.map byteV := by rw [List.take_of_length_le (by simp)]
   rw [htk, ← List.map_append]
   simp [go_sem, upd_eq, upd_ne, Ne.symm hne', hne', hne, Ne.symm hne, finB_upd, hf]
   refine ret_pure (by simp [go_sem]) ⟨by simp [go_sem], h.next (b' := b') (l' := l ++ s) (n := l.length + s.length) (by simp) hne' h0 (by simp [go_sem, upd_eq]) (by simp [go_sem, upd_ne _ _ hne', upd_eq]) (fun c hc => ?_) (by simp [finB_upd, hf])⟩
   have c1 : c ≠ b := fun e => hc (by rw [e]; exact h.nb)
   have c2 : c ≠ b' := fun e => hc (by rw [e]; exact h0)
   have c3 : c ≠ bb := fun e => hc (by rw [e]; exact hbb0)
   simp only [upd_ne _ _ c1, upd_ne _ _ c2, upd_ne _ _ c3]
   exact h.ext c hc
set_option maxHeartbeats 4000000 in
theorem Tryd.str_w (k g cap : Nat) (cur : Array Value) {fr : Nat × Nat} (l : List UInt8) (h0 : l ≠ []) (w : World) (hbk : w.cell? ⟨k, 1, none⟩ = some (.slice (some ⟨g, 0, none⟩) l.length cap)) (hg : w.heap[g]? = some (.cells cur 5 fr)) (hcur : ∀ (j : Nat) (x : UInt8), l[j]? = some x → cur[j]? = some (.int .u8 x.toNat)) (hle : l.length ≤ cap) (hmax : cap ≤ maxLen) :
   Calls Tryd.prog 25 #[.pointer (some ⟨k, 0, none⟩)] w fun e w' => e = .returned (.string ⟨l.toArray⟩) ∧ w' = w.drew.freeze ⟨g, 0, none⟩ l.length := by
 have mixed : Tryd.prog.follows .mixedOrders = true := by kernel_rfl
 have hl0 : l.length ≠ 0 := by simpa using h0
 have c1 : w.drew.cell? ⟨k, 1, none⟩ = some (.slice (some ⟨g, 0, none⟩) l.length cap) := hbk
 have hSD : (Builtin.unsafeSliceData_ #[22] 74 #[.slice (some ⟨g, 0, none⟩) l.length cap]).run Tryd.prog w.drew = .ok (.pointer (some ⟨g, 0, none⟩)) w.drew :=
   Lib.run_unsafeSliceData_row _ _ _ _ _ _ (by omega)
 have hUS : (Builtin.unsafeString_ #[74, 3] 9 #[.pointer (some ⟨g, 0, none⟩), .int .i64 l.length]).run Tryd.prog w.drew = .ok (.string ⟨l.toArray⟩) (w.drew.freeze ⟨g, 0, none⟩ l.length) := by
   refine Lib.run_unsafeString_row w.drew 74 3 9 5 (by kernel_rfl) (by kernel_rfl) g cur.size (by have hg' : w.drew.heap[g]? = some (.cells cur 5 fr) := hg; simp [World.shape?, hg']) l h0 ?_ (by unfold maxLen at hmax; omega) ?_
   · rcases hx : l.length with _ | n
     · omega
     · have hn : n < l.length := by omega
       have := hcur n _ (List.getElem?_eq_getElem hn)
       have := (Array.getElem?_eq_some_iff.1 this).1
       omega
   · intro j x hx
     have h2 := hcur j x hx
     have e : (⟨g, 0, none⟩ : Addr).add j = ⟨g, j, none⟩ := by unfold Addr.add; by_cases h : j = 0 <;> simp [h]
     rw [e]
     show w.cell? ⟨g, j, none⟩ = _
     simp [World.cell?, hg, h2]
 go_enter Tryd.func25, Tryd.ntmps25
 go_wp2
 go_region_o
 all_goals (go_wp2; go_ret; exact ⟨rfl, rfl⟩)
theorem box_frz {β : Beta} {M : Off} {w : World} {bx : Boxes} (h : WOk β M bx w) {b k : Nat} {ty : TypeId} {sz : Nat} {es : List V} (hb : bx b = some (.row ty sz es)) (hβ : β b = some (some k)) {cur : Array Value} {fr0 : Nat × Nat} (hcur : w.heap[k]? = some (.cells cur ty fr0)) (m : Nat) :
   WOk β M (upd bx b none) (w.freeze ⟨k, 0, none⟩ m) ∧ Tr β bx w β (upd bx b none) (w.freeze ⟨k, 0, none⟩ m) := by
 obtain ⟨fr, hkk, hko, hsz⟩ : ∃ fr, (w.freeze ⟨k, 0, none⟩ m).heap[k]? = some (.cells cur ty fr) ∧ (∀ q, q ≠ k → (w.freeze ⟨k, 0, none⟩ m).heap[q]? = w.heap[q]?) ∧ (w.freeze ⟨k, 0, none⟩ m).heap.size = w.heap.size := by
   unfold World.freeze
   split
   · exact ⟨_, hcur, fun _ _ => rfl, rfl⟩
   · obtain ⟨lo, hi⟩ := fr0
     refine ⟨_, by simp only [Array.getElem?_modify, if_pos, hcur, Option.map_some]; rfl, fun q hq => ?_, by simp⟩
     · simp only [Array.getElem?_modify]
       rw [if_neg (Ne.symm hq)]
 have hos : (w.freeze ⟨k, 0, none⟩ m).os = w.os ∧ (w.freeze ⟨k, 0, none⟩ m).tape = w.tape ∧ (w.freeze ⟨k, 0, none⟩ m).output = w.output ∧ (w.freeze ⟨k, 0, none⟩ m).drawn = w.drawn := by
   unfold World.freeze; split <;> exact ⟨rfl, rfl, rfl, rfl⟩
 generalize w.freeze ⟨k, 0, none⟩ m = w' at *
 have hlive := h.live b _ hb
 obtain ⟨hlt, hM⟩ : k < w.heap.size ∧ M k = none := by
   rcases hlive with ⟨h1, _⟩ | ⟨k', h1, h2, h3, _⟩
   · rw [hβ] at h1; cases h1
   · rw [hβ] at h1; injection h1 with h1; injection h1 with h1; subst h1; exact ⟨h2, h3⟩
 have hdom : ∀ b', upd bx b none b' ≠ none → bx b' ≠ none ∧ b' ≠ b := by
   intro b' hb'
   by_cases e : b' = b
   · subst e; simp [upd_eq] at hb'
   · rw [upd_ne _ _ e] at hb'; exact ⟨hb', e⟩
 have hs : ∀ q x, w.shape? q = some x → w'.shape? q = some x := by
   intro q x hx
   by_cases e : q = k
   · subst e; rw [shape_of hkk, ← shape_of hcur]; exact hx
   · rw [shape_heap (hko q e)]; exact hx
 have ht : Tr β bx w β (upd bx b none) w' :=
   ⟨hos.1, hos.2.1, hos.2.2.1, fun _ => by rw [hos.2.2.2]; exact Nat.le_refl _, fun hm => Mk.of_upd hm (fun _ h => by cases h), by omega, fun q h1 h2 => hko q (by rintro rfl; exact h2 b (by rw [hb]; simp) hβ), hs, fun _ _ h => h, fun b' q h1 h2 => .inl ⟨b', (hdom b' h1).1, h2⟩⟩
 refine ⟨⟨h.fin, fun q y hq => (hko q (by rintro rfl; rw [hM] at hq; cases hq)).trans (h.mlt q y hq), fun b' box' hb' => ?_, fun b1 b2 q h1 h2 h3 h4 => h.inj b1 b2 q (hdom _ h1).1 (hdom _ h2).1 h3 h4⟩, ht⟩
 have hne := (hdom b' (by rw [hb']; simp)).2
 rw [upd_ne _ _ hne] at hb'
 rcases h.live b' box' hb' with h1 | ⟨k', h1, h2, h3, h4⟩
 · exact .inl h1
 · have e : k' ≠ k := by rintro rfl; exact hne (h.inj b' b k' (by rw [hb']; simp) (by rw [hb]; simp) h1 hβ)
   exact .inr ⟨k', h1, by omega, h3, boxAt_mono h4 (hko k' e) (fun _ _ h => h) (fun _ hk => ht.fz hk) ht.shape⟩
theorem Tryd.String_p {bx0 bx : Boxes} {b : Nat} {l : List UInt8} (h : Bld bx0 bx b l) (h0 : l ≠ []) :
   AbsCall Tryd.prog 25 [.ptr b 2 0 0] bx fun r bx' => r = .str l ∧ Ext bx0 bx' ∧ FinB bx' := by
 obtain ⟨a, v, ha, hb, hv⟩ := h.ex
 unfold bldV at hb
 rcases hv with ⟨_, e⟩ | ⟨bb, rfl, hne, hbb0, hbb⟩
 · exact absurd e h0
 refine ⟨enters_of Tryd.func25 (by kernel_rfl) rfl, fun β M w vs hok hgl hvs hrep => ?_⟩
 have r0 := hrep 0 _ rfl
 have hv1 : vs = #[vs.getD 0 undef] := by
   apply Array.ext
   · simpa using hvs
   · intro j g1 g2
     simp at hvs g2
     subst g2
     simp [g1]
 generalize vs.getD 0 undef = u at r0 hv1
 subst hv1
 cases r0 with
 | ptr _ _ _ _ k hβ =>
   rcases hok.live b _ hb with ⟨h1, h2⟩ | ⟨k', h1, hlt, hM, cur, fr, hcur, hfr, hcl, hrow⟩
   · simp [Box.empty] at h2
   rw [hβ] at h1
   injection h1 with h1
   injection h1 with h1
   subst h1
   obtain ⟨_, hr⟩ := hrow 0 _ rfl
   obtain ⟨o1, r1⟩ := hr 1 _ rfl
   simp only [Nat.zero_mul, Nat.zero_add] at o1 r1
   have hc2 : 2 ≤ cur.size := by simpa using hcl
   have hcell : w.cell? ⟨k, 1, none⟩ = some (cur.getD 1 undef) := by
     simp [World.cell?, hcur, show 1 < cur.size by omega]
   generalize cur.getD 1 undef = c1 at r1 hcell
   rcases hok.live bb _ hbb with ⟨_, g2⟩ | ⟨g, g1, glt, gM, gcur, gfr, ghcur, ghfr, gcl, grow⟩
   · simp [Box.empty] at g2; exact absurd g2 h0
   have hpos : l.length ≠ 0 := by simpa using h0
   generalize hn : l.length = n at r1
   cases r1 with
   | own0 _ _ hβ2 => omega
   | own _ _ _ _ g2 cap m ty hβ2 hs hm hnc hmax =>
     rw [g1] at hβ2
     injection hβ2 with hβ2
     injection hβ2 with hβ2
     subst hβ2
     subst hn
     have hcells : ∀ (j : Nat) (x : UInt8), l[j]? = some x → gcur[j]? = some (.int .u8 x.toNat) := by
       intro j x hx
       obtain ⟨_, hrj⟩ := grow j (byteV x) (by simp [hx])
       obtain ⟨_, h3⟩ := hrj 0 _ rfl
       simp only [Nat.mul_one, Nat.add_zero] at h3
       have h4 := h3.int_inv
       have hj : j < gcur.size := by
         have := (List.getElem?_eq_some_iff.1 hx).1
         simp at gcl
         omega
       rw [Array.getD_eq_getD_getElem?, Array.getElem?_eq_getElem hj] at h4
       rw [Array.getElem?_eq_getElem hj]
       exact congrArg some h4
     refine (Tryd.str_w k g cap gcur l h0 w (by simpa using hcell) ghcur hcells hnc (by simpa using hmax)).mono ?_
     rintro e w' ⟨rfl, rfl⟩
     obtain ⟨g3, g4⟩ := box_frz hok.drew hbb g1 (show w.drew.heap[g]? = _ from ghcur) l.length
     refine ⟨_, _, _, β, rfl, ⟨rfl, fun c hc => ?_, (finB_upd _ _ _).2 h.fin⟩, g3, (Tr.drew hok).trans g4, rep_str _⟩
     rw [upd_ne _ _ (fun e => hc (by rw [e]; exact hbb0))]
     exact h.ext c hc
end Go.Proofs

set_option linter.unusedVariables false
set_option linter.unusedSimpArgs false
set_option maxRecDepth 100000
namespace Go.Proofs
open Go Go.Pl Go.RowKit Go.Shelf
theorem chkL_len {l : List Fd} (h : chkL l = 0) : l.length ≤ 100 := by
 unfold chkL at h
 by_cases h1 : 100 < l.length
 · rw [if_pos h1] at h; cases h
 · omega
def lineB (f : Fd) : List UInt8 := f.1 ++ [58, 32] ++ f.2 ++ [13, 10]
def linesB (l : List Fd) : List UInt8 := l.flatMap lineB
def prtB (l : List Fd) : List UInt8 := linesB l ++ [13, 10]
theorem lineB_len (f : Fd) : (lineB f).length = sizF f := by
 unfold lineB sizF
 simp
 omega
theorem linesB_take {l : List Fd} {j : Nat} (hj : j < l.length) : linesB (l.take (j + 1)) = linesB (l.take j) ++ lineB l[j] := by
 unfold linesB
 rw [List.take_succ_eq_append_getElem hj, List.flatMap_append]
 simp
theorem linesB_len (l : List Fd) : (linesB l).length + 2 = sumF l := by
 unfold linesB sumF
 induction l with
 | nil => rfl
 | cons f l ih =>
   rw [List.flatMap_cons, List.length_append, lineB_len, List.map_cons, List.sum_cons]
   omega
theorem chkL_sum {l : List Fd} (h : chkL l = 0) : sumF l ≤ 8192 := by
 unfold chkL at h
 split at h
 · cases h
 · split at h
   · rename_i f hf
     have := List.find?_some hf
     simp at this
     exact absurd h this
   · split at h
     · cases h
     · omega
def prtR (l : List Fd) : V := if chkL l = 0 then .tup [.str (prtB l), .int .i64 0] else .tup [.str [], .int .i64 (chkL l)]
theorem Tryd.Print_c {bx : Boxes} (hm : Mk bx) (l : List Fd) (hl : Small l) : PureCall Tryd.prog 14 [.sl 2 (l.map fdV)] bx (prtR l) := by
 refine Tryd.ctr14 fun hf => ?_
 simp [go_sem, Tryd.C14, hf]
 refine callK_pure (Tryd.Check_c hm l hl) ?_
 simp [go_sem]
 refine ⟨fun h => ret_pure (by simp [go_sem]) ⟨by simp [go_sem, prtR, h], rfl⟩, fun h => ?_⟩
 have hle := chkL_len h
 refine ⟨hf, fun b hb => ?_⟩
 refine pw_for (ι := Boxes) l.length (fun k bx' => Bld bx bx' b (linesB (l.take k))) (fun k bx' => ⟨30, slk [(5, .ptr b 2 0 0), (13, .sl 2 (l.map fdV)), (14, .int .i64 l.length), (15, .int .i64 k)], bx'⟩) (upd bx b (some (.row 56 2 [.agg [.nilp, .nils]]))) (Bld.start hb hf) (cov_look (by simp [go_sem])) (fun k bx1 hk hJ N hN => ?_) (fun bx1 hJ N => ?_)
 · have hw := wr_succ (k := k) (by omega)
   have ht := linesB_take hk
   have hln := linesB_len (l.take k)
   have hsl := sumF_le hl k (by omega)
   obtain ⟨hs1, hs2⟩ := hl l[k] (List.getElem_mem hk)
   simp [go_sem, Tryd.L14_0, hk, hJ.fin, fdV]
   intro b1 hb1
   refine ⟨by omega, by omega, by omega, ?_⟩
   rw [upd_none hb1]
   have e : l[k].1 ++ 58 :: 32 :: (l[k].2 ++ [13, 10]) = lineB l[k] := by simp [lineB]
   rw [e]
   refine callK_abs (Tryd.WriteString_p hJ (lineB l[k]) (by rw [lineB_len]; unfold sizF; omega)) ?_
   rintro r bx2 ⟨rfl, hB⟩
   rw [← ht] at hB
   simp [go_sem, hw, hB.fin]
   exact hN _ bx2 hB (cov_look (by simp [go_sem, fdV]))
 · rw [List.take_length] at hJ
   simp [go_sem, Tryd.L14_0, hJ.fin]
   have hln := linesB_len l
   have hsl := sumF_le hl l.length (by omega)
   rw [List.take_length] at hsl
   refine callK_abs (Tryd.WriteString_p hJ [13, 10] (by simp; omega)) ?_
   rintro r bx2 ⟨rfl, hB⟩
   simp [go_sem, hB.fin]
   refine callK_abs (Tryd.String_p hB (by simp)) ?_
   rintro r bx3 ⟨rfl, he, hf3⟩
   simp [go_sem, hf3]
   exact ret_drop (by simp [go_sem]) he ⟨by simp [go_sem, prtR, h, prtB], rfl⟩
end Go.Proofs

set_option linter.unusedVariables false
set_option linter.unusedSimpArgs false
set_option maxRecDepth 100000
namespace Go.Proofs
open Go Go.Pl
theorem tok_mem {s : List UInt8} (h : tokB s = true) {c : UInt8} (hc : c ∈ s) : letB c = true := by
 unfold tokB at h
 rw [Bool.and_eq_true] at h
 exact List.all_eq_true.1 h.2 c hc
theorem plain_mem {s : List UInt8} (h : plainB s = true) {c : UInt8} (hc : c ∈ s) : plain1 c = true := List.all_eq_true.1 h c hc
structure OkF (f : Fd) : Prop where
 tok : tokB f.1 = true
 pl : plainB f.2 = true
 tr : trimB f.2 = f.2
 len : f.2.length ≤ 2000
theorem chkF_ok {f : Fd} (h : chkF f = 0) : OkF f := by
 unfold chkF at h
 split at h
 · rename_i h1
   split at h
   · cases h
   · rename_i h2
     simp at h1
     exact ⟨h1.1.1, h1.1.2, h1.2, by omega⟩
 · cases h
theorem chkL_ok {l : List Fd} (h : chkL l = 0) : l.length ≤ 100 ∧ (∀ f, f ∈ l → OkF f) ∧ sumF l ≤ 8192 := by
 refine ⟨?_, fun f hf => ?_, chkL_sum h⟩
 · unfold chkL at h
   by_cases h1 : 100 < l.length
   · rw [if_pos h1] at h; cases h
   · omega
 · refine chkF_ok ?_
   unfold chkL at h
   split at h
   · cases h
   · split at h
     · rename_i g hg
       have := List.find?_some hg
       simp at this
       exact absurd h this
     · rename_i hn
       have := List.find?_eq_none.1 hn f hf
       simpa using this
theorem prt_len (l : List Fd) : (prtB l).length = sumF l := by
 have := linesB_len l
 unfold prtB
 simp
 omega
theorem dw_idem (p : UInt8 → Bool) : ∀ s : List UInt8, (s.dropWhile p).dropWhile p = s.dropWhile p
 | [] => rfl
 | c :: s => by
   by_cases h : p c = true
   · rw [List.dropWhile_cons_of_pos h]; exact dw_idem p s
   · rw [List.dropWhile_cons_of_neg h, List.dropWhile_cons_of_neg h]
theorem dw_head (p : UInt8 → Bool) : ∀ (s : List UInt8) {c : UInt8} {t : List UInt8}, s.dropWhile p = c :: t → ¬ p c = true
 | [], c, t, h => by cases h
 | d :: s, c, t, h => by
   by_cases hd : p d = true
   · rw [List.dropWhile_cons_of_pos hd] at h; exact dw_head p s h
   · rw [List.dropWhile_cons_of_neg hd] at h
     injection h with h1 h2
     subst h1; exact hd
theorem trim_idem (s : List UInt8) : trimB (trimB s) = trimB s := by
 unfold trimB
 generalize hu : s.dropWhile blank1 = u
 have h1 : ((u.reverse.dropWhile blank1).reverse).dropWhile blank1 = (u.reverse.dropWhile blank1).reverse := by
   cases u with
   | nil => rfl
   | cons c t =>
     have hc := dw_head blank1 s hu
     have : ((c :: t).reverse.dropWhile blank1).reverse = c :: ((t.reverse.dropWhile blank1).reverse) := by
       rw [List.reverse_cons, List.dropWhile_append]
       by_cases he : (t.reverse.dropWhile blank1).isEmpty = true
       · rw [if_pos he, List.dropWhile_cons_of_neg hc]
         have : t.reverse.dropWhile blank1 = [] := List.isEmpty_iff.1 he
         rw [this]; rfl
       · rw [if_neg he]; simp
     rw [this, List.dropWhile_cons_of_neg hc]
 rw [h1, List.reverse_reverse, dw_idem]
theorem trim_plain {s : List UInt8} (h : plainB s = true) : plainB (trimB s) = true := by
 refine List.all_eq_true.2 fun c hc => plain_mem h ?_
 unfold trimB at hc
 have h1 := List.mem_reverse.1 hc
 have h2 := (List.dropWhile_sublist _).subset h1
 exact (List.dropWhile_sublist _).subset (List.mem_reverse.1 h2)
theorem lineF_ok {s : List UInt8} {f : Fd} (h : lineF s = some f) (h2 : f.2.length ≤ 2000) : OkF f := by
 unfold lineF at h
 split at h
 · rename_i hc
   injection h with h
   subst h
   simp at hc
   exact ⟨hc.1.2, trim_plain hc.2, trim_idem _, h2⟩
 · cases h
theorem prs_inv {len len2 : Nat} : ∀ (n at_ : Nat) (out : List Fd) (r : List UInt8), r.length ≤ n → (∀ f, f ∈ out → OkF f) → out.length ≤ 100 →
   ((prs len at_ out r).2.2 ≠ 0 ∧ (prs len at_ out r).1 = [] ∧ (prs len at_ out r).2.1 = 0) ∨
   ∃ k, (prs len at_ out r).2.2 = 0 ∧ (prs len at_ out r).2.1 = at_ + k ∧ 2 ≤ k ∧ k ≤ r.length ∧ at_ + k ≤ 8192 ∧ (∀ f, f ∈ (prs len at_ out r).1 → OkF f) ∧ (prs len at_ out r).1.length ≤ 100 ∧ prs len2 at_ out (r.take k) = prs len at_ out r
 | n, at_, out, r, hn, ho, hl => by
   by_cases h : (10 : UInt8) ∈ r
   · obtain ⟨m, h1, h2, h3, h4⟩ := idx_some h
     have hp := prs_at (len := len) (at_ := at_) (out := out) h3 h4
     have hp2 : ∀ k, m + 1 ≤ k → prs len2 at_ out (r.take k) = _ := fun k hk => prs_at (len := len2) (at_ := at_) (out := out) (r := r.take k) (n := m) (by rw [List.getElem?_take_of_lt (by omega)]; exact h3) (by rw [List.take_take, Nat.min_eq_left (by omega)]; exact h4)
     rw [hp]
     by_cases c1 : 8192 ≤ at_ + m
     · rw [if_pos c1]; exact .inl ⟨by decide, rfl, rfl⟩
     rw [if_neg c1]
     by_cases c2 : lineOk (r.take m) = true
     · rw [if_pos c2]
       have hm1 : 1 ≤ m := by
         rcases m with _ | m
         · simp [lineOk] at c2
         · omega
       by_cases c3 : (r.take m).dropLast = []
       · rw [if_pos c3]
         refine .inr ⟨m + 1, rfl, rfl, by omega, by omega, by omega, ho, hl, ?_⟩
         rw [hp2 (m + 1) (Nat.le_refl _), if_neg c1]
         have e : (r.take (m + 1)).take m = r.take m := by rw [List.take_take, Nat.min_eq_left (by omega)]
         rw [e, if_pos c2, if_pos c3]
       · rw [if_neg c3]
         cases hF : lineF (r.take m).dropLast with
         | none => exact .inl ⟨by show (6 : Int) ≠ 0; decide, rfl, rfl⟩
         | some f =>
           dsimp only
           by_cases c4 : 2000 < f.2.length ∨ out.length = 100
           · rw [if_pos c4]; exact .inl ⟨by decide, rfl, rfl⟩
           · rw [if_neg c4]
             have hf := lineF_ok hF (by omega)
             cases n with
             | zero => omega
             | succ n =>
               rcases prs_inv (len := len) (len2 := len2) n (at_ + m + 1) (out ++ [f]) (r.drop (m + 1)) (by simp; omega) (fun g hg => by
                 rcases List.mem_append.1 hg with hg | hg
                 · exact ho g hg
                 · simp at hg; subst hg; exact hf) (by simp; omega) with h5 | ⟨k, g1, g2, g3, g4, g5, g6, g7, g8⟩
               · exact .inl h5
               · simp at g4
                 refine .inr ⟨m + 1 + k, g1, by rw [g2]; omega, by omega, by omega, by omega, g6, g7, ?_⟩
                 rw [hp2 _ (by omega), if_neg c1]
                 have e : (r.take (m + 1 + k)).take m = r.take m := by rw [List.take_take, Nat.min_eq_left (by omega)]
                 have e2 : (r.take (m + 1 + k)).drop (m + 1) = (r.drop (m + 1)).take k := by rw [List.drop_take]; congr 1; omega
                 rw [e, if_pos c2, if_neg c3, hF]
                 dsimp only
                 rw [if_neg c4, e2]
                 exact g8
     · rw [if_neg c2]; exact .inl ⟨by decide, rfl, rfl⟩
   · rw [prs_no h]
     refine .inl ⟨?_, rfl, rfl⟩
     dsimp only
     split <;> decide
end Go.Proofs

set_option linter.unusedVariables false
set_option linter.unusedSimpArgs false
set_option maxRecDepth 100000
namespace Go.Proofs
open Go Go.Pl
def dgt (c : UInt8) : Int :=
 if 48 ≤ c.toNat ∧ c.toNat ≤ 57 then (c.toNat : Int) - 48
 else if 97 ≤ c.toNat ∧ c.toNat ≤ 102 then (c.toNat : Int) - 87
 else if 65 ≤ c.toNat ∧ c.toNat ≤ 70 then (c.toNat : Int) - 55 else -1
theorem dgt_rng (c : UInt8) : -1 ≤ dgt c ∧ dgt c ≤ 15 := by
 unfold dgt
 split
 · omega
 · split
   · omega
   · split <;> omega
def isD (c : UInt8) : Bool := decide (0 ≤ dgt c)
def many (l : List UInt8) : Nat := (l.takeWhile isD).length
def stepD (n : Nat) (c : UInt8) : Nat := 16 * n + (dgt c).toNat
def valD (l : List UInt8) : Nat := (l.takeWhile isD).foldl stepD 0
theorem tw_snoc (p : UInt8 → Bool) (l : List UInt8) (c : UInt8) : (l ++ [c]).takeWhile p = if (l.takeWhile p).length = l.length then (if p c = true then l ++ [c] else l) else l.takeWhile p := by
 rw [List.takeWhile_append]
 split
 · cases h : p c <;> simp [h]
 · rfl
theorem tw_full {p : UInt8 → Bool} {l : List UInt8} (h : (l.takeWhile p).length = l.length) : l.takeWhile p = l := (List.takeWhile_sublist p).eq_of_length h
theorem many_le (l : List UInt8) : many l ≤ l.length := (List.takeWhile_sublist _).length_le
theorem many_dig {l : List UInt8} {c : UInt8} (h : many l = l.length) (hc : isD c = true) : many (l ++ [c]) = l.length + 1 ∧ valD (l ++ [c]) = stepD (valD l) c := by
 have h' : (l.takeWhile isD).length = l.length := h
 unfold many valD
 rw [tw_snoc, if_pos h', if_pos hc, tw_full h']
 simp
theorem many_no {l : List UInt8} {c : UInt8} (h : many l ≠ l.length ∨ isD c = false) : many (l ++ [c]) = many l ∧ valD (l ++ [c]) = valD l := by
 unfold many valD
 rw [tw_snoc]
 by_cases h1 : (l.takeWhile isD).length = l.length
 · have hc : isD c = false := by
     rcases h with h | h
     · exact absurd h1 h
     · exact h
   rw [if_pos h1, if_neg (by simp [hc]), tw_full h1]
   exact ⟨rfl, rfl⟩
 · rw [if_neg h1]; exact ⟨rfl, rfl⟩
theorem valD_lt : ∀ (l : List UInt8) (n : Nat), l.foldl stepD n < (n + 1) * 16 ^ l.length
 | [], n => by simp
 | c :: l, n => by
   have ih := valD_lt l (stepD n c)
   have h1 : stepD n c + 1 ≤ (n + 1) * 16 := by
     have := dgt_rng c
     unfold stepD
     omega
   rw [List.foldl_cons, List.length_cons, Nat.pow_succ]
   calc l.foldl stepD (stepD n c) < (stepD n c + 1) * 16 ^ l.length := ih
     _ ≤ ((n + 1) * 16) * 16 ^ l.length := Nat.mul_le_mul_right _ h1
     _ = (n + 1) * (16 ^ l.length * 16) := by rw [Nat.mul_assoc, Nat.mul_comm 16]
theorem valD_bound {l : List UInt8} (h : many l ≤ 8) : valD l < 4294967296 := by
 have h1 := valD_lt (l.takeWhile isD) 0
 have h2 : 16 ^ (l.takeWhile isD).length ≤ 16 ^ 8 := Nat.pow_le_pow_right (by decide) h
 have h3 : valD l < 16 ^ 8 := by
   unfold valD
   omega
 exact h3
def txt1 (c : UInt8) : Bool := decide (c = 9) || (decide (32 ≤ c.toNat) && decide (c.toNat ≤ 126))
def moreC (l : List UInt8) (c : UInt8) : Int :=
 if l.getLast? = some 13 then 6
 else if c = 13 then (if many l = 0 then 6 else 0)
 else if many l = l.length then
   if isD c = true then (if many l = 8 then 3 else if 200 ≤ l.length then 3 else 0)
   else if c = 59 ∧ many l ≠ 0 then (if 200 ≤ l.length then 3 else 0) else 6
 else if txt1 c = true then (if 200 ≤ l.length then 3 else 0) else 6
def badN : List (List UInt8) := [[99, 111, 110, 110, 101, 99, 116, 105, 111, 110], [99, 111, 110, 116, 101, 110, 116, 45, 108, 101, 110, 103, 116, 104], [104, 111, 115, 116], [116, 114, 97, 105, 108, 101, 114], [116, 114, 97, 110, 115, 102, 101, 114, 45, 101, 110, 99, 111, 100, 105, 110, 103]]
def bad1 (f : Fd) : Bool := badN.contains (Lib.toLowerA f.1)
def badB (l : List Fd) : Bool := l.any bad1
structure CS where
 ph : Nat
 left : Nat
 tr : List Fd
 data : List UInt8
 line : List UInt8
def stepC (s : CS) (c : UInt8) : CS × Int :=
 if s.ph = 0 then
   if c = 10 ∧ s.line.getLast? = some 13 then
     if valD s.line = 0 then ({ s with ph := 3, line := [] }, 0)
     else if 65536 < s.data.length + valD s.line then ({ s with line := [] }, 3)
     else ({ s with ph := 1, line := [], left := valD s.line }, 0)
   else ({ s with line := s.line ++ [c] }, moreC s.line c)
 else if s.ph = 1 then ({ s with data := s.data ++ [c], left := s.left - 1, ph := if s.left = 1 then 2 else 1 }, 0)
 else if s.ph = 2 then
   if s.line = [] ∧ c = 13 then ({ s with line := [13] }, 0)
   else if s.line = [13] ∧ c = 10 then ({ s with line := [], ph := 0 }, 0) else (s, 6)
 else
   if (parseF (s.line ++ [c])).2.2 = 10 then ({ s with line := s.line ++ [c] }, 0)
   else if (parseF (s.line ++ [c])).2.2 ≠ 0 then ({ s with line := [], ph := 4, tr := (parseF (s.line ++ [c])).1 }, (parseF (s.line ++ [c])).2.2)
   else if badB (parseF (s.line ++ [c])).1 = true then ({ s with line := [], ph := 4, tr := (parseF (s.line ++ [c])).1 }, 6)
   else if chkL (parseF (s.line ++ [c])).1 ≠ 0 then ({ s with line := [], ph := 4, tr := (parseF (s.line ++ [c])).1 }, chkL (parseF (s.line ++ [c])).1)
   else ({ s with line := [], ph := 4, tr := (parseF (s.line ++ [c])).1 }, 0)
structure Inv (s : CS) : Prop where
 ph : s.ph ≤ 4
 d : s.data.length + s.left ≤ 65536
 p0 : s.ph = 0 → (s.line = [] ∨ 1 ≤ many s.line) ∧ many s.line ≤ 8 ∧ s.line.length ≤ 201 ∧ (s.line.getLast? ≠ some 13 → s.line.length ≤ 200)
 p1 : s.ph = 1 → s.line = [] ∧ 1 ≤ s.left
 p2 : s.ph = 2 → s.line = [] ∨ s.line = [13]
 p3 : s.ph = 3 → parseF s.line = ([], 0, 10) ∧ s.line.length ≤ 8192
 p4 : s.ph = 4 → s.line = []
 lf : s.ph ≠ 1 → s.left = 0
def st0 : CS := ⟨0, 0, [], [], []⟩
theorem inv0 : Inv st0 := ⟨by decide, by decide, fun _ => ⟨.inl rfl, by decide, by decide, fun _ => by decide⟩, fun h => (by cases h), fun h => (by cases h), fun h => (by cases h), fun h => (by cases h), fun _ => rfl⟩
theorem prs_ten {len : Nat} : ∀ (n at_ : Nat) (out : List Fd) (r : List UInt8), r.length ≤ n → (prs len at_ out r).2.2 = 10 → prs len at_ out r = ([], 0, 10) ∧ len ≤ 8192 ∧ ∀ (len2 : Nat) (c : UInt8), c ≠ 10 → len2 ≤ 8192 → prs len2 at_ out (r ++ [c]) = ([], 0, 10)
 | n, at_, out, r, hn, h => by
   by_cases hm : (10 : UInt8) ∈ r
   · obtain ⟨m, h1, h2, h3, h4⟩ := idx_some hm
     have hp := prs_at (len := len) (at_ := at_) (out := out) h3 h4
     have hp2 : ∀ (len2 : Nat) (c : UInt8), prs len2 at_ out (r ++ [c]) = _ := fun len2 c => prs_at (len := len2) (at_ := at_) (out := out) (r := r ++ [c]) (n := m) (by rw [List.getElem?_append_left h1]; exact h3) (by rw [List.take_append_of_le_length (by omega)]; exact h4)
     rw [hp] at h ⊢
     by_cases c1 : 8192 ≤ at_ + m
     · rw [if_pos c1] at h; cases h
     rw [if_neg c1] at h ⊢
     by_cases c2 : lineOk (r.take m) = true
     · rw [if_pos c2] at h ⊢
       by_cases c3 : (r.take m).dropLast = []
       · rw [if_pos c3] at h; cases h
       · rw [if_neg c3] at h ⊢
         cases hF : lineF (r.take m).dropLast with
         | none => rw [hF] at h; cases h
         | some f =>
           rw [hF] at h
           dsimp only at h ⊢
           by_cases c4 : 2000 < f.2.length ∨ out.length = 100
           · rw [if_pos c4] at h; cases h
           · rw [if_neg c4] at h ⊢
             cases n with
             | zero => omega
             | succ n =>
               obtain ⟨g1, g2, g3⟩ := prs_ten (len := len) n (at_ + m + 1) (out ++ [f]) (r.drop (m + 1)) (by simp; omega) h
               refine ⟨g1, g2, fun len2 c hc hl => ?_⟩
               rw [hp2, if_neg c1]
               have e : (r ++ [c]).take m = r.take m := List.take_append_of_le_length (by omega)
               have e2 : (r ++ [c]).drop (m + 1) = r.drop (m + 1) ++ [c] := List.drop_append_of_le_length (by omega)
               rw [e, if_pos c2, if_neg c3, hF]
               dsimp only
               rw [if_neg c4, e2]
               exact g3 len2 c hc hl
     · rw [if_neg c2] at h; cases h
   · rw [prs_no hm] at h ⊢
     by_cases h8 : 8192 < len
     · rw [if_pos h8] at h; cases h
     · rw [if_neg h8]
       refine ⟨rfl, by omega, fun len2 c hc hl => ?_⟩
       have : ¬ (10 : UInt8) ∈ r ++ [c] := by
         simp only [List.mem_append, List.mem_singleton, not_or]
         exact ⟨hm, fun e => hc e.symm⟩
       rw [prs_no this, if_neg (by omega)]
theorem parse_ten {l : List UInt8} (h : (parseF l).2.2 = 10) : parseF l = ([], 0, 10) ∧ l.length ≤ 8192 :=
 ⟨(prs_ten _ _ _ _ (Nat.le_refl _) h).1, (prs_ten _ _ _ _ (Nat.le_refl _) h).2.1⟩
theorem parse_snoc {l : List UInt8} {c : UInt8} (h : parseF l = ([], 0, 10)) (hc : c ≠ 10) (hl : l.length + 1 ≤ 8192) : parseF (l ++ [c]) = ([], 0, 10) := by
 have h0 : (prs l.length 0 [] l).2.2 = 10 := by
   show (parseF l).2.2 = 10
   rw [h]
 have := (prs_ten _ _ _ _ (Nat.le_refl _) h0).2.2 (l.length + 1) c hc hl
 show prs (l ++ [c]).length 0 [] (l ++ [c]) = _
 rw [List.length_append, List.length_singleton]
 exact this
theorem many_ne {l : List UInt8} (h : l = [] ∨ 1 ≤ many l) (hm : many l ≠ l.length) : 1 ≤ many l := by
 rcases h with rfl | h
 · exact absurd rfl hm
 · exact h
theorem isD_13 : isD 13 = false := by decide
theorem more_inv {l : List UInt8} {c : UInt8} (h0 : moreC l c = 0) (h : (l = [] ∨ 1 ≤ many l) ∧ many l ≤ 8 ∧ l.length ≤ 201 ∧ (l.getLast? ≠ some 13 → l.length ≤ 200)) :
   (l ++ [c] = [] ∨ 1 ≤ many (l ++ [c])) ∧ many (l ++ [c]) ≤ 8 ∧ (l ++ [c]).length ≤ 201 ∧ ((l ++ [c]).getLast? ≠ some 13 → (l ++ [c]).length ≤ 200) := by
 unfold moreC at h0
 obtain ⟨g1, g2, g3, g4⟩ := h
 rw [List.getLast?_concat, List.length_append, List.length_singleton]
 by_cases c1 : l.getLast? = some 13
 · rw [if_pos c1] at h0; cases h0
 rw [if_neg c1] at h0
 have g5 := g4 c1
 by_cases c2 : c = 13
 · subst c2
   rw [if_pos rfl] at h0
   by_cases c3 : many l = 0
   · rw [if_pos c3] at h0; cases h0
   · obtain ⟨e1, _⟩ := many_no (l := l) (c := 13) (.inr isD_13)
     rw [e1]
     exact ⟨.inr (by omega), g2, by omega, fun h => absurd rfl h⟩
 rw [if_neg c2] at h0
 by_cases c3 : many l = l.length
 · rw [if_pos c3] at h0
   by_cases c4 : isD c = true
   · rw [if_pos c4] at h0
     obtain ⟨e1, _⟩ := many_dig c3 c4
     rw [e1]
     by_cases c5 : many l = 8
     · rw [if_pos c5] at h0; cases h0
     · exact ⟨.inr (by omega), by omega, by omega, fun _ => by omega⟩
   · rw [if_neg c4] at h0
     obtain ⟨e1, _⟩ := many_no (l := l) (c := c) (.inr (by simpa using c4))
     rw [e1]
     by_cases c5 : c = 59 ∧ many l ≠ 0
     · exact ⟨.inr (by omega), g2, by omega, fun _ => by omega⟩
     · rw [if_neg c5] at h0; cases h0
 · rw [if_neg c3] at h0
   obtain ⟨e1, _⟩ := many_no (l := l) (c := c) (.inl c3)
   rw [e1]
   have := many_ne g1 c3
   by_cases c4 : txt1 c = true
   · rw [if_pos c4] at h0
     by_cases c5 : 200 ≤ l.length
     · rw [if_pos c5] at h0; cases h0
     · exact ⟨.inr this, g2, by omega, fun _ => by omega⟩
   · rw [if_neg c4] at h0; cases h0
theorem parse_nil : parseF [] = ([], 0, 10) := by
 show prs 0 0 [] [] = _
 rw [prs_no (by simp)]
 rfl
theorem step_inv {s : CS} {c : UInt8} (h : Inv s) (h4 : s.ph ≠ 4) (h0 : (stepC s c).2 = 0) : Inv (stepC s c).1 := by
 obtain ⟨h1, h2, q0, q1, q2, q3, q4, ql⟩ := h
 obtain ⟨ph, left, tr, data, line⟩ := s
 dsimp only at h1 h2 q0 q1 q2 q3 q4 ql h4
 have hc : ph = 0 ∨ ph = 1 ∨ ph = 2 ∨ ph = 3 := by omega
 unfold stepC at h0 ⊢
 dsimp only at h0 ⊢
 rcases hc with rfl | rfl | rfl | rfl
 · rw [if_pos rfl] at h0 ⊢
   have hl := ql (by decide)
   by_cases c1 : c = 10 ∧ line.getLast? = some 13
   · rw [if_pos c1] at h0 ⊢
     by_cases c2 : valD line = 0
     · rw [if_pos c2]
       exact ⟨by simp, h2, fun h => (by cases h), fun h => (by cases h), fun h => (by cases h), fun _ => ⟨parse_nil, by simp⟩, fun h => (by cases h), fun _ => hl⟩
     · rw [if_neg c2] at h0 ⊢
       by_cases c3 : 65536 < data.length + valD line
       · rw [if_pos c3] at h0; cases h0
       · rw [if_neg c3]
         exact ⟨by simp, by dsimp only; omega, fun h => (by cases h), fun _ => ⟨rfl, by dsimp only; omega⟩, fun h => (by cases h), fun h => (by cases h), fun h => (by cases h), fun h => absurd rfl h⟩
   · rw [if_neg c1] at h0 ⊢
     exact ⟨by simp, h2, fun _ => more_inv h0 (q0 rfl), fun h => (by cases h), fun h => (by cases h), fun h => (by cases h), fun h => (by cases h), fun _ => hl⟩
 · rw [if_neg (by decide), if_pos rfl]
   obtain ⟨e1, e2⟩ := q1 rfl
   subst e1
   by_cases c1 : left = 1
   · subst c1
     exact ⟨by simp, by simp; omega, fun h => (by cases h), fun h => (by cases h), fun _ => .inl rfl, fun h => (by cases h), fun h => (by cases h), fun _ => rfl⟩
   · rw [if_neg c1]
     exact ⟨by simp, by simp; omega, fun h => (by cases h), fun _ => ⟨rfl, by dsimp only; omega⟩, fun h => (by cases h), fun h => (by cases h), fun h => (by cases h), fun h => absurd rfl h⟩
 · rw [if_neg (by decide), if_neg (by decide), if_pos rfl] at h0 ⊢
   have hl := ql (by decide)
   by_cases c1 : line = [] ∧ c = 13
   · rw [if_pos c1]
     exact ⟨by simp, h2, fun h => (by cases h), fun h => (by cases h), fun _ => .inr rfl, fun h => (by cases h), fun h => (by cases h), fun _ => hl⟩
   · rw [if_neg c1] at h0 ⊢
     by_cases c2 : line = [13] ∧ c = 10
     · rw [if_pos c2]
       exact ⟨by simp, h2, fun _ => ⟨.inl rfl, Nat.zero_le _, Nat.zero_le _, fun _ => Nat.zero_le _⟩, fun h => (by cases h), fun h => (by cases h), fun h => (by cases h), fun h => (by cases h), fun _ => hl⟩
     · rw [if_neg c2] at h0; cases h0
 · rw [if_neg (by decide), if_neg (by decide), if_neg (by decide)] at h0 ⊢
   have hl := ql (by decide)
   by_cases c1 : (parseF (line ++ [c])).2.2 = 10
   · rw [if_pos c1]
     exact ⟨h1, h2, fun h => (by cases h), fun h => (by cases h), fun h => (by cases h), fun _ => parse_ten c1, fun h => (by cases h), fun _ => hl⟩
   rw [if_neg c1] at h0 ⊢
   by_cases c2 : (parseF (line ++ [c])).2.2 ≠ 0
   · rw [if_pos c2] at h0; exact absurd h0 c2
   rw [if_neg c2] at h0 ⊢
   by_cases c3 : badB (parseF (line ++ [c])).1 = true
   · rw [if_pos c3] at h0; cases h0
   rw [if_neg c3] at h0 ⊢
   by_cases c4 : chkL (parseF (line ++ [c])).1 ≠ 0
   · rw [if_pos c4] at h0; exact absurd h0 c4
   rw [if_neg c4]
   exact ⟨by simp, h2, fun h => (by cases h), fun h => (by cases h), fun h => (by cases h), fun h => (by cases h), fun _ => rfl, fun _ => hl⟩
def runC (s : CS) (n : Nat) : List UInt8 → CS × Nat × Int
 | [] => (s, n, 0)
 | c :: r => if s.ph = 4 then (s, n, 0) else if (stepC s c).2 ≠ 0 then (s, 0, (stepC s c).2) else runC (stepC s c).1 (n + 1) r
theorem run4 {s : CS} (h : s.ph = 4) (n : Nat) (r : List UInt8) : runC s n r = (s, n, 0) := by
 cases r with
 | nil => rfl
 | cons c r => rw [runC, if_pos h]
theorem run_at {s : CS} {n k : Nat} {b : List UInt8} (hk : k < b.length) : runC s n (b.drop k) = if s.ph = 4 then (s, n, 0) else if (stepC s b[k]).2 ≠ 0 then (s, 0, (stepC s b[k]).2) else runC (stepC s b[k]).1 (n + 1) (b.drop (k + 1)) := by
 rw [List.drop_eq_getElem_cons hk, runC]
def decF (b : List UInt8) : List UInt8 × List Fd × Nat × Int :=
 if (runC st0 0 b).2.2 ≠ 0 then ([], [], 0, (runC st0 0 b).2.2)
 else if (runC st0 0 b).1.ph ≠ 4 then ([], [], 0, 10)
 else ((runC st0 0 b).1.data, (runC st0 0 b).1.tr, (runC st0 0 b).2.1, 0)
def decV (x : List UInt8 × List Fd × Nat × Int) : V := .tup [.sl 1 (x.1.map byteV), .sl 2 (x.2.1.map fdV), .int .i64 x.2.2.1, .int .i64 x.2.2.2]
end Go.Proofs

set_option linter.unusedVariables false
set_option linter.unusedSimpArgs false
set_option maxRecDepth 100000
namespace Go.Proofs
open Go Go.Pl
theorem run_cons {s : CS} {n : Nat} {c : UInt8} {r : List UInt8} (h4 : s.ph ≠ 4) (h0 : (stepC s c).2 = 0) : runC s n (c :: r) = runC (stepC s c).1 (n + 1) r := by
 rw [runC, if_neg h4, if_neg (by simp [h0])]
theorem run_begin : ∀ (b : List UInt8) (s s' : CS) (n0 n : Nat), runC s n0 b = (s', n, 0) → s'.ph = 4 →
   n0 ≤ n ∧ n ≤ n0 + b.length ∧ (∀ k, k < n - n0 → ∃ s2, runC s n0 (b.take k) = (s2, n0 + k, 0) ∧ s2.ph ≠ 4) ∧ ∀ v, runC s n0 (b.take (n - n0) ++ v) = (s', n, 0)
 | [], s, s', n0, n, h, h4 => by
   rw [runC] at h
   injection h with e1 e2
   injection e2 with e2 e3
   subst e1 e2
   refine ⟨Nat.le_refl _, by simp, fun k hk => by omega, fun v => ?_⟩
   simp [run4 h4]
 | c :: b, s, s', n0, n, h, h4 => by
   rw [runC] at h
   by_cases h1 : s.ph = 4
   · rw [if_pos h1] at h
     injection h with e1 e2
     injection e2 with e2 e3
     subst e1 e2
     refine ⟨Nat.le_refl _, by simp, fun k hk => by omega, fun v => ?_⟩
     simp [run4 h4]
   rw [if_neg h1] at h
   by_cases h2 : (stepC s c).2 ≠ 0
   · rw [if_pos h2] at h
     injection h with e1 e2
     injection e2 with e2 e3
     exact absurd e3 h2
   rw [if_neg h2] at h
   have h0 : (stepC s c).2 = 0 := Decidable.not_not.1 h2
   obtain ⟨g1, g2, g3, g4⟩ := run_begin b _ _ _ _ h h4
   refine ⟨by omega, by rw [List.length_cons]; omega, fun k hk => ?_, fun v => ?_⟩
   · cases k with
     | zero => exact ⟨s, rfl, h1⟩
     | succ k =>
       obtain ⟨s2, e1, e2⟩ := g3 k (by omega)
       refine ⟨s2, ?_, e2⟩
       rw [List.take_succ_cons, run_cons h1 h0, e1]
       congr 2
       omega
   · obtain ⟨m, hm⟩ : ∃ m, n - n0 = m + 1 := ⟨n - n0 - 1, by omega⟩
     rw [hm, List.take_succ_cons, List.cons_append, run_cons h1 h0]
     have := g4 v
     rw [show n - (n0 + 1) = m by omega] at this
     exact this
theorem dec_ok {b : List UInt8} (h : (decF b).2.2.2 = 0) : ∃ s', runC st0 0 b = (s', (decF b).2.2.1, 0) ∧ s'.ph = 4 ∧ (decF b).1 = s'.data ∧ (decF b).2.1 = s'.tr := by
 unfold decF at h ⊢
 by_cases h1 : (runC st0 0 b).2.2 ≠ 0
 · rw [if_pos h1] at h; exact absurd h h1
 rw [if_neg h1] at h ⊢
 by_cases h2 : (runC st0 0 b).1.ph ≠ 4
 · rw [if_pos h2] at h; cases h
 rw [if_neg h2]
 exact ⟨_, Prod.ext rfl (Prod.ext rfl (Decidable.not_not.1 h1)), Decidable.not_not.1 h2, rfl, rfl⟩
theorem dec_of {b : List UInt8} {s' : CS} {n : Nat} (h : runC st0 0 b = (s', n, 0)) (h4 : s'.ph = 4) : decF b = (s'.data, s'.tr, n, 0) := by
 unfold decF
 rw [h, if_neg (by simp), if_neg (by simp [h4])]
theorem dec_more {b : List UInt8} {s' : CS} {n : Nat} (h : runC st0 0 b = (s', n, 0)) (h4 : s'.ph ≠ 4) : decF b = ([], [], 0, 10) := by
 unfold decF
 rw [h, if_neg (by simp), if_pos h4]
theorem dec_err {b : List UInt8} (h : (decF b).2.2.2 ≠ 0) : decF b = ([], [], 0, (decF b).2.2.2) := by
 unfold decF at h ⊢
 by_cases h1 : (runC st0 0 b).2.2 ≠ 0
 · rw [if_pos h1]
 rw [if_neg h1] at h ⊢
 by_cases h2 : (runC st0 0 b).1.ph ≠ 4
 · rw [if_pos h2]
 rw [if_neg h2] at h
 exact absurd rfl h
theorem dec_begin {b : List UInt8} (h : (decF b).2.2.2 = 0) : (decF b).2.2.1 ≤ b.length ∧ (∀ k, k < (decF b).2.2.1 → decF (b.take k) = ([], [], 0, 10)) ∧ ∀ v, decF (b.take (decF b).2.2.1 ++ v) = decF b := by
 obtain ⟨s', h1, h4, e1, e2⟩ := dec_ok h
 obtain ⟨g1, g2, g3, g4⟩ := run_begin _ _ _ _ _ h1 h4
 refine ⟨by omega, fun k hk => ?_, fun v => ?_⟩
 · obtain ⟨s2, a1, a2⟩ := g3 k (by omega)
   exact dec_more a1 a2
 · have := g4 v
   rw [Nat.sub_zero] at this
   rw [dec_of this h4]
   exact Prod.ext e1.symm (Prod.ext e2.symm (Prod.ext rfl h.symm))
def hexc (d : Nat) : UInt8 := if d < 10 then UInt8.ofNat (48 + d) else UInt8.ofNat (87 + d)
def hexB (n : Nat) : List UInt8 := if h : n = 0 then [] else hexB (n / 16) ++ [hexc (n % 16)]
termination_by n
decreasing_by omega
theorem hex_0 : hexB 0 = [] := by rw [hexB, dif_pos rfl]
theorem hex_pos {n : Nat} (h : n ≠ 0) : hexB n = hexB (n / 16) ++ [hexc (n % 16)] := by rw [hexB, dif_neg h]
theorem hexc_dgt : ∀ d : Fin 16, dgt (hexc d.val) = d.val ∧ isD (hexc d.val) = true := by decide +kernel
theorem hexB_val : ∀ (k n : Nat), n ≤ k → (hexB n).foldl stepD 0 = n
 | 0, n, h => by
   have : n = 0 := by omega
   subst this
   rw [hex_0]; rfl
 | k + 1, n, h => by
   by_cases h0 : n = 0
   · subst h0; rw [hex_0]; rfl
   rw [hex_pos h0, List.foldl_append, hexB_val k (n / 16) (by omega), List.foldl_cons, List.foldl_nil]
   unfold stepD
   rw [(hexc_dgt ⟨n % 16, by omega⟩).1]
   simp
   omega
theorem hexB_len : ∀ (k n : Nat), n < 16 ^ k → (hexB n).length ≤ k
 | 0, n, h => by
   have : n = 0 := by simpa using h
   subst this
   rw [hex_0]; exact Nat.le_refl _
 | k + 1, n, h => by
   by_cases h0 : n = 0
   · subst h0; rw [hex_0]; simp
   rw [hex_pos h0, List.length_append, List.length_singleton]
   have := hexB_len k (n / 16) (by rw [Nat.pow_succ] at h; omega)
   omega
theorem hexB_ne {n : Nat} (h : n ≠ 0) : hexB n ≠ [] := by rw [hex_pos h]; simp
def encS : List UInt8 → List Int → List UInt8 → Option (List UInt8 × List UInt8)
 | rest, [], out => some (out, rest)
 | rest, n :: ns, out => if n < 1 ∨ (rest.length : Int) < n then none else encS (rest.drop n.toNat) ns (out ++ hexB n.toNat ++ [13, 10] ++ rest.take n.toNat ++ [13, 10])
def encT (x : Option (List UInt8 × List UInt8)) (l : List Fd) : List UInt8 × Int :=
 match x with
 | none => ([], 2)
 | some p => if p.2 ≠ [] then ([], 2) else if chkL l ≠ 0 then ([], chkL l) else if badB l = true then ([], 6) else (p.1 ++ [48, 13, 10] ++ prtB l, 0)
def encF (data : List UInt8) (ns : List Int) (l : List Fd) : List UInt8 × Int :=
 if 65536 < data.length then ([], 3) else encT (encS data ns []) l
def encV (x : List UInt8 × Int) : V := .tup [.sl 1 (x.1.map byteV), .int .i64 x.2]
def cutL (n m : Nat) : List Nat := if h : n = 0 ∨ m = 0 then [] else min n m :: cutL (n - min n m) m
termination_by n
decreasing_by omega
theorem cutL_0 (m : Nat) : cutL 0 m = [] := by rw [cutL, dif_pos (.inl rfl)]
theorem cutL_pos {n m : Nat} (h : n ≠ 0) (hm : m ≠ 0) : cutL n m = min n m :: cutL (n - min n m) m := by rw [cutL, dif_neg (by omega)]
def cutF (n m : Int) : List Nat × Int := if n < 0 ∨ m < 1 then ([], 2) else if 65536 < n then ([], 3) else (cutL n.toNat m.toNat, 0)
def intsV (l : List Nat) : List V := l.map fun (n : Nat) => .int .i64 (n : Int)
def cutV (x : List Nat × Int) : V := .tup [.sl 1 (intsV x.1), .int .i64 x.2]
def body (d : List UInt8) (m : Nat) : List UInt8 :=
 if h : d.length = 0 ∨ m = 0 then [] else hexB (min d.length m) ++ [13, 10] ++ d.take (min d.length m) ++ [13, 10] ++ body (d.drop (min d.length m)) m
termination_by d.length
decreasing_by simp; omega
end Go.Proofs
