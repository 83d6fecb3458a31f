/- Texts of the proof, put together: Pc. -/
import Derived.Test.YtnijaldhopcpdaaDoorHe
import Derived.Test.YtnijaldhopcpdaaDoorHc

/- The compact forms of the functions: printed by gen_pc.py. -/
set_option maxRecDepth 100000
namespace Go.Proofs
open Go Go.Pl
noncomputable def Tryd.C8 : PC := .seq (.reg false [⟨some 0, Go.Op.assign (Go.Operand.const (Go.Value.bool false)), none, false⟩] []) (.seq (.reg false [⟨some 10, Go.Op.buildSlice 31 1 #[(0, Go.Operand.const (Go.Value.string { data := #[97] }))], none, true⟩,
    ⟨some 11, Go.Op.buildSlice 32 1 #[(0, Go.Operand.const (Go.Value.int Go.IntKind.i64 1))], none, true⟩,
    ⟨some 12, Go.Op.call { callee := Go.Callee.value (Go.Operand.func 19), args := #[Go.Operand.tmp 10, Go.Operand.tmp 11, Go.Operand.const (Go.Value.int Go.IntKind.i64 1)], argTypes := #[31, 32, 3] }, none, false⟩,
    ⟨some 9, Go.Op.move (Go.Operand.tmp 12), none, false⟩,
    ⟨some 13, Go.Op.extract (Go.Operand.tmp 9) 0, none, false⟩,
    ⟨some 14, Go.Op.extract (Go.Operand.tmp 9) 1, none, false⟩,
    ⟨some 1, Go.Op.alloc 35, none, false⟩,
    ⟨none, Go.Op.store 35 (Go.Operand.tmp 1) (Go.Operand.tmp 13), none, false⟩,
    ⟨some 2, Go.Op.assign (Go.Operand.tmp 14), none, false⟩] [1, 2]) (.fz 1 (.seq (.reg false [⟨some 16, Go.Op.load 35 (Go.Operand.tmp 1), none, false⟩,
    ⟨some 17, Go.Op.call { callee := Go.Callee.value (Go.Operand.func 20), args := #[Go.Operand.tmp 16, Go.Operand.const (Go.Value.string { data := #[107, 101, 121] })], argTypes := #[35, 9] }, none, false⟩,
    ⟨some 15, Go.Op.move (Go.Operand.tmp 17), none, false⟩,
    ⟨some 18, Go.Op.extract (Go.Operand.tmp 15) 0, none, false⟩,
    ⟨some 19, Go.Op.extract (Go.Operand.tmp 15) 1, none, false⟩,
    ⟨some 3, Go.Op.assign (Go.Operand.tmp 18), none, false⟩,
    ⟨some 4, Go.Op.assign (Go.Operand.tmp 19), none, false⟩] [1, 2, 3, 4]) (.seq (.reg false [⟨some 21, Go.Op.load 35 (Go.Operand.tmp 1), none, false⟩,
    ⟨some 22, Go.Op.call { callee := Go.Callee.value (Go.Operand.func 22), args := #[Go.Operand.tmp 21], argTypes := #[35] }, none, false⟩,
    ⟨some 20, Go.Op.move (Go.Operand.tmp 22), none, false⟩,
    ⟨some 23, Go.Op.extract (Go.Operand.tmp 20) 0, none, false⟩,
    ⟨some 24, Go.Op.extract (Go.Operand.tmp 20) 1, none, false⟩,
    ⟨some 5, Go.Op.assign (Go.Operand.tmp 23), none, false⟩,
    ⟨some 6, Go.Op.assign (Go.Operand.tmp 24), none, false⟩] [1, 2, 3, 4, 5, 6]) (.seq (.reg false [⟨some 26, Go.Op.buildSlice 31 2 #[(0, Go.Operand.const (Go.Value.string { data := #[97] })), (1, Go.Operand.const (Go.Value.string { data := #[97] }))], none, true⟩,
    ⟨some 27, Go.Op.buildSlice 32 2 #[(0, Go.Operand.const (Go.Value.int Go.IntKind.i64 1)), (1, Go.Operand.const (Go.Value.int Go.IntKind.i64 1))], none, true⟩,
    ⟨some 28, Go.Op.call { callee := Go.Callee.value (Go.Operand.func 19), args := #[Go.Operand.tmp 26, Go.Operand.tmp 27, Go.Operand.const (Go.Value.int Go.IntKind.i64 1)], argTypes := #[31, 32, 3] }, none, false⟩,
    ⟨some 25, Go.Op.move (Go.Operand.tmp 28), none, false⟩,
    ⟨some 29, Go.Op.extract (Go.Operand.tmp 25) 0, none, false⟩,
    ⟨some 30, Go.Op.extract (Go.Operand.tmp 25) 1, none, false⟩,
    ⟨some 7, Go.Op.alloc 35, none, false⟩,
    ⟨none, Go.Op.store 35 (Go.Operand.tmp 7) (Go.Operand.tmp 29), none, false⟩,
    ⟨some 8, Go.Op.assign (Go.Operand.tmp 30), none, false⟩] [1, 2, 3, 4, 5, 6, 8]) (.seq (.seq (.reg false [⟨some 31, Go.Op.move (Go.Operand.tmp 2), none, false⟩,
    ⟨some 32, Go.Op.binOp Go.BinOp.neq 38 (Go.Operand.tmp 31) (Go.Operand.const (Go.Value.int Go.IntKind.i64 0)) 38, none, false⟩,
    ⟨some 33, Go.Op.move (Go.Operand.tmp 32), none, false⟩,
    ⟨some 34, Go.Op.move (Go.Operand.tmp 4), some (33, false), false⟩,
    ⟨some 35, Go.Op.binOp Go.BinOp.neq 38 (Go.Operand.tmp 34) (Go.Operand.const (Go.Value.int Go.IntKind.i64 0)) 38, some (33, false), false⟩,
    ⟨some 36, Go.Op.pick (Go.Operand.tmp 33) (Go.Operand.const (Go.Value.bool true)) (Go.Operand.tmp 35), none, false⟩,
    ⟨some 37, Go.Op.move (Go.Operand.tmp 36), none, false⟩,
    ⟨some 38, Go.Op.move (Go.Operand.tmp 6), some (37, false), false⟩,
    ⟨some 39, Go.Op.binOp Go.BinOp.neq 38 (Go.Operand.tmp 38) (Go.Operand.const (Go.Value.int Go.IntKind.i64 0)) 38, some (37, false), false⟩,
    ⟨some 40, Go.Op.pick (Go.Operand.tmp 37) (Go.Operand.const (Go.Value.bool true)) (Go.Operand.tmp 39), none, false⟩,
    ⟨some 41, Go.Op.move (Go.Operand.tmp 40), none, false⟩,
    ⟨some 42, Go.Op.move (Go.Operand.tmp 8), some (41, false), false⟩,
    ⟨some 43, Go.Op.binOp Go.BinOp.neq 38 (Go.Operand.tmp 42) (Go.Operand.const (Go.Value.int Go.IntKind.i64 8)) 38, some (41, false), false⟩,
    ⟨some 44, Go.Op.pick (Go.Operand.tmp 41) (Go.Operand.const (Go.Value.bool true)) (Go.Operand.tmp 43), none, false⟩,
    ⟨some 45, Go.Op.move (Go.Operand.tmp 44), none, false⟩,
    ⟨some 46, Go.Op.move (Go.Operand.tmp 5), some (45, false), false⟩,
    ⟨some 47, Go.Op.call { callee := Go.Callee.builtin Go.Builtin.len, args := #[Go.Operand.tmp 46], argTypes := #[47] }, some (45, false), false⟩,
    ⟨some 48, Go.Op.binOp Go.BinOp.neq 3 (Go.Operand.tmp 47) (Go.Operand.const (Go.Value.int Go.IntKind.i64 1)) 3, some (45, false), false⟩,
    ⟨some 49, Go.Op.pick (Go.Operand.tmp 45) (Go.Operand.const (Go.Value.bool true)) (Go.Operand.tmp 48), none, false⟩,
    ⟨some 50, Go.Op.move (Go.Operand.tmp 49), none, false⟩,
    ⟨some 51, Go.Op.fieldAddr 35 (Go.Operand.tmp 1) 3, some (50, false), false⟩,
    ⟨some 52, Go.Op.load 33 (Go.Operand.tmp 51), some (50, false), false⟩,
    ⟨some 53, Go.Op.call { callee := Go.Callee.builtin Go.Builtin.len, args := #[Go.Operand.tmp 52], argTypes := #[33] }, some (50, false), false⟩,
    ⟨some 54, Go.Op.binOp Go.BinOp.neq 3 (Go.Operand.tmp 53) (Go.Operand.const (Go.Value.int Go.IntKind.i64 1)) 3, some (50, false), false⟩,
    ⟨some 55, Go.Op.pick (Go.Operand.tmp 50) (Go.Operand.const (Go.Value.bool true)) (Go.Operand.tmp 54), none, false⟩] [1, 3, 5, 55]) (.cond (Go.Operand.tmp 55) (.seq (.reg false [⟨some 0, Go.Op.assign (Go.Operand.const (Go.Value.bool false)), none, false⟩] [0]) (.ret)) (.skip))) (.seq (.regF [(14, 18), (14, 19), (17, 18), (17, 19)] [⟨some 56, Go.Op.call { callee := Go.Callee.value (Go.Operand.func 9), args := #[Go.Operand.const (Go.Value.slice none 0 0)], argTypes := #[22] }, none, false⟩,
    ⟨some 57, Go.Op.binOp Go.BinOp.eql 25 (Go.Operand.tmp 56) (Go.Operand.const (Go.Value.int Go.IntKind.u32 2166136261)) 25, none, false⟩,
    ⟨some 58, Go.Op.move (Go.Operand.tmp 57), none, false⟩,
    ⟨some 59, Go.Op.buildSlice 22 1 #[(0, Go.Operand.const (Go.Value.int Go.IntKind.u8 97))], some (58, true), false⟩,
    ⟨some 60, Go.Op.convert 22 22 (Go.Operand.tmp 59), some (58, true), false⟩,
    ⟨some 61, Go.Op.call { callee := Go.Callee.value (Go.Operand.func 9), args := #[Go.Operand.tmp 60], argTypes := #[22] }, some (58, true), false⟩,
    ⟨some 62, Go.Op.binOp Go.BinOp.eql 25 (Go.Operand.tmp 61) (Go.Operand.const (Go.Value.int Go.IntKind.u32 3826002220)) 25, some (58, true), false⟩,
    ⟨some 63, Go.Op.pick (Go.Operand.tmp 58) (Go.Operand.tmp 62) (Go.Operand.const (Go.Value.bool false)), none, false⟩,
    ⟨some 64, Go.Op.move (Go.Operand.tmp 63), none, false⟩,
    ⟨some 65, Go.Op.call { callee := Go.Callee.value (Go.Operand.func 11), args := #[Go.Operand.const (Go.Value.slice none 0 0)], argTypes := #[22] }, some (64, true), false⟩,
    ⟨some 66, Go.Op.binOp Go.BinOp.eql 23 (Go.Operand.tmp 65) (Go.Operand.const (Go.Value.int Go.IntKind.u64 14695981039346656037)) 23, some (64, true), false⟩,
    ⟨some 67, Go.Op.pick (Go.Operand.tmp 64) (Go.Operand.tmp 66) (Go.Operand.const (Go.Value.bool false)), none, false⟩,
    ⟨some 68, Go.Op.move (Go.Operand.tmp 67), none, false⟩,
    ⟨some 69, Go.Op.fieldAddr 35 (Go.Operand.tmp 1) 3, some (68, true), false⟩,
    ⟨some 70, Go.Op.load 33 (Go.Operand.tmp 69), some (68, true), true⟩,
    ⟨some 71, Go.Op.indexAddr 33 (Go.Operand.tmp 70) (Go.Operand.const (Go.Value.int Go.IntKind.i64 0)), some (68, true), false⟩,
    ⟨some 72, Go.Op.fieldAddr 57 (Go.Operand.tmp 71) 0, some (68, true), false⟩,
    ⟨some 73, Go.Op.load 25 (Go.Operand.tmp 72), some (68, true), true⟩,
    ⟨some 74, Go.Op.buildSlice 22 3 #[(0, Go.Operand.const (Go.Value.int Go.IntKind.u8 97)), (1, Go.Operand.const (Go.Value.int Go.IntKind.u8 35)), (2, Go.Operand.const (Go.Value.int Go.IntKind.u8 48))], some (68, true), false⟩,
    ⟨some 75, Go.Op.convert 22 22 (Go.Operand.tmp 74), some (68, true), false⟩,
    ⟨some 76, Go.Op.call { callee := Go.Callee.value (Go.Operand.func 9), args := #[Go.Operand.tmp 75], argTypes := #[22] }, some (68, true), false⟩,
    ⟨some 77, Go.Op.binOp Go.BinOp.eql 25 (Go.Operand.tmp 73) (Go.Operand.tmp 76) 25, some (68, true), false⟩,
    ⟨some 78, Go.Op.pick (Go.Operand.tmp 68) (Go.Operand.tmp 77) (Go.Operand.const (Go.Value.bool false)), none, false⟩,
    ⟨some 79, Go.Op.move (Go.Operand.tmp 78), none, false⟩,
    ⟨some 80, Go.Op.move (Go.Operand.tmp 3), some (79, true), false⟩,
    ⟨some 81, Go.Op.binOp Go.BinOp.eql 3 (Go.Operand.tmp 80) (Go.Operand.const (Go.Value.int Go.IntKind.i64 0)) 3, some (79, true), false⟩,
    ⟨some 82, Go.Op.pick (Go.Operand.tmp 79) (Go.Operand.tmp 81) (Go.Operand.const (Go.Value.bool false)), none, false⟩,
    ⟨some 83, Go.Op.move (Go.Operand.tmp 82), none, false⟩,
    ⟨some 84, Go.Op.move (Go.Operand.tmp 5), some (83, true), false⟩,
    ⟨some 85, Go.Op.indexAddr 47 (Go.Operand.tmp 84) (Go.Operand.const (Go.Value.int Go.IntKind.i64 0)), some (83, true), false⟩,
    ⟨some 86, Go.Op.load 23 (Go.Operand.tmp 85), some (83, true), false⟩,
    ⟨some 87, Go.Op.binOp Go.BinOp.eql 23 (Go.Operand.tmp 86) (Go.Operand.const (Go.Value.int Go.IntKind.u64 4294967296)) 23, some (83, true), false⟩,
    ⟨some 88, Go.Op.pick (Go.Operand.tmp 83) (Go.Operand.tmp 87) (Go.Operand.const (Go.Value.bool false)), none, false⟩,
    ⟨some 0, Go.Op.assign (Go.Operand.tmp 88), none, false⟩] [0]) (.ret))))))))
theorem Tryd.comp8 : ∃ c, Tryd.f8.body = some c ∧ compile c = erase Tryd.C8 := ⟨_, rfl, by kernel_rfl⟩
theorem Tryd.rs8 : Tryd.f8.results.toList = [Go.ResultVar.tmp 0] := by kernel_rfl
theorem Tryd.nt8 : Tryd.f8.ntmps = 89 := by kernel_rfl
theorem Tryd.en8 : ∀ vs w, (callFunc 8 vs).run Tryd.prog w = .ok (.enter 8 vs) w := enters_of Tryd.func8 (by kernel_rfl) rfl
theorem Tryd.ctr8 {bx : Boxes} {Kc : V → Boxes → Prop} (h : FinB bx → pw Tryd.prog Tryd.C8 (retQ Tryd.prog [Go.ResultVar.tmp 0] Kc) ⟨89, slk [], bx⟩) : AbsCall Tryd.prog 8 [] bx Kc := abs_of (by kernel_rfl) Tryd.func8 Tryd.comp8 Tryd.en8 Tryd.nt8 Tryd.rs8 (fun hb => by rw [initSt_0]; exact h hb)
noncomputable def Tryd.C9 : PC := .seq (.reg false [⟨some 2, Go.Op.assign (Go.Operand.const (Go.Value.int Go.IntKind.u32 0)), none, false⟩] [0]) (.seq (.reg false [⟨some 3, Go.Op.move (Go.Operand.tmp 0), none, false⟩,
    ⟨some 4, Go.Op.call { callee := Go.Callee.value (Go.Operand.func 13), args := #[Go.Operand.const (Go.Value.int Go.IntKind.u32 2166136261), Go.Operand.tmp 3], argTypes := #[25, 22] }, none, false⟩,
    ⟨some 2, Go.Op.assign (Go.Operand.tmp 4), none, false⟩] [2]) (.ret))
theorem Tryd.comp9 : ∃ c, Tryd.f9.body = some c ∧ compile c = erase Tryd.C9 := ⟨_, rfl, by kernel_rfl⟩
theorem Tryd.rs9 : Tryd.f9.results.toList = [Go.ResultVar.tmp 2] := by kernel_rfl
theorem Tryd.nt9 : Tryd.f9.ntmps = 5 := by kernel_rfl
theorem Tryd.en9 : ∀ vs w, (callFunc 9 vs).run Tryd.prog w = .ok (.enter 9 vs) w := enters_of Tryd.func9 (by kernel_rfl) rfl
theorem Tryd.ctr9 {a0 : V} {bx : Boxes} {Kc : V → Boxes → Prop} (h : FinB bx → pw Tryd.prog Tryd.C9 (retQ Tryd.prog [Go.ResultVar.tmp 2] Kc) ⟨5, slk [(0, a0)], bx⟩) : AbsCall Tryd.prog 9 [a0] bx Kc := abs_of (by kernel_rfl) Tryd.func9 Tryd.comp9 Tryd.en9 Tryd.nt9 Tryd.rs9 (fun hb => by rw [initSt_1]; exact h hb)
noncomputable def Tryd.C11 : PC := .seq (.reg false [⟨some 2, Go.Op.assign (Go.Operand.const (Go.Value.int Go.IntKind.u64 0)), none, false⟩] [0]) (.seq (.reg false [⟨some 3, Go.Op.move (Go.Operand.tmp 0), none, false⟩,
    ⟨some 4, Go.Op.call { callee := Go.Callee.value (Go.Operand.func 15), args := #[Go.Operand.const (Go.Value.int Go.IntKind.u64 14695981039346656037), Go.Operand.tmp 3], argTypes := #[23, 22] }, none, false⟩,
    ⟨some 2, Go.Op.assign (Go.Operand.tmp 4), none, false⟩] [2]) (.ret))
theorem Tryd.comp11 : ∃ c, Tryd.f11.body = some c ∧ compile c = erase Tryd.C11 := ⟨_, rfl, by kernel_rfl⟩
theorem Tryd.rs11 : Tryd.f11.results.toList = [Go.ResultVar.tmp 2] := by kernel_rfl
theorem Tryd.nt11 : Tryd.f11.ntmps = 5 := by kernel_rfl
theorem Tryd.en11 : ∀ vs w, (callFunc 11 vs).run Tryd.prog w = .ok (.enter 11 vs) w := enters_of Tryd.func11 (by kernel_rfl) rfl
theorem Tryd.ctr11 {a0 : V} {bx : Boxes} {Kc : V → Boxes → Prop} (h : FinB bx → pw Tryd.prog Tryd.C11 (retQ Tryd.prog [Go.ResultVar.tmp 2] Kc) ⟨5, slk [(0, a0)], bx⟩) : AbsCall Tryd.prog 11 [a0] bx Kc := abs_of (by kernel_rfl) Tryd.func11 Tryd.comp11 Tryd.en11 Tryd.nt11 Tryd.rs11 (fun hb => by rw [initSt_1]; exact h hb)
noncomputable def Tryd.C13 : PC := .seq (.reg false [⟨some 4, Go.Op.assign (Go.Operand.const (Go.Value.int Go.IntKind.u32 0)), none, false⟩] [0, 1]) (.seq (.reg false [⟨some 5, Go.Op.move (Go.Operand.tmp 0), none, false⟩,
    ⟨some 6, Go.Op.move (Go.Operand.tmp 1), none, false⟩,
    ⟨some 7, Go.Op.call { callee := Go.Callee.value (Go.Operand.func 25), args := #[Go.Operand.tmp 5, Go.Operand.const (Go.Value.int Go.IntKind.u32 16777619), Go.Operand.tmp 6], argTypes := #[25, 25, 22] }, none, false⟩,
    ⟨some 4, Go.Op.assign (Go.Operand.tmp 7), none, false⟩] [4]) (.ret))
theorem Tryd.comp13 : ∃ c, Tryd.f13.body = some c ∧ compile c = erase Tryd.C13 := ⟨_, rfl, by kernel_rfl⟩
theorem Tryd.rs13 : Tryd.f13.results.toList = [Go.ResultVar.tmp 4] := by kernel_rfl
theorem Tryd.nt13 : Tryd.f13.ntmps = 8 := by kernel_rfl
theorem Tryd.en13 : ∀ vs w, (callFunc 13 vs).run Tryd.prog w = .ok (.enter 13 vs) w := enters_of Tryd.func13 (by kernel_rfl) rfl
theorem Tryd.ctr13 {a0 a1 : V} {bx : Boxes} {Kc : V → Boxes → Prop} (h : FinB bx → pw Tryd.prog Tryd.C13 (retQ Tryd.prog [Go.ResultVar.tmp 4] Kc) ⟨8, slk [(0, a0), (1, a1)], bx⟩) : AbsCall Tryd.prog 13 [a0, a1] bx Kc := abs_of (by kernel_rfl) Tryd.func13 Tryd.comp13 Tryd.en13 Tryd.nt13 Tryd.rs13 (fun hb => by rw [initSt_2]; exact h hb)
noncomputable def Tryd.C15 : PC := .seq (.reg false [⟨some 4, Go.Op.assign (Go.Operand.const (Go.Value.int Go.IntKind.u64 0)), none, false⟩] [0, 1]) (.seq (.reg false [⟨some 5, Go.Op.move (Go.Operand.tmp 0), none, false⟩,
    ⟨some 6, Go.Op.move (Go.Operand.tmp 1), none, false⟩,
    ⟨some 7, Go.Op.call { callee := Go.Callee.value (Go.Operand.func 26), args := #[Go.Operand.tmp 5, Go.Operand.const (Go.Value.int Go.IntKind.u64 1099511628211), Go.Operand.tmp 6], argTypes := #[23, 23, 22] }, none, false⟩,
    ⟨some 4, Go.Op.assign (Go.Operand.tmp 7), none, false⟩] [4]) (.ret))
theorem Tryd.comp15 : ∃ c, Tryd.f15.body = some c ∧ compile c = erase Tryd.C15 := ⟨_, rfl, by kernel_rfl⟩
theorem Tryd.rs15 : Tryd.f15.results.toList = [Go.ResultVar.tmp 4] := by kernel_rfl
theorem Tryd.nt15 : Tryd.f15.ntmps = 8 := by kernel_rfl
theorem Tryd.en15 : ∀ vs w, (callFunc 15 vs).run Tryd.prog w = .ok (.enter 15 vs) w := enters_of Tryd.func15 (by kernel_rfl) rfl
theorem Tryd.ctr15 {a0 a1 : V} {bx : Boxes} {Kc : V → Boxes → Prop} (h : FinB bx → pw Tryd.prog Tryd.C15 (retQ Tryd.prog [Go.ResultVar.tmp 4] Kc) ⟨8, slk [(0, a0), (1, a1)], bx⟩) : AbsCall Tryd.prog 15 [a0, a1] bx Kc := abs_of (by kernel_rfl) Tryd.func15 Tryd.comp15 Tryd.en15 Tryd.nt15 Tryd.rs15 (fun hb => by rw [initSt_2]; exact h hb)
noncomputable def Tryd.L17_0 : PC := .seq (.seq (.reg false [⟨some 34, Go.Op.move (Go.Operand.tmp 4), none, false⟩,
    ⟨some 35, Go.Op.fieldAddr 35 (Go.Operand.tmp 1) 1, none, false⟩,
    ⟨some 36, Go.Op.load 32 (Go.Operand.tmp 35), none, false⟩,
    ⟨some 37, Go.Op.call { callee := Go.Callee.builtin Go.Builtin.len, args := #[Go.Operand.tmp 36], argTypes := #[32] }, none, false⟩,
    ⟨some 38, Go.Op.binOp Go.BinOp.lss 3 (Go.Operand.tmp 34) (Go.Operand.tmp 37) 3, none, false⟩] [1, 3, 4, 38]) (.cond (Go.Operand.tmp 38) (.skip) (.exit 0))) (.seq (.block 1 (.seq (.reg false [⟨some 41, Go.Op.fieldAddr 35 (Go.Operand.tmp 1) 1, none, false⟩,
    ⟨some 42, Go.Op.load 32 (Go.Operand.tmp 41), none, false⟩,
    ⟨some 43, Go.Op.move (Go.Operand.tmp 4), none, false⟩,
    ⟨some 44, Go.Op.indexAddr 32 (Go.Operand.tmp 42) (Go.Operand.tmp 43), none, false⟩,
    ⟨some 45, Go.Op.load 3 (Go.Operand.tmp 44), none, false⟩,
    ⟨some 46, Go.Op.binOp Go.BinOp.geq 3 (Go.Operand.tmp 45) (Go.Operand.const (Go.Value.int Go.IntKind.i64 0)) 3, none, false⟩,
    ⟨some 47, Go.Op.move (Go.Operand.tmp 46), none, false⟩,
    ⟨some 48, Go.Op.fieldAddr 35 (Go.Operand.tmp 1) 1, some (47, true), false⟩,
    ⟨some 49, Go.Op.load 32 (Go.Operand.tmp 48), some (47, true), false⟩,
    ⟨some 50, Go.Op.move (Go.Operand.tmp 4), some (47, true), false⟩,
    ⟨some 51, Go.Op.indexAddr 32 (Go.Operand.tmp 49) (Go.Operand.tmp 50), some (47, true), false⟩,
    ⟨some 52, Go.Op.load 3 (Go.Operand.tmp 51), some (47, true), false⟩,
    ⟨some 53, Go.Op.binOp Go.BinOp.leq 3 (Go.Operand.tmp 52) (Go.Operand.const (Go.Value.int Go.IntKind.i64 20)) 3, some (47, true), false⟩,
    ⟨some 54, Go.Op.pick (Go.Operand.tmp 47) (Go.Operand.tmp 53) (Go.Operand.const (Go.Value.bool false)), none, false⟩,
    ⟨some 55, Go.Op.move (Go.Operand.tmp 54), none, false⟩,
    ⟨some 56, Go.Op.fieldAddr 35 (Go.Operand.tmp 1) 2, some (55, true), false⟩,
    ⟨some 57, Go.Op.load 3 (Go.Operand.tmp 56), some (55, true), false⟩,
    ⟨some 58, Go.Op.binOp Go.BinOp.geq 3 (Go.Operand.tmp 57) (Go.Operand.const (Go.Value.int Go.IntKind.i64 0)) 3, some (55, true), false⟩,
    ⟨some 59, Go.Op.pick (Go.Operand.tmp 55) (Go.Operand.tmp 58) (Go.Operand.const (Go.Value.bool false)), none, false⟩,
    ⟨some 60, Go.Op.move (Go.Operand.tmp 59), none, false⟩,
    ⟨some 61, Go.Op.fieldAddr 35 (Go.Operand.tmp 1) 2, some (60, true), false⟩,
    ⟨some 62, Go.Op.load 3 (Go.Operand.tmp 61), some (60, true), false⟩,
    ⟨some 63, Go.Op.binOp Go.BinOp.leq 3 (Go.Operand.tmp 62) (Go.Operand.const (Go.Value.int Go.IntKind.i64 100)) 3, some (60, true), false⟩,
    ⟨some 64, Go.Op.pick (Go.Operand.tmp 60) (Go.Operand.tmp 63) (Go.Operand.const (Go.Value.bool false)), none, false⟩] [1, 3, 4, 64]) (.cond (Go.Operand.tmp 64) (.reg true [⟨some 65, Go.Op.move (Go.Operand.tmp 3), none, false⟩,
    ⟨some 66, Go.Op.fieldAddr 35 (Go.Operand.tmp 1) 1, none, false⟩,
    ⟨some 67, Go.Op.load 32 (Go.Operand.tmp 66), none, false⟩,
    ⟨some 68, Go.Op.move (Go.Operand.tmp 4), none, false⟩,
    ⟨some 69, Go.Op.indexAddr 32 (Go.Operand.tmp 67) (Go.Operand.tmp 68), none, false⟩,
    ⟨some 70, Go.Op.load 3 (Go.Operand.tmp 69), none, false⟩,
    ⟨some 71, Go.Op.fieldAddr 35 (Go.Operand.tmp 1) 2, none, false⟩,
    ⟨some 72, Go.Op.load 3 (Go.Operand.tmp 71), none, false⟩,
    ⟨some 73, Go.Op.binOp Go.BinOp.mul 3 (Go.Operand.tmp 70) (Go.Operand.tmp 72) 3, none, false⟩,
    ⟨some 74, Go.Op.binOp Go.BinOp.add 3 (Go.Operand.tmp 65) (Go.Operand.tmp 73) 3, none, false⟩,
    ⟨some 3, Go.Op.assign (Go.Operand.tmp 74), none, false⟩] [1, 3, 4]) (.skip)))) (.reg false [⟨some 39, Go.Op.move (Go.Operand.tmp 4), none, false⟩,
    ⟨some 40, Go.Op.binOp Go.BinOp.add 3 (Go.Operand.tmp 39) (Go.Operand.const (Go.Value.int Go.IntKind.i64 1)) 3, none, false⟩,
    ⟨some 4, Go.Op.assign (Go.Operand.tmp 40), none, false⟩] [1, 3, 4]))
noncomputable def Tryd.L17_1 : PC := .seq (.seq (.reg false [⟨some 75, Go.Op.move (Go.Operand.tmp 5), none, false⟩,
    ⟨some 76, Go.Op.fieldAddr 35 (Go.Operand.tmp 1) 0, none, false⟩,
    ⟨some 77, Go.Op.load 31 (Go.Operand.tmp 76), none, false⟩,
    ⟨some 78, Go.Op.call { callee := Go.Callee.builtin Go.Builtin.len, args := #[Go.Operand.tmp 77], argTypes := #[31] }, none, false⟩,
    ⟨some 79, Go.Op.binOp Go.BinOp.lss 3 (Go.Operand.tmp 75) (Go.Operand.tmp 78) 3, none, false⟩] [1, 3, 5, 79]) (.cond (Go.Operand.tmp 79) (.skip) (.exit 2))) (.seq (.block 3 (.seq (.reg false [⟨some 82, Go.Op.fieldAddr 35 (Go.Operand.tmp 1) 0, none, false⟩,
    ⟨some 83, Go.Op.load 31 (Go.Operand.tmp 82), none, false⟩,
    ⟨some 84, Go.Op.move (Go.Operand.tmp 5), none, false⟩,
    ⟨some 85, Go.Op.indexAddr 31 (Go.Operand.tmp 83) (Go.Operand.tmp 84), none, false⟩,
    ⟨some 86, Go.Op.load 9 (Go.Operand.tmp 85), none, false⟩,
    ⟨some 87, Go.Op.call { callee := Go.Callee.builtin Go.Builtin.len, args := #[Go.Operand.tmp 86], argTypes := #[9] }, none, false⟩,
    ⟨some 88, Go.Op.binOp Go.BinOp.gtr 3 (Go.Operand.tmp 87) (Go.Operand.const (Go.Value.int Go.IntKind.i64 100)) 3, none, false⟩] [1, 3, 5, 88]) (.cond (Go.Operand.tmp 88) (.seq (.reg false [⟨some 2, Go.Op.assign (Go.Operand.const (Go.Value.bool true)), none, false⟩] [2]) (.ret)) (.skip)))) (.reg false [⟨some 80, Go.Op.move (Go.Operand.tmp 5), none, false⟩,
    ⟨some 81, Go.Op.binOp Go.BinOp.add 3 (Go.Operand.tmp 80) (Go.Operand.const (Go.Value.int Go.IntKind.i64 1)) 3, none, false⟩,
    ⟨some 5, Go.Op.assign (Go.Operand.tmp 81), none, false⟩] [1, 3, 5]))
noncomputable def Tryd.C17 : PC := .seq (.reg false [⟨some 1, Go.Op.box 35 (Go.Operand.tmp 0), none, true⟩,
    ⟨some 2, Go.Op.assign (Go.Operand.const (Go.Value.bool false)), none, false⟩] [1]) (.seq (.seq (.reg false [⟨some 6, Go.Op.fieldAddr 35 (Go.Operand.tmp 1) 0, none, false⟩,
    ⟨some 7, Go.Op.load 31 (Go.Operand.tmp 6), none, false⟩,
    ⟨some 8, Go.Op.call { callee := Go.Callee.builtin Go.Builtin.len, args := #[Go.Operand.tmp 7], argTypes := #[31] }, none, false⟩,
    ⟨some 9, Go.Op.binOp Go.BinOp.gtr 3 (Go.Operand.tmp 8) (Go.Operand.const (Go.Value.int Go.IntKind.i64 20)) 3, none, false⟩,
    ⟨some 10, Go.Op.move (Go.Operand.tmp 9), none, false⟩,
    ⟨some 11, Go.Op.fieldAddr 35 (Go.Operand.tmp 1) 1, some (10, false), false⟩,
    ⟨some 12, Go.Op.load 32 (Go.Operand.tmp 11), some (10, false), false⟩,
    ⟨some 13, Go.Op.call { callee := Go.Callee.builtin Go.Builtin.len, args := #[Go.Operand.tmp 12], argTypes := #[32] }, some (10, false), false⟩,
    ⟨some 14, Go.Op.binOp Go.BinOp.gtr 3 (Go.Operand.tmp 13) (Go.Operand.const (Go.Value.int Go.IntKind.i64 20)) 3, some (10, false), false⟩,
    ⟨some 15, Go.Op.pick (Go.Operand.tmp 10) (Go.Operand.const (Go.Value.bool true)) (Go.Operand.tmp 14), none, false⟩,
    ⟨some 16, Go.Op.move (Go.Operand.tmp 15), none, false⟩,
    ⟨some 17, Go.Op.fieldAddr 35 (Go.Operand.tmp 1) 3, some (16, false), false⟩,
    ⟨some 18, Go.Op.load 33 (Go.Operand.tmp 17), some (16, false), false⟩,
    ⟨some 19, Go.Op.call { callee := Go.Callee.builtin Go.Builtin.len, args := #[Go.Operand.tmp 18], argTypes := #[33] }, some (16, false), false⟩,
    ⟨some 20, Go.Op.binOp Go.BinOp.gtr 3 (Go.Operand.tmp 19) (Go.Operand.const (Go.Value.int Go.IntKind.i64 600)) 3, some (16, false), false⟩,
    ⟨some 21, Go.Op.move (Go.Operand.tmp 20), some (16, false), false⟩,
    ⟨some 22, Go.Op.fieldAddr 35 (Go.Operand.tmp 1) 3, some (21, true), false⟩,
    ⟨some 23, Go.Op.load 33 (Go.Operand.tmp 22), some (21, true), false⟩,
    ⟨some 24, Go.Op.call { callee := Go.Callee.builtin Go.Builtin.len, args := #[Go.Operand.tmp 23], argTypes := #[33] }, some (21, true), false⟩,
    ⟨some 25, Go.Op.binOp Go.BinOp.leq 3 (Go.Operand.tmp 24) (Go.Operand.const (Go.Value.int Go.IntKind.i64 4096)) 3, some (21, true), false⟩,
    ⟨some 26, Go.Op.pick (Go.Operand.tmp 21) (Go.Operand.tmp 25) (Go.Operand.const (Go.Value.bool false)), some (16, false), false⟩,
    ⟨some 27, Go.Op.pick (Go.Operand.tmp 16) (Go.Operand.const (Go.Value.bool true)) (Go.Operand.tmp 26), none, false⟩,
    ⟨some 28, Go.Op.move (Go.Operand.tmp 27), none, false⟩,
    ⟨some 29, Go.Op.fieldAddr 35 (Go.Operand.tmp 1) 3, some (28, false), false⟩,
    ⟨some 30, Go.Op.load 33 (Go.Operand.tmp 29), some (28, false), false⟩,
    ⟨some 31, Go.Op.call { callee := Go.Callee.builtin Go.Builtin.len, args := #[Go.Operand.tmp 30], argTypes := #[33] }, some (28, false), false⟩,
    ⟨some 32, Go.Op.binOp Go.BinOp.gtr 3 (Go.Operand.tmp 31) (Go.Operand.const (Go.Value.int Go.IntKind.i64 5000)) 3, some (28, false), false⟩,
    ⟨some 33, Go.Op.pick (Go.Operand.tmp 28) (Go.Operand.const (Go.Value.bool true)) (Go.Operand.tmp 32), none, false⟩] [1, 33]) (.cond (Go.Operand.tmp 33) (.seq (.reg false [⟨some 2, Go.Op.assign (Go.Operand.const (Go.Value.bool true)), none, false⟩] [2]) (.ret)) (.skip))) (.seq (.reg false [⟨some 3, Go.Op.assign (Go.Operand.const (Go.Value.int Go.IntKind.i64 0)), none, false⟩] [1, 3]) (.seq (.seq (.reg false [⟨some 4, Go.Op.assign (Go.Operand.const (Go.Value.int Go.IntKind.i64 0)), none, false⟩] [1, 3, 4]) (.block 0 (.loop Tryd.L17_0))) (.seq (.seq (.reg false [⟨some 5, Go.Op.assign (Go.Operand.const (Go.Value.int Go.IntKind.i64 0)), none, false⟩] [1, 3, 5]) (.block 2 (.loop Tryd.L17_1))) (.seq (.reg false [⟨some 89, Go.Op.move (Go.Operand.tmp 3), none, false⟩,
    ⟨some 90, Go.Op.binOp Go.BinOp.gtr 3 (Go.Operand.tmp 89) (Go.Operand.const (Go.Value.int Go.IntKind.i64 600)) 3, none, false⟩,
    ⟨some 91, Go.Op.move (Go.Operand.tmp 90), none, false⟩,
    ⟨some 92, Go.Op.move (Go.Operand.tmp 3), some (91, true), false⟩,
    ⟨some 93, Go.Op.binOp Go.BinOp.leq 3 (Go.Operand.tmp 92) (Go.Operand.const (Go.Value.int Go.IntKind.i64 4096)) 3, some (91, true), false⟩,
    ⟨some 94, Go.Op.pick (Go.Operand.tmp 91) (Go.Operand.tmp 93) (Go.Operand.const (Go.Value.bool false)), none, false⟩,
    ⟨some 2, Go.Op.assign (Go.Operand.tmp 94), none, false⟩] [2]) (.ret))))))
theorem Tryd.comp17 : ∃ c, Tryd.f17.body = some c ∧ compile c = erase Tryd.C17 := ⟨_, rfl, by kernel_rfl⟩
theorem Tryd.rs17 : Tryd.f17.results.toList = [Go.ResultVar.tmp 2] := by kernel_rfl
theorem Tryd.nt17 : Tryd.f17.ntmps = 95 := by kernel_rfl
theorem Tryd.en17 : ∀ vs w, (callFunc 17 vs).run Tryd.prog w = .ok (.enter 17 vs) w := enters_of Tryd.func17 (by kernel_rfl) rfl
theorem Tryd.ctr17 {a0 : V} {bx : Boxes} {Kc : V → Boxes → Prop} (h : FinB bx → pw Tryd.prog Tryd.C17 (retQ Tryd.prog [Go.ResultVar.tmp 2] Kc) ⟨95, slk [(0, a0)], bx⟩) : AbsCall Tryd.prog 17 [a0] bx Kc := abs_of (by kernel_rfl) Tryd.func17 Tryd.comp17 Tryd.en17 Tryd.nt17 Tryd.rs17 (fun hb => by rw [initSt_1]; exact h hb)
noncomputable def Tryd.C18 : PC := .seq (.reg false [⟨some 1, Go.Op.box 35 (Go.Operand.tmp 0), none, true⟩,
    ⟨some 2, Go.Op.assign (Go.Operand.const (Go.Value.int Go.IntKind.i64 0)), none, false⟩] [1]) (.seq (.reg false [⟨some 6, Go.Op.fieldAddr 35 (Go.Operand.tmp 1) 0, none, false⟩,
    ⟨some 7, Go.Op.load 31 (Go.Operand.tmp 6), none, false⟩,
    ⟨some 8, Go.Op.fieldAddr 35 (Go.Operand.tmp 1) 1, none, false⟩,
    ⟨some 9, Go.Op.load 32 (Go.Operand.tmp 8), none, false⟩,
    ⟨some 10, Go.Op.fieldAddr 35 (Go.Operand.tmp 1) 2, none, false⟩,
    ⟨some 11, Go.Op.load 3 (Go.Operand.tmp 10), none, false⟩,
    ⟨some 12, Go.Op.call { callee := Go.Callee.value (Go.Operand.func 19), args := #[Go.Operand.tmp 7, Go.Operand.tmp 9, Go.Operand.tmp 11], argTypes := #[31, 32, 3] }, none, false⟩,
    ⟨some 5, Go.Op.move (Go.Operand.tmp 12), none, false⟩,
    ⟨some 13, Go.Op.extract (Go.Operand.tmp 5) 0, none, false⟩,
    ⟨some 14, Go.Op.extract (Go.Operand.tmp 5) 1, none, false⟩,
    ⟨some 3, Go.Op.alloc 35, none, false⟩,
    ⟨none, Go.Op.store 35 (Go.Operand.tmp 3) (Go.Operand.tmp 13), none, false⟩,
    ⟨some 4, Go.Op.assign (Go.Operand.tmp 14), none, false⟩] [1, 3, 4]) (.fz 3 (.seq (.seq (.reg false [⟨some 15, Go.Op.move (Go.Operand.tmp 4), none, false⟩,
    ⟨some 16, Go.Op.binOp Go.BinOp.eql 38 (Go.Operand.tmp 15) (Go.Operand.const (Go.Value.int Go.IntKind.i64 0)) 38, none, false⟩,
    ⟨some 17, Go.Op.move (Go.Operand.tmp 16), none, false⟩,
    ⟨some 18, Go.Op.fieldAddr 35 (Go.Operand.tmp 3) 3, some (17, true), false⟩,
    ⟨some 19, Go.Op.load 33 (Go.Operand.tmp 18), some (17, true), false⟩,
    ⟨some 20, Go.Op.fieldAddr 35 (Go.Operand.tmp 1) 3, some (17, true), false⟩,
    ⟨some 21, Go.Op.load 33 (Go.Operand.tmp 20), some (17, true), false⟩,
    ⟨some 22, Go.Op.call { callee := Go.Callee.value (Go.Operand.func 27), args := #[Go.Operand.tmp 19, Go.Operand.tmp 21], argTypes := #[33, 33] }, some (17, true), false⟩,
    ⟨some 23, Go.Op.unOp Go.UnOp.not 4 (Go.Operand.tmp 22), some (17, true), false⟩,
    ⟨some 24, Go.Op.pick (Go.Operand.tmp 17) (Go.Operand.tmp 23) (Go.Operand.const (Go.Value.bool false)), none, false⟩] [4, 24]) (.cond (Go.Operand.tmp 24) (.reg false [⟨some 4, Go.Op.assign (Go.Operand.const (Go.Value.int Go.IntKind.i64 6)), none, false⟩] [4]) (.skip))) (.seq (.reg false [⟨some 25, Go.Op.move (Go.Operand.tmp 4), none, false⟩,
    ⟨some 2, Go.Op.assign (Go.Operand.tmp 25), none, false⟩] [2]) (.ret)))))
theorem Tryd.comp18 : ∃ c, Tryd.f18.body = some c ∧ compile c = erase Tryd.C18 := ⟨_, rfl, by kernel_rfl⟩
theorem Tryd.rs18 : Tryd.f18.results.toList = [Go.ResultVar.tmp 2] := by kernel_rfl
theorem Tryd.nt18 : Tryd.f18.ntmps = 26 := by kernel_rfl
theorem Tryd.en18 : ∀ vs w, (callFunc 18 vs).run Tryd.prog w = .ok (.enter 18 vs) w := enters_of Tryd.func18 (by kernel_rfl) rfl
theorem Tryd.ctr18 {a0 : V} {bx : Boxes} {Kc : V → Boxes → Prop} (h : FinB bx → pw Tryd.prog Tryd.C18 (retQ Tryd.prog [Go.ResultVar.tmp 2] Kc) ⟨26, slk [(0, a0)], bx⟩) : AbsCall Tryd.prog 18 [a0] bx Kc := abs_of (by kernel_rfl) Tryd.func18 Tryd.comp18 Tryd.en18 Tryd.nt18 Tryd.rs18 (fun hb => by rw [initSt_1]; exact h hb)
noncomputable def Tryd.L19_0 : PC := .seq (.reg false [⟨some 46, Go.Op.binOp Go.BinOp.lss 3 (Go.Operand.tmp 45) (Go.Operand.tmp 44) 3, none, false⟩] [1, 2, 6, 9, 10, 12, 28, 29, 30, 44, 45, 46]) (.seq (.cond (Go.Operand.tmp 46) (.skip) (.exit 2)) (.seq (.block 3 (.seq (.reg false [⟨some 47, Go.Op.move (Go.Operand.tmp 45), none, false⟩,
    ⟨some 13, Go.Op.assign (Go.Operand.tmp 47), none, false⟩] [1, 2, 6, 9, 10, 12, 13, 28, 29, 30, 44, 45]) (.regF [(1, 8)] [⟨some 48, Go.Op.fieldAddr 35 (Go.Operand.tmp 9) 3, none, false⟩,
    ⟨some 49, Go.Op.load 33 (Go.Operand.tmp 48), none, false⟩,
    ⟨some 50, Go.Op.move (Go.Operand.tmp 12), none, false⟩,
    ⟨some 51, Go.Op.move (Go.Operand.tmp 13), none, false⟩,
    ⟨some 52, Go.Op.call { callee := Go.Callee.value (Go.Operand.func 31), args := #[Go.Operand.const (Go.Value.slice none 0 0), Go.Operand.tmp 51, Go.Operand.const (Go.Value.int Go.IntKind.i64 10)], argTypes := #[22, 2, 3] }, none, false⟩,
    ⟨some 53, Go.Op.call { callee := Go.Callee.value (Go.Operand.func 13), args := #[Go.Operand.tmp 50, Go.Operand.tmp 52], argTypes := #[25, 22] }, none, false⟩,
    ⟨some 54, Go.Op.move (Go.Operand.tmp 10), none, false⟩,
    ⟨some 55, Go.Op.build 57 #[(0, Go.Operand.tmp 53), (1, Go.Operand.tmp 54)], none, false⟩,
    ⟨some 56, Go.Op.buildSlice 33 1 #[(0, Go.Operand.tmp 55)], none, true⟩,
    ⟨some 57, Go.Op.call { callee := Go.Callee.builtin Go.Builtin.append, args := #[Go.Operand.tmp 49, Go.Operand.tmp 56], argTypes := #[33, 33] }, none, false⟩,
    ⟨some 58, Go.Op.fieldAddr 35 (Go.Operand.tmp 9) 3, none, false⟩,
    ⟨none, Go.Op.store 33 (Go.Operand.tmp 58) (Go.Operand.tmp 57), none, false⟩] [1, 2, 6, 9, 10, 12, 28, 29, 30, 44, 45]))) (.reg false [⟨some 59, Go.Op.binOp Go.BinOp.add 3 (Go.Operand.tmp 45) (Go.Operand.const (Go.Value.int Go.IntKind.i64 1)) 3, none, false⟩,
    ⟨some 45, Go.Op.move (Go.Operand.tmp 59), none, false⟩] [1, 2, 6, 9, 10, 12, 28, 29, 30, 44, 45])))
noncomputable def Tryd.L19_1 : PC := .seq (.reg false [⟨some 31, Go.Op.binOp Go.BinOp.lss 3 (Go.Operand.tmp 30) (Go.Operand.tmp 29) 3, none, false⟩] [1, 2, 6, 9, 28, 29, 30, 31]) (.seq (.cond (Go.Operand.tmp 31) (.skip) (.exit 0)) (.seq (.block 1 (.seq (.reg false [⟨some 32, Go.Op.move (Go.Operand.tmp 30), none, false⟩,
    ⟨some 33, Go.Op.indexAddr 31 (Go.Operand.tmp 28) (Go.Operand.tmp 30), none, false⟩,
    ⟨some 34, Go.Op.load 9 (Go.Operand.tmp 33), none, false⟩,
    ⟨some 10, Go.Op.assign (Go.Operand.tmp 32), none, false⟩,
    ⟨some 11, Go.Op.assign (Go.Operand.tmp 34), none, false⟩] [1, 2, 6, 9, 10, 11, 28, 29, 30]) (.seq (.reg false [⟨some 35, Go.Op.move (Go.Operand.tmp 11), none, false⟩,
    ⟨some 36, Go.Op.binOp Go.BinOp.add 9 (Go.Operand.tmp 35) (Go.Operand.const (Go.Value.string { data := #[35] })) 9, none, false⟩,
    ⟨some 37, Go.Op.convert 9 22 (Go.Operand.tmp 36), none, false⟩,
    ⟨some 38, Go.Op.call { callee := Go.Callee.value (Go.Operand.func 9), args := #[Go.Operand.tmp 37], argTypes := #[22] }, none, false⟩,
    ⟨some 12, Go.Op.assign (Go.Operand.tmp 38), none, false⟩] [1, 2, 6, 9, 10, 12, 28, 29, 30]) (.seq (.reg false [⟨some 39, Go.Op.move (Go.Operand.tmp 1), none, false⟩,
    ⟨some 40, Go.Op.move (Go.Operand.tmp 10), none, false⟩,
    ⟨some 41, Go.Op.indexAddr 32 (Go.Operand.tmp 39) (Go.Operand.tmp 40), none, false⟩,
    ⟨some 42, Go.Op.load 3 (Go.Operand.tmp 41), none, false⟩,
    ⟨some 43, Go.Op.move (Go.Operand.tmp 2), none, false⟩,
    ⟨some 44, Go.Op.binOp Go.BinOp.mul 3 (Go.Operand.tmp 42) (Go.Operand.tmp 43) 3, none, false⟩,
    ⟨some 45, Go.Op.move (Go.Operand.const (Go.Value.int Go.IntKind.i64 0)), none, false⟩] [1, 2, 6, 9, 10, 12, 28, 29, 30, 44, 45]) (.block 2 (.loop Tryd.L19_0)))))) (.reg false [⟨some 60, Go.Op.binOp Go.BinOp.add 3 (Go.Operand.tmp 30) (Go.Operand.const (Go.Value.int Go.IntKind.i64 1)) 3, none, false⟩,
    ⟨some 30, Go.Op.move (Go.Operand.tmp 60), none, false⟩] [1, 2, 6, 9, 28, 29, 30])))
noncomputable def Tryd.C19 : PC := .seq (.reg false [⟨some 6, Go.Op.alloc 35, none, false⟩,
    ⟨some 7, Go.Op.assign (Go.Operand.const (Go.Value.int Go.IntKind.i64 0)), none, false⟩] [0, 1, 2, 6]) (.seq (.seq (.reg false [⟨some 14, Go.Op.move (Go.Operand.tmp 0), none, false⟩,
    ⟨some 15, Go.Op.move (Go.Operand.tmp 1), none, false⟩,
    ⟨some 16, Go.Op.move (Go.Operand.tmp 2), none, false⟩,
    ⟨some 17, Go.Op.call { callee := Go.Callee.value (Go.Operand.func 28), args := #[Go.Operand.tmp 14, Go.Operand.tmp 15, Go.Operand.tmp 16], argTypes := #[31, 32, 3] }, none, false⟩,
    ⟨some 8, Go.Op.assign (Go.Operand.tmp 17), none, false⟩] [0, 1, 2, 6, 8]) (.seq (.reg false [⟨some 18, Go.Op.move (Go.Operand.tmp 8), none, false⟩,
    ⟨some 19, Go.Op.binOp Go.BinOp.neq 38 (Go.Operand.tmp 18) (Go.Operand.const (Go.Value.int Go.IntKind.i64 0)) 38, none, false⟩] [0, 1, 2, 6, 8, 19]) (.cond (Go.Operand.tmp 19) (.seq (.reg false [⟨some 20, Go.Op.build 35 #[], none, false⟩,
    ⟨some 21, Go.Op.move (Go.Operand.tmp 8), none, false⟩,
    ⟨none, Go.Op.store 35 (Go.Operand.tmp 6) (Go.Operand.tmp 20), none, false⟩,
    ⟨some 7, Go.Op.assign (Go.Operand.tmp 21), none, false⟩] [6, 7]) (.ret)) (.skip)))) (.seq (.reg false [⟨some 22, Go.Op.move (Go.Operand.tmp 0), none, false⟩,
    ⟨some 23, Go.Op.call { callee := Go.Callee.value (Go.Operand.func 29), args := #[Go.Operand.tmp 22], argTypes := #[31] }, none, false⟩,
    ⟨some 24, Go.Op.move (Go.Operand.tmp 1), none, false⟩,
    ⟨some 25, Go.Op.call { callee := Go.Callee.value (Go.Operand.func 30), args := #[Go.Operand.tmp 24], argTypes := #[32] }, none, false⟩,
    ⟨some 26, Go.Op.move (Go.Operand.tmp 2), none, false⟩,
    ⟨some 27, Go.Op.build 35 #[(0, Go.Operand.tmp 23), (1, Go.Operand.tmp 25), (2, Go.Operand.tmp 26)], none, false⟩,
    ⟨some 9, Go.Op.alloc 35, none, false⟩,
    ⟨none, Go.Op.store 35 (Go.Operand.tmp 9) (Go.Operand.tmp 27), none, false⟩] [0, 1, 2, 6, 9]) (.seq (.seq (.reg false [⟨some 28, Go.Op.move (Go.Operand.tmp 0), none, false⟩,
    ⟨some 29, Go.Op.call { callee := Go.Callee.builtin Go.Builtin.len, args := #[Go.Operand.tmp 28], argTypes := #[31] }, none, false⟩,
    ⟨some 30, Go.Op.move (Go.Operand.const (Go.Value.int Go.IntKind.i64 0)), none, false⟩] [1, 2, 6, 9, 28, 29, 30]) (.block 0 (.loop Tryd.L19_1))) (.seq (.reg false [⟨some 61, Go.Op.fieldAddr 35 (Go.Operand.tmp 9) 3, none, false⟩,
    ⟨some 62, Go.Op.load 33 (Go.Operand.tmp 61), none, false⟩,
    ⟨some 63, Go.Op.call { callee := Go.Callee.value (Go.Operand.func 32), args := #[Go.Operand.tmp 62, Go.Operand.func 33], argTypes := #[33, 69] }, none, false⟩] [6, 9]) (.seq (.reg false [⟨some 64, Go.Op.load 35 (Go.Operand.tmp 9), none, false⟩,
    ⟨none, Go.Op.store 35 (Go.Operand.tmp 6) (Go.Operand.tmp 64), none, false⟩,
    ⟨some 7, Go.Op.assign (Go.Operand.const (Go.Value.int Go.IntKind.i64 0)), none, false⟩] [6, 7]) (.ret))))))
theorem Tryd.comp19 : ∃ c, Tryd.f19.body = some c ∧ compile c = erase Tryd.C19 := ⟨_, rfl, by kernel_rfl⟩
theorem Tryd.rs19 : Tryd.f19.results.toList = [Go.ResultVar.cell 6 35, Go.ResultVar.tmp 7] := by kernel_rfl
theorem Tryd.nt19 : Tryd.f19.ntmps = 65 := by kernel_rfl
theorem Tryd.en19 : ∀ vs w, (callFunc 19 vs).run Tryd.prog w = .ok (.enter 19 vs) w := enters_of Tryd.func19 (by kernel_rfl) rfl
theorem Tryd.ctr19 {a0 a1 a2 : V} {bx : Boxes} {Kc : V → Boxes → Prop} (h : FinB bx → pw Tryd.prog Tryd.C19 (retQ Tryd.prog [Go.ResultVar.cell 6 35, Go.ResultVar.tmp 7] Kc) ⟨65, slk [(0, a0), (1, a1), (2, a2)], bx⟩) : AbsCall Tryd.prog 19 [a0, a1, a2] bx Kc := abs_of (by kernel_rfl) Tryd.func19 Tryd.comp19 Tryd.en19 Tryd.nt19 Tryd.rs19 (fun hb => by rw [initSt_3]; exact h hb)
noncomputable def Tryd.C20 : PC := .seq (.reg false [⟨some 2, Go.Op.box 35 (Go.Operand.tmp 0), none, true⟩,
    ⟨some 4, Go.Op.assign (Go.Operand.const (Go.Value.int Go.IntKind.i64 0)), none, false⟩,
    ⟨some 5, Go.Op.assign (Go.Operand.const (Go.Value.int Go.IntKind.i64 0)), none, false⟩] [1, 2]) (.seq (.seq (.reg false [⟨some 7, Go.Op.load 35 (Go.Operand.tmp 2), none, false⟩,
    ⟨some 8, Go.Op.move (Go.Operand.tmp 1), none, false⟩,
    ⟨some 9, Go.Op.buildSlice 31 1 #[(0, Go.Operand.tmp 8)], none, true⟩,
    ⟨some 10, Go.Op.call { callee := Go.Callee.value (Go.Operand.func 37), args := #[Go.Operand.tmp 7, Go.Operand.tmp 9], argTypes := #[35, 31] }, none, false⟩,
    ⟨some 6, Go.Op.assign (Go.Operand.tmp 10), none, false⟩] [1, 2, 6]) (.seq (.reg false [⟨some 11, Go.Op.move (Go.Operand.tmp 6), none, false⟩,
    ⟨some 12, Go.Op.binOp Go.BinOp.neq 38 (Go.Operand.tmp 11) (Go.Operand.const (Go.Value.int Go.IntKind.i64 0)) 38, none, false⟩] [1, 2, 6, 12]) (.cond (Go.Operand.tmp 12) (.seq (.reg false [⟨some 13, Go.Op.move (Go.Operand.tmp 6), none, false⟩,
    ⟨some 4, Go.Op.assign (Go.Operand.const (Go.Value.int Go.IntKind.i64 0)), none, false⟩,
    ⟨some 5, Go.Op.assign (Go.Operand.tmp 13), none, false⟩] [4, 5]) (.ret)) (.skip)))) (.seq (.reg true [⟨some 14, Go.Op.fieldAddr 35 (Go.Operand.tmp 2) 3, none, false⟩,
    ⟨some 15, Go.Op.load 33 (Go.Operand.tmp 14), none, false⟩,
    ⟨some 16, Go.Op.load 35 (Go.Operand.tmp 2), none, false⟩,
    ⟨some 17, Go.Op.move (Go.Operand.tmp 1), none, false⟩,
    ⟨some 18, Go.Op.convert 9 22 (Go.Operand.tmp 17), none, false⟩,
    ⟨some 19, Go.Op.call { callee := Go.Callee.value (Go.Operand.func 9), args := #[Go.Operand.tmp 18], argTypes := #[22] }, none, false⟩,
    ⟨some 20, Go.Op.call { callee := Go.Callee.value (Go.Operand.func 38), args := #[Go.Operand.tmp 16, Go.Operand.tmp 19], argTypes := #[35, 25] }, none, false⟩,
    ⟨some 21, Go.Op.indexAddr 33 (Go.Operand.tmp 15) (Go.Operand.tmp 20), none, false⟩,
    ⟨some 22, Go.Op.fieldAddr 57 (Go.Operand.tmp 21) 1, none, false⟩,
    ⟨some 23, Go.Op.load 3 (Go.Operand.tmp 22), none, false⟩,
    ⟨some 4, Go.Op.assign (Go.Operand.tmp 23), none, false⟩,
    ⟨some 5, Go.Op.assign (Go.Operand.const (Go.Value.int Go.IntKind.i64 0)), none, false⟩] [4, 5]) (.ret)))
theorem Tryd.comp20 : ∃ c, Tryd.f20.body = some c ∧ compile c = erase Tryd.C20 := ⟨_, rfl, by kernel_rfl⟩
theorem Tryd.rs20 : Tryd.f20.results.toList = [Go.ResultVar.tmp 4, Go.ResultVar.tmp 5] := by kernel_rfl
theorem Tryd.nt20 : Tryd.f20.ntmps = 24 := by kernel_rfl
theorem Tryd.en20 : ∀ vs w, (callFunc 20 vs).run Tryd.prog w = .ok (.enter 20 vs) w := enters_of Tryd.func20 (by kernel_rfl) rfl
theorem Tryd.ctr20 {a0 a1 : V} {bx : Boxes} {Kc : V → Boxes → Prop} (h : FinB bx → pw Tryd.prog Tryd.C20 (retQ Tryd.prog [Go.ResultVar.tmp 4, Go.ResultVar.tmp 5] Kc) ⟨24, slk [(0, a0), (1, a1)], bx⟩) : AbsCall Tryd.prog 20 [a0, a1] bx Kc := abs_of (by kernel_rfl) Tryd.func20 Tryd.comp20 Tryd.en20 Tryd.nt20 Tryd.rs20 (fun hb => by rw [initSt_2]; exact h hb)
noncomputable def Tryd.C21 : PC := .seq (.reg false [⟨some 3, Go.Op.box 35 (Go.Operand.tmp 0), none, true⟩,
    ⟨some 6, Go.Op.alloc 35, none, false⟩,
    ⟨some 7, Go.Op.assign (Go.Operand.const (Go.Value.int Go.IntKind.i64 0)), none, false⟩] [1, 2, 3, 6]) (.seq (.seq (.reg false [⟨some 10, Go.Op.load 35 (Go.Operand.tmp 3), none, false⟩,
    ⟨some 11, Go.Op.call { callee := Go.Callee.value (Go.Operand.func 18), args := #[Go.Operand.tmp 10], argTypes := #[35] }, none, false⟩,
    ⟨some 8, Go.Op.assign (Go.Operand.tmp 11), none, false⟩] [1, 2, 3, 6, 8]) (.seq (.reg false [⟨some 12, Go.Op.move (Go.Operand.tmp 8), none, false⟩,
    ⟨some 13, Go.Op.binOp Go.BinOp.neq 38 (Go.Operand.tmp 12) (Go.Operand.const (Go.Value.int Go.IntKind.i64 0)) 38, none, false⟩] [1, 2, 3, 6, 8, 13]) (.cond (Go.Operand.tmp 13) (.seq (.reg false [⟨some 14, Go.Op.build 35 #[], none, false⟩,
    ⟨some 15, Go.Op.move (Go.Operand.tmp 8), none, false⟩,
    ⟨none, Go.Op.store 35 (Go.Operand.tmp 6) (Go.Operand.tmp 14), none, false⟩,
    ⟨some 7, Go.Op.assign (Go.Operand.tmp 15), none, false⟩] [6, 7]) (.ret)) (.skip)))) (.seq (.seq (.reg false [⟨some 16, Go.Op.move (Go.Operand.tmp 1), none, false⟩,
    ⟨some 17, Go.Op.binOp Go.BinOp.lss 3 (Go.Operand.tmp 16) (Go.Operand.const (Go.Value.int Go.IntKind.i64 0)) 3, none, false⟩,
    ⟨some 18, Go.Op.move (Go.Operand.tmp 17), none, false⟩,
    ⟨some 19, Go.Op.move (Go.Operand.tmp 1), some (18, false), false⟩,
    ⟨some 20, Go.Op.fieldAddr 35 (Go.Operand.tmp 3) 0, some (18, false), false⟩,
    ⟨some 21, Go.Op.load 31 (Go.Operand.tmp 20), some (18, false), false⟩,
    ⟨some 22, Go.Op.call { callee := Go.Callee.builtin Go.Builtin.len, args := #[Go.Operand.tmp 21], argTypes := #[31] }, some (18, false), false⟩,
    ⟨some 23, Go.Op.binOp Go.BinOp.geq 3 (Go.Operand.tmp 19) (Go.Operand.tmp 22) 3, some (18, false), false⟩,
    ⟨some 24, Go.Op.pick (Go.Operand.tmp 18) (Go.Operand.const (Go.Value.bool true)) (Go.Operand.tmp 23), none, false⟩] [1, 2, 3, 6, 24]) (.cond (Go.Operand.tmp 24) (.seq (.reg false [⟨some 25, Go.Op.build 35 #[], none, false⟩,
    ⟨none, Go.Op.store 35 (Go.Operand.tmp 6) (Go.Operand.tmp 25), none, false⟩,
    ⟨some 7, Go.Op.assign (Go.Operand.const (Go.Value.int Go.IntKind.i64 2)), none, false⟩] [6, 7]) (.ret)) (.skip))) (.seq (.reg false [⟨some 26, Go.Op.fieldAddr 35 (Go.Operand.tmp 3) 1, none, false⟩,
    ⟨some 27, Go.Op.load 32 (Go.Operand.tmp 26), none, false⟩,
    ⟨some 28, Go.Op.call { callee := Go.Callee.value (Go.Operand.func 30), args := #[Go.Operand.tmp 27], argTypes := #[32] }, none, false⟩,
    ⟨some 9, Go.Op.assign (Go.Operand.tmp 28), none, false⟩] [1, 2, 3, 6, 9]) (.seq (.reg false [⟨some 29, Go.Op.move (Go.Operand.tmp 9), none, false⟩,
    ⟨some 30, Go.Op.move (Go.Operand.tmp 1), none, false⟩,
    ⟨some 31, Go.Op.move (Go.Operand.tmp 2), none, false⟩,
    ⟨some 32, Go.Op.indexAddr 32 (Go.Operand.tmp 29) (Go.Operand.tmp 30), none, false⟩,
    ⟨none, Go.Op.store 3 (Go.Operand.tmp 32) (Go.Operand.tmp 31), none, false⟩] [3, 6, 9]) (.seq (.reg false [⟨some 33, Go.Op.fieldAddr 35 (Go.Operand.tmp 3) 0, none, false⟩,
    ⟨some 34, Go.Op.load 31 (Go.Operand.tmp 33), none, false⟩,
    ⟨some 35, Go.Op.move (Go.Operand.tmp 9), none, false⟩,
    ⟨some 36, Go.Op.fieldAddr 35 (Go.Operand.tmp 3) 2, none, false⟩,
    ⟨some 37, Go.Op.load 3 (Go.Operand.tmp 36), none, false⟩,
    ⟨some 38, Go.Op.call { callee := Go.Callee.value (Go.Operand.func 19), args := #[Go.Operand.tmp 34, Go.Operand.tmp 35, Go.Operand.tmp 37], argTypes := #[31, 32, 3] }, none, false⟩,
    ⟨some 39, Go.Op.extract (Go.Operand.tmp 38) 0, none, false⟩,
    ⟨some 40, Go.Op.extract (Go.Operand.tmp 38) 1, none, false⟩,
    ⟨none, Go.Op.store 35 (Go.Operand.tmp 6) (Go.Operand.tmp 39), none, false⟩,
    ⟨some 7, Go.Op.assign (Go.Operand.tmp 40), none, false⟩] [6, 7]) (.ret))))))
theorem Tryd.comp21 : ∃ c, Tryd.f21.body = some c ∧ compile c = erase Tryd.C21 := ⟨_, rfl, by kernel_rfl⟩
theorem Tryd.rs21 : Tryd.f21.results.toList = [Go.ResultVar.cell 6 35, Go.ResultVar.tmp 7] := by kernel_rfl
theorem Tryd.nt21 : Tryd.f21.ntmps = 41 := by kernel_rfl
theorem Tryd.en21 : ∀ vs w, (callFunc 21 vs).run Tryd.prog w = .ok (.enter 21 vs) w := enters_of Tryd.func21 (by kernel_rfl) rfl
theorem Tryd.ctr21 {a0 a1 a2 : V} {bx : Boxes} {Kc : V → Boxes → Prop} (h : FinB bx → pw Tryd.prog Tryd.C21 (retQ Tryd.prog [Go.ResultVar.cell 6 35, Go.ResultVar.tmp 7] Kc) ⟨41, slk [(0, a0), (1, a1), (2, a2)], bx⟩) : AbsCall Tryd.prog 21 [a0, a1, a2] bx Kc := abs_of (by kernel_rfl) Tryd.func21 Tryd.comp21 Tryd.en21 Tryd.nt21 Tryd.rs21 (fun hb => by rw [initSt_3]; exact h hb)
noncomputable def Tryd.L22_0 : PC := .seq (.reg false [⟨some 23, Go.Op.binOp Go.BinOp.lss 3 (Go.Operand.tmp 22) (Go.Operand.tmp 21) 3, none, false⟩] [1, 5, 6, 20, 21, 22, 23]) (.seq (.cond (Go.Operand.tmp 23) (.skip) (.exit 0)) (.seq (.block 1 (.seq (.reg false [⟨some 24, Go.Op.indexAddr 33 (Go.Operand.tmp 20) (Go.Operand.tmp 22), none, false⟩,
    ⟨some 25, Go.Op.load 57 (Go.Operand.tmp 24), none, false⟩,
    ⟨some 8, Go.Op.alloc 57, none, false⟩,
    ⟨none, Go.Op.store 57 (Go.Operand.tmp 8) (Go.Operand.tmp 25), none, false⟩] [1, 5, 6, 8, 20, 21, 22]) (.fz 8 (.seq (.reg false [⟨some 26, Go.Op.fieldAddr 57 (Go.Operand.tmp 8) 0, none, false⟩,
    ⟨some 27, Go.Op.load 25 (Go.Operand.tmp 26), none, false⟩,
    ⟨some 28, Go.Op.convert 25 23 (Go.Operand.tmp 27), none, false⟩,
    ⟨some 29, Go.Op.binOp Go.BinOp.add 23 (Go.Operand.tmp 28) (Go.Operand.const (Go.Value.int Go.IntKind.u64 1)) 23, none, false⟩,
    ⟨some 9, Go.Op.assign (Go.Operand.tmp 29), none, false⟩] [1, 5, 6, 8, 9, 20, 21, 22]) (.seq (.reg false [⟨some 30, Go.Op.move (Go.Operand.tmp 9), none, false⟩,
    ⟨some 31, Go.Op.move (Go.Operand.tmp 6), none, false⟩,
    ⟨some 32, Go.Op.binOp Go.BinOp.gtr 23 (Go.Operand.tmp 30) (Go.Operand.tmp 31) 23, none, false⟩] [1, 5, 6, 8, 9, 20, 21, 22, 32]) (.cond (Go.Operand.tmp 32) (.seq (.reg false [⟨some 33, Go.Op.move (Go.Operand.tmp 5), none, false⟩,
    ⟨some 34, Go.Op.fieldAddr 57 (Go.Operand.tmp 8) 1, none, false⟩,
    ⟨some 35, Go.Op.load 3 (Go.Operand.tmp 34), none, false⟩,
    ⟨some 36, Go.Op.indexAddr 47 (Go.Operand.tmp 33) (Go.Operand.tmp 35), none, false⟩,
    ⟨some 37, Go.Op.load 23 (Go.Operand.tmp 36), none, false⟩,
    ⟨some 38, Go.Op.move (Go.Operand.tmp 9), none, false⟩,
    ⟨some 39, Go.Op.move (Go.Operand.tmp 6), none, false⟩,
    ⟨some 40, Go.Op.binOp Go.BinOp.sub 23 (Go.Operand.tmp 38) (Go.Operand.tmp 39) 23, none, false⟩,
    ⟨some 41, Go.Op.binOp Go.BinOp.add 23 (Go.Operand.tmp 37) (Go.Operand.tmp 40) 23, none, false⟩,
    ⟨some 42, Go.Op.indexAddr 47 (Go.Operand.tmp 33) (Go.Operand.tmp 35), none, false⟩,
    ⟨none, Go.Op.store 23 (Go.Operand.tmp 42) (Go.Operand.tmp 41), none, false⟩] [1, 5, 9, 20, 21, 22]) (.reg false [⟨some 43, Go.Op.move (Go.Operand.tmp 9), none, false⟩,
    ⟨some 6, Go.Op.assign (Go.Operand.tmp 43), none, false⟩] [1, 5, 6, 20, 21, 22])) (.skip))))))) (.reg false [⟨some 44, Go.Op.binOp Go.BinOp.add 3 (Go.Operand.tmp 22) (Go.Operand.const (Go.Value.int Go.IntKind.i64 1)) 3, none, false⟩,
    ⟨some 22, Go.Op.move (Go.Operand.tmp 44), none, false⟩] [1, 5, 6, 20, 21, 22])))
noncomputable def Tryd.C22 : PC := .seq (.reg false [⟨some 1, Go.Op.box 35 (Go.Operand.tmp 0), none, true⟩,
    ⟨some 2, Go.Op.assign (Go.Operand.const (Go.Value.slice none 0 0)), none, false⟩,
    ⟨some 3, Go.Op.assign (Go.Operand.const (Go.Value.int Go.IntKind.i64 0)), none, false⟩] [1]) (.seq (.seq (.reg false [⟨some 10, Go.Op.load 35 (Go.Operand.tmp 1), none, false⟩,
    ⟨some 11, Go.Op.call { callee := Go.Callee.value (Go.Operand.func 37), args := #[Go.Operand.tmp 10, Go.Operand.const (Go.Value.slice none 0 0)], argTypes := #[35, 31] }, none, false⟩,
    ⟨some 4, Go.Op.assign (Go.Operand.tmp 11), none, false⟩] [1, 4]) (.seq (.reg false [⟨some 12, Go.Op.move (Go.Operand.tmp 4), none, false⟩,
    ⟨some 13, Go.Op.binOp Go.BinOp.neq 38 (Go.Operand.tmp 12) (Go.Operand.const (Go.Value.int Go.IntKind.i64 0)) 38, none, false⟩] [1, 4, 13]) (.cond (Go.Operand.tmp 13) (.seq (.reg false [⟨some 14, Go.Op.move (Go.Operand.tmp 4), none, false⟩,
    ⟨some 2, Go.Op.assign (Go.Operand.const (Go.Value.slice none 0 0)), none, false⟩,
    ⟨some 3, Go.Op.assign (Go.Operand.tmp 14), none, false⟩] [2, 3]) (.ret)) (.skip)))) (.seq (.reg false [⟨some 15, Go.Op.fieldAddr 35 (Go.Operand.tmp 1) 0, none, false⟩,
    ⟨some 16, Go.Op.load 31 (Go.Operand.tmp 15), none, false⟩,
    ⟨some 17, Go.Op.call { callee := Go.Callee.builtin Go.Builtin.len, args := #[Go.Operand.tmp 16], argTypes := #[31] }, none, false⟩,
    ⟨some 18, Go.Op.makeSlice 47 (Go.Operand.tmp 17) (Go.Operand.tmp 17), none, false⟩,
    ⟨some 5, Go.Op.assign (Go.Operand.tmp 18), none, false⟩] [1, 5]) (.seq (.reg false [⟨some 6, Go.Op.assign (Go.Operand.const (Go.Value.int Go.IntKind.u64 0)), none, false⟩] [1, 5, 6]) (.seq (.seq (.reg false [⟨some 19, Go.Op.fieldAddr 35 (Go.Operand.tmp 1) 3, none, false⟩,
    ⟨some 20, Go.Op.load 33 (Go.Operand.tmp 19), none, false⟩,
    ⟨some 21, Go.Op.call { callee := Go.Callee.builtin Go.Builtin.len, args := #[Go.Operand.tmp 20], argTypes := #[33] }, none, false⟩,
    ⟨some 22, Go.Op.move (Go.Operand.const (Go.Value.int Go.IntKind.i64 0)), none, false⟩] [1, 5, 6, 20, 21, 22]) (.block 0 (.loop Tryd.L22_0))) (.seq (.reg false [⟨some 45, Go.Op.move (Go.Operand.tmp 5), none, false⟩,
    ⟨some 46, Go.Op.fieldAddr 35 (Go.Operand.tmp 1) 3, none, false⟩,
    ⟨some 47, Go.Op.load 33 (Go.Operand.tmp 46), none, false⟩,
    ⟨some 48, Go.Op.indexAddr 33 (Go.Operand.tmp 47) (Go.Operand.const (Go.Value.int Go.IntKind.i64 0)), none, false⟩,
    ⟨some 49, Go.Op.fieldAddr 57 (Go.Operand.tmp 48) 1, none, false⟩,
    ⟨some 50, Go.Op.load 3 (Go.Operand.tmp 49), none, false⟩,
    ⟨some 51, Go.Op.indexAddr 47 (Go.Operand.tmp 45) (Go.Operand.tmp 50), none, false⟩,
    ⟨some 52, Go.Op.load 23 (Go.Operand.tmp 51), none, false⟩,
    ⟨some 53, Go.Op.move (Go.Operand.tmp 6), none, false⟩,
    ⟨some 54, Go.Op.binOp Go.BinOp.sub 23 (Go.Operand.const (Go.Value.int Go.IntKind.u64 4294967296)) (Go.Operand.tmp 53) 23, none, false⟩,
    ⟨some 55, Go.Op.binOp Go.BinOp.add 23 (Go.Operand.tmp 52) (Go.Operand.tmp 54) 23, none, false⟩,
    ⟨some 56, Go.Op.indexAddr 47 (Go.Operand.tmp 45) (Go.Operand.tmp 50), none, false⟩,
    ⟨none, Go.Op.store 23 (Go.Operand.tmp 56) (Go.Operand.tmp 55), none, false⟩] [5]) (.seq (.reg false [⟨some 57, Go.Op.move (Go.Operand.tmp 5), none, false⟩,
    ⟨some 2, Go.Op.assign (Go.Operand.tmp 57), none, false⟩,
    ⟨some 3, Go.Op.assign (Go.Operand.const (Go.Value.int Go.IntKind.i64 0)), none, false⟩] [2, 3]) (.ret)))))))
theorem Tryd.comp22 : ∃ c, Tryd.f22.body = some c ∧ compile c = erase Tryd.C22 := ⟨_, rfl, by kernel_rfl⟩
theorem Tryd.rs22 : Tryd.f22.results.toList = [Go.ResultVar.tmp 2, Go.ResultVar.tmp 3] := by kernel_rfl
theorem Tryd.nt22 : Tryd.f22.ntmps = 58 := by kernel_rfl
theorem Tryd.en22 : ∀ vs w, (callFunc 22 vs).run Tryd.prog w = .ok (.enter 22 vs) w := enters_of Tryd.func22 (by kernel_rfl) rfl
theorem Tryd.ctr22 {a0 : V} {bx : Boxes} {Kc : V → Boxes → Prop} (h : FinB bx → pw Tryd.prog Tryd.C22 (retQ Tryd.prog [Go.ResultVar.tmp 2, Go.ResultVar.tmp 3] Kc) ⟨58, slk [(0, a0)], bx⟩) : AbsCall Tryd.prog 22 [a0] bx Kc := abs_of (by kernel_rfl) Tryd.func22 Tryd.comp22 Tryd.en22 Tryd.nt22 Tryd.rs22 (fun hb => by rw [initSt_1]; exact h hb)
noncomputable def Tryd.L23_0 : PC := .seq (.reg false [⟨some 23, Go.Op.binOp Go.BinOp.lss 3 (Go.Operand.tmp 22) (Go.Operand.tmp 21) 3, none, false⟩] [2, 3, 4, 20, 21, 22, 23]) (.seq (.cond (Go.Operand.tmp 23) (.skip) (.exit 0)) (.seq (.block 1 (.seq (.reg false [⟨some 24, Go.Op.indexAddr 72 (Go.Operand.tmp 20) (Go.Operand.tmp 22), none, false⟩,
    ⟨some 25, Go.Op.load 35 (Go.Operand.tmp 24), none, false⟩,
    ⟨some 9, Go.Op.alloc 35, none, false⟩,
    ⟨none, Go.Op.store 35 (Go.Operand.tmp 9) (Go.Operand.tmp 25), none, false⟩] [2, 3, 4, 9, 20, 21, 22]) (.fz 9 (.seq (.reg false [⟨some 26, Go.Op.load 35 (Go.Operand.tmp 9), none, false⟩,
    ⟨some 27, Go.Op.call { callee := Go.Callee.value (Go.Operand.func 18), args := #[Go.Operand.tmp 26], argTypes := #[35] }, none, false⟩,
    ⟨some 10, Go.Op.assign (Go.Operand.tmp 27), none, false⟩] [2, 3, 4, 10, 20, 21, 22]) (.seq (.reg false [⟨some 28, Go.Op.move (Go.Operand.tmp 10), none, false⟩,
    ⟨some 29, Go.Op.binOp Go.BinOp.neq 38 (Go.Operand.tmp 28) (Go.Operand.const (Go.Value.int Go.IntKind.i64 0)) 38, none, false⟩] [2, 3, 4, 10, 20, 21, 22, 29]) (.cond (Go.Operand.tmp 29) (.seq (.reg false [⟨some 30, Go.Op.move (Go.Operand.tmp 10), none, false⟩,
    ⟨some 6, Go.Op.assign (Go.Operand.const (Go.Value.slice none 0 0)), none, false⟩,
    ⟨some 7, Go.Op.assign (Go.Operand.tmp 30), none, false⟩] [6, 7]) (.ret)) (.skip))))))) (.reg false [⟨some 31, Go.Op.binOp Go.BinOp.add 3 (Go.Operand.tmp 22) (Go.Operand.const (Go.Value.int Go.IntKind.i64 1)) 3, none, false⟩,
    ⟨some 22, Go.Op.move (Go.Operand.tmp 31), none, false⟩] [2, 3, 4, 20, 21, 22])))
noncomputable def Tryd.L23_1 : PC := .seq (.reg false [⟨some 40, Go.Op.binOp Go.BinOp.lss 3 (Go.Operand.tmp 39) (Go.Operand.tmp 38) 3, none, false⟩] [2, 3, 4, 37, 38, 39, 40]) (.seq (.cond (Go.Operand.tmp 40) (.skip) (.exit 2)) (.seq (.block 3 (.seq (.reg false [⟨some 41, Go.Op.indexAddr 72 (Go.Operand.tmp 37) (Go.Operand.tmp 39), none, false⟩,
    ⟨some 42, Go.Op.load 35 (Go.Operand.tmp 41), none, false⟩,
    ⟨some 12, Go.Op.alloc 35, none, false⟩,
    ⟨none, Go.Op.store 35 (Go.Operand.tmp 12) (Go.Operand.tmp 42), none, false⟩] [2, 3, 4, 12, 37, 38, 39]) (.fz 12 (.seq (.reg false [⟨some 43, Go.Op.load 35 (Go.Operand.tmp 12), none, false⟩,
    ⟨some 44, Go.Op.move (Go.Operand.tmp 2), none, false⟩,
    ⟨some 45, Go.Op.call { callee := Go.Callee.value (Go.Operand.func 37), args := #[Go.Operand.tmp 43, Go.Operand.tmp 44], argTypes := #[35, 31] }, none, false⟩,
    ⟨some 13, Go.Op.assign (Go.Operand.tmp 45), none, false⟩] [2, 3, 4, 13, 37, 38, 39]) (.seq (.reg false [⟨some 46, Go.Op.move (Go.Operand.tmp 13), none, false⟩,
    ⟨some 47, Go.Op.binOp Go.BinOp.neq 38 (Go.Operand.tmp 46) (Go.Operand.const (Go.Value.int Go.IntKind.i64 0)) 38, none, false⟩] [2, 3, 4, 13, 37, 38, 39, 47]) (.cond (Go.Operand.tmp 47) (.seq (.reg false [⟨some 48, Go.Op.move (Go.Operand.tmp 13), none, false⟩,
    ⟨some 6, Go.Op.assign (Go.Operand.const (Go.Value.slice none 0 0)), none, false⟩,
    ⟨some 7, Go.Op.assign (Go.Operand.tmp 48), none, false⟩] [6, 7]) (.ret)) (.skip))))))) (.reg false [⟨some 49, Go.Op.binOp Go.BinOp.add 3 (Go.Operand.tmp 39) (Go.Operand.const (Go.Value.int Go.IntKind.i64 1)) 3, none, false⟩,
    ⟨some 39, Go.Op.move (Go.Operand.tmp 49), none, false⟩] [2, 3, 4, 37, 38, 39])))
noncomputable def Tryd.L23_2 : PC := .seq (.reg false [⟨some 53, Go.Op.binOp Go.BinOp.lss 3 (Go.Operand.tmp 52) (Go.Operand.tmp 51) 3, none, false⟩] [3, 4, 14, 50, 51, 52, 53]) (.seq (.cond (Go.Operand.tmp 53) (.skip) (.exit 4)) (.seq (.block 5 (.seq (.reg false [⟨some 54, Go.Op.move (Go.Operand.tmp 52), none, false⟩,
    ⟨some 55, Go.Op.indexAddr 31 (Go.Operand.tmp 50) (Go.Operand.tmp 52), none, false⟩,
    ⟨some 56, Go.Op.load 9 (Go.Operand.tmp 55), none, false⟩,
    ⟨some 15, Go.Op.assign (Go.Operand.tmp 54), none, false⟩,
    ⟨some 16, Go.Op.assign (Go.Operand.tmp 56), none, false⟩] [3, 4, 14, 15, 16, 50, 51, 52]) (.seq (.reg false [⟨some 57, Go.Op.move (Go.Operand.tmp 16), none, false⟩,
    ⟨some 58, Go.Op.convert 9 22 (Go.Operand.tmp 57), none, false⟩,
    ⟨some 59, Go.Op.call { callee := Go.Callee.value (Go.Operand.func 9), args := #[Go.Operand.tmp 58], argTypes := #[22] }, none, false⟩,
    ⟨some 17, Go.Op.assign (Go.Operand.tmp 59), none, false⟩] [3, 4, 14, 15, 17, 50, 51, 52]) (.seq (.reg true [⟨some 60, Go.Op.fieldAddr 35 (Go.Operand.tmp 3) 3, none, false⟩,
    ⟨some 61, Go.Op.load 33 (Go.Operand.tmp 60), none, false⟩,
    ⟨some 62, Go.Op.load 35 (Go.Operand.tmp 3), none, false⟩,
    ⟨some 63, Go.Op.move (Go.Operand.tmp 17), none, false⟩,
    ⟨some 64, Go.Op.call { callee := Go.Callee.value (Go.Operand.func 38), args := #[Go.Operand.tmp 62, Go.Operand.tmp 63], argTypes := #[35, 25] }, none, false⟩,
    ⟨some 65, Go.Op.indexAddr 33 (Go.Operand.tmp 61) (Go.Operand.tmp 64), none, false⟩,
    ⟨some 66, Go.Op.fieldAddr 57 (Go.Operand.tmp 65) 1, none, false⟩,
    ⟨some 67, Go.Op.load 3 (Go.Operand.tmp 66), none, false⟩,
    ⟨some 68, Go.Op.fieldAddr 35 (Go.Operand.tmp 4) 3, none, false⟩,
    ⟨some 69, Go.Op.load 33 (Go.Operand.tmp 68), none, false⟩,
    ⟨some 70, Go.Op.load 35 (Go.Operand.tmp 4), none, false⟩,
    ⟨some 71, Go.Op.move (Go.Operand.tmp 17), none, false⟩,
    ⟨some 72, Go.Op.call { callee := Go.Callee.value (Go.Operand.func 38), args := #[Go.Operand.tmp 70, Go.Operand.tmp 71], argTypes := #[35, 25] }, none, false⟩,
    ⟨some 73, Go.Op.indexAddr 33 (Go.Operand.tmp 69) (Go.Operand.tmp 72), none, false⟩,
    ⟨some 74, Go.Op.fieldAddr 57 (Go.Operand.tmp 73) 1, none, false⟩,
    ⟨some 75, Go.Op.load 3 (Go.Operand.tmp 74), none, false⟩,
    ⟨some 76, Go.Op.binOp Go.BinOp.neq 3 (Go.Operand.tmp 67) (Go.Operand.tmp 75) 3, none, false⟩] [3, 4, 14, 15, 50, 51, 52, 76]) (.cond (Go.Operand.tmp 76) (.reg false [⟨some 77, Go.Op.move (Go.Operand.tmp 14), none, false⟩,
    ⟨some 78, Go.Op.move (Go.Operand.tmp 15), none, false⟩,
    ⟨some 79, Go.Op.buildSlice 32 1 #[(0, Go.Operand.tmp 78)], none, true⟩,
    ⟨some 80, Go.Op.call { callee := Go.Callee.builtin Go.Builtin.append, args := #[Go.Operand.tmp 77, Go.Operand.tmp 79], argTypes := #[32, 32] }, none, false⟩,
    ⟨some 14, Go.Op.assign (Go.Operand.tmp 80), none, false⟩] [3, 4, 14, 50, 51, 52]) (.skip)))))) (.reg false [⟨some 81, Go.Op.binOp Go.BinOp.add 3 (Go.Operand.tmp 52) (Go.Operand.const (Go.Value.int Go.IntKind.i64 1)) 3, none, false⟩,
    ⟨some 52, Go.Op.move (Go.Operand.tmp 81), none, false⟩] [3, 4, 14, 50, 51, 52])))
noncomputable def Tryd.C23 : PC := .seq (.reg false [⟨some 3, Go.Op.box 35 (Go.Operand.tmp 0), none, true⟩,
    ⟨some 4, Go.Op.box 35 (Go.Operand.tmp 1), none, true⟩,
    ⟨some 6, Go.Op.assign (Go.Operand.const (Go.Value.slice none 0 0)), none, false⟩,
    ⟨some 7, Go.Op.assign (Go.Operand.const (Go.Value.int Go.IntKind.i64 0)), none, false⟩] [2, 3, 4]) (.seq (.seq (.reg false [⟨some 18, Go.Op.load 35 (Go.Operand.tmp 3), none, false⟩,
    ⟨some 19, Go.Op.load 35 (Go.Operand.tmp 4), none, false⟩,
    ⟨some 20, Go.Op.buildSlice 72 2 #[(0, Go.Operand.tmp 18), (1, Go.Operand.tmp 19)], none, true⟩,
    ⟨some 21, Go.Op.call { callee := Go.Callee.builtin Go.Builtin.len, args := #[Go.Operand.tmp 20], argTypes := #[72] }, none, false⟩,
    ⟨some 22, Go.Op.move (Go.Operand.const (Go.Value.int Go.IntKind.i64 0)), none, false⟩] [2, 3, 4, 20, 21, 22]) (.block 0 (.loop Tryd.L23_0))) (.seq (.seq (.reg false [⟨some 32, Go.Op.move (Go.Operand.tmp 2), none, false⟩,
    ⟨some 33, Go.Op.call { callee := Go.Callee.builtin Go.Builtin.len, args := #[Go.Operand.tmp 32], argTypes := #[31] }, none, false⟩,
    ⟨some 34, Go.Op.binOp Go.BinOp.gtr 3 (Go.Operand.tmp 33) (Go.Operand.const (Go.Value.int Go.IntKind.i64 1000)) 3, none, false⟩] [2, 3, 4, 34]) (.cond (Go.Operand.tmp 34) (.seq (.reg false [⟨some 6, Go.Op.assign (Go.Operand.const (Go.Value.slice none 0 0)), none, false⟩,
    ⟨some 7, Go.Op.assign (Go.Operand.const (Go.Value.int Go.IntKind.i64 3)), none, false⟩] [6, 7]) (.ret)) (.skip))) (.seq (.seq (.reg false [⟨some 35, Go.Op.load 35 (Go.Operand.tmp 3), none, false⟩,
    ⟨some 36, Go.Op.load 35 (Go.Operand.tmp 4), none, false⟩,
    ⟨some 37, Go.Op.buildSlice 72 2 #[(0, Go.Operand.tmp 35), (1, Go.Operand.tmp 36)], none, true⟩,
    ⟨some 38, Go.Op.call { callee := Go.Callee.builtin Go.Builtin.len, args := #[Go.Operand.tmp 37], argTypes := #[72] }, none, false⟩,
    ⟨some 39, Go.Op.move (Go.Operand.const (Go.Value.int Go.IntKind.i64 0)), none, false⟩] [2, 3, 4, 37, 38, 39]) (.block 2 (.loop Tryd.L23_1))) (.seq (.reg false [⟨some 14, Go.Op.assign (Go.Operand.const (Go.Value.slice none 0 0)), none, false⟩] [2, 3, 4, 14]) (.seq (.seq (.reg false [⟨some 50, Go.Op.move (Go.Operand.tmp 2), none, false⟩,
    ⟨some 51, Go.Op.call { callee := Go.Callee.builtin Go.Builtin.len, args := #[Go.Operand.tmp 50], argTypes := #[31] }, none, false⟩,
    ⟨some 52, Go.Op.move (Go.Operand.const (Go.Value.int Go.IntKind.i64 0)), none, false⟩] [3, 4, 14, 50, 51, 52]) (.block 4 (.loop Tryd.L23_2))) (.seq (.reg false [⟨some 82, Go.Op.move (Go.Operand.tmp 14), none, false⟩,
    ⟨some 6, Go.Op.assign (Go.Operand.tmp 82), none, false⟩,
    ⟨some 7, Go.Op.assign (Go.Operand.const (Go.Value.int Go.IntKind.i64 0)), none, false⟩] [6, 7]) (.ret)))))))
theorem Tryd.comp23 : ∃ c, Tryd.f23.body = some c ∧ compile c = erase Tryd.C23 := ⟨_, rfl, by kernel_rfl⟩
theorem Tryd.rs23 : Tryd.f23.results.toList = [Go.ResultVar.tmp 6, Go.ResultVar.tmp 7] := by kernel_rfl
theorem Tryd.nt23 : Tryd.f23.ntmps = 83 := by kernel_rfl
theorem Tryd.en23 : ∀ vs w, (callFunc 23 vs).run Tryd.prog w = .ok (.enter 23 vs) w := enters_of Tryd.func23 (by kernel_rfl) rfl
theorem Tryd.ctr23 {a0 a1 a2 : V} {bx : Boxes} {Kc : V → Boxes → Prop} (h : FinB bx → pw Tryd.prog Tryd.C23 (retQ Tryd.prog [Go.ResultVar.tmp 6, Go.ResultVar.tmp 7] Kc) ⟨83, slk [(0, a0), (1, a1), (2, a2)], bx⟩) : AbsCall Tryd.prog 23 [a0, a1, a2] bx Kc := abs_of (by kernel_rfl) Tryd.func23 Tryd.comp23 Tryd.en23 Tryd.nt23 Tryd.rs23 (fun hb => by rw [initSt_3]; exact h hb)
noncomputable def Tryd.L24_0 : PC := .seq (.reg false [⟨some 35, Go.Op.binOp Go.BinOp.lss 3 (Go.Operand.tmp 34) (Go.Operand.tmp 33) 3, none, false⟩] [8, 32, 33, 34, 35]) (.seq (.cond (Go.Operand.tmp 35) (.skip) (.exit 0)) (.seq (.block 1 (.seq (.reg false [⟨some 36, Go.Op.indexAddr 33 (Go.Operand.tmp 32) (Go.Operand.tmp 34), none, false⟩,
    ⟨some 37, Go.Op.load 57 (Go.Operand.tmp 36), none, false⟩,
    ⟨some 10, Go.Op.alloc 57, none, false⟩,
    ⟨none, Go.Op.store 57 (Go.Operand.tmp 10) (Go.Operand.tmp 37), none, false⟩] [8, 10, 32, 33, 34]) (.fz 10 (.seq (.reg false [⟨some 38, Go.Op.move (Go.Operand.tmp 8), none, false⟩,
    ⟨some 39, Go.Op.fieldAddr 57 (Go.Operand.tmp 10) 1, none, false⟩,
    ⟨some 40, Go.Op.load 3 (Go.Operand.tmp 39), none, false⟩,
    ⟨some 41, Go.Op.call { callee := Go.Callee.value (Go.Operand.func 40), args := #[Go.Operand.tmp 38, Go.Operand.tmp 40], argTypes := #[32, 3] }, none, false⟩,
    ⟨some 42, Go.Op.unOp Go.UnOp.not 4 (Go.Operand.tmp 41), none, false⟩] [8, 10, 32, 33, 34, 42]) (.cond (Go.Operand.tmp 42) (.reg false [⟨some 43, Go.Op.move (Go.Operand.tmp 8), none, false⟩,
    ⟨some 44, Go.Op.fieldAddr 57 (Go.Operand.tmp 10) 1, none, false⟩,
    ⟨some 45, Go.Op.load 3 (Go.Operand.tmp 44), none, false⟩,
    ⟨some 46, Go.Op.buildSlice 32 1 #[(0, Go.Operand.tmp 45)], none, true⟩,
    ⟨some 47, Go.Op.call { callee := Go.Callee.builtin Go.Builtin.append, args := #[Go.Operand.tmp 43, Go.Operand.tmp 46], argTypes := #[32, 32] }, none, false⟩,
    ⟨some 8, Go.Op.assign (Go.Operand.tmp 47), none, false⟩] [8, 32, 33, 34]) (.skip)))))) (.reg false [⟨some 48, Go.Op.binOp Go.BinOp.add 3 (Go.Operand.tmp 34) (Go.Operand.const (Go.Value.int Go.IntKind.i64 1)) 3, none, false⟩,
    ⟨some 34, Go.Op.move (Go.Operand.tmp 48), none, false⟩] [8, 32, 33, 34])))
noncomputable def Tryd.C24 : PC := .seq (.reg false [⟨some 2, Go.Op.box 35 (Go.Operand.tmp 0), none, true⟩,
    ⟨some 4, Go.Op.assign (Go.Operand.const (Go.Value.slice none 0 0)), none, false⟩,
    ⟨some 5, Go.Op.assign (Go.Operand.const (Go.Value.int Go.IntKind.i64 0)), none, false⟩] [1, 2]) (.seq (.seq (.reg false [⟨some 11, Go.Op.load 35 (Go.Operand.tmp 2), none, false⟩,
    ⟨some 12, Go.Op.move (Go.Operand.tmp 1), none, false⟩,
    ⟨some 13, Go.Op.buildSlice 31 1 #[(0, Go.Operand.tmp 12)], none, true⟩,
    ⟨some 14, Go.Op.call { callee := Go.Callee.value (Go.Operand.func 37), args := #[Go.Operand.tmp 11, Go.Operand.tmp 13], argTypes := #[35, 31] }, none, false⟩,
    ⟨some 6, Go.Op.assign (Go.Operand.tmp 14), none, false⟩] [1, 2, 6]) (.seq (.reg false [⟨some 15, Go.Op.move (Go.Operand.tmp 6), none, false⟩,
    ⟨some 16, Go.Op.binOp Go.BinOp.neq 38 (Go.Operand.tmp 15) (Go.Operand.const (Go.Value.int Go.IntKind.i64 0)) 38, none, false⟩] [1, 2, 6, 16]) (.cond (Go.Operand.tmp 16) (.seq (.reg false [⟨some 17, Go.Op.move (Go.Operand.tmp 6), none, false⟩,
    ⟨some 4, Go.Op.assign (Go.Operand.const (Go.Value.slice none 0 0)), none, false⟩,
    ⟨some 5, Go.Op.assign (Go.Operand.tmp 17), none, false⟩] [4, 5]) (.ret)) (.skip)))) (.seq (.reg true [⟨some 18, Go.Op.load 35 (Go.Operand.tmp 2), none, false⟩,
    ⟨some 19, Go.Op.move (Go.Operand.tmp 1), none, false⟩,
    ⟨some 20, Go.Op.convert 9 22 (Go.Operand.tmp 19), none, false⟩,
    ⟨some 21, Go.Op.call { callee := Go.Callee.value (Go.Operand.func 9), args := #[Go.Operand.tmp 20], argTypes := #[22] }, none, false⟩,
    ⟨some 22, Go.Op.call { callee := Go.Callee.value (Go.Operand.func 38), args := #[Go.Operand.tmp 18, Go.Operand.tmp 21], argTypes := #[35, 25] }, none, false⟩,
    ⟨some 7, Go.Op.assign (Go.Operand.tmp 22), none, false⟩] [2, 7]) (.seq (.reg false [⟨some 8, Go.Op.assign (Go.Operand.const (Go.Value.slice none 0 0)), none, false⟩] [2, 7, 8]) (.seq (.seq (.reg true [⟨some 23, Go.Op.fieldAddr 35 (Go.Operand.tmp 2) 3, none, false⟩,
    ⟨some 24, Go.Op.load 33 (Go.Operand.tmp 23), none, false⟩,
    ⟨some 25, Go.Op.move (Go.Operand.tmp 7), none, false⟩,
    ⟨some 26, Go.Op.slice 33 (Go.Operand.tmp 24) (some (Go.Operand.tmp 25)) none none, none, false⟩,
    ⟨some 27, Go.Op.fieldAddr 35 (Go.Operand.tmp 2) 3, none, false⟩,
    ⟨some 28, Go.Op.load 33 (Go.Operand.tmp 27), none, false⟩,
    ⟨some 29, Go.Op.move (Go.Operand.tmp 7), none, false⟩,
    ⟨some 30, Go.Op.slice 33 (Go.Operand.tmp 28) none (some (Go.Operand.tmp 29)) none, none, false⟩,
    ⟨some 31, Go.Op.buildSlice 92 2 #[(0, Go.Operand.tmp 26), (1, Go.Operand.tmp 30)], none, false⟩,
    ⟨some 32, Go.Op.call { callee := Go.Callee.value (Go.Operand.func 39), args := #[Go.Operand.tmp 31], argTypes := #[92] }, none, false⟩,
    ⟨some 33, Go.Op.call { callee := Go.Callee.builtin Go.Builtin.len, args := #[Go.Operand.tmp 32], argTypes := #[33] }, none, false⟩,
    ⟨some 34, Go.Op.move (Go.Operand.const (Go.Value.int Go.IntKind.i64 0)), none, false⟩] [8, 32, 33, 34]) (.block 0 (.loop Tryd.L24_0))) (.seq (.reg false [⟨some 49, Go.Op.move (Go.Operand.tmp 8), none, false⟩,
    ⟨some 4, Go.Op.assign (Go.Operand.tmp 49), none, false⟩,
    ⟨some 5, Go.Op.assign (Go.Operand.const (Go.Value.int Go.IntKind.i64 0)), none, false⟩] [4, 5]) (.ret))))))
theorem Tryd.comp24 : ∃ c, Tryd.f24.body = some c ∧ compile c = erase Tryd.C24 := ⟨_, rfl, by kernel_rfl⟩
theorem Tryd.rs24 : Tryd.f24.results.toList = [Go.ResultVar.tmp 4, Go.ResultVar.tmp 5] := by kernel_rfl
theorem Tryd.nt24 : Tryd.f24.ntmps = 50 := by kernel_rfl
theorem Tryd.en24 : ∀ vs w, (callFunc 24 vs).run Tryd.prog w = .ok (.enter 24 vs) w := enters_of Tryd.func24 (by kernel_rfl) rfl
theorem Tryd.ctr24 {a0 a1 : V} {bx : Boxes} {Kc : V → Boxes → Prop} (h : FinB bx → pw Tryd.prog Tryd.C24 (retQ Tryd.prog [Go.ResultVar.tmp 4, Go.ResultVar.tmp 5] Kc) ⟨50, slk [(0, a0), (1, a1)], bx⟩) : AbsCall Tryd.prog 24 [a0, a1] bx Kc := abs_of (by kernel_rfl) Tryd.func24 Tryd.comp24 Tryd.en24 Tryd.nt24 Tryd.rs24 (fun hb => by rw [initSt_2]; exact h hb)
noncomputable def Tryd.L25_0 : PC := .seq (.reg false [⟨some 12, Go.Op.binOp Go.BinOp.lss 3 (Go.Operand.tmp 11) (Go.Operand.tmp 10) 3, none, false⟩] [0, 1, 9, 10, 11, 12]) (.seq (.cond (Go.Operand.tmp 12) (.skip) (.exit 0)) (.seq (.block 1 (.seq (.reg false [⟨some 13, Go.Op.indexAddr 22 (Go.Operand.tmp 9) (Go.Operand.tmp 11), none, false⟩,
    ⟨some 14, Go.Op.load 5 (Go.Operand.tmp 13), none, false⟩,
    ⟨some 8, Go.Op.assign (Go.Operand.tmp 14), none, false⟩] [0, 1, 8, 9, 10, 11]) (.seq (.reg false [⟨some 15, Go.Op.move (Go.Operand.tmp 0), none, false⟩,
    ⟨some 16, Go.Op.move (Go.Operand.tmp 8), none, false⟩,
    ⟨some 17, Go.Op.convert 5 25 (Go.Operand.tmp 16), none, false⟩,
    ⟨some 18, Go.Op.binOp Go.BinOp.xor 25 (Go.Operand.tmp 15) (Go.Operand.tmp 17) 25, none, false⟩,
    ⟨some 0, Go.Op.assign (Go.Operand.tmp 18), none, false⟩] [0, 1, 9, 10, 11]) (.reg false [⟨some 19, Go.Op.move (Go.Operand.tmp 0), none, false⟩,
    ⟨some 20, Go.Op.move (Go.Operand.tmp 1), none, false⟩,
    ⟨some 21, Go.Op.binOp Go.BinOp.mul 25 (Go.Operand.tmp 19) (Go.Operand.tmp 20) 25, none, false⟩,
    ⟨some 0, Go.Op.assign (Go.Operand.tmp 21), none, false⟩] [0, 1, 9, 10, 11])))) (.reg false [⟨some 22, Go.Op.binOp Go.BinOp.add 3 (Go.Operand.tmp 11) (Go.Operand.const (Go.Value.int Go.IntKind.i64 1)) 3, none, false⟩,
    ⟨some 11, Go.Op.move (Go.Operand.tmp 22), none, false⟩] [0, 1, 9, 10, 11])))
noncomputable def Tryd.C25 : PC := .seq (.reg false [⟨some 6, Go.Op.assign (Go.Operand.const (Go.Value.int Go.IntKind.u32 0)), none, false⟩] [0, 1, 2]) (.seq (.seq (.reg false [⟨some 9, Go.Op.move (Go.Operand.tmp 2), none, false⟩,
    ⟨some 10, Go.Op.call { callee := Go.Callee.builtin Go.Builtin.len, args := #[Go.Operand.tmp 9], argTypes := #[22] }, none, false⟩,
    ⟨some 11, Go.Op.move (Go.Operand.const (Go.Value.int Go.IntKind.i64 0)), none, false⟩] [0, 1, 9, 10, 11]) (.block 0 (.loop Tryd.L25_0))) (.seq (.reg false [⟨some 23, Go.Op.move (Go.Operand.tmp 0), none, false⟩,
    ⟨some 6, Go.Op.assign (Go.Operand.tmp 23), none, false⟩] [6]) (.ret)))
theorem Tryd.comp25 : ∃ c, Tryd.f25.body = some c ∧ compile c = erase Tryd.C25 := ⟨_, rfl, by kernel_rfl⟩
theorem Tryd.rs25 : Tryd.f25.results.toList = [Go.ResultVar.tmp 6] := by kernel_rfl
theorem Tryd.nt25 : Tryd.f25.ntmps = 24 := by kernel_rfl
theorem Tryd.en25 : ∀ vs w, (callFunc 25 vs).run Tryd.prog w = .ok (.enter 25 vs) w := enters_of Tryd.func25 (by kernel_rfl) rfl
theorem Tryd.ctr25 {a0 a1 a2 : V} {bx : Boxes} {Kc : V → Boxes → Prop} (h : FinB bx → pw Tryd.prog Tryd.C25 (retQ Tryd.prog [Go.ResultVar.tmp 6] Kc) ⟨24, slk [(0, a0), (1, a1), (2, a2)], bx⟩) : AbsCall Tryd.prog 25 [a0, a1, a2] bx Kc := abs_of (by kernel_rfl) Tryd.func25 Tryd.comp25 Tryd.en25 Tryd.nt25 Tryd.rs25 (fun hb => by rw [initSt_3]; exact h hb)
noncomputable def Tryd.L26_0 : PC := .seq (.reg false [⟨some 12, Go.Op.binOp Go.BinOp.lss 3 (Go.Operand.tmp 11) (Go.Operand.tmp 10) 3, none, false⟩] [0, 1, 9, 10, 11, 12]) (.seq (.cond (Go.Operand.tmp 12) (.skip) (.exit 0)) (.seq (.block 1 (.seq (.reg false [⟨some 13, Go.Op.indexAddr 22 (Go.Operand.tmp 9) (Go.Operand.tmp 11), none, false⟩,
    ⟨some 14, Go.Op.load 5 (Go.Operand.tmp 13), none, false⟩,
    ⟨some 8, Go.Op.assign (Go.Operand.tmp 14), none, false⟩] [0, 1, 8, 9, 10, 11]) (.seq (.reg false [⟨some 15, Go.Op.move (Go.Operand.tmp 0), none, false⟩,
    ⟨some 16, Go.Op.move (Go.Operand.tmp 8), none, false⟩,
    ⟨some 17, Go.Op.convert 5 23 (Go.Operand.tmp 16), none, false⟩,
    ⟨some 18, Go.Op.binOp Go.BinOp.xor 23 (Go.Operand.tmp 15) (Go.Operand.tmp 17) 23, none, false⟩,
    ⟨some 0, Go.Op.assign (Go.Operand.tmp 18), none, false⟩] [0, 1, 9, 10, 11]) (.reg false [⟨some 19, Go.Op.move (Go.Operand.tmp 0), none, false⟩,
    ⟨some 20, Go.Op.move (Go.Operand.tmp 1), none, false⟩,
    ⟨some 21, Go.Op.binOp Go.BinOp.mul 23 (Go.Operand.tmp 19) (Go.Operand.tmp 20) 23, none, false⟩,
    ⟨some 0, Go.Op.assign (Go.Operand.tmp 21), none, false⟩] [0, 1, 9, 10, 11])))) (.reg false [⟨some 22, Go.Op.binOp Go.BinOp.add 3 (Go.Operand.tmp 11) (Go.Operand.const (Go.Value.int Go.IntKind.i64 1)) 3, none, false⟩,
    ⟨some 11, Go.Op.move (Go.Operand.tmp 22), none, false⟩] [0, 1, 9, 10, 11])))
noncomputable def Tryd.C26 : PC := .seq (.reg false [⟨some 6, Go.Op.assign (Go.Operand.const (Go.Value.int Go.IntKind.u64 0)), none, false⟩] [0, 1, 2]) (.seq (.seq (.reg false [⟨some 9, Go.Op.move (Go.Operand.tmp 2), none, false⟩,
    ⟨some 10, Go.Op.call { callee := Go.Callee.builtin Go.Builtin.len, args := #[Go.Operand.tmp 9], argTypes := #[22] }, none, false⟩,
    ⟨some 11, Go.Op.move (Go.Operand.const (Go.Value.int Go.IntKind.i64 0)), none, false⟩] [0, 1, 9, 10, 11]) (.block 0 (.loop Tryd.L26_0))) (.seq (.reg false [⟨some 23, Go.Op.move (Go.Operand.tmp 0), none, false⟩,
    ⟨some 6, Go.Op.assign (Go.Operand.tmp 23), none, false⟩] [6]) (.ret)))
theorem Tryd.comp26 : ∃ c, Tryd.f26.body = some c ∧ compile c = erase Tryd.C26 := ⟨_, rfl, by kernel_rfl⟩
theorem Tryd.rs26 : Tryd.f26.results.toList = [Go.ResultVar.tmp 6] := by kernel_rfl
theorem Tryd.nt26 : Tryd.f26.ntmps = 24 := by kernel_rfl
theorem Tryd.en26 : ∀ vs w, (callFunc 26 vs).run Tryd.prog w = .ok (.enter 26 vs) w := enters_of Tryd.func26 (by kernel_rfl) rfl
theorem Tryd.ctr26 {a0 a1 a2 : V} {bx : Boxes} {Kc : V → Boxes → Prop} (h : FinB bx → pw Tryd.prog Tryd.C26 (retQ Tryd.prog [Go.ResultVar.tmp 6] Kc) ⟨24, slk [(0, a0), (1, a1), (2, a2)], bx⟩) : AbsCall Tryd.prog 26 [a0, a1, a2] bx Kc := abs_of (by kernel_rfl) Tryd.func26 Tryd.comp26 Tryd.en26 Tryd.nt26 Tryd.rs26 (fun hb => by rw [initSt_3]; exact h hb)
noncomputable def Tryd.L27_0 : PC := .seq (.reg false [⟨some 14, Go.Op.binOp Go.BinOp.lss 3 (Go.Operand.tmp 13) (Go.Operand.tmp 12) 3, none, false⟩] [0, 1, 12, 13, 14]) (.seq (.cond (Go.Operand.tmp 14) (.skip) (.exit 0)) (.seq (.block 1 (.seq (.reg false [⟨some 15, Go.Op.move (Go.Operand.tmp 13), none, false⟩,
    ⟨some 5, Go.Op.assign (Go.Operand.tmp 15), none, false⟩] [0, 1, 5, 12, 13]) (.seq (.reg true [⟨some 16, Go.Op.move (Go.Operand.tmp 0), none, false⟩,
    ⟨some 17, Go.Op.move (Go.Operand.tmp 5), none, false⟩,
    ⟨some 18, Go.Op.indexAddr 33 (Go.Operand.tmp 16) (Go.Operand.tmp 17), none, false⟩,
    ⟨some 19, Go.Op.load 57 (Go.Operand.tmp 18), none, false⟩,
    ⟨some 20, Go.Op.move (Go.Operand.tmp 1), none, false⟩,
    ⟨some 21, Go.Op.move (Go.Operand.tmp 5), none, false⟩,
    ⟨some 22, Go.Op.indexAddr 33 (Go.Operand.tmp 20) (Go.Operand.tmp 21), none, false⟩,
    ⟨some 23, Go.Op.load 57 (Go.Operand.tmp 22), none, false⟩,
    ⟨some 24, Go.Op.binOp Go.BinOp.neq 57 (Go.Operand.tmp 19) (Go.Operand.tmp 23) 57, none, false⟩] [0, 1, 12, 13, 24]) (.cond (Go.Operand.tmp 24) (.seq (.reg false [⟨some 4, Go.Op.assign (Go.Operand.const (Go.Value.bool false)), none, false⟩] [4]) (.ret)) (.skip))))) (.reg false [⟨some 25, Go.Op.binOp Go.BinOp.add 3 (Go.Operand.tmp 13) (Go.Operand.const (Go.Value.int Go.IntKind.i64 1)) 3, none, false⟩,
    ⟨some 13, Go.Op.move (Go.Operand.tmp 25), none, false⟩] [0, 1, 12, 13])))
noncomputable def Tryd.C27 : PC := .seq (.reg false [⟨some 4, Go.Op.assign (Go.Operand.const (Go.Value.bool false)), none, false⟩] [0, 1]) (.seq (.seq (.reg false [⟨some 6, Go.Op.move (Go.Operand.tmp 0), none, false⟩,
    ⟨some 7, Go.Op.call { callee := Go.Callee.builtin Go.Builtin.len, args := #[Go.Operand.tmp 6], argTypes := #[33] }, none, false⟩,
    ⟨some 8, Go.Op.move (Go.Operand.tmp 1), none, false⟩,
    ⟨some 9, Go.Op.call { callee := Go.Callee.builtin Go.Builtin.len, args := #[Go.Operand.tmp 8], argTypes := #[33] }, none, false⟩,
    ⟨some 10, Go.Op.binOp Go.BinOp.neq 3 (Go.Operand.tmp 7) (Go.Operand.tmp 9) 3, none, false⟩] [0, 1, 10]) (.cond (Go.Operand.tmp 10) (.seq (.reg false [⟨some 4, Go.Op.assign (Go.Operand.const (Go.Value.bool false)), none, false⟩] [4]) (.ret)) (.skip))) (.seq (.seq (.reg false [⟨some 11, Go.Op.move (Go.Operand.tmp 0), none, false⟩,
    ⟨some 12, Go.Op.call { callee := Go.Callee.builtin Go.Builtin.len, args := #[Go.Operand.tmp 11], argTypes := #[33] }, none, false⟩,
    ⟨some 13, Go.Op.move (Go.Operand.const (Go.Value.int Go.IntKind.i64 0)), none, false⟩] [0, 1, 12, 13]) (.block 0 (.loop Tryd.L27_0))) (.seq (.reg false [⟨some 4, Go.Op.assign (Go.Operand.const (Go.Value.bool true)), none, false⟩] [4]) (.ret))))
theorem Tryd.comp27 : ∃ c, Tryd.f27.body = some c ∧ compile c = erase Tryd.C27 := ⟨_, rfl, by kernel_rfl⟩
theorem Tryd.rs27 : Tryd.f27.results.toList = [Go.ResultVar.tmp 4] := by kernel_rfl
theorem Tryd.nt27 : Tryd.f27.ntmps = 26 := by kernel_rfl
theorem Tryd.en27 : ∀ vs w, (callFunc 27 vs).run Tryd.prog w = .ok (.enter 27 vs) w := enters_of Tryd.func27 (by kernel_rfl) rfl
theorem Tryd.ctr27 {a0 a1 : V} {bx : Boxes} {Kc : V → Boxes → Prop} (h : FinB bx → pw Tryd.prog Tryd.C27 (retQ Tryd.prog [Go.ResultVar.tmp 4] Kc) ⟨26, slk [(0, a0), (1, a1)], bx⟩) : AbsCall Tryd.prog 27 [a0, a1] bx Kc := abs_of (by kernel_rfl) Tryd.func27 Tryd.comp27 Tryd.en27 Tryd.nt27 Tryd.rs27 (fun hb => by rw [initSt_2]; exact h hb)
noncomputable def Tryd.L28_0 : PC := .seq (.reg false [⟨some 56, Go.Op.binOp Go.BinOp.lss 3 (Go.Operand.tmp 55) (Go.Operand.tmp 54) 3, none, false⟩] [2, 10, 53, 54, 55, 56]) (.seq (.cond (Go.Operand.tmp 56) (.skip) (.exit 1)) (.seq (.block 2 (.seq (.reg false [⟨some 57, Go.Op.indexAddr 32 (Go.Operand.tmp 53) (Go.Operand.tmp 55), none, false⟩,
    ⟨some 58, Go.Op.load 3 (Go.Operand.tmp 57), none, false⟩,
    ⟨some 12, Go.Op.assign (Go.Operand.tmp 58), none, false⟩] [2, 10, 12, 53, 54, 55]) (.reg false [⟨some 59, Go.Op.move (Go.Operand.tmp 10), none, false⟩,
    ⟨some 60, Go.Op.move (Go.Operand.tmp 12), none, false⟩,
    ⟨some 61, Go.Op.move (Go.Operand.tmp 2), none, false⟩,
    ⟨some 62, Go.Op.binOp Go.BinOp.mul 3 (Go.Operand.tmp 60) (Go.Operand.tmp 61) 3, none, false⟩,
    ⟨some 63, Go.Op.binOp Go.BinOp.add 3 (Go.Operand.tmp 59) (Go.Operand.tmp 62) 3, none, false⟩,
    ⟨some 10, Go.Op.assign (Go.Operand.tmp 63), none, false⟩] [2, 10, 53, 54, 55]))) (.reg false [⟨some 64, Go.Op.binOp Go.BinOp.add 3 (Go.Operand.tmp 55) (Go.Operand.const (Go.Value.int Go.IntKind.i64 1)) 3, none, false⟩,
    ⟨some 55, Go.Op.move (Go.Operand.tmp 64), none, false⟩] [2, 10, 53, 54, 55])))
noncomputable def Tryd.C28 : PC := .seq (.reg false [⟨some 6, Go.Op.assign (Go.Operand.const (Go.Value.int Go.IntKind.i64 0)), none, false⟩] [0, 1, 2]) (.seq (.reg false [⟨some 7, Go.Op.assign (Go.Operand.func 41), none, false⟩] [0, 1, 2, 7]) (.seq (.reg false [⟨some 8, Go.Op.assign (Go.Operand.func 42), none, false⟩] [0, 1, 2, 7, 8]) (.seq (.block 0 (.seq (.reg false [⟨some 14, Go.Op.move (Go.Operand.tmp 0), none, false⟩,
    ⟨some 15, Go.Op.call { callee := Go.Callee.builtin Go.Builtin.len, args := #[Go.Operand.tmp 14], argTypes := #[31] }, none, false⟩,
    ⟨some 16, Go.Op.binOp Go.BinOp.eql 3 (Go.Operand.tmp 15) (Go.Operand.const (Go.Value.int Go.IntKind.i64 0)) 3, none, false⟩,
    ⟨some 17, Go.Op.move (Go.Operand.tmp 16), none, false⟩,
    ⟨some 18, Go.Op.move (Go.Operand.tmp 0), some (17, false), false⟩,
    ⟨some 19, Go.Op.call { callee := Go.Callee.builtin Go.Builtin.len, args := #[Go.Operand.tmp 18], argTypes := #[31] }, some (17, false), false⟩,
    ⟨some 20, Go.Op.binOp Go.BinOp.gtr 3 (Go.Operand.tmp 19) (Go.Operand.const (Go.Value.int Go.IntKind.i64 16)) 3, some (17, false), false⟩,
    ⟨some 21, Go.Op.pick (Go.Operand.tmp 17) (Go.Operand.const (Go.Value.bool true)) (Go.Operand.tmp 20), none, false⟩,
    ⟨some 13, Go.Op.assign (Go.Operand.tmp 21), none, false⟩] [0, 1, 2, 7, 8, 13]) (.cond (Go.Operand.tmp 13) (.seq (.reg false [⟨some 6, Go.Op.assign (Go.Operand.const (Go.Value.int Go.IntKind.i64 3)), none, false⟩] [6]) (.ret)) (.seq (.reg false [⟨some 23, Go.Op.move (Go.Operand.tmp 1), none, false⟩,
    ⟨some 24, Go.Op.call { callee := Go.Callee.builtin Go.Builtin.len, args := #[Go.Operand.tmp 23], argTypes := #[32] }, none, false⟩,
    ⟨some 25, Go.Op.move (Go.Operand.tmp 0), none, false⟩,
    ⟨some 26, Go.Op.call { callee := Go.Callee.builtin Go.Builtin.len, args := #[Go.Operand.tmp 25], argTypes := #[31] }, none, false⟩,
    ⟨some 27, Go.Op.binOp Go.BinOp.neq 3 (Go.Operand.tmp 24) (Go.Operand.tmp 26) 3, none, false⟩,
    ⟨some 22, Go.Op.assign (Go.Operand.tmp 27), none, false⟩] [0, 1, 2, 7, 8, 22]) (.cond (Go.Operand.tmp 22) (.seq (.reg false [⟨some 6, Go.Op.assign (Go.Operand.const (Go.Value.int Go.IntKind.i64 2)), none, false⟩] [6]) (.ret)) (.seq (.reg false [⟨some 29, Go.Op.move (Go.Operand.tmp 2), none, false⟩,
    ⟨some 30, Go.Op.binOp Go.BinOp.lss 3 (Go.Operand.tmp 29) (Go.Operand.const (Go.Value.int Go.IntKind.i64 1)) 3, none, false⟩,
    ⟨some 31, Go.Op.move (Go.Operand.tmp 30), none, false⟩,
    ⟨some 32, Go.Op.move (Go.Operand.tmp 2), some (31, false), false⟩,
    ⟨some 33, Go.Op.binOp Go.BinOp.gtr 3 (Go.Operand.tmp 32) (Go.Operand.const (Go.Value.int Go.IntKind.i64 100)) 3, some (31, false), false⟩,
    ⟨some 34, Go.Op.pick (Go.Operand.tmp 31) (Go.Operand.const (Go.Value.bool true)) (Go.Operand.tmp 33), none, false⟩,
    ⟨some 35, Go.Op.move (Go.Operand.tmp 34), none, false⟩,
    ⟨some 36, Go.Op.move (Go.Operand.tmp 1), some (35, false), false⟩,
    ⟨some 37, Go.Op.move (Go.Operand.tmp 7), some (35, false), false⟩,
    ⟨some 38, Go.Op.call { callee := Go.Callee.value (Go.Operand.func 45), args := #[Go.Operand.tmp 36, Go.Operand.tmp 37], argTypes := #[32, 75] }, some (35, false), false⟩,
    ⟨some 39, Go.Op.pick (Go.Operand.tmp 35) (Go.Operand.const (Go.Value.bool true)) (Go.Operand.tmp 38), none, false⟩,
    ⟨some 28, Go.Op.assign (Go.Operand.tmp 39), none, false⟩] [0, 1, 2, 8, 28]) (.cond (Go.Operand.tmp 28) (.seq (.reg false [⟨some 6, Go.Op.assign (Go.Operand.const (Go.Value.int Go.IntKind.i64 7)), none, false⟩] [6]) (.ret)) (.seq (.reg false [⟨some 41, Go.Op.move (Go.Operand.tmp 0), none, false⟩,
    ⟨some 42, Go.Op.move (Go.Operand.tmp 8), none, false⟩,
    ⟨some 43, Go.Op.call { callee := Go.Callee.value (Go.Operand.func 46), args := #[Go.Operand.tmp 41, Go.Operand.tmp 42], argTypes := #[31, 78] }, none, false⟩,
    ⟨some 40, Go.Op.assign (Go.Operand.tmp 43), none, false⟩] [0, 1, 2, 40]) (.cond (Go.Operand.tmp 40) (.seq (.reg false [⟨some 6, Go.Op.assign (Go.Operand.const (Go.Value.int Go.IntKind.i64 6)), none, false⟩] [6]) (.ret)) (.skip)))))))))) (.seq (.reg false [⟨some 44, Go.Op.move (Go.Operand.tmp 0), none, false⟩,
    ⟨some 45, Go.Op.call { callee := Go.Callee.value (Go.Operand.func 48), args := #[Go.Operand.tmp 44], argTypes := #[31] }, none, false⟩,
    ⟨some 46, Go.Op.call { callee := Go.Callee.value (Go.Operand.func 47), args := #[Go.Operand.tmp 45], argTypes := #[83] }, none, false⟩,
    ⟨some 9, Go.Op.assign (Go.Operand.tmp 46), none, false⟩] [0, 1, 2, 9]) (.seq (.seq (.reg false [⟨some 47, Go.Op.move (Go.Operand.tmp 9), none, false⟩,
    ⟨some 48, Go.Op.call { callee := Go.Callee.value (Go.Operand.func 49), args := #[Go.Operand.tmp 47], argTypes := #[31] }, none, false⟩,
    ⟨some 49, Go.Op.call { callee := Go.Callee.builtin Go.Builtin.len, args := #[Go.Operand.tmp 48], argTypes := #[31] }, none, false⟩,
    ⟨some 50, Go.Op.move (Go.Operand.tmp 0), none, false⟩,
    ⟨some 51, Go.Op.call { callee := Go.Callee.builtin Go.Builtin.len, args := #[Go.Operand.tmp 50], argTypes := #[31] }, none, false⟩,
    ⟨some 52, Go.Op.binOp Go.BinOp.lss 3 (Go.Operand.tmp 49) (Go.Operand.tmp 51) 3, none, false⟩] [1, 2, 52]) (.cond (Go.Operand.tmp 52) (.seq (.reg false [⟨some 6, Go.Op.assign (Go.Operand.const (Go.Value.int Go.IntKind.i64 8)), none, false⟩] [6]) (.ret)) (.skip))) (.seq (.reg false [⟨some 10, Go.Op.assign (Go.Operand.const (Go.Value.int Go.IntKind.i64 0)), none, false⟩] [1, 2, 10]) (.seq (.seq (.reg false [⟨some 53, Go.Op.move (Go.Operand.tmp 1), none, false⟩,
    ⟨some 54, Go.Op.call { callee := Go.Callee.builtin Go.Builtin.len, args := #[Go.Operand.tmp 53], argTypes := #[32] }, none, false⟩,
    ⟨some 55, Go.Op.move (Go.Operand.const (Go.Value.int Go.IntKind.i64 0)), none, false⟩] [2, 10, 53, 54, 55]) (.block 1 (.loop Tryd.L28_0))) (.seq (.seq (.reg false [⟨some 65, Go.Op.move (Go.Operand.tmp 10), none, false⟩,
    ⟨some 66, Go.Op.binOp Go.BinOp.gtr 3 (Go.Operand.tmp 65) (Go.Operand.const (Go.Value.int Go.IntKind.i64 4096)) 3, none, false⟩] [66]) (.cond (Go.Operand.tmp 66) (.seq (.reg false [⟨some 6, Go.Op.assign (Go.Operand.const (Go.Value.int Go.IntKind.i64 3)), none, false⟩] [6]) (.ret)) (.skip))) (.seq (.reg false [⟨some 6, Go.Op.assign (Go.Operand.const (Go.Value.int Go.IntKind.i64 0)), none, false⟩] [6]) (.ret))))))))))
theorem Tryd.comp28 : ∃ c, Tryd.f28.body = some c ∧ compile c = erase Tryd.C28 := ⟨_, rfl, by kernel_rfl⟩
theorem Tryd.rs28 : Tryd.f28.results.toList = [Go.ResultVar.tmp 6] := by kernel_rfl
theorem Tryd.nt28 : Tryd.f28.ntmps = 67 := by kernel_rfl
theorem Tryd.en28 : ∀ vs w, (callFunc 28 vs).run Tryd.prog w = .ok (.enter 28 vs) w := enters_of Tryd.func28 (by kernel_rfl) rfl
theorem Tryd.ctr28 {a0 a1 a2 : V} {bx : Boxes} {Kc : V → Boxes → Prop} (h : FinB bx → pw Tryd.prog Tryd.C28 (retQ Tryd.prog [Go.ResultVar.tmp 6] Kc) ⟨67, slk [(0, a0), (1, a1), (2, a2)], bx⟩) : AbsCall Tryd.prog 28 [a0, a1, a2] bx Kc := abs_of (by kernel_rfl) Tryd.func28 Tryd.comp28 Tryd.en28 Tryd.nt28 Tryd.rs28 (fun hb => by rw [initSt_3]; exact h hb)
noncomputable def Tryd.C29 : PC := .seq (.reg false [⟨some 2, Go.Op.assign (Go.Operand.const (Go.Value.slice none 0 0)), none, false⟩] [0]) (.seq (.seq (.reg false [⟨some 3, Go.Op.move (Go.Operand.tmp 0), none, false⟩,
    ⟨some 4, Go.Op.binOp Go.BinOp.eql 31 (Go.Operand.tmp 3) (Go.Operand.const (Go.Value.slice none 0 0)) 31, none, true⟩] [0, 4]) (.cond (Go.Operand.tmp 4) (.seq (.reg false [⟨some 2, Go.Op.assign (Go.Operand.const (Go.Value.slice none 0 0)), none, false⟩] [2]) (.ret)) (.skip))) (.seq (.reg false [⟨some 5, Go.Op.buildSlice 31 0 #[], none, false⟩,
    ⟨some 6, Go.Op.move (Go.Operand.tmp 0), none, false⟩,
    ⟨some 7, Go.Op.call { callee := Go.Callee.builtin Go.Builtin.append, args := #[Go.Operand.tmp 5, Go.Operand.tmp 6], argTypes := #[31, 31] }, none, false⟩,
    ⟨some 2, Go.Op.assign (Go.Operand.tmp 7), none, false⟩] [2]) (.ret)))
theorem Tryd.comp29 : ∃ c, Tryd.f29.body = some c ∧ compile c = erase Tryd.C29 := ⟨_, rfl, by kernel_rfl⟩
theorem Tryd.rs29 : Tryd.f29.results.toList = [Go.ResultVar.tmp 2] := by kernel_rfl
theorem Tryd.nt29 : Tryd.f29.ntmps = 8 := by kernel_rfl
theorem Tryd.en29 : ∀ vs w, (callFunc 29 vs).run Tryd.prog w = .ok (.enter 29 vs) w := enters_of Tryd.func29 (by kernel_rfl) rfl
theorem Tryd.ctr29 {a0 : V} {bx : Boxes} {Kc : V → Boxes → Prop} (h : FinB bx → pw Tryd.prog Tryd.C29 (retQ Tryd.prog [Go.ResultVar.tmp 2] Kc) ⟨8, slk [(0, a0)], bx⟩) : AbsCall Tryd.prog 29 [a0] bx Kc := abs_of (by kernel_rfl) Tryd.func29 Tryd.comp29 Tryd.en29 Tryd.nt29 Tryd.rs29 (fun hb => by rw [initSt_1]; exact h hb)
noncomputable def Tryd.C30 : PC := .seq (.reg false [⟨some 2, Go.Op.assign (Go.Operand.const (Go.Value.slice none 0 0)), none, false⟩] [0]) (.seq (.seq (.reg false [⟨some 3, Go.Op.move (Go.Operand.tmp 0), none, false⟩,
    ⟨some 4, Go.Op.binOp Go.BinOp.eql 32 (Go.Operand.tmp 3) (Go.Operand.const (Go.Value.slice none 0 0)) 32, none, true⟩] [0, 4]) (.cond (Go.Operand.tmp 4) (.seq (.reg false [⟨some 2, Go.Op.assign (Go.Operand.const (Go.Value.slice none 0 0)), none, false⟩] [2]) (.ret)) (.skip))) (.seq (.reg false [⟨some 5, Go.Op.buildSlice 32 0 #[], none, false⟩,
    ⟨some 6, Go.Op.move (Go.Operand.tmp 0), none, false⟩,
    ⟨some 7, Go.Op.call { callee := Go.Callee.builtin Go.Builtin.append, args := #[Go.Operand.tmp 5, Go.Operand.tmp 6], argTypes := #[32, 32] }, none, false⟩,
    ⟨some 2, Go.Op.assign (Go.Operand.tmp 7), none, false⟩] [2]) (.ret)))
theorem Tryd.comp30 : ∃ c, Tryd.f30.body = some c ∧ compile c = erase Tryd.C30 := ⟨_, rfl, by kernel_rfl⟩
theorem Tryd.rs30 : Tryd.f30.results.toList = [Go.ResultVar.tmp 2] := by kernel_rfl
theorem Tryd.nt30 : Tryd.f30.ntmps = 8 := by kernel_rfl
theorem Tryd.en30 : ∀ vs w, (callFunc 30 vs).run Tryd.prog w = .ok (.enter 30 vs) w := enters_of Tryd.func30 (by kernel_rfl) rfl
theorem Tryd.ctr30 {a0 : V} {bx : Boxes} {Kc : V → Boxes → Prop} (h : FinB bx → pw Tryd.prog Tryd.C30 (retQ Tryd.prog [Go.ResultVar.tmp 2] Kc) ⟨8, slk [(0, a0)], bx⟩) : AbsCall Tryd.prog 30 [a0] bx Kc := abs_of (by kernel_rfl) Tryd.func30 Tryd.comp30 Tryd.en30 Tryd.nt30 Tryd.rs30 (fun hb => by rw [initSt_1]; exact h hb)
theorem Tryd.en31 : ∀ vs w, (callFunc 31 vs).run Tryd.prog w = .ok (.enter 31 vs) w := enters_of Tryd.func31 (by kernel_rfl) rfl
noncomputable def Tryd.C32 : PC := .seq (.reg false [⟨some 5, Go.Op.move (Go.Operand.tmp 0), none, false⟩,
    ⟨some 6, Go.Op.call { callee := Go.Callee.builtin Go.Builtin.len, args := #[Go.Operand.tmp 5], argTypes := #[33] }, none, false⟩,
    ⟨some 4, Go.Op.assign (Go.Operand.tmp 6), none, false⟩] [0, 1, 4]) (.reg false [⟨some 7, Go.Op.move (Go.Operand.tmp 0), none, false⟩,
    ⟨some 8, Go.Op.move (Go.Operand.tmp 4), none, false⟩,
    ⟨some 9, Go.Op.move (Go.Operand.tmp 4), none, false⟩,
    ⟨some 10, Go.Op.convert 3 87 (Go.Operand.tmp 9), none, false⟩,
    ⟨some 11, Go.Op.call { callee := Go.Callee.value (Go.Operand.func 52), args := #[Go.Operand.tmp 10], argTypes := #[87] }, none, false⟩,
    ⟨some 12, Go.Op.move (Go.Operand.tmp 1), none, false⟩,
    ⟨some 13, Go.Op.call { callee := Go.Callee.value (Go.Operand.func 51), args := #[Go.Operand.tmp 7, Go.Operand.const (Go.Value.int Go.IntKind.i64 0), Go.Operand.tmp 8, Go.Operand.tmp 11, Go.Operand.tmp 12], argTypes := #[33, 3, 3, 3, 69] }, none, false⟩] [])
theorem Tryd.comp32 : ∃ c, Tryd.f32.body = some c ∧ compile c = erase Tryd.C32 := ⟨_, rfl, by kernel_rfl⟩
theorem Tryd.rs32 : Tryd.f32.results.toList = [] := by kernel_rfl
theorem Tryd.nt32 : Tryd.f32.ntmps = 14 := by kernel_rfl
theorem Tryd.en32 : ∀ vs w, (callFunc 32 vs).run Tryd.prog w = .ok (.enter 32 vs) w := enters_of Tryd.func32 (by kernel_rfl) rfl
theorem Tryd.ctr32 {a0 a1 : V} {bx : Boxes} {Kc : V → Boxes → Prop} (h : FinB bx → pw Tryd.prog Tryd.C32 (retQ Tryd.prog [] Kc) ⟨14, slk [(0, a0), (1, a1)], bx⟩) : AbsCall Tryd.prog 32 [a0, a1] bx Kc := abs_of (by kernel_rfl) Tryd.func32 Tryd.comp32 Tryd.en32 Tryd.nt32 Tryd.rs32 (fun hb => by rw [initSt_2]; exact h hb)
noncomputable def Tryd.C33 : PC := .seq (.reg false [⟨some 2, Go.Op.box 57 (Go.Operand.tmp 0), none, true⟩,
    ⟨some 3, Go.Op.box 57 (Go.Operand.tmp 1), none, true⟩,
    ⟨some 4, Go.Op.assign (Go.Operand.const (Go.Value.int Go.IntKind.i64 0)), none, false⟩] [2, 3]) (.seq (.reg true [⟨some 5, Go.Op.fieldAddr 57 (Go.Operand.tmp 2) 0, none, false⟩,
    ⟨some 6, Go.Op.load 25 (Go.Operand.tmp 5), none, false⟩,
    ⟨some 7, Go.Op.fieldAddr 57 (Go.Operand.tmp 3) 0, none, false⟩,
    ⟨some 8, Go.Op.load 25 (Go.Operand.tmp 7), none, false⟩,
    ⟨some 9, Go.Op.call { callee := Go.Callee.value (Go.Operand.func 35), args := #[Go.Operand.tmp 6, Go.Operand.tmp 8], argTypes := #[25, 25] }, none, false⟩,
    ⟨some 10, Go.Op.fieldAddr 57 (Go.Operand.tmp 2) 1, none, false⟩,
    ⟨some 11, Go.Op.load 3 (Go.Operand.tmp 10), none, false⟩,
    ⟨some 12, Go.Op.fieldAddr 57 (Go.Operand.tmp 3) 1, none, false⟩,
    ⟨some 13, Go.Op.load 3 (Go.Operand.tmp 12), none, false⟩,
    ⟨some 14, Go.Op.call { callee := Go.Callee.value (Go.Operand.func 36), args := #[Go.Operand.tmp 11, Go.Operand.tmp 13], argTypes := #[3, 3] }, none, false⟩,
    ⟨some 15, Go.Op.buildSlice 32 2 #[(0, Go.Operand.tmp 9), (1, Go.Operand.tmp 14)], none, false⟩,
    ⟨some 16, Go.Op.call { callee := Go.Callee.value (Go.Operand.func 34), args := #[Go.Operand.tmp 15], argTypes := #[32] }, none, false⟩,
    ⟨some 4, Go.Op.assign (Go.Operand.tmp 16), none, false⟩] [4]) (.ret))
theorem Tryd.comp33 : ∃ c, Tryd.f33.body = some c ∧ compile c = erase Tryd.C33 := ⟨_, rfl, by kernel_rfl⟩
theorem Tryd.rs33 : Tryd.f33.results.toList = [Go.ResultVar.tmp 4] := by kernel_rfl
theorem Tryd.nt33 : Tryd.f33.ntmps = 17 := by kernel_rfl
theorem Tryd.en33 : ∀ vs w, (callFunc 33 vs).run Tryd.prog w = .ok (.enter 33 vs) w := enters_of Tryd.func33 (by kernel_rfl) rfl
theorem Tryd.ctr33 {a0 a1 : V} {bx : Boxes} {Kc : V → Boxes → Prop} (h : FinB bx → pw Tryd.prog Tryd.C33 (retQ Tryd.prog [Go.ResultVar.tmp 4] Kc) ⟨17, slk [(0, a0), (1, a1)], bx⟩) : AbsCall Tryd.prog 33 [a0, a1] bx Kc := abs_of (by kernel_rfl) Tryd.func33 Tryd.comp33 Tryd.en33 Tryd.nt33 Tryd.rs33 (fun hb => by rw [initSt_2]; exact h hb)
noncomputable def Tryd.L34_0 : PC := .seq (.reg false [⟨some 9, Go.Op.binOp Go.BinOp.lss 3 (Go.Operand.tmp 8) (Go.Operand.tmp 7) 3, none, false⟩] [3, 6, 7, 8, 9]) (.seq (.cond (Go.Operand.tmp 9) (.skip) (.exit 0)) (.seq (.block 1 (.seq (.reg false [⟨some 10, Go.Op.indexAddr 32 (Go.Operand.tmp 6) (Go.Operand.tmp 8), none, false⟩,
    ⟨some 11, Go.Op.load 3 (Go.Operand.tmp 10), none, false⟩,
    ⟨some 5, Go.Op.assign (Go.Operand.tmp 11), none, false⟩] [3, 5, 6, 7, 8]) (.seq (.reg false [⟨some 12, Go.Op.move (Go.Operand.tmp 5), none, false⟩,
    ⟨some 13, Go.Op.move (Go.Operand.tmp 3), none, false⟩,
    ⟨some 14, Go.Op.binOp Go.BinOp.neq 3 (Go.Operand.tmp 12) (Go.Operand.tmp 13) 3, none, false⟩] [3, 5, 6, 7, 8, 14]) (.cond (Go.Operand.tmp 14) (.seq (.reg false [⟨some 15, Go.Op.move (Go.Operand.tmp 5), none, false⟩,
    ⟨some 2, Go.Op.assign (Go.Operand.tmp 15), none, false⟩] [2]) (.ret)) (.skip))))) (.reg false [⟨some 16, Go.Op.binOp Go.BinOp.add 3 (Go.Operand.tmp 8) (Go.Operand.const (Go.Value.int Go.IntKind.i64 1)) 3, none, false⟩,
    ⟨some 8, Go.Op.move (Go.Operand.tmp 16), none, false⟩] [3, 6, 7, 8])))
noncomputable def Tryd.C34 : PC := .seq (.reg false [⟨some 2, Go.Op.assign (Go.Operand.const (Go.Value.int Go.IntKind.i64 0)), none, false⟩] [0]) (.seq (.reg false [⟨some 3, Go.Op.assign (Go.Operand.const (Go.Value.int Go.IntKind.i64 0)), none, false⟩] [0, 3]) (.seq (.seq (.reg false [⟨some 6, Go.Op.move (Go.Operand.tmp 0), none, false⟩,
    ⟨some 7, Go.Op.call { callee := Go.Callee.builtin Go.Builtin.len, args := #[Go.Operand.tmp 6], argTypes := #[32] }, none, false⟩,
    ⟨some 8, Go.Op.move (Go.Operand.const (Go.Value.int Go.IntKind.i64 0)), none, false⟩] [3, 6, 7, 8]) (.block 0 (.loop Tryd.L34_0))) (.seq (.reg false [⟨some 17, Go.Op.move (Go.Operand.tmp 3), none, false⟩,
    ⟨some 2, Go.Op.assign (Go.Operand.tmp 17), none, false⟩] [2]) (.ret))))
theorem Tryd.comp34 : ∃ c, Tryd.f34.body = some c ∧ compile c = erase Tryd.C34 := ⟨_, rfl, by kernel_rfl⟩
theorem Tryd.rs34 : Tryd.f34.results.toList = [Go.ResultVar.tmp 2] := by kernel_rfl
theorem Tryd.nt34 : Tryd.f34.ntmps = 18 := by kernel_rfl
theorem Tryd.en34 : ∀ vs w, (callFunc 34 vs).run Tryd.prog w = .ok (.enter 34 vs) w := enters_of Tryd.func34 (by kernel_rfl) rfl
theorem Tryd.ctr34 {a0 : V} {bx : Boxes} {Kc : V → Boxes → Prop} (h : FinB bx → pw Tryd.prog Tryd.C34 (retQ Tryd.prog [Go.ResultVar.tmp 2] Kc) ⟨18, slk [(0, a0)], bx⟩) : AbsCall Tryd.prog 34 [a0] bx Kc := abs_of (by kernel_rfl) Tryd.func34 Tryd.comp34 Tryd.en34 Tryd.nt34 Tryd.rs34 (fun hb => by rw [initSt_1]; exact h hb)
noncomputable def Tryd.C35 : PC := .seq (.reg false [⟨some 4, Go.Op.assign (Go.Operand.const (Go.Value.int Go.IntKind.i64 0)), none, false⟩] [0, 1]) (.seq (.reg false [⟨some 7, Go.Op.move (Go.Operand.tmp 0), none, false⟩,
    ⟨some 8, Go.Op.call { callee := Go.Callee.value (Go.Operand.func 53), args := #[Go.Operand.tmp 7], argTypes := #[25] }, none, false⟩,
    ⟨some 5, Go.Op.assign (Go.Operand.tmp 8), none, false⟩] [0, 1, 5]) (.seq (.reg false [⟨some 9, Go.Op.move (Go.Operand.tmp 1), none, false⟩,
    ⟨some 10, Go.Op.call { callee := Go.Callee.value (Go.Operand.func 53), args := #[Go.Operand.tmp 9], argTypes := #[25] }, none, false⟩,
    ⟨some 6, Go.Op.assign (Go.Operand.tmp 10), none, false⟩] [0, 1, 5, 6]) (.seq (.seq (.reg false [⟨some 11, Go.Op.move (Go.Operand.tmp 5), none, false⟩] [0, 1, 6, 11]) (.cond (Go.Operand.tmp 11) (.seq (.seq (.reg false [⟨some 12, Go.Op.move (Go.Operand.tmp 6), none, false⟩] [12]) (.cond (Go.Operand.tmp 12) (.seq (.reg false [⟨some 4, Go.Op.assign (Go.Operand.const (Go.Value.int Go.IntKind.i64 0)), none, false⟩] [4]) (.ret)) (.skip))) (.seq (.reg false [⟨some 4, Go.Op.assign (Go.Operand.const (Go.Value.int Go.IntKind.i64 (-1))), none, false⟩] [4]) (.ret))) (.skip))) (.seq (.seq (.reg false [⟨some 13, Go.Op.move (Go.Operand.tmp 6), none, false⟩] [0, 1, 13]) (.cond (Go.Operand.tmp 13) (.seq (.reg false [⟨some 4, Go.Op.assign (Go.Operand.const (Go.Value.int Go.IntKind.i64 1)), none, false⟩] [4]) (.ret)) (.skip))) (.seq (.seq (.reg false [⟨some 14, Go.Op.move (Go.Operand.tmp 0), none, false⟩,
    ⟨some 15, Go.Op.move (Go.Operand.tmp 1), none, false⟩,
    ⟨some 16, Go.Op.binOp Go.BinOp.lss 25 (Go.Operand.tmp 14) (Go.Operand.tmp 15) 25, none, false⟩] [0, 1, 16]) (.cond (Go.Operand.tmp 16) (.seq (.reg false [⟨some 4, Go.Op.assign (Go.Operand.const (Go.Value.int Go.IntKind.i64 (-1))), none, false⟩] [4]) (.ret)) (.skip))) (.seq (.seq (.reg false [⟨some 17, Go.Op.move (Go.Operand.tmp 0), none, false⟩,
    ⟨some 18, Go.Op.move (Go.Operand.tmp 1), none, false⟩,
    ⟨some 19, Go.Op.binOp Go.BinOp.gtr 25 (Go.Operand.tmp 17) (Go.Operand.tmp 18) 25, none, false⟩] [19]) (.cond (Go.Operand.tmp 19) (.seq (.reg false [⟨some 4, Go.Op.assign (Go.Operand.const (Go.Value.int Go.IntKind.i64 1)), none, false⟩] [4]) (.ret)) (.skip))) (.seq (.reg false [⟨some 4, Go.Op.assign (Go.Operand.const (Go.Value.int Go.IntKind.i64 0)), none, false⟩] [4]) (.ret))))))))
theorem Tryd.comp35 : ∃ c, Tryd.f35.body = some c ∧ compile c = erase Tryd.C35 := ⟨_, rfl, by kernel_rfl⟩
theorem Tryd.rs35 : Tryd.f35.results.toList = [Go.ResultVar.tmp 4] := by kernel_rfl
theorem Tryd.nt35 : Tryd.f35.ntmps = 20 := by kernel_rfl
theorem Tryd.en35 : ∀ vs w, (callFunc 35 vs).run Tryd.prog w = .ok (.enter 35 vs) w := enters_of Tryd.func35 (by kernel_rfl) rfl
theorem Tryd.ctr35 {a0 a1 : V} {bx : Boxes} {Kc : V → Boxes → Prop} (h : FinB bx → pw Tryd.prog Tryd.C35 (retQ Tryd.prog [Go.ResultVar.tmp 4] Kc) ⟨20, slk [(0, a0), (1, a1)], bx⟩) : AbsCall Tryd.prog 35 [a0, a1] bx Kc := abs_of (by kernel_rfl) Tryd.func35 Tryd.comp35 Tryd.en35 Tryd.nt35 Tryd.rs35 (fun hb => by rw [initSt_2]; exact h hb)
noncomputable def Tryd.C36 : PC := .seq (.reg false [⟨some 4, Go.Op.assign (Go.Operand.const (Go.Value.int Go.IntKind.i64 0)), none, false⟩] [0, 1]) (.seq (.reg false [⟨some 7, Go.Op.move (Go.Operand.tmp 0), none, false⟩,
    ⟨some 8, Go.Op.call { callee := Go.Callee.value (Go.Operand.func 54), args := #[Go.Operand.tmp 7], argTypes := #[3] }, none, false⟩,
    ⟨some 5, Go.Op.assign (Go.Operand.tmp 8), none, false⟩] [0, 1, 5]) (.seq (.reg false [⟨some 9, Go.Op.move (Go.Operand.tmp 1), none, false⟩,
    ⟨some 10, Go.Op.call { callee := Go.Callee.value (Go.Operand.func 54), args := #[Go.Operand.tmp 9], argTypes := #[3] }, none, false⟩,
    ⟨some 6, Go.Op.assign (Go.Operand.tmp 10), none, false⟩] [0, 1, 5, 6]) (.seq (.seq (.reg false [⟨some 11, Go.Op.move (Go.Operand.tmp 5), none, false⟩] [0, 1, 6, 11]) (.cond (Go.Operand.tmp 11) (.seq (.seq (.reg false [⟨some 12, Go.Op.move (Go.Operand.tmp 6), none, false⟩] [12]) (.cond (Go.Operand.tmp 12) (.seq (.reg false [⟨some 4, Go.Op.assign (Go.Operand.const (Go.Value.int Go.IntKind.i64 0)), none, false⟩] [4]) (.ret)) (.skip))) (.seq (.reg false [⟨some 4, Go.Op.assign (Go.Operand.const (Go.Value.int Go.IntKind.i64 (-1))), none, false⟩] [4]) (.ret))) (.skip))) (.seq (.seq (.reg false [⟨some 13, Go.Op.move (Go.Operand.tmp 6), none, false⟩] [0, 1, 13]) (.cond (Go.Operand.tmp 13) (.seq (.reg false [⟨some 4, Go.Op.assign (Go.Operand.const (Go.Value.int Go.IntKind.i64 1)), none, false⟩] [4]) (.ret)) (.skip))) (.seq (.seq (.reg false [⟨some 14, Go.Op.move (Go.Operand.tmp 0), none, false⟩,
    ⟨some 15, Go.Op.move (Go.Operand.tmp 1), none, false⟩,
    ⟨some 16, Go.Op.binOp Go.BinOp.lss 3 (Go.Operand.tmp 14) (Go.Operand.tmp 15) 3, none, false⟩] [0, 1, 16]) (.cond (Go.Operand.tmp 16) (.seq (.reg false [⟨some 4, Go.Op.assign (Go.Operand.const (Go.Value.int Go.IntKind.i64 (-1))), none, false⟩] [4]) (.ret)) (.skip))) (.seq (.seq (.reg false [⟨some 17, Go.Op.move (Go.Operand.tmp 0), none, false⟩,
    ⟨some 18, Go.Op.move (Go.Operand.tmp 1), none, false⟩,
    ⟨some 19, Go.Op.binOp Go.BinOp.gtr 3 (Go.Operand.tmp 17) (Go.Operand.tmp 18) 3, none, false⟩] [19]) (.cond (Go.Operand.tmp 19) (.seq (.reg false [⟨some 4, Go.Op.assign (Go.Operand.const (Go.Value.int Go.IntKind.i64 1)), none, false⟩] [4]) (.ret)) (.skip))) (.seq (.reg false [⟨some 4, Go.Op.assign (Go.Operand.const (Go.Value.int Go.IntKind.i64 0)), none, false⟩] [4]) (.ret))))))))
theorem Tryd.comp36 : ∃ c, Tryd.f36.body = some c ∧ compile c = erase Tryd.C36 := ⟨_, rfl, by kernel_rfl⟩
theorem Tryd.rs36 : Tryd.f36.results.toList = [Go.ResultVar.tmp 4] := by kernel_rfl
theorem Tryd.nt36 : Tryd.f36.ntmps = 20 := by kernel_rfl
theorem Tryd.en36 : ∀ vs w, (callFunc 36 vs).run Tryd.prog w = .ok (.enter 36 vs) w := enters_of Tryd.func36 (by kernel_rfl) rfl
theorem Tryd.ctr36 {a0 a1 : V} {bx : Boxes} {Kc : V → Boxes → Prop} (h : FinB bx → pw Tryd.prog Tryd.C36 (retQ Tryd.prog [Go.ResultVar.tmp 4] Kc) ⟨20, slk [(0, a0), (1, a1)], bx⟩) : AbsCall Tryd.prog 36 [a0, a1] bx Kc := abs_of (by kernel_rfl) Tryd.func36 Tryd.comp36 Tryd.en36 Tryd.nt36 Tryd.rs36 (fun hb => by rw [initSt_2]; exact h hb)
noncomputable def Tryd.C37 : PC := .seq (.reg false [⟨some 2, Go.Op.box 35 (Go.Operand.tmp 0), none, true⟩,
    ⟨some 4, Go.Op.assign (Go.Operand.const (Go.Value.int Go.IntKind.i64 0)), none, false⟩] [1, 2]) (.seq (.seq (.reg false [⟨some 6, Go.Op.load 35 (Go.Operand.tmp 2), none, false⟩,
    ⟨some 7, Go.Op.call { callee := Go.Callee.value (Go.Operand.func 18), args := #[Go.Operand.tmp 6], argTypes := #[35] }, none, false⟩,
    ⟨some 5, Go.Op.assign (Go.Operand.tmp 7), none, false⟩] [1, 2, 5]) (.seq (.reg false [⟨some 8, Go.Op.move (Go.Operand.tmp 5), none, false⟩,
    ⟨some 9, Go.Op.binOp Go.BinOp.neq 38 (Go.Operand.tmp 8) (Go.Operand.const (Go.Value.int Go.IntKind.i64 0)) 38, none, false⟩] [1, 2, 5, 9]) (.cond (Go.Operand.tmp 9) (.seq (.reg false [⟨some 10, Go.Op.move (Go.Operand.tmp 5), none, false⟩,
    ⟨some 4, Go.Op.assign (Go.Operand.tmp 10), none, false⟩] [4]) (.ret)) (.skip)))) (.seq (.seq (.reg false [⟨some 11, Go.Op.move (Go.Operand.tmp 1), none, false⟩,
    ⟨some 12, Go.Op.call { callee := Go.Callee.value (Go.Operand.func 46), args := #[Go.Operand.tmp 11, Go.Operand.func 55], argTypes := #[31, 78] }, none, false⟩] [2, 12]) (.cond (Go.Operand.tmp 12) (.seq (.reg false [⟨some 4, Go.Op.assign (Go.Operand.const (Go.Value.int Go.IntKind.i64 3)), none, false⟩] [4]) (.ret)) (.skip))) (.seq (.seq (.reg false [⟨some 13, Go.Op.fieldAddr 35 (Go.Operand.tmp 2) 3, none, false⟩,
    ⟨some 14, Go.Op.load 33 (Go.Operand.tmp 13), none, false⟩,
    ⟨some 15, Go.Op.call { callee := Go.Callee.builtin Go.Builtin.len, args := #[Go.Operand.tmp 14], argTypes := #[33] }, none, false⟩,
    ⟨some 16, Go.Op.binOp Go.BinOp.eql 3 (Go.Operand.tmp 15) (Go.Operand.const (Go.Value.int Go.IntKind.i64 0)) 3, none, false⟩] [16]) (.cond (Go.Operand.tmp 16) (.seq (.reg false [⟨some 4, Go.Op.assign (Go.Operand.const (Go.Value.int Go.IntKind.i64 4)), none, false⟩] [4]) (.ret)) (.skip))) (.seq (.reg false [⟨some 4, Go.Op.assign (Go.Operand.const (Go.Value.int Go.IntKind.i64 0)), none, false⟩] [4]) (.ret)))))
theorem Tryd.comp37 : ∃ c, Tryd.f37.body = some c ∧ compile c = erase Tryd.C37 := ⟨_, rfl, by kernel_rfl⟩
theorem Tryd.rs37 : Tryd.f37.results.toList = [Go.ResultVar.tmp 4] := by kernel_rfl
theorem Tryd.nt37 : Tryd.f37.ntmps = 17 := by kernel_rfl
theorem Tryd.en37 : ∀ vs w, (callFunc 37 vs).run Tryd.prog w = .ok (.enter 37 vs) w := enters_of Tryd.func37 (by kernel_rfl) rfl
theorem Tryd.ctr37 {a0 a1 : V} {bx : Boxes} {Kc : V → Boxes → Prop} (h : FinB bx → pw Tryd.prog Tryd.C37 (retQ Tryd.prog [Go.ResultVar.tmp 4] Kc) ⟨17, slk [(0, a0), (1, a1)], bx⟩) : AbsCall Tryd.prog 37 [a0, a1] bx Kc := abs_of (by kernel_rfl) Tryd.func37 Tryd.comp37 Tryd.en37 Tryd.nt37 Tryd.rs37 (fun hb => by rw [initSt_2]; exact h hb)
noncomputable def Tryd.C38 : PC := .seq (.reg false [⟨some 2, Go.Op.box 35 (Go.Operand.tmp 0), none, true⟩,
    ⟨some 4, Go.Op.assign (Go.Operand.const (Go.Value.int Go.IntKind.i64 0)), none, false⟩] [1, 2]) (.seq (.reg false [⟨some 8, Go.Op.fieldAddr 35 (Go.Operand.tmp 2) 3, none, false⟩,
    ⟨some 9, Go.Op.load 33 (Go.Operand.tmp 8), none, false⟩,
    ⟨some 10, Go.Op.move (Go.Operand.tmp 1), none, false⟩,
    ⟨some 11, Go.Op.call { callee := Go.Callee.value (Go.Operand.func 56), args := #[Go.Operand.tmp 9, Go.Operand.tmp 10, Go.Operand.func 57], argTypes := #[33, 25, 91] }, none, false⟩,
    ⟨some 7, Go.Op.move (Go.Operand.tmp 11), none, false⟩,
    ⟨some 12, Go.Op.extract (Go.Operand.tmp 7) 0, none, false⟩,
    ⟨some 13, Go.Op.extract (Go.Operand.tmp 7) 1, none, false⟩,
    ⟨some 5, Go.Op.assign (Go.Operand.tmp 12), none, false⟩,
    ⟨some 6, Go.Op.assign (Go.Operand.tmp 13), none, false⟩] [2, 5]) (.seq (.seq (.reg false [⟨some 14, Go.Op.move (Go.Operand.tmp 5), none, false⟩,
    ⟨some 15, Go.Op.fieldAddr 35 (Go.Operand.tmp 2) 3, none, false⟩,
    ⟨some 16, Go.Op.load 33 (Go.Operand.tmp 15), none, false⟩,
    ⟨some 17, Go.Op.call { callee := Go.Callee.builtin Go.Builtin.len, args := #[Go.Operand.tmp 16], argTypes := #[33] }, none, false⟩,
    ⟨some 18, Go.Op.binOp Go.BinOp.eql 3 (Go.Operand.tmp 14) (Go.Operand.tmp 17) 3, none, false⟩] [5, 18]) (.cond (Go.Operand.tmp 18) (.seq (.reg false [⟨some 4, Go.Op.assign (Go.Operand.const (Go.Value.int Go.IntKind.i64 0)), none, false⟩] [4]) (.ret)) (.skip))) (.seq (.reg false [⟨some 19, Go.Op.move (Go.Operand.tmp 5), none, false⟩,
    ⟨some 4, Go.Op.assign (Go.Operand.tmp 19), none, false⟩] [4]) (.ret))))
theorem Tryd.comp38 : ∃ c, Tryd.f38.body = some c ∧ compile c = erase Tryd.C38 := ⟨_, rfl, by kernel_rfl⟩
theorem Tryd.rs38 : Tryd.f38.results.toList = [Go.ResultVar.tmp 4] := by kernel_rfl
theorem Tryd.nt38 : Tryd.f38.ntmps = 20 := by kernel_rfl
theorem Tryd.en38 : ∀ vs w, (callFunc 38 vs).run Tryd.prog w = .ok (.enter 38 vs) w := enters_of Tryd.func38 (by kernel_rfl) rfl
theorem Tryd.ctr38 {a0 a1 : V} {bx : Boxes} {Kc : V → Boxes → Prop} (h : FinB bx → pw Tryd.prog Tryd.C38 (retQ Tryd.prog [Go.ResultVar.tmp 4] Kc) ⟨20, slk [(0, a0), (1, a1)], bx⟩) : AbsCall Tryd.prog 38 [a0, a1] bx Kc := abs_of (by kernel_rfl) Tryd.func38 Tryd.comp38 Tryd.en38 Tryd.nt38 Tryd.rs38 (fun hb => by rw [initSt_2]; exact h hb)
noncomputable def Tryd.L39_0 : PC := .seq (.reg false [⟨some 12, Go.Op.binOp Go.BinOp.lss 3 (Go.Operand.tmp 11) (Go.Operand.tmp 10) 3, none, false⟩] [0, 3, 9, 10, 11, 12]) (.seq (.cond (Go.Operand.tmp 12) (.skip) (.exit 0)) (.seq (.block 1 (.seq (.reg false [⟨some 13, Go.Op.indexAddr 92 (Go.Operand.tmp 9) (Go.Operand.tmp 11), none, false⟩,
    ⟨some 14, Go.Op.load 33 (Go.Operand.tmp 13), none, false⟩,
    ⟨some 5, Go.Op.assign (Go.Operand.tmp 14), none, false⟩] [0, 3, 5, 9, 10, 11]) (.seq (.reg false [⟨some 15, Go.Op.move (Go.Operand.tmp 3), none, false⟩,
    ⟨some 16, Go.Op.move (Go.Operand.tmp 5), none, false⟩,
    ⟨some 17, Go.Op.call { callee := Go.Callee.builtin Go.Builtin.len, args := #[Go.Operand.tmp 16], argTypes := #[33] }, none, false⟩,
    ⟨some 18, Go.Op.binOp Go.BinOp.add 3 (Go.Operand.tmp 15) (Go.Operand.tmp 17) 3, none, false⟩,
    ⟨some 3, Go.Op.assign (Go.Operand.tmp 18), none, false⟩] [0, 3, 9, 10, 11]) (.seq (.reg false [⟨some 19, Go.Op.move (Go.Operand.tmp 3), none, false⟩,
    ⟨some 20, Go.Op.binOp Go.BinOp.lss 3 (Go.Operand.tmp 19) (Go.Operand.const (Go.Value.int Go.IntKind.i64 0)) 3, none, false⟩] [0, 3, 9, 10, 11, 20]) (.cond (Go.Operand.tmp 20) (.reg false [⟨some 21, Go.Op.makeInterface 9 (Go.Operand.const (Go.Value.string { data := #[108, 101, 110, 32, 111, 117, 116, 32, 111, 102, 32, 114, 97, 110, 103, 101] })), none, false⟩,
    ⟨none, Go.Op.panic (Go.Operand.tmp 21), none, false⟩] [0, 3, 9, 10, 11]) (.skip)))))) (.reg false [⟨some 22, Go.Op.binOp Go.BinOp.add 3 (Go.Operand.tmp 11) (Go.Operand.const (Go.Value.int Go.IntKind.i64 1)) 3, none, false⟩,
    ⟨some 11, Go.Op.move (Go.Operand.tmp 22), none, false⟩] [0, 3, 9, 10, 11])))
noncomputable def Tryd.L39_1 : PC := .seq (.reg false [⟨some 28, Go.Op.binOp Go.BinOp.lss 3 (Go.Operand.tmp 27) (Go.Operand.tmp 26) 3, none, false⟩] [6, 25, 26, 27, 28]) (.seq (.cond (Go.Operand.tmp 28) (.skip) (.exit 2)) (.seq (.block 3 (.seq (.reg false [⟨some 29, Go.Op.indexAddr 92 (Go.Operand.tmp 25) (Go.Operand.tmp 27), none, false⟩,
    ⟨some 30, Go.Op.load 33 (Go.Operand.tmp 29), none, false⟩,
    ⟨some 8, Go.Op.assign (Go.Operand.tmp 30), none, false⟩] [6, 8, 25, 26, 27]) (.reg false [⟨some 31, Go.Op.move (Go.Operand.tmp 6), none, false⟩,
    ⟨some 32, Go.Op.move (Go.Operand.tmp 8), none, false⟩,
    ⟨some 33, Go.Op.call { callee := Go.Callee.builtin Go.Builtin.append, args := #[Go.Operand.tmp 31, Go.Operand.tmp 32], argTypes := #[33, 33] }, none, false⟩,
    ⟨some 6, Go.Op.assign (Go.Operand.tmp 33), none, false⟩] [6, 25, 26, 27]))) (.reg false [⟨some 34, Go.Op.binOp Go.BinOp.add 3 (Go.Operand.tmp 27) (Go.Operand.const (Go.Value.int Go.IntKind.i64 1)) 3, none, false⟩,
    ⟨some 27, Go.Op.move (Go.Operand.tmp 34), none, false⟩] [6, 25, 26, 27])))
noncomputable def Tryd.C39 : PC := .seq (.reg false [⟨some 2, Go.Op.assign (Go.Operand.const (Go.Value.slice none 0 0)), none, false⟩] [0]) (.seq (.reg false [⟨some 3, Go.Op.assign (Go.Operand.const (Go.Value.int Go.IntKind.i64 0)), none, false⟩] [0, 3]) (.seq (.seq (.reg false [⟨some 9, Go.Op.move (Go.Operand.tmp 0), none, false⟩,
    ⟨some 10, Go.Op.call { callee := Go.Callee.builtin Go.Builtin.len, args := #[Go.Operand.tmp 9], argTypes := #[92] }, none, false⟩,
    ⟨some 11, Go.Op.move (Go.Operand.const (Go.Value.int Go.IntKind.i64 0)), none, false⟩] [0, 3, 9, 10, 11]) (.block 0 (.loop Tryd.L39_0))) (.seq (.reg false [⟨some 23, Go.Op.move (Go.Operand.tmp 3), none, false⟩,
    ⟨some 24, Go.Op.call { callee := Go.Callee.value (Go.Operand.func 58), args := #[Go.Operand.const (Go.Value.slice none 0 0), Go.Operand.tmp 23], argTypes := #[33, 3] }, none, false⟩,
    ⟨some 6, Go.Op.assign (Go.Operand.tmp 24), none, false⟩] [0, 6]) (.seq (.seq (.reg false [⟨some 25, Go.Op.move (Go.Operand.tmp 0), none, false⟩,
    ⟨some 26, Go.Op.call { callee := Go.Callee.builtin Go.Builtin.len, args := #[Go.Operand.tmp 25], argTypes := #[92] }, none, false⟩,
    ⟨some 27, Go.Op.move (Go.Operand.const (Go.Value.int Go.IntKind.i64 0)), none, false⟩] [6, 25, 26, 27]) (.block 2 (.loop Tryd.L39_1))) (.seq (.reg false [⟨some 35, Go.Op.move (Go.Operand.tmp 6), none, false⟩,
    ⟨some 2, Go.Op.assign (Go.Operand.tmp 35), none, false⟩] [2]) (.ret))))))
theorem Tryd.comp39 : ∃ c, Tryd.f39.body = some c ∧ compile c = erase Tryd.C39 := ⟨_, rfl, by kernel_rfl⟩
theorem Tryd.rs39 : Tryd.f39.results.toList = [Go.ResultVar.tmp 2] := by kernel_rfl
theorem Tryd.nt39 : Tryd.f39.ntmps = 36 := by kernel_rfl
theorem Tryd.en39 : ∀ vs w, (callFunc 39 vs).run Tryd.prog w = .ok (.enter 39 vs) w := enters_of Tryd.func39 (by kernel_rfl) rfl
theorem Tryd.ctr39 {a0 : V} {bx : Boxes} {Kc : V → Boxes → Prop} (h : FinB bx → pw Tryd.prog Tryd.C39 (retQ Tryd.prog [Go.ResultVar.tmp 2] Kc) ⟨36, slk [(0, a0)], bx⟩) : AbsCall Tryd.prog 39 [a0] bx Kc := abs_of (by kernel_rfl) Tryd.func39 Tryd.comp39 Tryd.en39 Tryd.nt39 Tryd.rs39 (fun hb => by rw [initSt_1]; exact h hb)
noncomputable def Tryd.C40 : PC := .seq (.reg false [⟨some 4, Go.Op.assign (Go.Operand.const (Go.Value.bool false)), none, false⟩] [0, 1]) (.seq (.reg false [⟨some 5, Go.Op.move (Go.Operand.tmp 0), none, false⟩,
    ⟨some 6, Go.Op.move (Go.Operand.tmp 1), none, false⟩,
    ⟨some 7, Go.Op.call { callee := Go.Callee.value (Go.Operand.func 59), args := #[Go.Operand.tmp 5, Go.Operand.tmp 6], argTypes := #[32, 3] }, none, false⟩,
    ⟨some 8, Go.Op.binOp Go.BinOp.geq 3 (Go.Operand.tmp 7) (Go.Operand.const (Go.Value.int Go.IntKind.i64 0)) 3, none, false⟩,
    ⟨some 4, Go.Op.assign (Go.Operand.tmp 8), none, false⟩] [4]) (.ret))
theorem Tryd.comp40 : ∃ c, Tryd.f40.body = some c ∧ compile c = erase Tryd.C40 := ⟨_, rfl, by kernel_rfl⟩
theorem Tryd.rs40 : Tryd.f40.results.toList = [Go.ResultVar.tmp 4] := by kernel_rfl
theorem Tryd.nt40 : Tryd.f40.ntmps = 9 := by kernel_rfl
theorem Tryd.en40 : ∀ vs w, (callFunc 40 vs).run Tryd.prog w = .ok (.enter 40 vs) w := enters_of Tryd.func40 (by kernel_rfl) rfl
theorem Tryd.ctr40 {a0 a1 : V} {bx : Boxes} {Kc : V → Boxes → Prop} (h : FinB bx → pw Tryd.prog Tryd.C40 (retQ Tryd.prog [Go.ResultVar.tmp 4] Kc) ⟨9, slk [(0, a0), (1, a1)], bx⟩) : AbsCall Tryd.prog 40 [a0, a1] bx Kc := abs_of (by kernel_rfl) Tryd.func40 Tryd.comp40 Tryd.en40 Tryd.nt40 Tryd.rs40 (fun hb => by rw [initSt_2]; exact h hb)
noncomputable def Tryd.C41 : PC := .seq (.reg false [⟨some 2, Go.Op.assign (Go.Operand.const (Go.Value.bool false)), none, false⟩] [0]) (.seq (.reg false [⟨some 3, Go.Op.move (Go.Operand.tmp 0), none, false⟩,
    ⟨some 4, Go.Op.binOp Go.BinOp.lss 3 (Go.Operand.tmp 3) (Go.Operand.const (Go.Value.int Go.IntKind.i64 0)) 3, none, false⟩,
    ⟨some 5, Go.Op.move (Go.Operand.tmp 4), none, false⟩,
    ⟨some 6, Go.Op.move (Go.Operand.tmp 0), some (5, false), false⟩,
    ⟨some 7, Go.Op.binOp Go.BinOp.gtr 3 (Go.Operand.tmp 6) (Go.Operand.const (Go.Value.int Go.IntKind.i64 20)) 3, some (5, false), false⟩,
    ⟨some 8, Go.Op.pick (Go.Operand.tmp 5) (Go.Operand.const (Go.Value.bool true)) (Go.Operand.tmp 7), none, false⟩,
    ⟨some 2, Go.Op.assign (Go.Operand.tmp 8), none, false⟩] [2]) (.ret))
theorem Tryd.comp41 : ∃ c, Tryd.f41.body = some c ∧ compile c = erase Tryd.C41 := ⟨_, rfl, by kernel_rfl⟩
theorem Tryd.rs41 : Tryd.f41.results.toList = [Go.ResultVar.tmp 2] := by kernel_rfl
theorem Tryd.nt41 : Tryd.f41.ntmps = 9 := by kernel_rfl
theorem Tryd.en41 : ∀ vs w, (callFunc 41 vs).run Tryd.prog w = .ok (.enter 41 vs) w := enters_of Tryd.func41 (by kernel_rfl) rfl
theorem Tryd.ctr41 {a0 : V} {bx : Boxes} {Kc : V → Boxes → Prop} (h : FinB bx → pw Tryd.prog Tryd.C41 (retQ Tryd.prog [Go.ResultVar.tmp 2] Kc) ⟨9, slk [(0, a0)], bx⟩) : AbsCall Tryd.prog 41 [a0] bx Kc := abs_of (by kernel_rfl) Tryd.func41 Tryd.comp41 Tryd.en41 Tryd.nt41 Tryd.rs41 (fun hb => by rw [initSt_1]; exact h hb)
noncomputable def Tryd.C42 : PC := .seq (.reg false [⟨some 2, Go.Op.assign (Go.Operand.const (Go.Value.bool false)), none, false⟩] [0]) (.seq (.reg false [⟨some 3, Go.Op.move (Go.Operand.tmp 0), none, false⟩,
    ⟨some 4, Go.Op.binOp Go.BinOp.eql 9 (Go.Operand.tmp 3) (Go.Operand.const (Go.Value.string { data := #[] })) 9, none, false⟩,
    ⟨some 5, Go.Op.move (Go.Operand.tmp 4), none, false⟩,
    ⟨some 6, Go.Op.move (Go.Operand.tmp 0), some (5, false), false⟩,
    ⟨some 7, Go.Op.call { callee := Go.Callee.builtin Go.Builtin.len, args := #[Go.Operand.tmp 6], argTypes := #[9] }, some (5, false), false⟩,
    ⟨some 8, Go.Op.binOp Go.BinOp.gtr 3 (Go.Operand.tmp 7) (Go.Operand.const (Go.Value.int Go.IntKind.i64 32)) 3, some (5, false), false⟩,
    ⟨some 9, Go.Op.pick (Go.Operand.tmp 5) (Go.Operand.const (Go.Value.bool true)) (Go.Operand.tmp 8), none, false⟩,
    ⟨some 10, Go.Op.move (Go.Operand.tmp 9), none, false⟩,
    ⟨some 11, Go.Op.move (Go.Operand.tmp 0), some (10, false), false⟩,
    ⟨some 12, Go.Op.convert 9 22 (Go.Operand.tmp 11), some (10, false), false⟩,
    ⟨some 13, Go.Op.call { callee := Go.Callee.value (Go.Operand.func 43), args := #[Go.Operand.tmp 12, Go.Operand.func 44], argTypes := #[22, 77] }, some (10, false), false⟩,
    ⟨some 14, Go.Op.pick (Go.Operand.tmp 10) (Go.Operand.const (Go.Value.bool true)) (Go.Operand.tmp 13), none, false⟩,
    ⟨some 2, Go.Op.assign (Go.Operand.tmp 14), none, false⟩] [2]) (.ret))
theorem Tryd.comp42 : ∃ c, Tryd.f42.body = some c ∧ compile c = erase Tryd.C42 := ⟨_, rfl, by kernel_rfl⟩
theorem Tryd.rs42 : Tryd.f42.results.toList = [Go.ResultVar.tmp 2] := by kernel_rfl
theorem Tryd.nt42 : Tryd.f42.ntmps = 15 := by kernel_rfl
theorem Tryd.en42 : ∀ vs w, (callFunc 42 vs).run Tryd.prog w = .ok (.enter 42 vs) w := enters_of Tryd.func42 (by kernel_rfl) rfl
theorem Tryd.ctr42 {a0 : V} {bx : Boxes} {Kc : V → Boxes → Prop} (h : FinB bx → pw Tryd.prog Tryd.C42 (retQ Tryd.prog [Go.ResultVar.tmp 2] Kc) ⟨15, slk [(0, a0)], bx⟩) : AbsCall Tryd.prog 42 [a0] bx Kc := abs_of (by kernel_rfl) Tryd.func42 Tryd.comp42 Tryd.en42 Tryd.nt42 Tryd.rs42 (fun hb => by rw [initSt_1]; exact h hb)
noncomputable def Tryd.C43 : PC := .seq (.reg false [⟨some 4, Go.Op.assign (Go.Operand.const (Go.Value.bool false)), none, false⟩] [0, 1]) (.seq (.reg false [⟨some 5, Go.Op.move (Go.Operand.tmp 0), none, false⟩,
    ⟨some 6, Go.Op.move (Go.Operand.tmp 1), none, false⟩,
    ⟨some 7, Go.Op.call { callee := Go.Callee.value (Go.Operand.func 60), args := #[Go.Operand.tmp 5, Go.Operand.tmp 6], argTypes := #[22, 77] }, none, false⟩,
    ⟨some 8, Go.Op.binOp Go.BinOp.geq 3 (Go.Operand.tmp 7) (Go.Operand.const (Go.Value.int Go.IntKind.i64 0)) 3, none, false⟩,
    ⟨some 4, Go.Op.assign (Go.Operand.tmp 8), none, false⟩] [4]) (.ret))
theorem Tryd.comp43 : ∃ c, Tryd.f43.body = some c ∧ compile c = erase Tryd.C43 := ⟨_, rfl, by kernel_rfl⟩
theorem Tryd.rs43 : Tryd.f43.results.toList = [Go.ResultVar.tmp 4] := by kernel_rfl
theorem Tryd.nt43 : Tryd.f43.ntmps = 9 := by kernel_rfl
theorem Tryd.en43 : ∀ vs w, (callFunc 43 vs).run Tryd.prog w = .ok (.enter 43 vs) w := enters_of Tryd.func43 (by kernel_rfl) rfl
theorem Tryd.ctr43 {a0 a1 : V} {bx : Boxes} {Kc : V → Boxes → Prop} (h : FinB bx → pw Tryd.prog Tryd.C43 (retQ Tryd.prog [Go.ResultVar.tmp 4] Kc) ⟨9, slk [(0, a0), (1, a1)], bx⟩) : AbsCall Tryd.prog 43 [a0, a1] bx Kc := abs_of (by kernel_rfl) Tryd.func43 Tryd.comp43 Tryd.en43 Tryd.nt43 Tryd.rs43 (fun hb => by rw [initSt_2]; exact h hb)
noncomputable def Tryd.C44 : PC := .seq (.reg false [⟨some 2, Go.Op.assign (Go.Operand.const (Go.Value.bool false)), none, false⟩] [0]) (.seq (.reg false [⟨some 3, Go.Op.move (Go.Operand.tmp 0), none, false⟩,
    ⟨some 4, Go.Op.binOp Go.BinOp.lss 5 (Go.Operand.tmp 3) (Go.Operand.const (Go.Value.int Go.IntKind.u8 33)) 5, none, false⟩,
    ⟨some 5, Go.Op.move (Go.Operand.tmp 4), none, false⟩,
    ⟨some 6, Go.Op.move (Go.Operand.tmp 0), some (5, false), false⟩,
    ⟨some 7, Go.Op.binOp Go.BinOp.gtr 5 (Go.Operand.tmp 6) (Go.Operand.const (Go.Value.int Go.IntKind.u8 126)) 5, some (5, false), false⟩,
    ⟨some 8, Go.Op.pick (Go.Operand.tmp 5) (Go.Operand.const (Go.Value.bool true)) (Go.Operand.tmp 7), none, false⟩,
    ⟨some 2, Go.Op.assign (Go.Operand.tmp 8), none, false⟩] [2]) (.ret))
theorem Tryd.comp44 : ∃ c, Tryd.f44.body = some c ∧ compile c = erase Tryd.C44 := ⟨_, rfl, by kernel_rfl⟩
theorem Tryd.rs44 : Tryd.f44.results.toList = [Go.ResultVar.tmp 2] := by kernel_rfl
theorem Tryd.nt44 : Tryd.f44.ntmps = 9 := by kernel_rfl
theorem Tryd.en44 : ∀ vs w, (callFunc 44 vs).run Tryd.prog w = .ok (.enter 44 vs) w := enters_of Tryd.func44 (by kernel_rfl) rfl
theorem Tryd.ctr44 {a0 : V} {bx : Boxes} {Kc : V → Boxes → Prop} (h : FinB bx → pw Tryd.prog Tryd.C44 (retQ Tryd.prog [Go.ResultVar.tmp 2] Kc) ⟨9, slk [(0, a0)], bx⟩) : AbsCall Tryd.prog 44 [a0] bx Kc := abs_of (by kernel_rfl) Tryd.func44 Tryd.comp44 Tryd.en44 Tryd.nt44 Tryd.rs44 (fun hb => by rw [initSt_1]; exact h hb)
noncomputable def Tryd.C45 : PC := .seq (.reg false [⟨some 4, Go.Op.assign (Go.Operand.const (Go.Value.bool false)), none, false⟩] [0, 1]) (.seq (.reg false [⟨some 5, Go.Op.move (Go.Operand.tmp 0), none, false⟩,
    ⟨some 6, Go.Op.move (Go.Operand.tmp 1), none, false⟩,
    ⟨some 7, Go.Op.call { callee := Go.Callee.value (Go.Operand.func 61), args := #[Go.Operand.tmp 5, Go.Operand.tmp 6], argTypes := #[32, 75] }, none, false⟩,
    ⟨some 8, Go.Op.binOp Go.BinOp.geq 3 (Go.Operand.tmp 7) (Go.Operand.const (Go.Value.int Go.IntKind.i64 0)) 3, none, false⟩,
    ⟨some 4, Go.Op.assign (Go.Operand.tmp 8), none, false⟩] [4]) (.ret))
theorem Tryd.comp45 : ∃ c, Tryd.f45.body = some c ∧ compile c = erase Tryd.C45 := ⟨_, rfl, by kernel_rfl⟩
theorem Tryd.rs45 : Tryd.f45.results.toList = [Go.ResultVar.tmp 4] := by kernel_rfl
theorem Tryd.nt45 : Tryd.f45.ntmps = 9 := by kernel_rfl
theorem Tryd.en45 : ∀ vs w, (callFunc 45 vs).run Tryd.prog w = .ok (.enter 45 vs) w := enters_of Tryd.func45 (by kernel_rfl) rfl
theorem Tryd.ctr45 {a0 a1 : V} {bx : Boxes} {Kc : V → Boxes → Prop} (h : FinB bx → pw Tryd.prog Tryd.C45 (retQ Tryd.prog [Go.ResultVar.tmp 4] Kc) ⟨9, slk [(0, a0), (1, a1)], bx⟩) : AbsCall Tryd.prog 45 [a0, a1] bx Kc := abs_of (by kernel_rfl) Tryd.func45 Tryd.comp45 Tryd.en45 Tryd.nt45 Tryd.rs45 (fun hb => by rw [initSt_2]; exact h hb)
noncomputable def Tryd.C46 : PC := .seq (.reg false [⟨some 4, Go.Op.assign (Go.Operand.const (Go.Value.bool false)), none, false⟩] [0, 1]) (.seq (.reg false [⟨some 5, Go.Op.move (Go.Operand.tmp 0), none, false⟩,
    ⟨some 6, Go.Op.move (Go.Operand.tmp 1), none, false⟩,
    ⟨some 7, Go.Op.call { callee := Go.Callee.value (Go.Operand.func 62), args := #[Go.Operand.tmp 5, Go.Operand.tmp 6], argTypes := #[31, 78] }, none, false⟩,
    ⟨some 8, Go.Op.binOp Go.BinOp.geq 3 (Go.Operand.tmp 7) (Go.Operand.const (Go.Value.int Go.IntKind.i64 0)) 3, none, false⟩,
    ⟨some 4, Go.Op.assign (Go.Operand.tmp 8), none, false⟩] [4]) (.ret))
theorem Tryd.comp46 : ∃ c, Tryd.f46.body = some c ∧ compile c = erase Tryd.C46 := ⟨_, rfl, by kernel_rfl⟩
theorem Tryd.rs46 : Tryd.f46.results.toList = [Go.ResultVar.tmp 4] := by kernel_rfl
theorem Tryd.nt46 : Tryd.f46.ntmps = 9 := by kernel_rfl
theorem Tryd.en46 : ∀ vs w, (callFunc 46 vs).run Tryd.prog w = .ok (.enter 46 vs) w := enters_of Tryd.func46 (by kernel_rfl) rfl
theorem Tryd.ctr46 {a0 a1 : V} {bx : Boxes} {Kc : V → Boxes → Prop} (h : FinB bx → pw Tryd.prog Tryd.C46 (retQ Tryd.prog [Go.ResultVar.tmp 4] Kc) ⟨9, slk [(0, a0), (1, a1)], bx⟩) : AbsCall Tryd.prog 46 [a0, a1] bx Kc := abs_of (by kernel_rfl) Tryd.func46 Tryd.comp46 Tryd.en46 Tryd.nt46 Tryd.rs46 (fun hb => by rw [initSt_2]; exact h hb)
noncomputable def Tryd.C47 : PC := .seq (.reg false [⟨some 2, Go.Op.assign (Go.Operand.const (Go.Value.slice none 0 0)), none, false⟩] [0]) (.seq (.reg false [⟨some 4, Go.Op.move (Go.Operand.tmp 0), none, false⟩,
    ⟨some 5, Go.Op.call { callee := Go.Callee.value (Go.Operand.func 63), args := #[Go.Operand.tmp 4], argTypes := #[83] }, none, false⟩,
    ⟨some 3, Go.Op.assign (Go.Operand.tmp 5), none, false⟩] [3]) (.seq (.reg false [⟨some 6, Go.Op.move (Go.Operand.tmp 3), none, false⟩,
    ⟨some 7, Go.Op.call { callee := Go.Callee.value (Go.Operand.func 64), args := #[Go.Operand.tmp 6], argTypes := #[31] }, none, false⟩] [3]) (.seq (.reg false [⟨some 8, Go.Op.move (Go.Operand.tmp 3), none, false⟩,
    ⟨some 2, Go.Op.assign (Go.Operand.tmp 8), none, false⟩] [2]) (.ret))))
theorem Tryd.comp47 : ∃ c, Tryd.f47.body = some c ∧ compile c = erase Tryd.C47 := ⟨_, rfl, by kernel_rfl⟩
theorem Tryd.rs47 : Tryd.f47.results.toList = [Go.ResultVar.tmp 2] := by kernel_rfl
theorem Tryd.nt47 : Tryd.f47.ntmps = 9 := by kernel_rfl
theorem Tryd.en47 : ∀ vs w, (callFunc 47 vs).run Tryd.prog w = .ok (.enter 47 vs) w := enters_of Tryd.func47 (by kernel_rfl) rfl
theorem Tryd.ctr47 {a0 : V} {bx : Boxes} {Kc : V → Boxes → Prop} (h : FinB bx → pw Tryd.prog Tryd.C47 (retQ Tryd.prog [Go.ResultVar.tmp 2] Kc) ⟨9, slk [(0, a0)], bx⟩) : AbsCall Tryd.prog 47 [a0] bx Kc := abs_of (by kernel_rfl) Tryd.func47 Tryd.comp47 Tryd.en47 Tryd.nt47 Tryd.rs47 (fun hb => by rw [initSt_1]; exact h hb)
noncomputable def Tryd.C48 : PC := .seq (.reg false [⟨some 1, Go.Op.box 31 (Go.Operand.tmp 0), none, true⟩,
    ⟨some 2, Go.Op.assign (Go.Operand.const Go.Value.nilFunc), none, false⟩] [1]) (.seq (.reg false [⟨some 3, Go.Op.makeFunc (Go.Fn.func 65) #[] #[Go.Operand.tmp 1], none, false⟩,
    ⟨some 2, Go.Op.assign (Go.Operand.tmp 3), none, false⟩] [2]) (.ret))
theorem Tryd.comp48 : ∃ c, Tryd.f48.body = some c ∧ compile c = erase Tryd.C48 := ⟨_, rfl, by kernel_rfl⟩
theorem Tryd.rs48 : Tryd.f48.results.toList = [Go.ResultVar.tmp 2] := by kernel_rfl
theorem Tryd.nt48 : Tryd.f48.ntmps = 4 := by kernel_rfl
theorem Tryd.en48 : ∀ vs w, (callFunc 48 vs).run Tryd.prog w = .ok (.enter 48 vs) w := enters_of Tryd.func48 (by kernel_rfl) rfl
theorem Tryd.ctr48 {a0 : V} {bx : Boxes} {Kc : V → Boxes → Prop} (h : FinB bx → pw Tryd.prog Tryd.C48 (retQ Tryd.prog [Go.ResultVar.tmp 2] Kc) ⟨4, slk [(0, a0)], bx⟩) : AbsCall Tryd.prog 48 [a0] bx Kc := abs_of (by kernel_rfl) Tryd.func48 Tryd.comp48 Tryd.en48 Tryd.nt48 Tryd.rs48 (fun hb => by rw [initSt_1]; exact h hb)
theorem Tryd.en49 : ∀ vs w, (callFunc 49 vs).run Tryd.prog w = .ok (.enter 49 vs) w := enters_of Tryd.func49 (by kernel_rfl) rfl
noncomputable def Tryd.L51_0 : PC := .block 1 (.seq (.reg false [⟨some 21, Go.Op.move (Go.Operand.tmp 2), none, false⟩,
    ⟨some 22, Go.Op.move (Go.Operand.tmp 1), none, false⟩,
    ⟨some 23, Go.Op.binOp Go.BinOp.sub 3 (Go.Operand.tmp 21) (Go.Operand.tmp 22) 3, none, false⟩,
    ⟨some 12, Go.Op.assign (Go.Operand.tmp 23), none, false⟩] [0, 1, 2, 3, 4, 10, 11, 12]) (.seq (.seq (.reg false [⟨some 24, Go.Op.move (Go.Operand.tmp 12), none, false⟩,
    ⟨some 25, Go.Op.binOp Go.BinOp.leq 3 (Go.Operand.tmp 24) (Go.Operand.const (Go.Value.int Go.IntKind.i64 12)) 3, none, false⟩] [0, 1, 2, 3, 4, 10, 11, 12, 25]) (.cond (Go.Operand.tmp 25) (.seq (.reg false [⟨some 26, Go.Op.move (Go.Operand.tmp 0), none, false⟩,
    ⟨some 27, Go.Op.move (Go.Operand.tmp 1), none, false⟩,
    ⟨some 28, Go.Op.move (Go.Operand.tmp 2), none, false⟩,
    ⟨some 29, Go.Op.move (Go.Operand.tmp 4), none, false⟩,
    ⟨some 30, Go.Op.call { callee := Go.Callee.value (Go.Operand.func 67), args := #[Go.Operand.tmp 26, Go.Operand.tmp 27, Go.Operand.tmp 28, Go.Operand.tmp 29], argTypes := #[33, 3, 3, 69] }, none, false⟩] []) (.ret)) (.skip))) (.seq (.seq (.reg false [⟨some 31, Go.Op.move (Go.Operand.tmp 3), none, false⟩,
    ⟨some 32, Go.Op.binOp Go.BinOp.eql 3 (Go.Operand.tmp 31) (Go.Operand.const (Go.Value.int Go.IntKind.i64 0)) 3, none, false⟩] [0, 1, 2, 3, 4, 10, 11, 12, 32]) (.cond (Go.Operand.tmp 32) (.seq (.reg false [⟨some 33, Go.Op.move (Go.Operand.tmp 0), none, false⟩,
    ⟨some 34, Go.Op.move (Go.Operand.tmp 1), none, false⟩,
    ⟨some 35, Go.Op.move (Go.Operand.tmp 2), none, false⟩,
    ⟨some 36, Go.Op.move (Go.Operand.tmp 4), none, false⟩,
    ⟨some 37, Go.Op.call { callee := Go.Callee.value (Go.Operand.func 68), args := #[Go.Operand.tmp 33, Go.Operand.tmp 34, Go.Operand.tmp 35, Go.Operand.tmp 36], argTypes := #[33, 3, 3, 69] }, none, false⟩] []) (.ret)) (.skip))) (.seq (.seq (.reg false [⟨some 38, Go.Op.move (Go.Operand.tmp 10), none, false⟩,
    ⟨some 39, Go.Op.unOp Go.UnOp.not 4 (Go.Operand.tmp 38), none, false⟩] [0, 1, 2, 3, 4, 10, 11, 12, 39]) (.cond (Go.Operand.tmp 39) (.seq (.reg false [⟨some 40, Go.Op.move (Go.Operand.tmp 0), none, false⟩,
    ⟨some 41, Go.Op.move (Go.Operand.tmp 1), none, false⟩,
    ⟨some 42, Go.Op.move (Go.Operand.tmp 2), none, false⟩,
    ⟨some 43, Go.Op.move (Go.Operand.tmp 4), none, false⟩,
    ⟨some 44, Go.Op.call { callee := Go.Callee.value (Go.Operand.func 69), args := #[Go.Operand.tmp 40, Go.Operand.tmp 41, Go.Operand.tmp 42, Go.Operand.tmp 43], argTypes := #[33, 3, 3, 69] }, none, false⟩] [0, 1, 2, 3, 4, 10, 11, 12]) (.reg false [⟨some 45, Go.Op.move (Go.Operand.tmp 3), none, false⟩,
    ⟨some 46, Go.Op.binOp Go.BinOp.sub 3 (Go.Operand.tmp 45) (Go.Operand.const (Go.Value.int Go.IntKind.i64 1)) 3, none, false⟩,
    ⟨some 3, Go.Op.assign (Go.Operand.tmp 46), none, false⟩] [0, 1, 2, 3, 4, 10, 11, 12])) (.skip))) (.seq (.reg false [⟨some 48, Go.Op.move (Go.Operand.tmp 0), none, false⟩,
    ⟨some 49, Go.Op.move (Go.Operand.tmp 1), none, false⟩,
    ⟨some 50, Go.Op.move (Go.Operand.tmp 2), none, false⟩,
    ⟨some 51, Go.Op.move (Go.Operand.tmp 4), none, false⟩,
    ⟨some 52, Go.Op.call { callee := Go.Callee.value (Go.Operand.func 70), args := #[Go.Operand.tmp 48, Go.Operand.tmp 49, Go.Operand.tmp 50, Go.Operand.tmp 51], argTypes := #[33, 3, 3, 69] }, none, false⟩,
    ⟨some 47, Go.Op.move (Go.Operand.tmp 52), none, false⟩,
    ⟨some 53, Go.Op.extract (Go.Operand.tmp 47) 0, none, false⟩,
    ⟨some 54, Go.Op.extract (Go.Operand.tmp 47) 1, none, false⟩,
    ⟨some 13, Go.Op.assign (Go.Operand.tmp 53), none, false⟩,
    ⟨some 14, Go.Op.assign (Go.Operand.tmp 54), none, false⟩] [0, 1, 2, 3, 4, 10, 11, 12, 13, 14]) (.seq (.seq (.reg false [⟨some 55, Go.Op.move (Go.Operand.tmp 14), none, false⟩,
    ⟨some 56, Go.Op.binOp Go.BinOp.eql 101 (Go.Operand.tmp 55) (Go.Operand.const (Go.Value.int Go.IntKind.i64 2)) 101, none, false⟩] [0, 1, 2, 3, 4, 10, 11, 12, 13, 14, 56]) (.cond (Go.Operand.tmp 56) (.seq (.reg false [⟨some 57, Go.Op.move (Go.Operand.tmp 0), none, false⟩,
    ⟨some 58, Go.Op.move (Go.Operand.tmp 1), none, false⟩,
    ⟨some 59, Go.Op.move (Go.Operand.tmp 2), none, false⟩,
    ⟨some 60, Go.Op.move (Go.Operand.tmp 4), none, false⟩,
    ⟨some 61, Go.Op.call { callee := Go.Callee.value (Go.Operand.func 71), args := #[Go.Operand.tmp 57, Go.Operand.tmp 58, Go.Operand.tmp 59, Go.Operand.tmp 60], argTypes := #[33, 3, 3, 69] }, none, false⟩] [0, 1, 2, 3, 4, 10, 11, 12, 13]) (.seq (.reg false [⟨some 62, Go.Op.move (Go.Operand.tmp 2), none, false⟩,
    ⟨some 63, Go.Op.binOp Go.BinOp.sub 3 (Go.Operand.tmp 62) (Go.Operand.const (Go.Value.int Go.IntKind.i64 1)) 3, none, false⟩,
    ⟨some 64, Go.Op.move (Go.Operand.tmp 13), none, false⟩,
    ⟨some 65, Go.Op.move (Go.Operand.tmp 1), none, false⟩,
    ⟨some 66, Go.Op.binOp Go.BinOp.sub 3 (Go.Operand.tmp 64) (Go.Operand.tmp 65) 3, none, false⟩,
    ⟨some 67, Go.Op.binOp Go.BinOp.sub 3 (Go.Operand.tmp 63) (Go.Operand.tmp 66) 3, none, false⟩,
    ⟨some 13, Go.Op.assign (Go.Operand.tmp 67), none, false⟩] [0, 1, 2, 3, 4, 10, 11, 12, 13]) (.reg false [⟨some 14, Go.Op.assign (Go.Operand.const (Go.Value.int Go.IntKind.i64 1)), none, false⟩] [0, 1, 2, 3, 4, 10, 11, 12, 13, 14]))) (.skip))) (.seq (.seq (.reg false [⟨some 68, Go.Op.move (Go.Operand.tmp 10), none, false⟩,
    ⟨some 69, Go.Op.move (Go.Operand.tmp 68), none, false⟩,
    ⟨some 70, Go.Op.move (Go.Operand.tmp 11), some (69, true), false⟩,
    ⟨some 71, Go.Op.pick (Go.Operand.tmp 69) (Go.Operand.tmp 70) (Go.Operand.const (Go.Value.bool false)), none, false⟩,
    ⟨some 72, Go.Op.move (Go.Operand.tmp 71), none, false⟩,
    ⟨some 73, Go.Op.move (Go.Operand.tmp 14), some (72, true), false⟩,
    ⟨some 74, Go.Op.binOp Go.BinOp.eql 101 (Go.Operand.tmp 73) (Go.Operand.const (Go.Value.int Go.IntKind.i64 1)) 101, some (72, true), false⟩,
    ⟨some 75, Go.Op.pick (Go.Operand.tmp 72) (Go.Operand.tmp 74) (Go.Operand.const (Go.Value.bool false)), none, false⟩] [0, 1, 2, 3, 4, 10, 11, 12, 13, 75]) (.cond (Go.Operand.tmp 75) (.seq (.reg false [⟨some 76, Go.Op.move (Go.Operand.tmp 0), none, false⟩,
    ⟨some 77, Go.Op.move (Go.Operand.tmp 1), none, false⟩,
    ⟨some 78, Go.Op.move (Go.Operand.tmp 2), none, false⟩,
    ⟨some 79, Go.Op.move (Go.Operand.tmp 4), none, false⟩,
    ⟨some 80, Go.Op.call { callee := Go.Callee.value (Go.Operand.func 72), args := #[Go.Operand.tmp 76, Go.Operand.tmp 77, Go.Operand.tmp 78, Go.Operand.tmp 79], argTypes := #[33, 3, 3, 69] }, none, false⟩] [0, 1, 2, 3, 4, 10, 11, 12, 13, 80]) (.cond (Go.Operand.tmp 80) (.ret) (.skip))) (.skip))) (.seq (.seq (.reg true [⟨some 81, Go.Op.move (Go.Operand.tmp 1), none, false⟩,
    ⟨some 82, Go.Op.binOp Go.BinOp.gtr 3 (Go.Operand.tmp 81) (Go.Operand.const (Go.Value.int Go.IntKind.i64 0)) 3, none, false⟩,
    ⟨some 83, Go.Op.move (Go.Operand.tmp 82), none, false⟩,
    ⟨some 84, Go.Op.move (Go.Operand.tmp 4), some (83, true), false⟩,
    ⟨some 85, Go.Op.move (Go.Operand.tmp 0), some (83, true), false⟩,
    ⟨some 86, Go.Op.move (Go.Operand.tmp 1), some (83, true), false⟩,
    ⟨some 87, Go.Op.binOp Go.BinOp.sub 3 (Go.Operand.tmp 86) (Go.Operand.const (Go.Value.int Go.IntKind.i64 1)) 3, some (83, true), false⟩,
    ⟨some 88, Go.Op.indexAddr 33 (Go.Operand.tmp 85) (Go.Operand.tmp 87), some (83, true), false⟩,
    ⟨some 89, Go.Op.load 57 (Go.Operand.tmp 88), some (83, true), false⟩,
    ⟨some 90, Go.Op.move (Go.Operand.tmp 0), some (83, true), false⟩,
    ⟨some 91, Go.Op.move (Go.Operand.tmp 13), some (83, true), false⟩,
    ⟨some 92, Go.Op.indexAddr 33 (Go.Operand.tmp 90) (Go.Operand.tmp 91), some (83, true), false⟩,
    ⟨some 93, Go.Op.load 57 (Go.Operand.tmp 92), some (83, true), false⟩,
    ⟨some 94, Go.Op.call { callee := Go.Callee.value (Go.Operand.tmp 84), args := #[Go.Operand.tmp 89, Go.Operand.tmp 93], argTypes := #[57, 57] }, some (83, true), false⟩,
    ⟨some 95, Go.Op.binOp Go.BinOp.lss 3 (Go.Operand.tmp 94) (Go.Operand.const (Go.Value.int Go.IntKind.i64 0)) 3, some (83, true), false⟩,
    ⟨some 96, Go.Op.unOp Go.UnOp.not 4 (Go.Operand.tmp 95), some (83, true), false⟩,
    ⟨some 97, Go.Op.pick (Go.Operand.tmp 83) (Go.Operand.tmp 96) (Go.Operand.const (Go.Value.bool false)), none, false⟩] [0, 1, 2, 3, 4, 10, 11, 12, 13, 97]) (.cond (Go.Operand.tmp 97) (.seq (.reg false [⟨some 98, Go.Op.move (Go.Operand.tmp 0), none, false⟩,
    ⟨some 99, Go.Op.move (Go.Operand.tmp 1), none, false⟩,
    ⟨some 100, Go.Op.move (Go.Operand.tmp 2), none, false⟩,
    ⟨some 101, Go.Op.move (Go.Operand.tmp 13), none, false⟩,
    ⟨some 102, Go.Op.move (Go.Operand.tmp 4), none, false⟩,
    ⟨some 103, Go.Op.call { callee := Go.Callee.value (Go.Operand.func 73), args := #[Go.Operand.tmp 98, Go.Operand.tmp 99, Go.Operand.tmp 100, Go.Operand.tmp 101, Go.Operand.tmp 102], argTypes := #[33, 3, 3, 3, 69] }, none, false⟩,
    ⟨some 15, Go.Op.assign (Go.Operand.tmp 103), none, false⟩] [0, 2, 3, 4, 10, 11, 15]) (.seq (.reg false [⟨some 104, Go.Op.move (Go.Operand.tmp 15), none, false⟩,
    ⟨some 1, Go.Op.assign (Go.Operand.tmp 104), none, false⟩] [0, 1, 2, 3, 4, 10, 11]) (.exit 1))) (.skip))) (.seq (.reg false [⟨some 106, Go.Op.move (Go.Operand.tmp 0), none, false⟩,
    ⟨some 107, Go.Op.move (Go.Operand.tmp 1), none, false⟩,
    ⟨some 108, Go.Op.move (Go.Operand.tmp 2), none, false⟩,
    ⟨some 109, Go.Op.move (Go.Operand.tmp 13), none, false⟩,
    ⟨some 110, Go.Op.move (Go.Operand.tmp 4), none, false⟩,
    ⟨some 111, Go.Op.call { callee := Go.Callee.value (Go.Operand.func 74), args := #[Go.Operand.tmp 106, Go.Operand.tmp 107, Go.Operand.tmp 108, Go.Operand.tmp 109, Go.Operand.tmp 110], argTypes := #[33, 3, 3, 3, 69] }, none, false⟩,
    ⟨some 105, Go.Op.move (Go.Operand.tmp 111), none, false⟩,
    ⟨some 112, Go.Op.extract (Go.Operand.tmp 105) 0, none, false⟩,
    ⟨some 113, Go.Op.extract (Go.Operand.tmp 105) 1, none, false⟩,
    ⟨some 16, Go.Op.assign (Go.Operand.tmp 112), none, false⟩,
    ⟨some 17, Go.Op.assign (Go.Operand.tmp 113), none, false⟩] [0, 1, 2, 3, 4, 12, 16, 17]) (.seq (.reg false [⟨some 114, Go.Op.move (Go.Operand.tmp 17), none, false⟩,
    ⟨some 11, Go.Op.assign (Go.Operand.tmp 114), none, false⟩] [0, 1, 2, 3, 4, 11, 12, 16]) (.seq (.reg false [⟨some 115, Go.Op.move (Go.Operand.tmp 16), none, false⟩,
    ⟨some 116, Go.Op.move (Go.Operand.tmp 1), none, false⟩,
    ⟨some 117, Go.Op.binOp Go.BinOp.sub 3 (Go.Operand.tmp 115) (Go.Operand.tmp 116) 3, none, false⟩,
    ⟨some 118, Go.Op.move (Go.Operand.tmp 2), none, false⟩,
    ⟨some 119, Go.Op.move (Go.Operand.tmp 16), none, false⟩,
    ⟨some 120, Go.Op.binOp Go.BinOp.sub 3 (Go.Operand.tmp 118) (Go.Operand.tmp 119) 3, none, false⟩,
    ⟨some 18, Go.Op.assign (Go.Operand.tmp 117), none, false⟩,
    ⟨some 19, Go.Op.assign (Go.Operand.tmp 120), none, false⟩] [0, 1, 2, 3, 4, 11, 12, 16, 18, 19]) (.seq (.reg false [⟨some 121, Go.Op.move (Go.Operand.tmp 12), none, false⟩,
    ⟨some 122, Go.Op.binOp Go.BinOp.quo 3 (Go.Operand.tmp 121) (Go.Operand.const (Go.Value.int Go.IntKind.i64 8)) 3, none, false⟩,
    ⟨some 20, Go.Op.assign (Go.Operand.tmp 122), none, false⟩] [0, 1, 2, 3, 4, 11, 16, 18, 19, 20]) (.seq (.reg false [⟨some 123, Go.Op.move (Go.Operand.tmp 18), none, false⟩,
    ⟨some 124, Go.Op.move (Go.Operand.tmp 19), none, false⟩,
    ⟨some 125, Go.Op.binOp Go.BinOp.lss 3 (Go.Operand.tmp 123) (Go.Operand.tmp 124) 3, none, false⟩] [0, 1, 2, 3, 4, 11, 16, 18, 19, 20, 125]) (.cond (Go.Operand.tmp 125) (.seq (.reg false [⟨some 126, Go.Op.move (Go.Operand.tmp 18), none, false⟩,
    ⟨some 127, Go.Op.move (Go.Operand.tmp 20), none, false⟩,
    ⟨some 128, Go.Op.binOp Go.BinOp.geq 3 (Go.Operand.tmp 126) (Go.Operand.tmp 127) 3, none, false⟩,
    ⟨some 10, Go.Op.assign (Go.Operand.tmp 128), none, false⟩] [0, 1, 2, 3, 4, 10, 11, 16]) (.seq (.reg false [⟨some 129, Go.Op.move (Go.Operand.tmp 0), none, false⟩,
    ⟨some 130, Go.Op.move (Go.Operand.tmp 1), none, false⟩,
    ⟨some 131, Go.Op.move (Go.Operand.tmp 16), none, false⟩,
    ⟨some 132, Go.Op.move (Go.Operand.tmp 3), none, false⟩,
    ⟨some 133, Go.Op.move (Go.Operand.tmp 4), none, false⟩,
    ⟨some 134, Go.Op.call { callee := Go.Callee.value (Go.Operand.func 51), args := #[Go.Operand.tmp 129, Go.Operand.tmp 130, Go.Operand.tmp 131, Go.Operand.tmp 132, Go.Operand.tmp 133], argTypes := #[33, 3, 3, 3, 69] }, none, false⟩] [0, 2, 3, 4, 10, 11, 16]) (.reg false [⟨some 135, Go.Op.move (Go.Operand.tmp 16), none, false⟩,
    ⟨some 136, Go.Op.binOp Go.BinOp.add 3 (Go.Operand.tmp 135) (Go.Operand.const (Go.Value.int Go.IntKind.i64 1)) 3, none, false⟩,
    ⟨some 1, Go.Op.assign (Go.Operand.tmp 136), none, false⟩] [0, 1, 2, 3, 4, 10, 11]))) (.seq (.reg false [⟨some 137, Go.Op.move (Go.Operand.tmp 19), none, false⟩,
    ⟨some 138, Go.Op.move (Go.Operand.tmp 20), none, false⟩,
    ⟨some 139, Go.Op.binOp Go.BinOp.geq 3 (Go.Operand.tmp 137) (Go.Operand.tmp 138) 3, none, false⟩,
    ⟨some 10, Go.Op.assign (Go.Operand.tmp 139), none, false⟩] [0, 1, 2, 3, 4, 10, 11, 16]) (.seq (.reg false [⟨some 140, Go.Op.move (Go.Operand.tmp 0), none, false⟩,
    ⟨some 141, Go.Op.move (Go.Operand.tmp 16), none, false⟩,
    ⟨some 142, Go.Op.binOp Go.BinOp.add 3 (Go.Operand.tmp 141) (Go.Operand.const (Go.Value.int Go.IntKind.i64 1)) 3, none, false⟩,
    ⟨some 143, Go.Op.move (Go.Operand.tmp 2), none, false⟩,
    ⟨some 144, Go.Op.move (Go.Operand.tmp 3), none, false⟩,
    ⟨some 145, Go.Op.move (Go.Operand.tmp 4), none, false⟩,
    ⟨some 146, Go.Op.call { callee := Go.Callee.value (Go.Operand.func 51), args := #[Go.Operand.tmp 140, Go.Operand.tmp 142, Go.Operand.tmp 143, Go.Operand.tmp 144, Go.Operand.tmp 145], argTypes := #[33, 3, 3, 3, 69] }, none, false⟩] [0, 1, 3, 4, 10, 11, 16]) (.reg false [⟨some 147, Go.Op.move (Go.Operand.tmp 16), none, false⟩,
    ⟨some 2, Go.Op.assign (Go.Operand.tmp 147), none, false⟩] [0, 1, 2, 3, 4, 10, 11])))))))))))))))))
noncomputable def Tryd.C51 : PC := .seq (.reg false [⟨some 10, Go.Op.assign (Go.Operand.const (Go.Value.bool true)), none, false⟩] [0, 1, 2, 3, 4, 10]) (.seq (.reg false [⟨some 11, Go.Op.assign (Go.Operand.const (Go.Value.bool true)), none, false⟩] [0, 1, 2, 3, 4, 10, 11]) (.block 0 (.loop Tryd.L51_0)))
theorem Tryd.comp51 : ∃ c, Tryd.f51.body = some c ∧ compile c = erase Tryd.C51 := ⟨_, rfl, by kernel_rfl⟩
theorem Tryd.rs51 : Tryd.f51.results.toList = [] := by kernel_rfl
theorem Tryd.nt51 : Tryd.f51.ntmps = 148 := by kernel_rfl
theorem Tryd.en51 : ∀ vs w, (callFunc 51 vs).run Tryd.prog w = .ok (.enter 51 vs) w := enters_of Tryd.func51 (by kernel_rfl) rfl
theorem Tryd.ctr51 {a0 a1 a2 a3 a4 : V} {bx : Boxes} {Kc : V → Boxes → Prop} (h : FinB bx → pw Tryd.prog Tryd.C51 (retQ Tryd.prog [] Kc) ⟨148, slk [(0, a0), (1, a1), (2, a2), (3, a3), (4, a4)], bx⟩) : AbsCall Tryd.prog 51 [a0, a1, a2, a3, a4] bx Kc := abs_of (by kernel_rfl) Tryd.func51 Tryd.comp51 Tryd.en51 Tryd.nt51 Tryd.rs51 (fun hb => by rw [initSt_5]; exact h hb)
theorem Tryd.en52 : ∀ vs w, (callFunc 52 vs).run Tryd.prog w = .ok (.enter 52 vs) w := enters_of Tryd.func52 (by kernel_rfl) rfl
noncomputable def Tryd.C53 : PC := .seq (.reg false [⟨some 2, Go.Op.assign (Go.Operand.const (Go.Value.bool false)), none, false⟩] [0]) (.seq (.reg false [⟨some 3, Go.Op.move (Go.Operand.tmp 0), none, false⟩,
    ⟨some 4, Go.Op.move (Go.Operand.tmp 0), none, false⟩,
    ⟨some 5, Go.Op.binOp Go.BinOp.neq 25 (Go.Operand.tmp 3) (Go.Operand.tmp 4) 25, none, false⟩,
    ⟨some 2, Go.Op.assign (Go.Operand.tmp 5), none, false⟩] [2]) (.ret))
theorem Tryd.comp53 : ∃ c, Tryd.f53.body = some c ∧ compile c = erase Tryd.C53 := ⟨_, rfl, by kernel_rfl⟩
theorem Tryd.rs53 : Tryd.f53.results.toList = [Go.ResultVar.tmp 2] := by kernel_rfl
theorem Tryd.nt53 : Tryd.f53.ntmps = 6 := by kernel_rfl
theorem Tryd.en53 : ∀ vs w, (callFunc 53 vs).run Tryd.prog w = .ok (.enter 53 vs) w := enters_of Tryd.func53 (by kernel_rfl) rfl
theorem Tryd.ctr53 {a0 : V} {bx : Boxes} {Kc : V → Boxes → Prop} (h : FinB bx → pw Tryd.prog Tryd.C53 (retQ Tryd.prog [Go.ResultVar.tmp 2] Kc) ⟨6, slk [(0, a0)], bx⟩) : AbsCall Tryd.prog 53 [a0] bx Kc := abs_of (by kernel_rfl) Tryd.func53 Tryd.comp53 Tryd.en53 Tryd.nt53 Tryd.rs53 (fun hb => by rw [initSt_1]; exact h hb)
noncomputable def Tryd.C54 : PC := .seq (.reg false [⟨some 2, Go.Op.assign (Go.Operand.const (Go.Value.bool false)), none, false⟩] [0]) (.seq (.reg false [⟨some 3, Go.Op.move (Go.Operand.tmp 0), none, false⟩,
    ⟨some 4, Go.Op.move (Go.Operand.tmp 0), none, false⟩,
    ⟨some 5, Go.Op.binOp Go.BinOp.neq 3 (Go.Operand.tmp 3) (Go.Operand.tmp 4) 3, none, false⟩,
    ⟨some 2, Go.Op.assign (Go.Operand.tmp 5), none, false⟩] [2]) (.ret))
theorem Tryd.comp54 : ∃ c, Tryd.f54.body = some c ∧ compile c = erase Tryd.C54 := ⟨_, rfl, by kernel_rfl⟩
theorem Tryd.rs54 : Tryd.f54.results.toList = [Go.ResultVar.tmp 2] := by kernel_rfl
theorem Tryd.nt54 : Tryd.f54.ntmps = 6 := by kernel_rfl
theorem Tryd.en54 : ∀ vs w, (callFunc 54 vs).run Tryd.prog w = .ok (.enter 54 vs) w := enters_of Tryd.func54 (by kernel_rfl) rfl
theorem Tryd.ctr54 {a0 : V} {bx : Boxes} {Kc : V → Boxes → Prop} (h : FinB bx → pw Tryd.prog Tryd.C54 (retQ Tryd.prog [Go.ResultVar.tmp 2] Kc) ⟨6, slk [(0, a0)], bx⟩) : AbsCall Tryd.prog 54 [a0] bx Kc := abs_of (by kernel_rfl) Tryd.func54 Tryd.comp54 Tryd.en54 Tryd.nt54 Tryd.rs54 (fun hb => by rw [initSt_1]; exact h hb)
noncomputable def Tryd.C55 : PC := .seq (.reg false [⟨some 2, Go.Op.assign (Go.Operand.const (Go.Value.bool false)), none, false⟩] [0]) (.seq (.reg false [⟨some 3, Go.Op.move (Go.Operand.tmp 0), none, false⟩,
    ⟨some 4, Go.Op.call { callee := Go.Callee.builtin Go.Builtin.len, args := #[Go.Operand.tmp 3], argTypes := #[9] }, none, false⟩,
    ⟨some 5, Go.Op.binOp Go.BinOp.gtr 3 (Go.Operand.tmp 4) (Go.Operand.const (Go.Value.int Go.IntKind.i64 200)) 3, none, false⟩,
    ⟨some 2, Go.Op.assign (Go.Operand.tmp 5), none, false⟩] [2]) (.ret))
theorem Tryd.comp55 : ∃ c, Tryd.f55.body = some c ∧ compile c = erase Tryd.C55 := ⟨_, rfl, by kernel_rfl⟩
theorem Tryd.rs55 : Tryd.f55.results.toList = [Go.ResultVar.tmp 2] := by kernel_rfl
theorem Tryd.nt55 : Tryd.f55.ntmps = 6 := by kernel_rfl
theorem Tryd.en55 : ∀ vs w, (callFunc 55 vs).run Tryd.prog w = .ok (.enter 55 vs) w := enters_of Tryd.func55 (by kernel_rfl) rfl
theorem Tryd.ctr55 {a0 : V} {bx : Boxes} {Kc : V → Boxes → Prop} (h : FinB bx → pw Tryd.prog Tryd.C55 (retQ Tryd.prog [Go.ResultVar.tmp 2] Kc) ⟨6, slk [(0, a0)], bx⟩) : AbsCall Tryd.prog 55 [a0] bx Kc := abs_of (by kernel_rfl) Tryd.func55 Tryd.comp55 Tryd.en55 Tryd.nt55 Tryd.rs55 (fun hb => by rw [initSt_1]; exact h hb)
noncomputable def Tryd.L56_0 : PC := .seq (.seq (.reg false [⟨some 15, Go.Op.move (Go.Operand.tmp 9), none, false⟩,
    ⟨some 16, Go.Op.move (Go.Operand.tmp 10), none, false⟩,
    ⟨some 17, Go.Op.binOp Go.BinOp.lss 3 (Go.Operand.tmp 15) (Go.Operand.tmp 16) 3, none, false⟩] [0, 1, 2, 8, 9, 10, 17]) (.cond (Go.Operand.tmp 17) (.skip) (.exit 0))) (.block 1 (.seq (.reg false [⟨some 18, Go.Op.move (Go.Operand.tmp 9), none, false⟩,
    ⟨some 19, Go.Op.move (Go.Operand.tmp 10), none, false⟩,
    ⟨some 20, Go.Op.binOp Go.BinOp.add 3 (Go.Operand.tmp 18) (Go.Operand.tmp 19) 3, none, false⟩,
    ⟨some 21, Go.Op.convert 3 87 (Go.Operand.tmp 20), none, false⟩,
    ⟨some 22, Go.Op.binOp Go.BinOp.shr 87 (Go.Operand.tmp 21) (Go.Operand.const (Go.Value.int Go.IntKind.u64 1)) 87, none, false⟩,
    ⟨some 23, Go.Op.convert 87 3 (Go.Operand.tmp 22), none, false⟩,
    ⟨some 11, Go.Op.assign (Go.Operand.tmp 23), none, false⟩] [0, 1, 2, 8, 9, 10, 11]) (.seq (.reg false [⟨some 24, Go.Op.move (Go.Operand.tmp 2), none, false⟩,
    ⟨some 25, Go.Op.move (Go.Operand.tmp 0), none, false⟩,
    ⟨some 26, Go.Op.move (Go.Operand.tmp 11), none, false⟩,
    ⟨some 27, Go.Op.indexAddr 33 (Go.Operand.tmp 25) (Go.Operand.tmp 26), none, false⟩,
    ⟨some 28, Go.Op.load 57 (Go.Operand.tmp 27), none, false⟩,
    ⟨some 29, Go.Op.move (Go.Operand.tmp 1), none, false⟩,
    ⟨some 30, Go.Op.call { callee := Go.Callee.value (Go.Operand.tmp 24), args := #[Go.Operand.tmp 28, Go.Operand.tmp 29], argTypes := #[57, 25] }, none, false⟩,
    ⟨some 31, Go.Op.binOp Go.BinOp.lss 3 (Go.Operand.tmp 30) (Go.Operand.const (Go.Value.int Go.IntKind.i64 0)) 3, none, false⟩] [0, 1, 2, 8, 9, 10, 11, 31]) (.cond (Go.Operand.tmp 31) (.reg false [⟨some 32, Go.Op.move (Go.Operand.tmp 11), none, false⟩,
    ⟨some 33, Go.Op.binOp Go.BinOp.add 3 (Go.Operand.tmp 32) (Go.Operand.const (Go.Value.int Go.IntKind.i64 1)) 3, none, false⟩,
    ⟨some 9, Go.Op.assign (Go.Operand.tmp 33), none, false⟩] [0, 1, 2, 8, 9, 10]) (.reg false [⟨some 34, Go.Op.move (Go.Operand.tmp 11), none, false⟩,
    ⟨some 10, Go.Op.assign (Go.Operand.tmp 34), none, false⟩] [0, 1, 2, 8, 9, 10])))))
noncomputable def Tryd.C56 : PC := .seq (.reg false [⟨some 6, Go.Op.assign (Go.Operand.const (Go.Value.int Go.IntKind.i64 0)), none, false⟩,
    ⟨some 7, Go.Op.assign (Go.Operand.const (Go.Value.bool false)), none, false⟩] [0, 1, 2]) (.seq (.reg false [⟨some 12, Go.Op.move (Go.Operand.tmp 0), none, false⟩,
    ⟨some 13, Go.Op.call { callee := Go.Callee.builtin Go.Builtin.len, args := #[Go.Operand.tmp 12], argTypes := #[33] }, none, false⟩,
    ⟨some 8, Go.Op.assign (Go.Operand.tmp 13), none, false⟩] [0, 1, 2, 8]) (.seq (.reg false [⟨some 14, Go.Op.move (Go.Operand.tmp 8), none, false⟩,
    ⟨some 9, Go.Op.assign (Go.Operand.const (Go.Value.int Go.IntKind.i64 0)), none, false⟩,
    ⟨some 10, Go.Op.assign (Go.Operand.tmp 14), none, false⟩] [0, 1, 2, 8, 9, 10]) (.seq (.block 0 (.loop Tryd.L56_0)) (.seq (.reg false [⟨some 35, Go.Op.move (Go.Operand.tmp 9), none, false⟩,
    ⟨some 36, Go.Op.move (Go.Operand.tmp 9), none, false⟩,
    ⟨some 37, Go.Op.move (Go.Operand.tmp 8), none, false⟩,
    ⟨some 38, Go.Op.binOp Go.BinOp.lss 3 (Go.Operand.tmp 36) (Go.Operand.tmp 37) 3, none, false⟩,
    ⟨some 39, Go.Op.move (Go.Operand.tmp 38), none, false⟩,
    ⟨some 40, Go.Op.move (Go.Operand.tmp 2), some (39, true), false⟩,
    ⟨some 41, Go.Op.move (Go.Operand.tmp 0), some (39, true), false⟩,
    ⟨some 42, Go.Op.move (Go.Operand.tmp 9), some (39, true), false⟩,
    ⟨some 43, Go.Op.indexAddr 33 (Go.Operand.tmp 41) (Go.Operand.tmp 42), some (39, true), false⟩,
    ⟨some 44, Go.Op.load 57 (Go.Operand.tmp 43), some (39, true), false⟩,
    ⟨some 45, Go.Op.move (Go.Operand.tmp 1), some (39, true), false⟩,
    ⟨some 46, Go.Op.call { callee := Go.Callee.value (Go.Operand.tmp 40), args := #[Go.Operand.tmp 44, Go.Operand.tmp 45], argTypes := #[57, 25] }, some (39, true), false⟩,
    ⟨some 47, Go.Op.binOp Go.BinOp.eql 3 (Go.Operand.tmp 46) (Go.Operand.const (Go.Value.int Go.IntKind.i64 0)) 3, some (39, true), false⟩,
    ⟨some 48, Go.Op.pick (Go.Operand.tmp 39) (Go.Operand.tmp 47) (Go.Operand.const (Go.Value.bool false)), none, false⟩,
    ⟨some 6, Go.Op.assign (Go.Operand.tmp 35), none, false⟩,
    ⟨some 7, Go.Op.assign (Go.Operand.tmp 48), none, false⟩] [6, 7]) (.ret)))))
theorem Tryd.comp56 : ∃ c, Tryd.f56.body = some c ∧ compile c = erase Tryd.C56 := ⟨_, rfl, by kernel_rfl⟩
theorem Tryd.rs56 : Tryd.f56.results.toList = [Go.ResultVar.tmp 6, Go.ResultVar.tmp 7] := by kernel_rfl
theorem Tryd.nt56 : Tryd.f56.ntmps = 49 := by kernel_rfl
theorem Tryd.en56 : ∀ vs w, (callFunc 56 vs).run Tryd.prog w = .ok (.enter 56 vs) w := enters_of Tryd.func56 (by kernel_rfl) rfl
theorem Tryd.ctr56 {a0 a1 a2 : V} {bx : Boxes} {Kc : V → Boxes → Prop} (h : FinB bx → pw Tryd.prog Tryd.C56 (retQ Tryd.prog [Go.ResultVar.tmp 6, Go.ResultVar.tmp 7] Kc) ⟨49, slk [(0, a0), (1, a1), (2, a2)], bx⟩) : AbsCall Tryd.prog 56 [a0, a1, a2] bx Kc := abs_of (by kernel_rfl) Tryd.func56 Tryd.comp56 Tryd.en56 Tryd.nt56 Tryd.rs56 (fun hb => by rw [initSt_3]; exact h hb)
noncomputable def Tryd.C57 : PC := .seq (.reg false [⟨some 2, Go.Op.box 57 (Go.Operand.tmp 0), none, true⟩,
    ⟨some 4, Go.Op.assign (Go.Operand.const (Go.Value.int Go.IntKind.i64 0)), none, false⟩] [1, 2]) (.seq (.reg false [⟨some 5, Go.Op.fieldAddr 57 (Go.Operand.tmp 2) 0, none, false⟩,
    ⟨some 6, Go.Op.load 25 (Go.Operand.tmp 5), none, false⟩,
    ⟨some 7, Go.Op.move (Go.Operand.tmp 1), none, false⟩,
    ⟨some 8, Go.Op.call { callee := Go.Callee.value (Go.Operand.func 35), args := #[Go.Operand.tmp 6, Go.Operand.tmp 7], argTypes := #[25, 25] }, none, false⟩,
    ⟨some 4, Go.Op.assign (Go.Operand.tmp 8), none, false⟩] [4]) (.ret))
theorem Tryd.comp57 : ∃ c, Tryd.f57.body = some c ∧ compile c = erase Tryd.C57 := ⟨_, rfl, by kernel_rfl⟩
theorem Tryd.rs57 : Tryd.f57.results.toList = [Go.ResultVar.tmp 4] := by kernel_rfl
theorem Tryd.nt57 : Tryd.f57.ntmps = 9 := by kernel_rfl
theorem Tryd.en57 : ∀ vs w, (callFunc 57 vs).run Tryd.prog w = .ok (.enter 57 vs) w := enters_of Tryd.func57 (by kernel_rfl) rfl
theorem Tryd.ctr57 {a0 a1 : V} {bx : Boxes} {Kc : V → Boxes → Prop} (h : FinB bx → pw Tryd.prog Tryd.C57 (retQ Tryd.prog [Go.ResultVar.tmp 4] Kc) ⟨9, slk [(0, a0), (1, a1)], bx⟩) : AbsCall Tryd.prog 57 [a0, a1] bx Kc := abs_of (by kernel_rfl) Tryd.func57 Tryd.comp57 Tryd.en57 Tryd.nt57 Tryd.rs57 (fun hb => by rw [initSt_2]; exact h hb)
theorem Tryd.en58 : ∀ vs w, (callFunc 58 vs).run Tryd.prog w = .ok (.enter 58 vs) w := enters_of Tryd.func58 (by kernel_rfl) rfl
noncomputable def Tryd.L59_0 : PC := .seq (.reg false [⟨some 9, Go.Op.binOp Go.BinOp.lss 3 (Go.Operand.tmp 8) (Go.Operand.tmp 7) 3, none, false⟩] [0, 1, 7, 8, 9]) (.seq (.cond (Go.Operand.tmp 9) (.skip) (.exit 0)) (.seq (.block 1 (.seq (.reg false [⟨some 10, Go.Op.move (Go.Operand.tmp 8), none, false⟩,
    ⟨some 5, Go.Op.assign (Go.Operand.tmp 10), none, false⟩] [0, 1, 5, 7, 8]) (.seq (.reg false [⟨some 11, Go.Op.move (Go.Operand.tmp 1), none, false⟩,
    ⟨some 12, Go.Op.move (Go.Operand.tmp 0), none, false⟩,
    ⟨some 13, Go.Op.move (Go.Operand.tmp 5), none, false⟩,
    ⟨some 14, Go.Op.indexAddr 32 (Go.Operand.tmp 12) (Go.Operand.tmp 13), none, false⟩,
    ⟨some 15, Go.Op.load 3 (Go.Operand.tmp 14), none, false⟩,
    ⟨some 16, Go.Op.binOp Go.BinOp.eql 3 (Go.Operand.tmp 11) (Go.Operand.tmp 15) 3, none, false⟩] [0, 1, 5, 7, 8, 16]) (.cond (Go.Operand.tmp 16) (.seq (.reg false [⟨some 17, Go.Op.move (Go.Operand.tmp 5), none, false⟩,
    ⟨some 4, Go.Op.assign (Go.Operand.tmp 17), none, false⟩] [4]) (.ret)) (.skip))))) (.reg false [⟨some 18, Go.Op.binOp Go.BinOp.add 3 (Go.Operand.tmp 8) (Go.Operand.const (Go.Value.int Go.IntKind.i64 1)) 3, none, false⟩,
    ⟨some 8, Go.Op.move (Go.Operand.tmp 18), none, false⟩] [0, 1, 7, 8])))
noncomputable def Tryd.C59 : PC := .seq (.reg false [⟨some 4, Go.Op.assign (Go.Operand.const (Go.Value.int Go.IntKind.i64 0)), none, false⟩] [0, 1]) (.seq (.seq (.reg false [⟨some 6, Go.Op.move (Go.Operand.tmp 0), none, false⟩,
    ⟨some 7, Go.Op.call { callee := Go.Callee.builtin Go.Builtin.len, args := #[Go.Operand.tmp 6], argTypes := #[32] }, none, false⟩,
    ⟨some 8, Go.Op.move (Go.Operand.const (Go.Value.int Go.IntKind.i64 0)), none, false⟩] [0, 1, 7, 8]) (.block 0 (.loop Tryd.L59_0))) (.seq (.reg false [⟨some 4, Go.Op.assign (Go.Operand.const (Go.Value.int Go.IntKind.i64 (-1))), none, false⟩] [4]) (.ret)))
theorem Tryd.comp59 : ∃ c, Tryd.f59.body = some c ∧ compile c = erase Tryd.C59 := ⟨_, rfl, by kernel_rfl⟩
theorem Tryd.rs59 : Tryd.f59.results.toList = [Go.ResultVar.tmp 4] := by kernel_rfl
theorem Tryd.nt59 : Tryd.f59.ntmps = 19 := by kernel_rfl
theorem Tryd.en59 : ∀ vs w, (callFunc 59 vs).run Tryd.prog w = .ok (.enter 59 vs) w := enters_of Tryd.func59 (by kernel_rfl) rfl
theorem Tryd.ctr59 {a0 a1 : V} {bx : Boxes} {Kc : V → Boxes → Prop} (h : FinB bx → pw Tryd.prog Tryd.C59 (retQ Tryd.prog [Go.ResultVar.tmp 4] Kc) ⟨19, slk [(0, a0), (1, a1)], bx⟩) : AbsCall Tryd.prog 59 [a0, a1] bx Kc := abs_of (by kernel_rfl) Tryd.func59 Tryd.comp59 Tryd.en59 Tryd.nt59 Tryd.rs59 (fun hb => by rw [initSt_2]; exact h hb)
noncomputable def Tryd.L60_0 : PC := .seq (.reg false [⟨some 9, Go.Op.binOp Go.BinOp.lss 3 (Go.Operand.tmp 8) (Go.Operand.tmp 7) 3, none, false⟩] [0, 1, 7, 8, 9]) (.seq (.cond (Go.Operand.tmp 9) (.skip) (.exit 0)) (.seq (.block 1 (.seq (.reg false [⟨some 10, Go.Op.move (Go.Operand.tmp 8), none, false⟩,
    ⟨some 5, Go.Op.assign (Go.Operand.tmp 10), none, false⟩] [0, 1, 5, 7, 8]) (.seq (.reg false [⟨some 11, Go.Op.move (Go.Operand.tmp 1), none, false⟩,
    ⟨some 12, Go.Op.move (Go.Operand.tmp 0), none, false⟩,
    ⟨some 13, Go.Op.move (Go.Operand.tmp 5), none, false⟩,
    ⟨some 14, Go.Op.indexAddr 22 (Go.Operand.tmp 12) (Go.Operand.tmp 13), none, false⟩,
    ⟨some 15, Go.Op.load 5 (Go.Operand.tmp 14), none, false⟩,
    ⟨some 16, Go.Op.call { callee := Go.Callee.value (Go.Operand.tmp 11), args := #[Go.Operand.tmp 15], argTypes := #[5] }, none, false⟩] [0, 1, 5, 7, 8, 16]) (.cond (Go.Operand.tmp 16) (.seq (.reg false [⟨some 17, Go.Op.move (Go.Operand.tmp 5), none, false⟩,
    ⟨some 4, Go.Op.assign (Go.Operand.tmp 17), none, false⟩] [4]) (.ret)) (.skip))))) (.reg false [⟨some 18, Go.Op.binOp Go.BinOp.add 3 (Go.Operand.tmp 8) (Go.Operand.const (Go.Value.int Go.IntKind.i64 1)) 3, none, false⟩,
    ⟨some 8, Go.Op.move (Go.Operand.tmp 18), none, false⟩] [0, 1, 7, 8])))
noncomputable def Tryd.C60 : PC := .seq (.reg false [⟨some 4, Go.Op.assign (Go.Operand.const (Go.Value.int Go.IntKind.i64 0)), none, false⟩] [0, 1]) (.seq (.seq (.reg false [⟨some 6, Go.Op.move (Go.Operand.tmp 0), none, false⟩,
    ⟨some 7, Go.Op.call { callee := Go.Callee.builtin Go.Builtin.len, args := #[Go.Operand.tmp 6], argTypes := #[22] }, none, false⟩,
    ⟨some 8, Go.Op.move (Go.Operand.const (Go.Value.int Go.IntKind.i64 0)), none, false⟩] [0, 1, 7, 8]) (.block 0 (.loop Tryd.L60_0))) (.seq (.reg false [⟨some 4, Go.Op.assign (Go.Operand.const (Go.Value.int Go.IntKind.i64 (-1))), none, false⟩] [4]) (.ret)))
theorem Tryd.comp60 : ∃ c, Tryd.f60.body = some c ∧ compile c = erase Tryd.C60 := ⟨_, rfl, by kernel_rfl⟩
theorem Tryd.rs60 : Tryd.f60.results.toList = [Go.ResultVar.tmp 4] := by kernel_rfl
theorem Tryd.nt60 : Tryd.f60.ntmps = 19 := by kernel_rfl
theorem Tryd.en60 : ∀ vs w, (callFunc 60 vs).run Tryd.prog w = .ok (.enter 60 vs) w := enters_of Tryd.func60 (by kernel_rfl) rfl
theorem Tryd.ctr60 {a0 a1 : V} {bx : Boxes} {Kc : V → Boxes → Prop} (h : FinB bx → pw Tryd.prog Tryd.C60 (retQ Tryd.prog [Go.ResultVar.tmp 4] Kc) ⟨19, slk [(0, a0), (1, a1)], bx⟩) : AbsCall Tryd.prog 60 [a0, a1] bx Kc := abs_of (by kernel_rfl) Tryd.func60 Tryd.comp60 Tryd.en60 Tryd.nt60 Tryd.rs60 (fun hb => by rw [initSt_2]; exact h hb)
noncomputable def Tryd.L61_0 : PC := .seq (.reg false [⟨some 9, Go.Op.binOp Go.BinOp.lss 3 (Go.Operand.tmp 8) (Go.Operand.tmp 7) 3, none, false⟩] [0, 1, 7, 8, 9]) (.seq (.cond (Go.Operand.tmp 9) (.skip) (.exit 0)) (.seq (.block 1 (.seq (.reg false [⟨some 10, Go.Op.move (Go.Operand.tmp 8), none, false⟩,
    ⟨some 5, Go.Op.assign (Go.Operand.tmp 10), none, false⟩] [0, 1, 5, 7, 8]) (.seq (.reg false [⟨some 11, Go.Op.move (Go.Operand.tmp 1), none, false⟩,
    ⟨some 12, Go.Op.move (Go.Operand.tmp 0), none, false⟩,
    ⟨some 13, Go.Op.move (Go.Operand.tmp 5), none, false⟩,
    ⟨some 14, Go.Op.indexAddr 32 (Go.Operand.tmp 12) (Go.Operand.tmp 13), none, false⟩,
    ⟨some 15, Go.Op.load 3 (Go.Operand.tmp 14), none, false⟩,
    ⟨some 16, Go.Op.call { callee := Go.Callee.value (Go.Operand.tmp 11), args := #[Go.Operand.tmp 15], argTypes := #[3] }, none, false⟩] [0, 1, 5, 7, 8, 16]) (.cond (Go.Operand.tmp 16) (.seq (.reg false [⟨some 17, Go.Op.move (Go.Operand.tmp 5), none, false⟩,
    ⟨some 4, Go.Op.assign (Go.Operand.tmp 17), none, false⟩] [4]) (.ret)) (.skip))))) (.reg false [⟨some 18, Go.Op.binOp Go.BinOp.add 3 (Go.Operand.tmp 8) (Go.Operand.const (Go.Value.int Go.IntKind.i64 1)) 3, none, false⟩,
    ⟨some 8, Go.Op.move (Go.Operand.tmp 18), none, false⟩] [0, 1, 7, 8])))
noncomputable def Tryd.C61 : PC := .seq (.reg false [⟨some 4, Go.Op.assign (Go.Operand.const (Go.Value.int Go.IntKind.i64 0)), none, false⟩] [0, 1]) (.seq (.seq (.reg false [⟨some 6, Go.Op.move (Go.Operand.tmp 0), none, false⟩,
    ⟨some 7, Go.Op.call { callee := Go.Callee.builtin Go.Builtin.len, args := #[Go.Operand.tmp 6], argTypes := #[32] }, none, false⟩,
    ⟨some 8, Go.Op.move (Go.Operand.const (Go.Value.int Go.IntKind.i64 0)), none, false⟩] [0, 1, 7, 8]) (.block 0 (.loop Tryd.L61_0))) (.seq (.reg false [⟨some 4, Go.Op.assign (Go.Operand.const (Go.Value.int Go.IntKind.i64 (-1))), none, false⟩] [4]) (.ret)))
theorem Tryd.comp61 : ∃ c, Tryd.f61.body = some c ∧ compile c = erase Tryd.C61 := ⟨_, rfl, by kernel_rfl⟩
theorem Tryd.rs61 : Tryd.f61.results.toList = [Go.ResultVar.tmp 4] := by kernel_rfl
theorem Tryd.nt61 : Tryd.f61.ntmps = 19 := by kernel_rfl
theorem Tryd.en61 : ∀ vs w, (callFunc 61 vs).run Tryd.prog w = .ok (.enter 61 vs) w := enters_of Tryd.func61 (by kernel_rfl) rfl
theorem Tryd.ctr61 {a0 a1 : V} {bx : Boxes} {Kc : V → Boxes → Prop} (h : FinB bx → pw Tryd.prog Tryd.C61 (retQ Tryd.prog [Go.ResultVar.tmp 4] Kc) ⟨19, slk [(0, a0), (1, a1)], bx⟩) : AbsCall Tryd.prog 61 [a0, a1] bx Kc := abs_of (by kernel_rfl) Tryd.func61 Tryd.comp61 Tryd.en61 Tryd.nt61 Tryd.rs61 (fun hb => by rw [initSt_2]; exact h hb)
noncomputable def Tryd.L62_0 : PC := .seq (.reg false [⟨some 9, Go.Op.binOp Go.BinOp.lss 3 (Go.Operand.tmp 8) (Go.Operand.tmp 7) 3, none, false⟩] [0, 1, 7, 8, 9]) (.seq (.cond (Go.Operand.tmp 9) (.skip) (.exit 0)) (.seq (.block 1 (.seq (.reg false [⟨some 10, Go.Op.move (Go.Operand.tmp 8), none, false⟩,
    ⟨some 5, Go.Op.assign (Go.Operand.tmp 10), none, false⟩] [0, 1, 5, 7, 8]) (.seq (.reg false [⟨some 11, Go.Op.move (Go.Operand.tmp 1), none, false⟩,
    ⟨some 12, Go.Op.move (Go.Operand.tmp 0), none, false⟩,
    ⟨some 13, Go.Op.move (Go.Operand.tmp 5), none, false⟩,
    ⟨some 14, Go.Op.indexAddr 31 (Go.Operand.tmp 12) (Go.Operand.tmp 13), none, false⟩,
    ⟨some 15, Go.Op.load 9 (Go.Operand.tmp 14), none, false⟩,
    ⟨some 16, Go.Op.call { callee := Go.Callee.value (Go.Operand.tmp 11), args := #[Go.Operand.tmp 15], argTypes := #[9] }, none, false⟩] [0, 1, 5, 7, 8, 16]) (.cond (Go.Operand.tmp 16) (.seq (.reg false [⟨some 17, Go.Op.move (Go.Operand.tmp 5), none, false⟩,
    ⟨some 4, Go.Op.assign (Go.Operand.tmp 17), none, false⟩] [4]) (.ret)) (.skip))))) (.reg false [⟨some 18, Go.Op.binOp Go.BinOp.add 3 (Go.Operand.tmp 8) (Go.Operand.const (Go.Value.int Go.IntKind.i64 1)) 3, none, false⟩,
    ⟨some 8, Go.Op.move (Go.Operand.tmp 18), none, false⟩] [0, 1, 7, 8])))
noncomputable def Tryd.C62 : PC := .seq (.reg false [⟨some 4, Go.Op.assign (Go.Operand.const (Go.Value.int Go.IntKind.i64 0)), none, false⟩] [0, 1]) (.seq (.seq (.reg false [⟨some 6, Go.Op.move (Go.Operand.tmp 0), none, false⟩,
    ⟨some 7, Go.Op.call { callee := Go.Callee.builtin Go.Builtin.len, args := #[Go.Operand.tmp 6], argTypes := #[31] }, none, false⟩,
    ⟨some 8, Go.Op.move (Go.Operand.const (Go.Value.int Go.IntKind.i64 0)), none, false⟩] [0, 1, 7, 8]) (.block 0 (.loop Tryd.L62_0))) (.seq (.reg false [⟨some 4, Go.Op.assign (Go.Operand.const (Go.Value.int Go.IntKind.i64 (-1))), none, false⟩] [4]) (.ret)))
theorem Tryd.comp62 : ∃ c, Tryd.f62.body = some c ∧ compile c = erase Tryd.C62 := ⟨_, rfl, by kernel_rfl⟩
theorem Tryd.rs62 : Tryd.f62.results.toList = [Go.ResultVar.tmp 4] := by kernel_rfl
theorem Tryd.nt62 : Tryd.f62.ntmps = 19 := by kernel_rfl
theorem Tryd.en62 : ∀ vs w, (callFunc 62 vs).run Tryd.prog w = .ok (.enter 62 vs) w := enters_of Tryd.func62 (by kernel_rfl) rfl
theorem Tryd.ctr62 {a0 a1 : V} {bx : Boxes} {Kc : V → Boxes → Prop} (h : FinB bx → pw Tryd.prog Tryd.C62 (retQ Tryd.prog [Go.ResultVar.tmp 4] Kc) ⟨19, slk [(0, a0), (1, a1)], bx⟩) : AbsCall Tryd.prog 62 [a0, a1] bx Kc := abs_of (by kernel_rfl) Tryd.func62 Tryd.comp62 Tryd.en62 Tryd.nt62 Tryd.rs62 (fun hb => by rw [initSt_2]; exact h hb)
noncomputable def Tryd.C63 : PC := .seq (.reg false [⟨some 2, Go.Op.assign (Go.Operand.const (Go.Value.slice none 0 0)), none, false⟩] [0]) (.seq (.reg false [⟨some 3, Go.Op.move (Go.Operand.tmp 0), none, false⟩,
    ⟨some 4, Go.Op.call { callee := Go.Callee.value (Go.Operand.func 77), args := #[Go.Operand.const (Go.Value.slice none 0 0), Go.Operand.tmp 3], argTypes := #[31, 83] }, none, false⟩,
    ⟨some 2, Go.Op.assign (Go.Operand.tmp 4), none, false⟩] [2]) (.ret))
theorem Tryd.comp63 : ∃ c, Tryd.f63.body = some c ∧ compile c = erase Tryd.C63 := ⟨_, rfl, by kernel_rfl⟩
theorem Tryd.rs63 : Tryd.f63.results.toList = [Go.ResultVar.tmp 2] := by kernel_rfl
theorem Tryd.nt63 : Tryd.f63.ntmps = 5 := by kernel_rfl
theorem Tryd.en63 : ∀ vs w, (callFunc 63 vs).run Tryd.prog w = .ok (.enter 63 vs) w := enters_of Tryd.func63 (by kernel_rfl) rfl
theorem Tryd.ctr63 {a0 : V} {bx : Boxes} {Kc : V → Boxes → Prop} (h : FinB bx → pw Tryd.prog Tryd.C63 (retQ Tryd.prog [Go.ResultVar.tmp 2] Kc) ⟨5, slk [(0, a0)], bx⟩) : AbsCall Tryd.prog 63 [a0] bx Kc := abs_of (by kernel_rfl) Tryd.func63 Tryd.comp63 Tryd.en63 Tryd.nt63 Tryd.rs63 (fun hb => by rw [initSt_1]; exact h hb)
theorem Tryd.en64 : ∀ vs w, (callFunc 64 vs).run Tryd.prog w = .ok (.enter 64 vs) w := enters_of Tryd.func64 (by kernel_rfl) rfl
noncomputable def Tryd.L65_0 : PC := .seq (.reg false [⟨some 8, Go.Op.binOp Go.BinOp.lss 3 (Go.Operand.tmp 7) (Go.Operand.tmp 6) 3, none, false⟩] [0, 5, 6, 7, 8]) (.seq (.cond (Go.Operand.tmp 8) (.skip) (.exit 0)) (.seq (.block 1 (.seq (.reg false [⟨some 9, Go.Op.indexAddr 31 (Go.Operand.tmp 5) (Go.Operand.tmp 7), none, false⟩,
    ⟨some 10, Go.Op.load 9 (Go.Operand.tmp 9), none, false⟩,
    ⟨some 4, Go.Op.assign (Go.Operand.tmp 10), none, false⟩] [0, 4, 5, 6, 7]) (.seq (.reg false [⟨some 11, Go.Op.move (Go.Operand.tmp 0), none, false⟩,
    ⟨some 12, Go.Op.move (Go.Operand.tmp 4), none, false⟩,
    ⟨some 13, Go.Op.call { callee := Go.Callee.value (Go.Operand.tmp 11), args := #[Go.Operand.tmp 12], argTypes := #[9] }, none, false⟩,
    ⟨some 14, Go.Op.unOp Go.UnOp.not 4 (Go.Operand.tmp 13), none, false⟩] [0, 5, 6, 7, 14]) (.cond (Go.Operand.tmp 14) (.ret) (.skip))))) (.reg false [⟨some 15, Go.Op.binOp Go.BinOp.add 3 (Go.Operand.tmp 7) (Go.Operand.const (Go.Value.int Go.IntKind.i64 1)) 3, none, false⟩,
    ⟨some 7, Go.Op.move (Go.Operand.tmp 15), none, false⟩] [0, 5, 6, 7])))
noncomputable def Tryd.C65 : PC := .seq (.reg false [⟨some 5, Go.Op.load 31 (Go.Operand.tmp 1), none, false⟩,
    ⟨some 6, Go.Op.call { callee := Go.Callee.builtin Go.Builtin.len, args := #[Go.Operand.tmp 5], argTypes := #[31] }, none, false⟩,
    ⟨some 7, Go.Op.move (Go.Operand.const (Go.Value.int Go.IntKind.i64 0)), none, false⟩] [0, 5, 6, 7]) (.block 0 (.loop Tryd.L65_0))
theorem Tryd.comp65 : ∃ c, Tryd.f65.body = some c ∧ compile c = erase Tryd.C65 := ⟨_, rfl, by kernel_rfl⟩
theorem Tryd.rs65 : Tryd.f65.results.toList = [] := by kernel_rfl
theorem Tryd.nt65 : Tryd.f65.ntmps = 16 := by kernel_rfl
theorem Tryd.en65 : ∀ vs w, (callFunc 65 vs).run Tryd.prog w = .ok (.enter 65 vs) w := enters_of Tryd.func65 (by kernel_rfl) rfl
theorem Tryd.ctr65 {a0 a1 : V} {bx : Boxes} {Kc : V → Boxes → Prop} (h : FinB bx → pw Tryd.prog Tryd.C65 (retQ Tryd.prog [] Kc) ⟨16, slk [(0, a0), (1, a1)], bx⟩) : AbsCall Tryd.prog 65 [a0, a1] bx Kc := abs_of (by kernel_rfl) Tryd.func65 Tryd.comp65 Tryd.en65 Tryd.nt65 Tryd.rs65 (fun hb => by rw [initSt_2]; exact h hb)
noncomputable def Tryd.L67_0 : PC := .seq (.seq (.reg true [⟨some 18, Go.Op.move (Go.Operand.tmp 9), none, false⟩,
    ⟨some 19, Go.Op.move (Go.Operand.tmp 1), none, false⟩,
    ⟨some 20, Go.Op.binOp Go.BinOp.gtr 3 (Go.Operand.tmp 18) (Go.Operand.tmp 19) 3, none, false⟩,
    ⟨some 21, Go.Op.move (Go.Operand.tmp 20), none, false⟩,
    ⟨some 22, Go.Op.move (Go.Operand.tmp 3), some (21, true), false⟩,
    ⟨some 23, Go.Op.move (Go.Operand.tmp 0), some (21, true), false⟩,
    ⟨some 24, Go.Op.move (Go.Operand.tmp 9), some (21, true), false⟩,
    ⟨some 25, Go.Op.indexAddr 33 (Go.Operand.tmp 23) (Go.Operand.tmp 24), some (21, true), false⟩,
    ⟨some 26, Go.Op.load 57 (Go.Operand.tmp 25), some (21, true), false⟩,
    ⟨some 27, Go.Op.move (Go.Operand.tmp 0), some (21, true), false⟩,
    ⟨some 28, Go.Op.move (Go.Operand.tmp 9), some (21, true), false⟩,
    ⟨some 29, Go.Op.binOp Go.BinOp.sub 3 (Go.Operand.tmp 28) (Go.Operand.const (Go.Value.int Go.IntKind.i64 1)) 3, some (21, true), false⟩,
    ⟨some 30, Go.Op.indexAddr 33 (Go.Operand.tmp 27) (Go.Operand.tmp 29), some (21, true), false⟩,
    ⟨some 31, Go.Op.load 57 (Go.Operand.tmp 30), some (21, true), false⟩,
    ⟨some 32, Go.Op.call { callee := Go.Callee.value (Go.Operand.tmp 22), args := #[Go.Operand.tmp 26, Go.Operand.tmp 31], argTypes := #[57, 57] }, some (21, true), false⟩,
    ⟨some 33, Go.Op.binOp Go.BinOp.lss 3 (Go.Operand.tmp 32) (Go.Operand.const (Go.Value.int Go.IntKind.i64 0)) 3, some (21, true), false⟩,
    ⟨some 34, Go.Op.pick (Go.Operand.tmp 21) (Go.Operand.tmp 33) (Go.Operand.const (Go.Value.bool false)), none, false⟩] [0, 1, 2, 3, 8, 9, 34]) (.cond (Go.Operand.tmp 34) (.skip) (.exit 2))) (.seq (.block 3 (.reg true [⟨some 37, Go.Op.move (Go.Operand.tmp 0), none, false⟩,
    ⟨some 38, Go.Op.move (Go.Operand.tmp 9), none, false⟩,
    ⟨some 39, Go.Op.move (Go.Operand.tmp 0), none, false⟩,
    ⟨some 40, Go.Op.move (Go.Operand.tmp 9), none, false⟩,
    ⟨some 41, Go.Op.binOp Go.BinOp.sub 3 (Go.Operand.tmp 40) (Go.Operand.const (Go.Value.int Go.IntKind.i64 1)) 3, none, false⟩,
    ⟨some 42, Go.Op.move (Go.Operand.tmp 0), none, false⟩,
    ⟨some 43, Go.Op.move (Go.Operand.tmp 9), none, false⟩,
    ⟨some 44, Go.Op.binOp Go.BinOp.sub 3 (Go.Operand.tmp 43) (Go.Operand.const (Go.Value.int Go.IntKind.i64 1)) 3, none, false⟩,
    ⟨some 45, Go.Op.indexAddr 33 (Go.Operand.tmp 42) (Go.Operand.tmp 44), none, false⟩,
    ⟨some 46, Go.Op.load 57 (Go.Operand.tmp 45), none, false⟩,
    ⟨some 47, Go.Op.move (Go.Operand.tmp 0), none, false⟩,
    ⟨some 48, Go.Op.move (Go.Operand.tmp 9), none, false⟩,
    ⟨some 49, Go.Op.indexAddr 33 (Go.Operand.tmp 47) (Go.Operand.tmp 48), none, false⟩,
    ⟨some 50, Go.Op.load 57 (Go.Operand.tmp 49), none, false⟩,
    ⟨some 51, Go.Op.indexAddr 33 (Go.Operand.tmp 37) (Go.Operand.tmp 38), none, false⟩,
    ⟨none, Go.Op.store 57 (Go.Operand.tmp 51) (Go.Operand.tmp 46), none, false⟩,
    ⟨some 52, Go.Op.indexAddr 33 (Go.Operand.tmp 39) (Go.Operand.tmp 41), none, false⟩,
    ⟨none, Go.Op.store 57 (Go.Operand.tmp 52) (Go.Operand.tmp 50), none, false⟩] [0, 1, 2, 3, 8, 9])) (.reg false [⟨some 35, Go.Op.move (Go.Operand.tmp 9), none, false⟩,
    ⟨some 36, Go.Op.binOp Go.BinOp.sub 3 (Go.Operand.tmp 35) (Go.Operand.const (Go.Value.int Go.IntKind.i64 1)) 3, none, false⟩,
    ⟨some 9, Go.Op.assign (Go.Operand.tmp 36), none, false⟩] [0, 1, 2, 3, 8, 9]))
noncomputable def Tryd.L67_1 : PC := .seq (.seq (.reg false [⟨some 12, Go.Op.move (Go.Operand.tmp 8), none, false⟩,
    ⟨some 13, Go.Op.move (Go.Operand.tmp 2), none, false⟩,
    ⟨some 14, Go.Op.binOp Go.BinOp.lss 3 (Go.Operand.tmp 12) (Go.Operand.tmp 13) 3, none, false⟩] [0, 1, 2, 3, 8, 14]) (.cond (Go.Operand.tmp 14) (.skip) (.exit 0))) (.seq (.block 1 (.seq (.reg false [⟨some 17, Go.Op.move (Go.Operand.tmp 8), none, false⟩,
    ⟨some 9, Go.Op.assign (Go.Operand.tmp 17), none, false⟩] [0, 1, 2, 3, 8, 9]) (.block 2 (.loop Tryd.L67_0)))) (.reg false [⟨some 15, Go.Op.move (Go.Operand.tmp 8), none, false⟩,
    ⟨some 16, Go.Op.binOp Go.BinOp.add 3 (Go.Operand.tmp 15) (Go.Operand.const (Go.Value.int Go.IntKind.i64 1)) 3, none, false⟩,
    ⟨some 8, Go.Op.assign (Go.Operand.tmp 16), none, false⟩] [0, 1, 2, 3, 8]))
noncomputable def Tryd.C67 : PC := .seq (.reg false [⟨some 10, Go.Op.move (Go.Operand.tmp 1), none, false⟩,
    ⟨some 11, Go.Op.binOp Go.BinOp.add 3 (Go.Operand.tmp 10) (Go.Operand.const (Go.Value.int Go.IntKind.i64 1)) 3, none, false⟩,
    ⟨some 8, Go.Op.assign (Go.Operand.tmp 11), none, false⟩] [0, 1, 2, 3, 8]) (.block 0 (.loop Tryd.L67_1))
theorem Tryd.comp67 : ∃ c, Tryd.f67.body = some c ∧ compile c = erase Tryd.C67 := ⟨_, rfl, by kernel_rfl⟩
theorem Tryd.rs67 : Tryd.f67.results.toList = [] := by kernel_rfl
theorem Tryd.nt67 : Tryd.f67.ntmps = 53 := by kernel_rfl
theorem Tryd.en67 : ∀ vs w, (callFunc 67 vs).run Tryd.prog w = .ok (.enter 67 vs) w := enters_of Tryd.func67 (by kernel_rfl) rfl
theorem Tryd.ctr67 {a0 a1 a2 a3 : V} {bx : Boxes} {Kc : V → Boxes → Prop} (h : FinB bx → pw Tryd.prog Tryd.C67 (retQ Tryd.prog [] Kc) ⟨53, slk [(0, a0), (1, a1), (2, a2), (3, a3)], bx⟩) : AbsCall Tryd.prog 67 [a0, a1, a2, a3] bx Kc := abs_of (by kernel_rfl) Tryd.func67 Tryd.comp67 Tryd.en67 Tryd.nt67 Tryd.rs67 (fun hb => by rw [initSt_4]; exact h hb)
noncomputable def Tryd.L77_0a : PC := .reg false [⟨some 5, Go.Op.assign (Go.Operand.tmp 7), none, false⟩] [2, 5]
noncomputable def Tryd.L77_0b : PC := .block 1 (.reg false [⟨some 8, Go.Op.load 31 (Go.Operand.tmp 2), none, false⟩,
    ⟨some 9, Go.Op.move (Go.Operand.tmp 5), none, false⟩,
    ⟨some 10, Go.Op.buildSlice 31 1 #[(0, Go.Operand.tmp 9)], none, false⟩,
    ⟨some 11, Go.Op.call { callee := Go.Callee.builtin Go.Builtin.append, args := #[Go.Operand.tmp 8, Go.Operand.tmp 10], argTypes := #[31, 31] }, none, false⟩,
    ⟨none, Go.Op.store 31 (Go.Operand.tmp 2) (Go.Operand.tmp 11), none, false⟩] [])
noncomputable def Tryd.C77 : PC := .seq (.reg false [⟨some 2, Go.Op.box 31 (Go.Operand.tmp 0), none, false⟩,
    ⟨some 4, Go.Op.assign (Go.Operand.const (Go.Value.slice none 0 0)), none, false⟩] [1, 2, 4]) (.seq (.seq (.reg false [⟨some 6, Go.Op.move (Go.Operand.tmp 1), none, false⟩] [2, 4, 6]) (.block 0 (.rangeFunc (Go.Operand.tmp 6) #[7] Tryd.L77_0a Tryd.L77_0b))) (.seq (.reg false [⟨some 12, Go.Op.load 31 (Go.Operand.tmp 2), none, false⟩,
    ⟨some 4, Go.Op.assign (Go.Operand.tmp 12), none, false⟩] [4]) (.ret)))
theorem Tryd.comp77 : ∃ c, Tryd.f77.body = some c ∧ compile c = erase Tryd.C77 := ⟨_, rfl, by kernel_rfl⟩
theorem Tryd.rs77 : Tryd.f77.results.toList = [Go.ResultVar.tmp 4] := by kernel_rfl
theorem Tryd.nt77 : Tryd.f77.ntmps = 13 := by kernel_rfl
theorem Tryd.en77 : ∀ vs w, (callFunc 77 vs).run Tryd.prog w = .ok (.enter 77 vs) w := enters_of Tryd.func77 (by kernel_rfl) rfl
theorem Tryd.ctr77 {a0 a1 : V} {bx : Boxes} {Kc : V → Boxes → Prop} (h : FinB bx → pw Tryd.prog Tryd.C77 (retQ Tryd.prog [Go.ResultVar.tmp 4] Kc) ⟨13, slk [(0, a0), (1, a1)], bx⟩) : AbsCall Tryd.prog 77 [a0, a1] bx Kc := abs_of (by kernel_rfl) Tryd.func77 Tryd.comp77 Tryd.en77 Tryd.nt77 Tryd.rs77 (fun hb => by rw [initSt_2]; exact h hb)
end Go.Proofs
