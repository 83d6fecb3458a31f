/- Texts of the proof, put together: Pc. -/
import Derived.Test.YtnijaldhopcpdaaGreatDoorHe
import Derived.Test.YtnijaldhopcpdaaGreatDoorHc

/- The compact forms of the functions: printed by gen_pc.py. -/
set_option maxRecDepth 100000
namespace Go.Proofs
open Go Go.Pl
noncomputable def Tryz.C9 : PC := .seq (.reg false [⟨some 0, Go.Op.assign (Go.Operand.const (Go.Value.bool false)), none, false⟩] []) (.seq (.reg false [⟨some 10, Go.Op.buildSlice 22 1 #[(0, Go.Operand.const (Go.Value.string { data := #[97] }))], none, true⟩,
    ⟨some 11, Go.Op.buildSlice 23 1 #[(0, Go.Operand.const (Go.Value.int Go.IntKind.i64 1))], none, true⟩,
    ⟨some 12, Go.Op.call { callee := Go.Callee.value (Go.Operand.func 10), args := #[Go.Operand.tmp 10, Go.Operand.tmp 11, Go.Operand.const (Go.Value.int Go.IntKind.i64 1)], argTypes := #[22, 23, 3] }, none, false⟩,
    ⟨some 9, Go.Op.move (Go.Operand.tmp 12), none, false⟩,
    ⟨some 13, Go.Op.extract (Go.Operand.tmp 9) 0, none, false⟩,
    ⟨some 14, Go.Op.extract (Go.Operand.tmp 9) 1, none, false⟩,
    ⟨some 1, Go.Op.alloc 26, none, false⟩,
    ⟨none, Go.Op.store 26 (Go.Operand.tmp 1) (Go.Operand.tmp 13), none, false⟩,
    ⟨some 2, Go.Op.assign (Go.Operand.tmp 14), none, false⟩] [1, 2]) (.fz 1 (.seq (.reg false [⟨some 16, Go.Op.load 26 (Go.Operand.tmp 1), none, false⟩,
    ⟨some 17, Go.Op.call { callee := Go.Callee.value (Go.Operand.func 22), args := #[Go.Operand.tmp 16, Go.Operand.const (Go.Value.string { data := #[107, 101, 121] })], argTypes := #[26, 9] }, none, false⟩,
    ⟨some 15, Go.Op.move (Go.Operand.tmp 17), none, false⟩,
    ⟨some 18, Go.Op.extract (Go.Operand.tmp 15) 0, none, false⟩,
    ⟨some 19, Go.Op.extract (Go.Operand.tmp 15) 1, none, false⟩,
    ⟨some 3, Go.Op.assign (Go.Operand.tmp 18), none, false⟩,
    ⟨some 4, Go.Op.assign (Go.Operand.tmp 19), none, false⟩] [1, 2, 3, 4]) (.seq (.reg false [⟨some 21, Go.Op.load 26 (Go.Operand.tmp 1), none, false⟩,
    ⟨some 22, Go.Op.call { callee := Go.Callee.value (Go.Operand.func 19), args := #[Go.Operand.tmp 21], argTypes := #[26] }, none, false⟩,
    ⟨some 20, Go.Op.move (Go.Operand.tmp 22), none, false⟩,
    ⟨some 23, Go.Op.extract (Go.Operand.tmp 20) 0, none, false⟩,
    ⟨some 24, Go.Op.extract (Go.Operand.tmp 20) 1, none, false⟩,
    ⟨some 5, Go.Op.assign (Go.Operand.tmp 23), none, false⟩,
    ⟨some 6, Go.Op.assign (Go.Operand.tmp 24), none, false⟩] [1, 2, 3, 4, 5, 6]) (.seq (.reg false [⟨some 26, Go.Op.buildSlice 22 2 #[(0, Go.Operand.const (Go.Value.string { data := #[97] })), (1, Go.Operand.const (Go.Value.string { data := #[97] }))], none, true⟩,
    ⟨some 27, Go.Op.buildSlice 23 2 #[(0, Go.Operand.const (Go.Value.int Go.IntKind.i64 1)), (1, Go.Operand.const (Go.Value.int Go.IntKind.i64 1))], none, true⟩,
    ⟨some 28, Go.Op.call { callee := Go.Callee.value (Go.Operand.func 10), args := #[Go.Operand.tmp 26, Go.Operand.tmp 27, Go.Operand.const (Go.Value.int Go.IntKind.i64 1)], argTypes := #[22, 23, 3] }, none, false⟩,
    ⟨some 25, Go.Op.move (Go.Operand.tmp 28), none, false⟩,
    ⟨some 29, Go.Op.extract (Go.Operand.tmp 25) 0, none, false⟩,
    ⟨some 30, Go.Op.extract (Go.Operand.tmp 25) 1, none, false⟩,
    ⟨some 7, Go.Op.alloc 26, none, false⟩,
    ⟨none, Go.Op.store 26 (Go.Operand.tmp 7) (Go.Operand.tmp 29), none, false⟩,
    ⟨some 8, Go.Op.assign (Go.Operand.tmp 30), none, false⟩] [1, 2, 3, 4, 5, 6, 8]) (.seq (.seq (.reg false [⟨some 31, Go.Op.move (Go.Operand.tmp 2), none, false⟩,
    ⟨some 32, Go.Op.binOp Go.BinOp.neq 29 (Go.Operand.tmp 31) (Go.Operand.const (Go.Value.int Go.IntKind.i64 0)) 29, none, false⟩,
    ⟨some 33, Go.Op.move (Go.Operand.tmp 32), none, false⟩,
    ⟨some 34, Go.Op.move (Go.Operand.tmp 4), some (33, false), false⟩,
    ⟨some 35, Go.Op.binOp Go.BinOp.neq 29 (Go.Operand.tmp 34) (Go.Operand.const (Go.Value.int Go.IntKind.i64 0)) 29, some (33, false), false⟩,
    ⟨some 36, Go.Op.pick (Go.Operand.tmp 33) (Go.Operand.const (Go.Value.bool true)) (Go.Operand.tmp 35), none, false⟩,
    ⟨some 37, Go.Op.move (Go.Operand.tmp 36), none, false⟩,
    ⟨some 38, Go.Op.move (Go.Operand.tmp 6), some (37, false), false⟩,
    ⟨some 39, Go.Op.binOp Go.BinOp.neq 29 (Go.Operand.tmp 38) (Go.Operand.const (Go.Value.int Go.IntKind.i64 0)) 29, some (37, false), false⟩,
    ⟨some 40, Go.Op.pick (Go.Operand.tmp 37) (Go.Operand.const (Go.Value.bool true)) (Go.Operand.tmp 39), none, false⟩,
    ⟨some 41, Go.Op.move (Go.Operand.tmp 40), none, false⟩,
    ⟨some 42, Go.Op.move (Go.Operand.tmp 8), some (41, false), false⟩,
    ⟨some 43, Go.Op.binOp Go.BinOp.neq 29 (Go.Operand.tmp 42) (Go.Operand.const (Go.Value.int Go.IntKind.i64 8)) 29, some (41, false), false⟩,
    ⟨some 44, Go.Op.pick (Go.Operand.tmp 41) (Go.Operand.const (Go.Value.bool true)) (Go.Operand.tmp 43), none, false⟩,
    ⟨some 45, Go.Op.move (Go.Operand.tmp 44), none, false⟩,
    ⟨some 46, Go.Op.move (Go.Operand.tmp 5), some (45, false), false⟩,
    ⟨some 47, Go.Op.call { callee := Go.Callee.builtin Go.Builtin.len, args := #[Go.Operand.tmp 46], argTypes := #[38] }, some (45, false), false⟩,
    ⟨some 48, Go.Op.binOp Go.BinOp.neq 3 (Go.Operand.tmp 47) (Go.Operand.const (Go.Value.int Go.IntKind.i64 1)) 3, some (45, false), false⟩,
    ⟨some 49, Go.Op.pick (Go.Operand.tmp 45) (Go.Operand.const (Go.Value.bool true)) (Go.Operand.tmp 48), none, false⟩,
    ⟨some 50, Go.Op.move (Go.Operand.tmp 49), none, false⟩,
    ⟨some 51, Go.Op.fieldAddr 26 (Go.Operand.tmp 1) 3, some (50, false), false⟩,
    ⟨some 52, Go.Op.load 24 (Go.Operand.tmp 51), some (50, false), false⟩,
    ⟨some 53, Go.Op.call { callee := Go.Callee.builtin Go.Builtin.len, args := #[Go.Operand.tmp 52], argTypes := #[24] }, some (50, false), false⟩,
    ⟨some 54, Go.Op.binOp Go.BinOp.neq 3 (Go.Operand.tmp 53) (Go.Operand.const (Go.Value.int Go.IntKind.i64 1)) 3, some (50, false), false⟩,
    ⟨some 55, Go.Op.pick (Go.Operand.tmp 50) (Go.Operand.const (Go.Value.bool true)) (Go.Operand.tmp 54), none, false⟩] [1, 3, 5, 55]) (.cond (Go.Operand.tmp 55) (.seq (.reg false [⟨some 0, Go.Op.assign (Go.Operand.const (Go.Value.bool false)), none, false⟩] [0]) (.ret)) (.skip))) (.seq (.regF [(14, 18), (14, 19), (17, 18), (17, 19)] [⟨some 56, Go.Op.call { callee := Go.Callee.value (Go.Operand.func 34), args := #[Go.Operand.const (Go.Value.slice none 0 0)], argTypes := #[60] }, none, false⟩,
    ⟨some 57, Go.Op.binOp Go.BinOp.eql 58 (Go.Operand.tmp 56) (Go.Operand.const (Go.Value.int Go.IntKind.u32 2166136261)) 58, none, false⟩,
    ⟨some 58, Go.Op.move (Go.Operand.tmp 57), none, false⟩,
    ⟨some 59, Go.Op.buildSlice 60 1 #[(0, Go.Operand.const (Go.Value.int Go.IntKind.u8 97))], some (58, true), false⟩,
    ⟨some 60, Go.Op.convert 60 60 (Go.Operand.tmp 59), some (58, true), false⟩,
    ⟨some 61, Go.Op.call { callee := Go.Callee.value (Go.Operand.func 34), args := #[Go.Operand.tmp 60], argTypes := #[60] }, some (58, true), false⟩,
    ⟨some 62, Go.Op.binOp Go.BinOp.eql 58 (Go.Operand.tmp 61) (Go.Operand.const (Go.Value.int Go.IntKind.u32 3826002220)) 58, some (58, true), false⟩,
    ⟨some 63, Go.Op.pick (Go.Operand.tmp 58) (Go.Operand.tmp 62) (Go.Operand.const (Go.Value.bool false)), none, false⟩,
    ⟨some 64, Go.Op.move (Go.Operand.tmp 63), none, false⟩,
    ⟨some 65, Go.Op.call { callee := Go.Callee.value (Go.Operand.func 35), args := #[Go.Operand.const (Go.Value.slice none 0 0)], argTypes := #[60] }, some (64, true), false⟩,
    ⟨some 66, Go.Op.binOp Go.BinOp.eql 42 (Go.Operand.tmp 65) (Go.Operand.const (Go.Value.int Go.IntKind.u64 14695981039346656037)) 42, some (64, true), false⟩,
    ⟨some 67, Go.Op.pick (Go.Operand.tmp 64) (Go.Operand.tmp 66) (Go.Operand.const (Go.Value.bool false)), none, false⟩,
    ⟨some 68, Go.Op.move (Go.Operand.tmp 67), none, false⟩,
    ⟨some 69, Go.Op.fieldAddr 26 (Go.Operand.tmp 1) 3, some (68, true), false⟩,
    ⟨some 70, Go.Op.load 24 (Go.Operand.tmp 69), some (68, true), true⟩,
    ⟨some 71, Go.Op.indexAddr 24 (Go.Operand.tmp 70) (Go.Operand.const (Go.Value.int Go.IntKind.i64 0)), some (68, true), false⟩,
    ⟨some 72, Go.Op.fieldAddr 63 (Go.Operand.tmp 71) 0, some (68, true), false⟩,
    ⟨some 73, Go.Op.load 58 (Go.Operand.tmp 72), some (68, true), true⟩,
    ⟨some 74, Go.Op.buildSlice 60 3 #[(0, Go.Operand.const (Go.Value.int Go.IntKind.u8 97)), (1, Go.Operand.const (Go.Value.int Go.IntKind.u8 35)), (2, Go.Operand.const (Go.Value.int Go.IntKind.u8 48))], some (68, true), false⟩,
    ⟨some 75, Go.Op.convert 60 60 (Go.Operand.tmp 74), some (68, true), false⟩,
    ⟨some 76, Go.Op.call { callee := Go.Callee.value (Go.Operand.func 34), args := #[Go.Operand.tmp 75], argTypes := #[60] }, some (68, true), false⟩,
    ⟨some 77, Go.Op.binOp Go.BinOp.eql 58 (Go.Operand.tmp 73) (Go.Operand.tmp 76) 58, some (68, true), false⟩,
    ⟨some 78, Go.Op.pick (Go.Operand.tmp 68) (Go.Operand.tmp 77) (Go.Operand.const (Go.Value.bool false)), none, false⟩,
    ⟨some 79, Go.Op.move (Go.Operand.tmp 78), none, false⟩,
    ⟨some 80, Go.Op.move (Go.Operand.tmp 3), some (79, true), false⟩,
    ⟨some 81, Go.Op.binOp Go.BinOp.eql 3 (Go.Operand.tmp 80) (Go.Operand.const (Go.Value.int Go.IntKind.i64 0)) 3, some (79, true), false⟩,
    ⟨some 82, Go.Op.pick (Go.Operand.tmp 79) (Go.Operand.tmp 81) (Go.Operand.const (Go.Value.bool false)), none, false⟩,
    ⟨some 83, Go.Op.move (Go.Operand.tmp 82), none, false⟩,
    ⟨some 84, Go.Op.move (Go.Operand.tmp 5), some (83, true), false⟩,
    ⟨some 85, Go.Op.indexAddr 38 (Go.Operand.tmp 84) (Go.Operand.const (Go.Value.int Go.IntKind.i64 0)), some (83, true), false⟩,
    ⟨some 86, Go.Op.load 42 (Go.Operand.tmp 85), some (83, true), false⟩,
    ⟨some 87, Go.Op.binOp Go.BinOp.eql 42 (Go.Operand.tmp 86) (Go.Operand.const (Go.Value.int Go.IntKind.u64 4294967296)) 42, some (83, true), false⟩,
    ⟨some 88, Go.Op.pick (Go.Operand.tmp 83) (Go.Operand.tmp 87) (Go.Operand.const (Go.Value.bool false)), none, false⟩,
    ⟨some 0, Go.Op.assign (Go.Operand.tmp 88), none, false⟩] [0]) (.ret))))))))
theorem Tryz.comp9 : ∃ c, Tryz.f9.body = some c ∧ compile c = erase Tryz.C9 := ⟨_, rfl, by kernel_rfl⟩
theorem Tryz.rs9 : Tryz.f9.results.toList = [Go.ResultVar.tmp 0] := by kernel_rfl
theorem Tryz.nt9 : Tryz.f9.ntmps = 89 := by kernel_rfl
theorem Tryz.en9 : ∀ vs w, (callFunc 9 vs).run Tryz.prog w = .ok (.enter 9 vs) w := enters_of Tryz.func9 (by kernel_rfl) rfl
theorem Tryz.ctr9 {bx : Boxes} {Kc : V → Boxes → Prop} (h : FinB bx → pw Tryz.prog Tryz.C9 (retQ Tryz.prog [Go.ResultVar.tmp 0] Kc) ⟨89, slk [], bx⟩) : AbsCall Tryz.prog 9 [] bx Kc := abs_of (by kernel_rfl) Tryz.func9 Tryz.comp9 Tryz.en9 Tryz.nt9 Tryz.rs9 (fun hb => by rw [initSt_0]; exact h hb)
noncomputable def Tryz.L10_0 : PC := .seq (.reg false [⟨some 46, Go.Op.binOp Go.BinOp.lss 3 (Go.Operand.tmp 45) (Go.Operand.tmp 44) 3, none, false⟩] [1, 2, 6, 9, 10, 12, 28, 29, 30, 44, 45, 46]) (.seq (.cond (Go.Operand.tmp 46) (.skip) (.exit 2)) (.seq (.block 3 (.seq (.reg false [⟨some 47, Go.Op.move (Go.Operand.tmp 45), none, false⟩,
    ⟨some 13, Go.Op.assign (Go.Operand.tmp 47), none, false⟩] [1, 2, 6, 9, 10, 12, 13, 28, 29, 30, 44, 45]) (.regF [(1, 8)] [⟨some 48, Go.Op.fieldAddr 26 (Go.Operand.tmp 9) 3, none, false⟩,
    ⟨some 49, Go.Op.load 24 (Go.Operand.tmp 48), none, false⟩,
    ⟨some 50, Go.Op.move (Go.Operand.tmp 12), none, false⟩,
    ⟨some 51, Go.Op.move (Go.Operand.tmp 13), none, false⟩,
    ⟨some 52, Go.Op.call { callee := Go.Callee.value (Go.Operand.func 40), args := #[Go.Operand.const (Go.Value.slice none 0 0), Go.Operand.tmp 51, Go.Operand.const (Go.Value.int Go.IntKind.i64 10)], argTypes := #[60, 2, 3] }, none, false⟩,
    ⟨some 53, Go.Op.call { callee := Go.Callee.value (Go.Operand.func 39), args := #[Go.Operand.tmp 50, Go.Operand.tmp 52], argTypes := #[58, 60] }, none, false⟩,
    ⟨some 54, Go.Op.move (Go.Operand.tmp 10), none, false⟩,
    ⟨some 55, Go.Op.build 63 #[(0, Go.Operand.tmp 53), (1, Go.Operand.tmp 54)], none, false⟩,
    ⟨some 56, Go.Op.buildSlice 24 1 #[(0, Go.Operand.tmp 55)], none, true⟩,
    ⟨some 57, Go.Op.call { callee := Go.Callee.builtin Go.Builtin.append, args := #[Go.Operand.tmp 49, Go.Operand.tmp 56], argTypes := #[24, 24] }, none, false⟩,
    ⟨some 58, Go.Op.fieldAddr 26 (Go.Operand.tmp 9) 3, none, false⟩,
    ⟨none, Go.Op.store 24 (Go.Operand.tmp 58) (Go.Operand.tmp 57), none, false⟩] [1, 2, 6, 9, 10, 12, 28, 29, 30, 44, 45]))) (.reg false [⟨some 59, Go.Op.binOp Go.BinOp.add 3 (Go.Operand.tmp 45) (Go.Operand.const (Go.Value.int Go.IntKind.i64 1)) 3, none, false⟩,
    ⟨some 45, Go.Op.move (Go.Operand.tmp 59), none, false⟩] [1, 2, 6, 9, 10, 12, 28, 29, 30, 44, 45])))
noncomputable def Tryz.L10_1 : PC := .seq (.reg false [⟨some 31, Go.Op.binOp Go.BinOp.lss 3 (Go.Operand.tmp 30) (Go.Operand.tmp 29) 3, none, false⟩] [1, 2, 6, 9, 28, 29, 30, 31]) (.seq (.cond (Go.Operand.tmp 31) (.skip) (.exit 0)) (.seq (.block 1 (.seq (.reg false [⟨some 32, Go.Op.move (Go.Operand.tmp 30), none, false⟩,
    ⟨some 33, Go.Op.indexAddr 22 (Go.Operand.tmp 28) (Go.Operand.tmp 30), none, false⟩,
    ⟨some 34, Go.Op.load 9 (Go.Operand.tmp 33), none, false⟩,
    ⟨some 10, Go.Op.assign (Go.Operand.tmp 32), none, false⟩,
    ⟨some 11, Go.Op.assign (Go.Operand.tmp 34), none, false⟩] [1, 2, 6, 9, 10, 11, 28, 29, 30]) (.seq (.reg false [⟨some 35, Go.Op.move (Go.Operand.tmp 11), none, false⟩,
    ⟨some 36, Go.Op.binOp Go.BinOp.add 9 (Go.Operand.tmp 35) (Go.Operand.const (Go.Value.string { data := #[35] })) 9, none, false⟩,
    ⟨some 37, Go.Op.convert 9 60 (Go.Operand.tmp 36), none, false⟩,
    ⟨some 38, Go.Op.call { callee := Go.Callee.value (Go.Operand.func 34), args := #[Go.Operand.tmp 37], argTypes := #[60] }, none, false⟩,
    ⟨some 12, Go.Op.assign (Go.Operand.tmp 38), none, false⟩] [1, 2, 6, 9, 10, 12, 28, 29, 30]) (.seq (.reg false [⟨some 39, Go.Op.move (Go.Operand.tmp 1), none, false⟩,
    ⟨some 40, Go.Op.move (Go.Operand.tmp 10), none, false⟩,
    ⟨some 41, Go.Op.indexAddr 23 (Go.Operand.tmp 39) (Go.Operand.tmp 40), none, false⟩,
    ⟨some 42, Go.Op.load 3 (Go.Operand.tmp 41), none, false⟩,
    ⟨some 43, Go.Op.move (Go.Operand.tmp 2), none, false⟩,
    ⟨some 44, Go.Op.binOp Go.BinOp.mul 3 (Go.Operand.tmp 42) (Go.Operand.tmp 43) 3, none, false⟩,
    ⟨some 45, Go.Op.move (Go.Operand.const (Go.Value.int Go.IntKind.i64 0)), none, false⟩] [1, 2, 6, 9, 10, 12, 28, 29, 30, 44, 45]) (.block 2 (.loop Tryz.L10_0)))))) (.reg false [⟨some 60, Go.Op.binOp Go.BinOp.add 3 (Go.Operand.tmp 30) (Go.Operand.const (Go.Value.int Go.IntKind.i64 1)) 3, none, false⟩,
    ⟨some 30, Go.Op.move (Go.Operand.tmp 60), none, false⟩] [1, 2, 6, 9, 28, 29, 30])))
noncomputable def Tryz.C10 : PC := .seq (.reg false [⟨some 6, Go.Op.alloc 26, none, false⟩,
    ⟨some 7, Go.Op.assign (Go.Operand.const (Go.Value.int Go.IntKind.i64 0)), none, false⟩] [0, 1, 2, 6]) (.seq (.seq (.reg false [⟨some 14, Go.Op.move (Go.Operand.tmp 0), none, false⟩,
    ⟨some 15, Go.Op.move (Go.Operand.tmp 1), none, false⟩,
    ⟨some 16, Go.Op.move (Go.Operand.tmp 2), none, false⟩,
    ⟨some 17, Go.Op.call { callee := Go.Callee.value (Go.Operand.func 36), args := #[Go.Operand.tmp 14, Go.Operand.tmp 15, Go.Operand.tmp 16], argTypes := #[22, 23, 3] }, none, false⟩,
    ⟨some 8, Go.Op.assign (Go.Operand.tmp 17), none, false⟩] [0, 1, 2, 6, 8]) (.seq (.reg false [⟨some 18, Go.Op.move (Go.Operand.tmp 8), none, false⟩,
    ⟨some 19, Go.Op.binOp Go.BinOp.neq 29 (Go.Operand.tmp 18) (Go.Operand.const (Go.Value.int Go.IntKind.i64 0)) 29, none, false⟩] [0, 1, 2, 6, 8, 19]) (.cond (Go.Operand.tmp 19) (.seq (.reg false [⟨some 20, Go.Op.build 26 #[], none, false⟩,
    ⟨some 21, Go.Op.move (Go.Operand.tmp 8), none, false⟩,
    ⟨none, Go.Op.store 26 (Go.Operand.tmp 6) (Go.Operand.tmp 20), none, false⟩,
    ⟨some 7, Go.Op.assign (Go.Operand.tmp 21), none, false⟩] [6, 7]) (.ret)) (.skip)))) (.seq (.reg false [⟨some 22, Go.Op.move (Go.Operand.tmp 0), none, false⟩,
    ⟨some 23, Go.Op.call { callee := Go.Callee.value (Go.Operand.func 37), args := #[Go.Operand.tmp 22], argTypes := #[22] }, none, false⟩,
    ⟨some 24, Go.Op.move (Go.Operand.tmp 1), none, false⟩,
    ⟨some 25, Go.Op.call { callee := Go.Callee.value (Go.Operand.func 38), args := #[Go.Operand.tmp 24], argTypes := #[23] }, none, false⟩,
    ⟨some 26, Go.Op.move (Go.Operand.tmp 2), none, false⟩,
    ⟨some 27, Go.Op.build 26 #[(0, Go.Operand.tmp 23), (1, Go.Operand.tmp 25), (2, Go.Operand.tmp 26)], none, false⟩,
    ⟨some 9, Go.Op.alloc 26, none, false⟩,
    ⟨none, Go.Op.store 26 (Go.Operand.tmp 9) (Go.Operand.tmp 27), none, false⟩] [0, 1, 2, 6, 9]) (.seq (.seq (.reg false [⟨some 28, Go.Op.move (Go.Operand.tmp 0), none, false⟩,
    ⟨some 29, Go.Op.call { callee := Go.Callee.builtin Go.Builtin.len, args := #[Go.Operand.tmp 28], argTypes := #[22] }, none, false⟩,
    ⟨some 30, Go.Op.move (Go.Operand.const (Go.Value.int Go.IntKind.i64 0)), none, false⟩] [1, 2, 6, 9, 28, 29, 30]) (.block 0 (.loop Tryz.L10_1))) (.seq (.reg false [⟨some 61, Go.Op.fieldAddr 26 (Go.Operand.tmp 9) 3, none, false⟩,
    ⟨some 62, Go.Op.load 24 (Go.Operand.tmp 61), none, false⟩,
    ⟨some 63, Go.Op.call { callee := Go.Callee.value (Go.Operand.func 41), args := #[Go.Operand.tmp 62, Go.Operand.func 42], argTypes := #[24, 73] }, none, false⟩] [6, 9]) (.seq (.reg false [⟨some 64, Go.Op.load 26 (Go.Operand.tmp 9), none, false⟩,
    ⟨none, Go.Op.store 26 (Go.Operand.tmp 6) (Go.Operand.tmp 64), none, false⟩,
    ⟨some 7, Go.Op.assign (Go.Operand.const (Go.Value.int Go.IntKind.i64 0)), none, false⟩] [6, 7]) (.ret))))))
theorem Tryz.comp10 : ∃ c, Tryz.f10.body = some c ∧ compile c = erase Tryz.C10 := ⟨_, rfl, by kernel_rfl⟩
theorem Tryz.rs10 : Tryz.f10.results.toList = [Go.ResultVar.cell 6 26, Go.ResultVar.tmp 7] := by kernel_rfl
theorem Tryz.nt10 : Tryz.f10.ntmps = 65 := by kernel_rfl
theorem Tryz.en10 : ∀ vs w, (callFunc 10 vs).run Tryz.prog w = .ok (.enter 10 vs) w := enters_of Tryz.func10 (by kernel_rfl) rfl
theorem Tryz.ctr10 {a0 a1 a2 : V} {bx : Boxes} {Kc : V → Boxes → Prop} (h : FinB bx → pw Tryz.prog Tryz.C10 (retQ Tryz.prog [Go.ResultVar.cell 6 26, Go.ResultVar.tmp 7] Kc) ⟨65, slk [(0, a0), (1, a1), (2, a2)], bx⟩) : AbsCall Tryz.prog 10 [a0, a1, a2] bx Kc := abs_of (by kernel_rfl) Tryz.func10 Tryz.comp10 Tryz.en10 Tryz.nt10 Tryz.rs10 (fun hb => by rw [initSt_3]; exact h hb)
noncomputable def Tryz.C12 : PC := .seq (.reg false [⟨some 3, Go.Op.box 26 (Go.Operand.tmp 0), none, true⟩,
    ⟨some 6, Go.Op.alloc 26, none, false⟩,
    ⟨some 7, Go.Op.assign (Go.Operand.const (Go.Value.int Go.IntKind.i64 0)), none, false⟩] [1, 2, 3, 6]) (.seq (.seq (.reg false [⟨some 10, Go.Op.load 26 (Go.Operand.tmp 3), none, false⟩,
    ⟨some 11, Go.Op.call { callee := Go.Callee.value (Go.Operand.func 15), args := #[Go.Operand.tmp 10], argTypes := #[26] }, none, false⟩,
    ⟨some 8, Go.Op.assign (Go.Operand.tmp 11), none, false⟩] [1, 2, 3, 6, 8]) (.seq (.reg false [⟨some 12, Go.Op.move (Go.Operand.tmp 8), none, false⟩,
    ⟨some 13, Go.Op.binOp Go.BinOp.neq 29 (Go.Operand.tmp 12) (Go.Operand.const (Go.Value.int Go.IntKind.i64 0)) 29, none, false⟩] [1, 2, 3, 6, 8, 13]) (.cond (Go.Operand.tmp 13) (.seq (.reg false [⟨some 14, Go.Op.build 26 #[], none, false⟩,
    ⟨some 15, Go.Op.move (Go.Operand.tmp 8), none, false⟩,
    ⟨none, Go.Op.store 26 (Go.Operand.tmp 6) (Go.Operand.tmp 14), none, false⟩,
    ⟨some 7, Go.Op.assign (Go.Operand.tmp 15), none, false⟩] [6, 7]) (.ret)) (.skip)))) (.seq (.seq (.reg false [⟨some 16, Go.Op.move (Go.Operand.tmp 1), none, false⟩,
    ⟨some 17, Go.Op.binOp Go.BinOp.lss 3 (Go.Operand.tmp 16) (Go.Operand.const (Go.Value.int Go.IntKind.i64 0)) 3, none, false⟩,
    ⟨some 18, Go.Op.move (Go.Operand.tmp 17), none, false⟩,
    ⟨some 19, Go.Op.move (Go.Operand.tmp 1), some (18, false), false⟩,
    ⟨some 20, Go.Op.fieldAddr 26 (Go.Operand.tmp 3) 0, some (18, false), false⟩,
    ⟨some 21, Go.Op.load 22 (Go.Operand.tmp 20), some (18, false), false⟩,
    ⟨some 22, Go.Op.call { callee := Go.Callee.builtin Go.Builtin.len, args := #[Go.Operand.tmp 21], argTypes := #[22] }, some (18, false), false⟩,
    ⟨some 23, Go.Op.binOp Go.BinOp.geq 3 (Go.Operand.tmp 19) (Go.Operand.tmp 22) 3, some (18, false), false⟩,
    ⟨some 24, Go.Op.pick (Go.Operand.tmp 18) (Go.Operand.const (Go.Value.bool true)) (Go.Operand.tmp 23), none, false⟩] [1, 2, 3, 6, 24]) (.cond (Go.Operand.tmp 24) (.seq (.reg false [⟨some 25, Go.Op.build 26 #[], none, false⟩,
    ⟨none, Go.Op.store 26 (Go.Operand.tmp 6) (Go.Operand.tmp 25), none, false⟩,
    ⟨some 7, Go.Op.assign (Go.Operand.const (Go.Value.int Go.IntKind.i64 2)), none, false⟩] [6, 7]) (.ret)) (.skip))) (.seq (.reg false [⟨some 26, Go.Op.fieldAddr 26 (Go.Operand.tmp 3) 1, none, false⟩,
    ⟨some 27, Go.Op.load 23 (Go.Operand.tmp 26), none, false⟩,
    ⟨some 28, Go.Op.call { callee := Go.Callee.value (Go.Operand.func 38), args := #[Go.Operand.tmp 27], argTypes := #[23] }, none, false⟩,
    ⟨some 9, Go.Op.assign (Go.Operand.tmp 28), none, false⟩] [1, 2, 3, 6, 9]) (.seq (.reg false [⟨some 29, Go.Op.move (Go.Operand.tmp 9), none, false⟩,
    ⟨some 30, Go.Op.move (Go.Operand.tmp 1), none, false⟩,
    ⟨some 31, Go.Op.move (Go.Operand.tmp 2), none, false⟩,
    ⟨some 32, Go.Op.indexAddr 23 (Go.Operand.tmp 29) (Go.Operand.tmp 30), none, false⟩,
    ⟨none, Go.Op.store 3 (Go.Operand.tmp 32) (Go.Operand.tmp 31), none, false⟩] [3, 6, 9]) (.seq (.reg false [⟨some 33, Go.Op.fieldAddr 26 (Go.Operand.tmp 3) 0, none, false⟩,
    ⟨some 34, Go.Op.load 22 (Go.Operand.tmp 33), none, false⟩,
    ⟨some 35, Go.Op.move (Go.Operand.tmp 9), none, false⟩,
    ⟨some 36, Go.Op.fieldAddr 26 (Go.Operand.tmp 3) 2, none, false⟩,
    ⟨some 37, Go.Op.load 3 (Go.Operand.tmp 36), none, false⟩,
    ⟨some 38, Go.Op.call { callee := Go.Callee.value (Go.Operand.func 10), args := #[Go.Operand.tmp 34, Go.Operand.tmp 35, Go.Operand.tmp 37], argTypes := #[22, 23, 3] }, none, false⟩,
    ⟨some 39, Go.Op.extract (Go.Operand.tmp 38) 0, none, false⟩,
    ⟨some 40, Go.Op.extract (Go.Operand.tmp 38) 1, none, false⟩,
    ⟨none, Go.Op.store 26 (Go.Operand.tmp 6) (Go.Operand.tmp 39), none, false⟩,
    ⟨some 7, Go.Op.assign (Go.Operand.tmp 40), none, false⟩] [6, 7]) (.ret))))))
theorem Tryz.comp12 : ∃ c, Tryz.f12.body = some c ∧ compile c = erase Tryz.C12 := ⟨_, rfl, by kernel_rfl⟩
theorem Tryz.rs12 : Tryz.f12.results.toList = [Go.ResultVar.cell 6 26, Go.ResultVar.tmp 7] := by kernel_rfl
theorem Tryz.nt12 : Tryz.f12.ntmps = 41 := by kernel_rfl
theorem Tryz.en12 : ∀ vs w, (callFunc 12 vs).run Tryz.prog w = .ok (.enter 12 vs) w := enters_of Tryz.func12 (by kernel_rfl) rfl
theorem Tryz.ctr12 {a0 a1 a2 : V} {bx : Boxes} {Kc : V → Boxes → Prop} (h : FinB bx → pw Tryz.prog Tryz.C12 (retQ Tryz.prog [Go.ResultVar.cell 6 26, Go.ResultVar.tmp 7] Kc) ⟨41, slk [(0, a0), (1, a1), (2, a2)], bx⟩) : AbsCall Tryz.prog 12 [a0, a1, a2] bx Kc := abs_of (by kernel_rfl) Tryz.func12 Tryz.comp12 Tryz.en12 Tryz.nt12 Tryz.rs12 (fun hb => by rw [initSt_3]; exact h hb)
noncomputable def Tryz.C15 : PC := .seq (.reg false [⟨some 1, Go.Op.box 26 (Go.Operand.tmp 0), none, true⟩,
    ⟨some 2, Go.Op.assign (Go.Operand.const (Go.Value.int Go.IntKind.i64 0)), none, false⟩] [1]) (.seq (.reg false [⟨some 6, Go.Op.fieldAddr 26 (Go.Operand.tmp 1) 0, none, false⟩,
    ⟨some 7, Go.Op.load 22 (Go.Operand.tmp 6), none, false⟩,
    ⟨some 8, Go.Op.fieldAddr 26 (Go.Operand.tmp 1) 1, none, false⟩,
    ⟨some 9, Go.Op.load 23 (Go.Operand.tmp 8), none, false⟩,
    ⟨some 10, Go.Op.fieldAddr 26 (Go.Operand.tmp 1) 2, none, false⟩,
    ⟨some 11, Go.Op.load 3 (Go.Operand.tmp 10), none, false⟩,
    ⟨some 12, Go.Op.call { callee := Go.Callee.value (Go.Operand.func 10), args := #[Go.Operand.tmp 7, Go.Operand.tmp 9, Go.Operand.tmp 11], argTypes := #[22, 23, 3] }, none, false⟩,
    ⟨some 5, Go.Op.move (Go.Operand.tmp 12), none, false⟩,
    ⟨some 13, Go.Op.extract (Go.Operand.tmp 5) 0, none, false⟩,
    ⟨some 14, Go.Op.extract (Go.Operand.tmp 5) 1, none, false⟩,
    ⟨some 3, Go.Op.alloc 26, none, false⟩,
    ⟨none, Go.Op.store 26 (Go.Operand.tmp 3) (Go.Operand.tmp 13), none, false⟩,
    ⟨some 4, Go.Op.assign (Go.Operand.tmp 14), none, false⟩] [1, 3, 4]) (.fz 3 (.seq (.seq (.reg false [⟨some 15, Go.Op.move (Go.Operand.tmp 4), none, false⟩,
    ⟨some 16, Go.Op.binOp Go.BinOp.eql 29 (Go.Operand.tmp 15) (Go.Operand.const (Go.Value.int Go.IntKind.i64 0)) 29, none, false⟩,
    ⟨some 17, Go.Op.move (Go.Operand.tmp 16), none, false⟩,
    ⟨some 18, Go.Op.fieldAddr 26 (Go.Operand.tmp 3) 3, some (17, true), false⟩,
    ⟨some 19, Go.Op.load 24 (Go.Operand.tmp 18), some (17, true), false⟩,
    ⟨some 20, Go.Op.fieldAddr 26 (Go.Operand.tmp 1) 3, some (17, true), false⟩,
    ⟨some 21, Go.Op.load 24 (Go.Operand.tmp 20), some (17, true), false⟩,
    ⟨some 22, Go.Op.call { callee := Go.Callee.value (Go.Operand.func 51), args := #[Go.Operand.tmp 19, Go.Operand.tmp 21], argTypes := #[24, 24] }, some (17, true), false⟩,
    ⟨some 23, Go.Op.unOp Go.UnOp.not 4 (Go.Operand.tmp 22), some (17, true), false⟩,
    ⟨some 24, Go.Op.pick (Go.Operand.tmp 17) (Go.Operand.tmp 23) (Go.Operand.const (Go.Value.bool false)), none, false⟩] [4, 24]) (.cond (Go.Operand.tmp 24) (.reg false [⟨some 4, Go.Op.assign (Go.Operand.const (Go.Value.int Go.IntKind.i64 6)), none, false⟩] [4]) (.skip))) (.seq (.reg false [⟨some 25, Go.Op.move (Go.Operand.tmp 4), none, false⟩,
    ⟨some 2, Go.Op.assign (Go.Operand.tmp 25), none, false⟩] [2]) (.ret)))))
theorem Tryz.comp15 : ∃ c, Tryz.f15.body = some c ∧ compile c = erase Tryz.C15 := ⟨_, rfl, by kernel_rfl⟩
theorem Tryz.rs15 : Tryz.f15.results.toList = [Go.ResultVar.tmp 2] := by kernel_rfl
theorem Tryz.nt15 : Tryz.f15.ntmps = 26 := by kernel_rfl
theorem Tryz.en15 : ∀ vs w, (callFunc 15 vs).run Tryz.prog w = .ok (.enter 15 vs) w := enters_of Tryz.func15 (by kernel_rfl) rfl
theorem Tryz.ctr15 {a0 : V} {bx : Boxes} {Kc : V → Boxes → Prop} (h : FinB bx → pw Tryz.prog Tryz.C15 (retQ Tryz.prog [Go.ResultVar.tmp 2] Kc) ⟨26, slk [(0, a0)], bx⟩) : AbsCall Tryz.prog 15 [a0] bx Kc := abs_of (by kernel_rfl) Tryz.func15 Tryz.comp15 Tryz.en15 Tryz.nt15 Tryz.rs15 (fun hb => by rw [initSt_1]; exact h hb)
noncomputable def Tryz.L19_0 : PC := .seq (.reg false [⟨some 23, Go.Op.binOp Go.BinOp.lss 3 (Go.Operand.tmp 22) (Go.Operand.tmp 21) 3, none, false⟩] [1, 5, 6, 20, 21, 22, 23]) (.seq (.cond (Go.Operand.tmp 23) (.skip) (.exit 0)) (.seq (.block 1 (.seq (.reg false [⟨some 24, Go.Op.indexAddr 24 (Go.Operand.tmp 20) (Go.Operand.tmp 22), none, false⟩,
    ⟨some 25, Go.Op.load 63 (Go.Operand.tmp 24), none, false⟩,
    ⟨some 8, Go.Op.alloc 63, none, false⟩,
    ⟨none, Go.Op.store 63 (Go.Operand.tmp 8) (Go.Operand.tmp 25), none, false⟩] [1, 5, 6, 8, 20, 21, 22]) (.fz 8 (.seq (.reg false [⟨some 26, Go.Op.fieldAddr 63 (Go.Operand.tmp 8) 0, none, false⟩,
    ⟨some 27, Go.Op.load 58 (Go.Operand.tmp 26), none, false⟩,
    ⟨some 28, Go.Op.convert 58 42 (Go.Operand.tmp 27), none, false⟩,
    ⟨some 29, Go.Op.binOp Go.BinOp.add 42 (Go.Operand.tmp 28) (Go.Operand.const (Go.Value.int Go.IntKind.u64 1)) 42, none, false⟩,
    ⟨some 9, Go.Op.assign (Go.Operand.tmp 29), none, false⟩] [1, 5, 6, 8, 9, 20, 21, 22]) (.seq (.reg false [⟨some 30, Go.Op.move (Go.Operand.tmp 9), none, false⟩,
    ⟨some 31, Go.Op.move (Go.Operand.tmp 6), none, false⟩,
    ⟨some 32, Go.Op.binOp Go.BinOp.gtr 42 (Go.Operand.tmp 30) (Go.Operand.tmp 31) 42, none, false⟩] [1, 5, 6, 8, 9, 20, 21, 22, 32]) (.cond (Go.Operand.tmp 32) (.seq (.reg false [⟨some 33, Go.Op.move (Go.Operand.tmp 5), none, false⟩,
    ⟨some 34, Go.Op.fieldAddr 63 (Go.Operand.tmp 8) 1, none, false⟩,
    ⟨some 35, Go.Op.load 3 (Go.Operand.tmp 34), none, false⟩,
    ⟨some 36, Go.Op.indexAddr 38 (Go.Operand.tmp 33) (Go.Operand.tmp 35), none, false⟩,
    ⟨some 37, Go.Op.load 42 (Go.Operand.tmp 36), none, false⟩,
    ⟨some 38, Go.Op.move (Go.Operand.tmp 9), none, false⟩,
    ⟨some 39, Go.Op.move (Go.Operand.tmp 6), none, false⟩,
    ⟨some 40, Go.Op.binOp Go.BinOp.sub 42 (Go.Operand.tmp 38) (Go.Operand.tmp 39) 42, none, false⟩,
    ⟨some 41, Go.Op.binOp Go.BinOp.add 42 (Go.Operand.tmp 37) (Go.Operand.tmp 40) 42, none, false⟩,
    ⟨some 42, Go.Op.indexAddr 38 (Go.Operand.tmp 33) (Go.Operand.tmp 35), none, false⟩,
    ⟨none, Go.Op.store 42 (Go.Operand.tmp 42) (Go.Operand.tmp 41), none, false⟩] [1, 5, 9, 20, 21, 22]) (.reg false [⟨some 43, Go.Op.move (Go.Operand.tmp 9), none, false⟩,
    ⟨some 6, Go.Op.assign (Go.Operand.tmp 43), none, false⟩] [1, 5, 6, 20, 21, 22])) (.skip))))))) (.reg false [⟨some 44, Go.Op.binOp Go.BinOp.add 3 (Go.Operand.tmp 22) (Go.Operand.const (Go.Value.int Go.IntKind.i64 1)) 3, none, false⟩,
    ⟨some 22, Go.Op.move (Go.Operand.tmp 44), none, false⟩] [1, 5, 6, 20, 21, 22])))
noncomputable def Tryz.C19 : PC := .seq (.reg false [⟨some 1, Go.Op.box 26 (Go.Operand.tmp 0), none, true⟩,
    ⟨some 2, Go.Op.assign (Go.Operand.const (Go.Value.slice none 0 0)), none, false⟩,
    ⟨some 3, Go.Op.assign (Go.Operand.const (Go.Value.int Go.IntKind.i64 0)), none, false⟩] [1]) (.seq (.seq (.reg false [⟨some 10, Go.Op.load 26 (Go.Operand.tmp 1), none, false⟩,
    ⟨some 11, Go.Op.call { callee := Go.Callee.value (Go.Operand.func 52), args := #[Go.Operand.tmp 10, Go.Operand.const (Go.Value.slice none 0 0)], argTypes := #[26, 22] }, none, false⟩,
    ⟨some 4, Go.Op.assign (Go.Operand.tmp 11), none, false⟩] [1, 4]) (.seq (.reg false [⟨some 12, Go.Op.move (Go.Operand.tmp 4), none, false⟩,
    ⟨some 13, Go.Op.binOp Go.BinOp.neq 29 (Go.Operand.tmp 12) (Go.Operand.const (Go.Value.int Go.IntKind.i64 0)) 29, none, false⟩] [1, 4, 13]) (.cond (Go.Operand.tmp 13) (.seq (.reg false [⟨some 14, Go.Op.move (Go.Operand.tmp 4), none, false⟩,
    ⟨some 2, Go.Op.assign (Go.Operand.const (Go.Value.slice none 0 0)), none, false⟩,
    ⟨some 3, Go.Op.assign (Go.Operand.tmp 14), none, false⟩] [2, 3]) (.ret)) (.skip)))) (.seq (.reg false [⟨some 15, Go.Op.fieldAddr 26 (Go.Operand.tmp 1) 0, none, false⟩,
    ⟨some 16, Go.Op.load 22 (Go.Operand.tmp 15), none, false⟩,
    ⟨some 17, Go.Op.call { callee := Go.Callee.builtin Go.Builtin.len, args := #[Go.Operand.tmp 16], argTypes := #[22] }, none, false⟩,
    ⟨some 18, Go.Op.makeSlice 38 (Go.Operand.tmp 17) (Go.Operand.tmp 17), none, false⟩,
    ⟨some 5, Go.Op.assign (Go.Operand.tmp 18), none, false⟩] [1, 5]) (.seq (.reg false [⟨some 6, Go.Op.assign (Go.Operand.const (Go.Value.int Go.IntKind.u64 0)), none, false⟩] [1, 5, 6]) (.seq (.seq (.reg false [⟨some 19, Go.Op.fieldAddr 26 (Go.Operand.tmp 1) 3, none, false⟩,
    ⟨some 20, Go.Op.load 24 (Go.Operand.tmp 19), none, false⟩,
    ⟨some 21, Go.Op.call { callee := Go.Callee.builtin Go.Builtin.len, args := #[Go.Operand.tmp 20], argTypes := #[24] }, none, false⟩,
    ⟨some 22, Go.Op.move (Go.Operand.const (Go.Value.int Go.IntKind.i64 0)), none, false⟩] [1, 5, 6, 20, 21, 22]) (.block 0 (.loop Tryz.L19_0))) (.seq (.reg false [⟨some 45, Go.Op.move (Go.Operand.tmp 5), none, false⟩,
    ⟨some 46, Go.Op.fieldAddr 26 (Go.Operand.tmp 1) 3, none, false⟩,
    ⟨some 47, Go.Op.load 24 (Go.Operand.tmp 46), none, false⟩,
    ⟨some 48, Go.Op.indexAddr 24 (Go.Operand.tmp 47) (Go.Operand.const (Go.Value.int Go.IntKind.i64 0)), none, false⟩,
    ⟨some 49, Go.Op.fieldAddr 63 (Go.Operand.tmp 48) 1, none, false⟩,
    ⟨some 50, Go.Op.load 3 (Go.Operand.tmp 49), none, false⟩,
    ⟨some 51, Go.Op.indexAddr 38 (Go.Operand.tmp 45) (Go.Operand.tmp 50), none, false⟩,
    ⟨some 52, Go.Op.load 42 (Go.Operand.tmp 51), none, false⟩,
    ⟨some 53, Go.Op.move (Go.Operand.tmp 6), none, false⟩,
    ⟨some 54, Go.Op.binOp Go.BinOp.sub 42 (Go.Operand.const (Go.Value.int Go.IntKind.u64 4294967296)) (Go.Operand.tmp 53) 42, none, false⟩,
    ⟨some 55, Go.Op.binOp Go.BinOp.add 42 (Go.Operand.tmp 52) (Go.Operand.tmp 54) 42, none, false⟩,
    ⟨some 56, Go.Op.indexAddr 38 (Go.Operand.tmp 45) (Go.Operand.tmp 50), none, false⟩,
    ⟨none, Go.Op.store 42 (Go.Operand.tmp 56) (Go.Operand.tmp 55), none, false⟩] [5]) (.seq (.reg false [⟨some 57, Go.Op.move (Go.Operand.tmp 5), none, false⟩,
    ⟨some 2, Go.Op.assign (Go.Operand.tmp 57), none, false⟩,
    ⟨some 3, Go.Op.assign (Go.Operand.const (Go.Value.int Go.IntKind.i64 0)), none, false⟩] [2, 3]) (.ret)))))))
theorem Tryz.comp19 : ∃ c, Tryz.f19.body = some c ∧ compile c = erase Tryz.C19 := ⟨_, rfl, by kernel_rfl⟩
theorem Tryz.rs19 : Tryz.f19.results.toList = [Go.ResultVar.tmp 2, Go.ResultVar.tmp 3] := by kernel_rfl
theorem Tryz.nt19 : Tryz.f19.ntmps = 58 := by kernel_rfl
theorem Tryz.en19 : ∀ vs w, (callFunc 19 vs).run Tryz.prog w = .ok (.enter 19 vs) w := enters_of Tryz.func19 (by kernel_rfl) rfl
theorem Tryz.ctr19 {a0 : V} {bx : Boxes} {Kc : V → Boxes → Prop} (h : FinB bx → pw Tryz.prog Tryz.C19 (retQ Tryz.prog [Go.ResultVar.tmp 2, Go.ResultVar.tmp 3] Kc) ⟨58, slk [(0, a0)], bx⟩) : AbsCall Tryz.prog 19 [a0] bx Kc := abs_of (by kernel_rfl) Tryz.func19 Tryz.comp19 Tryz.en19 Tryz.nt19 Tryz.rs19 (fun hb => by rw [initSt_1]; exact h hb)
noncomputable def Tryz.C22 : PC := .seq (.reg false [⟨some 2, Go.Op.box 26 (Go.Operand.tmp 0), none, true⟩,
    ⟨some 4, Go.Op.assign (Go.Operand.const (Go.Value.int Go.IntKind.i64 0)), none, false⟩,
    ⟨some 5, Go.Op.assign (Go.Operand.const (Go.Value.int Go.IntKind.i64 0)), none, false⟩] [1, 2]) (.seq (.seq (.reg false [⟨some 7, Go.Op.load 26 (Go.Operand.tmp 2), none, false⟩,
    ⟨some 8, Go.Op.move (Go.Operand.tmp 1), none, false⟩,
    ⟨some 9, Go.Op.buildSlice 22 1 #[(0, Go.Operand.tmp 8)], none, true⟩,
    ⟨some 10, Go.Op.call { callee := Go.Callee.value (Go.Operand.func 52), args := #[Go.Operand.tmp 7, Go.Operand.tmp 9], argTypes := #[26, 22] }, none, false⟩,
    ⟨some 6, Go.Op.assign (Go.Operand.tmp 10), none, false⟩] [1, 2, 6]) (.seq (.reg false [⟨some 11, Go.Op.move (Go.Operand.tmp 6), none, false⟩,
    ⟨some 12, Go.Op.binOp Go.BinOp.neq 29 (Go.Operand.tmp 11) (Go.Operand.const (Go.Value.int Go.IntKind.i64 0)) 29, none, false⟩] [1, 2, 6, 12]) (.cond (Go.Operand.tmp 12) (.seq (.reg false [⟨some 13, Go.Op.move (Go.Operand.tmp 6), none, false⟩,
    ⟨some 4, Go.Op.assign (Go.Operand.const (Go.Value.int Go.IntKind.i64 0)), none, false⟩,
    ⟨some 5, Go.Op.assign (Go.Operand.tmp 13), none, false⟩] [4, 5]) (.ret)) (.skip)))) (.seq (.reg true [⟨some 14, Go.Op.fieldAddr 26 (Go.Operand.tmp 2) 3, none, false⟩,
    ⟨some 15, Go.Op.load 24 (Go.Operand.tmp 14), none, false⟩,
    ⟨some 16, Go.Op.load 26 (Go.Operand.tmp 2), none, false⟩,
    ⟨some 17, Go.Op.move (Go.Operand.tmp 1), none, false⟩,
    ⟨some 18, Go.Op.convert 9 60 (Go.Operand.tmp 17), none, false⟩,
    ⟨some 19, Go.Op.call { callee := Go.Callee.value (Go.Operand.func 34), args := #[Go.Operand.tmp 18], argTypes := #[60] }, none, false⟩,
    ⟨some 20, Go.Op.call { callee := Go.Callee.value (Go.Operand.func 53), args := #[Go.Operand.tmp 16, Go.Operand.tmp 19], argTypes := #[26, 58] }, none, false⟩,
    ⟨some 21, Go.Op.indexAddr 24 (Go.Operand.tmp 15) (Go.Operand.tmp 20), none, false⟩,
    ⟨some 22, Go.Op.fieldAddr 63 (Go.Operand.tmp 21) 1, none, false⟩,
    ⟨some 23, Go.Op.load 3 (Go.Operand.tmp 22), none, false⟩,
    ⟨some 4, Go.Op.assign (Go.Operand.tmp 23), none, false⟩,
    ⟨some 5, Go.Op.assign (Go.Operand.const (Go.Value.int Go.IntKind.i64 0)), none, false⟩] [4, 5]) (.ret)))
theorem Tryz.comp22 : ∃ c, Tryz.f22.body = some c ∧ compile c = erase Tryz.C22 := ⟨_, rfl, by kernel_rfl⟩
theorem Tryz.rs22 : Tryz.f22.results.toList = [Go.ResultVar.tmp 4, Go.ResultVar.tmp 5] := by kernel_rfl
theorem Tryz.nt22 : Tryz.f22.ntmps = 24 := by kernel_rfl
theorem Tryz.en22 : ∀ vs w, (callFunc 22 vs).run Tryz.prog w = .ok (.enter 22 vs) w := enters_of Tryz.func22 (by kernel_rfl) rfl
theorem Tryz.ctr22 {a0 a1 : V} {bx : Boxes} {Kc : V → Boxes → Prop} (h : FinB bx → pw Tryz.prog Tryz.C22 (retQ Tryz.prog [Go.ResultVar.tmp 4, Go.ResultVar.tmp 5] Kc) ⟨24, slk [(0, a0), (1, a1)], bx⟩) : AbsCall Tryz.prog 22 [a0, a1] bx Kc := abs_of (by kernel_rfl) Tryz.func22 Tryz.comp22 Tryz.en22 Tryz.nt22 Tryz.rs22 (fun hb => by rw [initSt_2]; exact h hb)
noncomputable def Tryz.L24_0 : PC := .seq (.reg false [⟨some 35, Go.Op.binOp Go.BinOp.lss 3 (Go.Operand.tmp 34) (Go.Operand.tmp 33) 3, none, false⟩] [8, 32, 33, 34, 35]) (.seq (.cond (Go.Operand.tmp 35) (.skip) (.exit 0)) (.seq (.block 1 (.seq (.reg false [⟨some 36, Go.Op.indexAddr 24 (Go.Operand.tmp 32) (Go.Operand.tmp 34), none, false⟩,
    ⟨some 37, Go.Op.load 63 (Go.Operand.tmp 36), none, false⟩,
    ⟨some 10, Go.Op.alloc 63, none, false⟩,
    ⟨none, Go.Op.store 63 (Go.Operand.tmp 10) (Go.Operand.tmp 37), none, false⟩] [8, 10, 32, 33, 34]) (.fz 10 (.seq (.reg false [⟨some 38, Go.Op.move (Go.Operand.tmp 8), none, false⟩,
    ⟨some 39, Go.Op.fieldAddr 63 (Go.Operand.tmp 10) 1, none, false⟩,
    ⟨some 40, Go.Op.load 3 (Go.Operand.tmp 39), none, false⟩,
    ⟨some 41, Go.Op.call { callee := Go.Callee.value (Go.Operand.func 57), args := #[Go.Operand.tmp 38, Go.Operand.tmp 40], argTypes := #[23, 3] }, none, false⟩,
    ⟨some 42, Go.Op.unOp Go.UnOp.not 4 (Go.Operand.tmp 41), none, false⟩] [8, 10, 32, 33, 34, 42]) (.cond (Go.Operand.tmp 42) (.reg false [⟨some 43, Go.Op.move (Go.Operand.tmp 8), none, false⟩,
    ⟨some 44, Go.Op.fieldAddr 63 (Go.Operand.tmp 10) 1, none, false⟩,
    ⟨some 45, Go.Op.load 3 (Go.Operand.tmp 44), none, false⟩,
    ⟨some 46, Go.Op.buildSlice 23 1 #[(0, Go.Operand.tmp 45)], none, true⟩,
    ⟨some 47, Go.Op.call { callee := Go.Callee.builtin Go.Builtin.append, args := #[Go.Operand.tmp 43, Go.Operand.tmp 46], argTypes := #[23, 23] }, none, false⟩,
    ⟨some 8, Go.Op.assign (Go.Operand.tmp 47), none, false⟩] [8, 32, 33, 34]) (.skip)))))) (.reg false [⟨some 48, Go.Op.binOp Go.BinOp.add 3 (Go.Operand.tmp 34) (Go.Operand.const (Go.Value.int Go.IntKind.i64 1)) 3, none, false⟩,
    ⟨some 34, Go.Op.move (Go.Operand.tmp 48), none, false⟩] [8, 32, 33, 34])))
noncomputable def Tryz.C24 : PC := .seq (.reg false [⟨some 2, Go.Op.box 26 (Go.Operand.tmp 0), none, true⟩,
    ⟨some 4, Go.Op.assign (Go.Operand.const (Go.Value.slice none 0 0)), none, false⟩,
    ⟨some 5, Go.Op.assign (Go.Operand.const (Go.Value.int Go.IntKind.i64 0)), none, false⟩] [1, 2]) (.seq (.seq (.reg false [⟨some 11, Go.Op.load 26 (Go.Operand.tmp 2), none, false⟩,
    ⟨some 12, Go.Op.move (Go.Operand.tmp 1), none, false⟩,
    ⟨some 13, Go.Op.buildSlice 22 1 #[(0, Go.Operand.tmp 12)], none, true⟩,
    ⟨some 14, Go.Op.call { callee := Go.Callee.value (Go.Operand.func 52), args := #[Go.Operand.tmp 11, Go.Operand.tmp 13], argTypes := #[26, 22] }, none, false⟩,
    ⟨some 6, Go.Op.assign (Go.Operand.tmp 14), none, false⟩] [1, 2, 6]) (.seq (.reg false [⟨some 15, Go.Op.move (Go.Operand.tmp 6), none, false⟩,
    ⟨some 16, Go.Op.binOp Go.BinOp.neq 29 (Go.Operand.tmp 15) (Go.Operand.const (Go.Value.int Go.IntKind.i64 0)) 29, none, false⟩] [1, 2, 6, 16]) (.cond (Go.Operand.tmp 16) (.seq (.reg false [⟨some 17, Go.Op.move (Go.Operand.tmp 6), none, false⟩,
    ⟨some 4, Go.Op.assign (Go.Operand.const (Go.Value.slice none 0 0)), none, false⟩,
    ⟨some 5, Go.Op.assign (Go.Operand.tmp 17), none, false⟩] [4, 5]) (.ret)) (.skip)))) (.seq (.reg true [⟨some 18, Go.Op.load 26 (Go.Operand.tmp 2), none, false⟩,
    ⟨some 19, Go.Op.move (Go.Operand.tmp 1), none, false⟩,
    ⟨some 20, Go.Op.convert 9 60 (Go.Operand.tmp 19), none, false⟩,
    ⟨some 21, Go.Op.call { callee := Go.Callee.value (Go.Operand.func 34), args := #[Go.Operand.tmp 20], argTypes := #[60] }, none, false⟩,
    ⟨some 22, Go.Op.call { callee := Go.Callee.value (Go.Operand.func 53), args := #[Go.Operand.tmp 18, Go.Operand.tmp 21], argTypes := #[26, 58] }, none, false⟩,
    ⟨some 7, Go.Op.assign (Go.Operand.tmp 22), none, false⟩] [2, 7]) (.seq (.reg false [⟨some 8, Go.Op.assign (Go.Operand.const (Go.Value.slice none 0 0)), none, false⟩] [2, 7, 8]) (.seq (.seq (.reg true [⟨some 23, Go.Op.fieldAddr 26 (Go.Operand.tmp 2) 3, none, false⟩,
    ⟨some 24, Go.Op.load 24 (Go.Operand.tmp 23), none, false⟩,
    ⟨some 25, Go.Op.move (Go.Operand.tmp 7), none, false⟩,
    ⟨some 26, Go.Op.slice 24 (Go.Operand.tmp 24) (some (Go.Operand.tmp 25)) none none, none, false⟩,
    ⟨some 27, Go.Op.fieldAddr 26 (Go.Operand.tmp 2) 3, none, false⟩,
    ⟨some 28, Go.Op.load 24 (Go.Operand.tmp 27), none, false⟩,
    ⟨some 29, Go.Op.move (Go.Operand.tmp 7), none, false⟩,
    ⟨some 30, Go.Op.slice 24 (Go.Operand.tmp 28) none (some (Go.Operand.tmp 29)) none, none, false⟩,
    ⟨some 31, Go.Op.buildSlice 116 2 #[(0, Go.Operand.tmp 26), (1, Go.Operand.tmp 30)], none, false⟩,
    ⟨some 32, Go.Op.call { callee := Go.Callee.value (Go.Operand.func 56), args := #[Go.Operand.tmp 31], argTypes := #[116] }, none, false⟩,
    ⟨some 33, Go.Op.call { callee := Go.Callee.builtin Go.Builtin.len, args := #[Go.Operand.tmp 32], argTypes := #[24] }, none, false⟩,
    ⟨some 34, Go.Op.move (Go.Operand.const (Go.Value.int Go.IntKind.i64 0)), none, false⟩] [8, 32, 33, 34]) (.block 0 (.loop Tryz.L24_0))) (.seq (.reg false [⟨some 49, Go.Op.move (Go.Operand.tmp 8), none, false⟩,
    ⟨some 4, Go.Op.assign (Go.Operand.tmp 49), none, false⟩,
    ⟨some 5, Go.Op.assign (Go.Operand.const (Go.Value.int Go.IntKind.i64 0)), none, false⟩] [4, 5]) (.ret))))))
theorem Tryz.comp24 : ∃ c, Tryz.f24.body = some c ∧ compile c = erase Tryz.C24 := ⟨_, rfl, by kernel_rfl⟩
theorem Tryz.rs24 : Tryz.f24.results.toList = [Go.ResultVar.tmp 4, Go.ResultVar.tmp 5] := by kernel_rfl
theorem Tryz.nt24 : Tryz.f24.ntmps = 50 := by kernel_rfl
theorem Tryz.en24 : ∀ vs w, (callFunc 24 vs).run Tryz.prog w = .ok (.enter 24 vs) w := enters_of Tryz.func24 (by kernel_rfl) rfl
theorem Tryz.ctr24 {a0 a1 : V} {bx : Boxes} {Kc : V → Boxes → Prop} (h : FinB bx → pw Tryz.prog Tryz.C24 (retQ Tryz.prog [Go.ResultVar.tmp 4, Go.ResultVar.tmp 5] Kc) ⟨50, slk [(0, a0), (1, a1)], bx⟩) : AbsCall Tryz.prog 24 [a0, a1] bx Kc := abs_of (by kernel_rfl) Tryz.func24 Tryz.comp24 Tryz.en24 Tryz.nt24 Tryz.rs24 (fun hb => by rw [initSt_2]; exact h hb)
noncomputable def Tryz.C34 : PC := .seq (.reg false [⟨some 2, Go.Op.assign (Go.Operand.const (Go.Value.int Go.IntKind.u32 0)), none, false⟩] [0]) (.seq (.reg false [⟨some 3, Go.Op.move (Go.Operand.tmp 0), none, false⟩,
    ⟨some 4, Go.Op.call { callee := Go.Callee.value (Go.Operand.func 39), args := #[Go.Operand.const (Go.Value.int Go.IntKind.u32 2166136261), Go.Operand.tmp 3], argTypes := #[58, 60] }, none, false⟩,
    ⟨some 2, Go.Op.assign (Go.Operand.tmp 4), none, false⟩] [2]) (.ret))
theorem Tryz.comp34 : ∃ c, Tryz.f34.body = some c ∧ compile c = erase Tryz.C34 := ⟨_, rfl, by kernel_rfl⟩
theorem Tryz.rs34 : Tryz.f34.results.toList = [Go.ResultVar.tmp 2] := by kernel_rfl
theorem Tryz.nt34 : Tryz.f34.ntmps = 5 := by kernel_rfl
theorem Tryz.en34 : ∀ vs w, (callFunc 34 vs).run Tryz.prog w = .ok (.enter 34 vs) w := enters_of Tryz.func34 (by kernel_rfl) rfl
theorem Tryz.ctr34 {a0 : V} {bx : Boxes} {Kc : V → Boxes → Prop} (h : FinB bx → pw Tryz.prog Tryz.C34 (retQ Tryz.prog [Go.ResultVar.tmp 2] Kc) ⟨5, slk [(0, a0)], bx⟩) : AbsCall Tryz.prog 34 [a0] bx Kc := abs_of (by kernel_rfl) Tryz.func34 Tryz.comp34 Tryz.en34 Tryz.nt34 Tryz.rs34 (fun hb => by rw [initSt_1]; exact h hb)
noncomputable def Tryz.C35 : PC := .seq (.reg false [⟨some 2, Go.Op.assign (Go.Operand.const (Go.Value.int Go.IntKind.u64 0)), none, false⟩] [0]) (.seq (.reg false [⟨some 3, Go.Op.move (Go.Operand.tmp 0), none, false⟩,
    ⟨some 4, Go.Op.call { callee := Go.Callee.value (Go.Operand.func 73), args := #[Go.Operand.const (Go.Value.int Go.IntKind.u64 14695981039346656037), Go.Operand.tmp 3], argTypes := #[42, 60] }, none, false⟩,
    ⟨some 2, Go.Op.assign (Go.Operand.tmp 4), none, false⟩] [2]) (.ret))
theorem Tryz.comp35 : ∃ c, Tryz.f35.body = some c ∧ compile c = erase Tryz.C35 := ⟨_, rfl, by kernel_rfl⟩
theorem Tryz.rs35 : Tryz.f35.results.toList = [Go.ResultVar.tmp 2] := by kernel_rfl
theorem Tryz.nt35 : Tryz.f35.ntmps = 5 := by kernel_rfl
theorem Tryz.en35 : ∀ vs w, (callFunc 35 vs).run Tryz.prog w = .ok (.enter 35 vs) w := enters_of Tryz.func35 (by kernel_rfl) rfl
theorem Tryz.ctr35 {a0 : V} {bx : Boxes} {Kc : V → Boxes → Prop} (h : FinB bx → pw Tryz.prog Tryz.C35 (retQ Tryz.prog [Go.ResultVar.tmp 2] Kc) ⟨5, slk [(0, a0)], bx⟩) : AbsCall Tryz.prog 35 [a0] bx Kc := abs_of (by kernel_rfl) Tryz.func35 Tryz.comp35 Tryz.en35 Tryz.nt35 Tryz.rs35 (fun hb => by rw [initSt_1]; exact h hb)
noncomputable def Tryz.L36_0 : PC := .seq (.reg false [⟨some 56, Go.Op.binOp Go.BinOp.lss 3 (Go.Operand.tmp 55) (Go.Operand.tmp 54) 3, none, false⟩] [2, 10, 53, 54, 55, 56]) (.seq (.cond (Go.Operand.tmp 56) (.skip) (.exit 1)) (.seq (.block 2 (.seq (.reg false [⟨some 57, Go.Op.indexAddr 23 (Go.Operand.tmp 53) (Go.Operand.tmp 55), none, false⟩,
    ⟨some 58, Go.Op.load 3 (Go.Operand.tmp 57), none, false⟩,
    ⟨some 12, Go.Op.assign (Go.Operand.tmp 58), none, false⟩] [2, 10, 12, 53, 54, 55]) (.reg false [⟨some 59, Go.Op.move (Go.Operand.tmp 10), none, false⟩,
    ⟨some 60, Go.Op.move (Go.Operand.tmp 12), none, false⟩,
    ⟨some 61, Go.Op.move (Go.Operand.tmp 2), none, false⟩,
    ⟨some 62, Go.Op.binOp Go.BinOp.mul 3 (Go.Operand.tmp 60) (Go.Operand.tmp 61) 3, none, false⟩,
    ⟨some 63, Go.Op.binOp Go.BinOp.add 3 (Go.Operand.tmp 59) (Go.Operand.tmp 62) 3, none, false⟩,
    ⟨some 10, Go.Op.assign (Go.Operand.tmp 63), none, false⟩] [2, 10, 53, 54, 55]))) (.reg false [⟨some 64, Go.Op.binOp Go.BinOp.add 3 (Go.Operand.tmp 55) (Go.Operand.const (Go.Value.int Go.IntKind.i64 1)) 3, none, false⟩,
    ⟨some 55, Go.Op.move (Go.Operand.tmp 64), none, false⟩] [2, 10, 53, 54, 55])))
noncomputable def Tryz.C36 : PC := .seq (.reg false [⟨some 6, Go.Op.assign (Go.Operand.const (Go.Value.int Go.IntKind.i64 0)), none, false⟩] [0, 1, 2]) (.seq (.reg false [⟨some 7, Go.Op.assign (Go.Operand.func 74), none, false⟩] [0, 1, 2, 7]) (.seq (.reg false [⟨some 8, Go.Op.assign (Go.Operand.func 75), none, false⟩] [0, 1, 2, 7, 8]) (.seq (.block 0 (.seq (.reg false [⟨some 14, Go.Op.move (Go.Operand.tmp 0), none, false⟩,
    ⟨some 15, Go.Op.call { callee := Go.Callee.builtin Go.Builtin.len, args := #[Go.Operand.tmp 14], argTypes := #[22] }, none, false⟩,
    ⟨some 16, Go.Op.binOp Go.BinOp.eql 3 (Go.Operand.tmp 15) (Go.Operand.const (Go.Value.int Go.IntKind.i64 0)) 3, none, false⟩,
    ⟨some 17, Go.Op.move (Go.Operand.tmp 16), none, false⟩,
    ⟨some 18, Go.Op.move (Go.Operand.tmp 0), some (17, false), false⟩,
    ⟨some 19, Go.Op.call { callee := Go.Callee.builtin Go.Builtin.len, args := #[Go.Operand.tmp 18], argTypes := #[22] }, some (17, false), false⟩,
    ⟨some 20, Go.Op.binOp Go.BinOp.gtr 3 (Go.Operand.tmp 19) (Go.Operand.const (Go.Value.int Go.IntKind.i64 16)) 3, some (17, false), false⟩,
    ⟨some 21, Go.Op.pick (Go.Operand.tmp 17) (Go.Operand.const (Go.Value.bool true)) (Go.Operand.tmp 20), none, false⟩,
    ⟨some 13, Go.Op.assign (Go.Operand.tmp 21), none, false⟩] [0, 1, 2, 7, 8, 13]) (.cond (Go.Operand.tmp 13) (.seq (.reg false [⟨some 6, Go.Op.assign (Go.Operand.const (Go.Value.int Go.IntKind.i64 3)), none, false⟩] [6]) (.ret)) (.seq (.reg false [⟨some 23, Go.Op.move (Go.Operand.tmp 1), none, false⟩,
    ⟨some 24, Go.Op.call { callee := Go.Callee.builtin Go.Builtin.len, args := #[Go.Operand.tmp 23], argTypes := #[23] }, none, false⟩,
    ⟨some 25, Go.Op.move (Go.Operand.tmp 0), none, false⟩,
    ⟨some 26, Go.Op.call { callee := Go.Callee.builtin Go.Builtin.len, args := #[Go.Operand.tmp 25], argTypes := #[22] }, none, false⟩,
    ⟨some 27, Go.Op.binOp Go.BinOp.neq 3 (Go.Operand.tmp 24) (Go.Operand.tmp 26) 3, none, false⟩,
    ⟨some 22, Go.Op.assign (Go.Operand.tmp 27), none, false⟩] [0, 1, 2, 7, 8, 22]) (.cond (Go.Operand.tmp 22) (.seq (.reg false [⟨some 6, Go.Op.assign (Go.Operand.const (Go.Value.int Go.IntKind.i64 2)), none, false⟩] [6]) (.ret)) (.seq (.reg false [⟨some 29, Go.Op.move (Go.Operand.tmp 2), none, false⟩,
    ⟨some 30, Go.Op.binOp Go.BinOp.lss 3 (Go.Operand.tmp 29) (Go.Operand.const (Go.Value.int Go.IntKind.i64 1)) 3, none, false⟩,
    ⟨some 31, Go.Op.move (Go.Operand.tmp 30), none, false⟩,
    ⟨some 32, Go.Op.move (Go.Operand.tmp 2), some (31, false), false⟩,
    ⟨some 33, Go.Op.binOp Go.BinOp.gtr 3 (Go.Operand.tmp 32) (Go.Operand.const (Go.Value.int Go.IntKind.i64 100)) 3, some (31, false), false⟩,
    ⟨some 34, Go.Op.pick (Go.Operand.tmp 31) (Go.Operand.const (Go.Value.bool true)) (Go.Operand.tmp 33), none, false⟩,
    ⟨some 35, Go.Op.move (Go.Operand.tmp 34), none, false⟩,
    ⟨some 36, Go.Op.move (Go.Operand.tmp 1), some (35, false), false⟩,
    ⟨some 37, Go.Op.move (Go.Operand.tmp 7), some (35, false), false⟩,
    ⟨some 38, Go.Op.call { callee := Go.Callee.value (Go.Operand.func 78), args := #[Go.Operand.tmp 36, Go.Operand.tmp 37], argTypes := #[23, 91] }, some (35, false), false⟩,
    ⟨some 39, Go.Op.pick (Go.Operand.tmp 35) (Go.Operand.const (Go.Value.bool true)) (Go.Operand.tmp 38), none, false⟩,
    ⟨some 28, Go.Op.assign (Go.Operand.tmp 39), none, false⟩] [0, 1, 2, 8, 28]) (.cond (Go.Operand.tmp 28) (.seq (.reg false [⟨some 6, Go.Op.assign (Go.Operand.const (Go.Value.int Go.IntKind.i64 7)), none, false⟩] [6]) (.ret)) (.seq (.reg false [⟨some 41, Go.Op.move (Go.Operand.tmp 0), none, false⟩,
    ⟨some 42, Go.Op.move (Go.Operand.tmp 8), none, false⟩,
    ⟨some 43, Go.Op.call { callee := Go.Callee.value (Go.Operand.func 79), args := #[Go.Operand.tmp 41, Go.Operand.tmp 42], argTypes := #[22, 100] }, none, false⟩,
    ⟨some 40, Go.Op.assign (Go.Operand.tmp 43), none, false⟩] [0, 1, 2, 40]) (.cond (Go.Operand.tmp 40) (.seq (.reg false [⟨some 6, Go.Op.assign (Go.Operand.const (Go.Value.int Go.IntKind.i64 6)), none, false⟩] [6]) (.ret)) (.skip)))))))))) (.seq (.reg false [⟨some 44, Go.Op.move (Go.Operand.tmp 0), none, false⟩,
    ⟨some 45, Go.Op.call { callee := Go.Callee.value (Go.Operand.func 81), args := #[Go.Operand.tmp 44], argTypes := #[22] }, none, false⟩,
    ⟨some 46, Go.Op.call { callee := Go.Callee.value (Go.Operand.func 80), args := #[Go.Operand.tmp 45], argTypes := #[105] }, none, false⟩,
    ⟨some 9, Go.Op.assign (Go.Operand.tmp 46), none, false⟩] [0, 1, 2, 9]) (.seq (.seq (.reg false [⟨some 47, Go.Op.move (Go.Operand.tmp 9), none, false⟩,
    ⟨some 48, Go.Op.call { callee := Go.Callee.value (Go.Operand.func 82), args := #[Go.Operand.tmp 47], argTypes := #[22] }, none, false⟩,
    ⟨some 49, Go.Op.call { callee := Go.Callee.builtin Go.Builtin.len, args := #[Go.Operand.tmp 48], argTypes := #[22] }, none, false⟩,
    ⟨some 50, Go.Op.move (Go.Operand.tmp 0), none, false⟩,
    ⟨some 51, Go.Op.call { callee := Go.Callee.builtin Go.Builtin.len, args := #[Go.Operand.tmp 50], argTypes := #[22] }, none, false⟩,
    ⟨some 52, Go.Op.binOp Go.BinOp.lss 3 (Go.Operand.tmp 49) (Go.Operand.tmp 51) 3, none, false⟩] [1, 2, 52]) (.cond (Go.Operand.tmp 52) (.seq (.reg false [⟨some 6, Go.Op.assign (Go.Operand.const (Go.Value.int Go.IntKind.i64 8)), none, false⟩] [6]) (.ret)) (.skip))) (.seq (.reg false [⟨some 10, Go.Op.assign (Go.Operand.const (Go.Value.int Go.IntKind.i64 0)), none, false⟩] [1, 2, 10]) (.seq (.seq (.reg false [⟨some 53, Go.Op.move (Go.Operand.tmp 1), none, false⟩,
    ⟨some 54, Go.Op.call { callee := Go.Callee.builtin Go.Builtin.len, args := #[Go.Operand.tmp 53], argTypes := #[23] }, none, false⟩,
    ⟨some 55, Go.Op.move (Go.Operand.const (Go.Value.int Go.IntKind.i64 0)), none, false⟩] [2, 10, 53, 54, 55]) (.block 1 (.loop Tryz.L36_0))) (.seq (.seq (.reg false [⟨some 65, Go.Op.move (Go.Operand.tmp 10), none, false⟩,
    ⟨some 66, Go.Op.binOp Go.BinOp.gtr 3 (Go.Operand.tmp 65) (Go.Operand.const (Go.Value.int Go.IntKind.i64 4096)) 3, none, false⟩] [66]) (.cond (Go.Operand.tmp 66) (.seq (.reg false [⟨some 6, Go.Op.assign (Go.Operand.const (Go.Value.int Go.IntKind.i64 3)), none, false⟩] [6]) (.ret)) (.skip))) (.seq (.reg false [⟨some 6, Go.Op.assign (Go.Operand.const (Go.Value.int Go.IntKind.i64 0)), none, false⟩] [6]) (.ret))))))))))
theorem Tryz.comp36 : ∃ c, Tryz.f36.body = some c ∧ compile c = erase Tryz.C36 := ⟨_, rfl, by kernel_rfl⟩
theorem Tryz.rs36 : Tryz.f36.results.toList = [Go.ResultVar.tmp 6] := by kernel_rfl
theorem Tryz.nt36 : Tryz.f36.ntmps = 67 := by kernel_rfl
theorem Tryz.en36 : ∀ vs w, (callFunc 36 vs).run Tryz.prog w = .ok (.enter 36 vs) w := enters_of Tryz.func36 (by kernel_rfl) rfl
theorem Tryz.ctr36 {a0 a1 a2 : V} {bx : Boxes} {Kc : V → Boxes → Prop} (h : FinB bx → pw Tryz.prog Tryz.C36 (retQ Tryz.prog [Go.ResultVar.tmp 6] Kc) ⟨67, slk [(0, a0), (1, a1), (2, a2)], bx⟩) : AbsCall Tryz.prog 36 [a0, a1, a2] bx Kc := abs_of (by kernel_rfl) Tryz.func36 Tryz.comp36 Tryz.en36 Tryz.nt36 Tryz.rs36 (fun hb => by rw [initSt_3]; exact h hb)
noncomputable def Tryz.C37 : PC := .seq (.reg false [⟨some 2, Go.Op.assign (Go.Operand.const (Go.Value.slice none 0 0)), none, false⟩] [0]) (.seq (.seq (.reg false [⟨some 3, Go.Op.move (Go.Operand.tmp 0), none, false⟩,
    ⟨some 4, Go.Op.binOp Go.BinOp.eql 22 (Go.Operand.tmp 3) (Go.Operand.const (Go.Value.slice none 0 0)) 22, none, true⟩] [0, 4]) (.cond (Go.Operand.tmp 4) (.seq (.reg false [⟨some 2, Go.Op.assign (Go.Operand.const (Go.Value.slice none 0 0)), none, false⟩] [2]) (.ret)) (.skip))) (.seq (.reg false [⟨some 5, Go.Op.buildSlice 22 0 #[], none, false⟩,
    ⟨some 6, Go.Op.move (Go.Operand.tmp 0), none, false⟩,
    ⟨some 7, Go.Op.call { callee := Go.Callee.builtin Go.Builtin.append, args := #[Go.Operand.tmp 5, Go.Operand.tmp 6], argTypes := #[22, 22] }, none, false⟩,
    ⟨some 2, Go.Op.assign (Go.Operand.tmp 7), none, false⟩] [2]) (.ret)))
theorem Tryz.comp37 : ∃ c, Tryz.f37.body = some c ∧ compile c = erase Tryz.C37 := ⟨_, rfl, by kernel_rfl⟩
theorem Tryz.rs37 : Tryz.f37.results.toList = [Go.ResultVar.tmp 2] := by kernel_rfl
theorem Tryz.nt37 : Tryz.f37.ntmps = 8 := by kernel_rfl
theorem Tryz.en37 : ∀ vs w, (callFunc 37 vs).run Tryz.prog w = .ok (.enter 37 vs) w := enters_of Tryz.func37 (by kernel_rfl) rfl
theorem Tryz.ctr37 {a0 : V} {bx : Boxes} {Kc : V → Boxes → Prop} (h : FinB bx → pw Tryz.prog Tryz.C37 (retQ Tryz.prog [Go.ResultVar.tmp 2] Kc) ⟨8, slk [(0, a0)], bx⟩) : AbsCall Tryz.prog 37 [a0] bx Kc := abs_of (by kernel_rfl) Tryz.func37 Tryz.comp37 Tryz.en37 Tryz.nt37 Tryz.rs37 (fun hb => by rw [initSt_1]; exact h hb)
noncomputable def Tryz.C38 : PC := .seq (.reg false [⟨some 2, Go.Op.assign (Go.Operand.const (Go.Value.slice none 0 0)), none, false⟩] [0]) (.seq (.seq (.reg false [⟨some 3, Go.Op.move (Go.Operand.tmp 0), none, false⟩,
    ⟨some 4, Go.Op.binOp Go.BinOp.eql 23 (Go.Operand.tmp 3) (Go.Operand.const (Go.Value.slice none 0 0)) 23, none, true⟩] [0, 4]) (.cond (Go.Operand.tmp 4) (.seq (.reg false [⟨some 2, Go.Op.assign (Go.Operand.const (Go.Value.slice none 0 0)), none, false⟩] [2]) (.ret)) (.skip))) (.seq (.reg false [⟨some 5, Go.Op.buildSlice 23 0 #[], none, false⟩,
    ⟨some 6, Go.Op.move (Go.Operand.tmp 0), none, false⟩,
    ⟨some 7, Go.Op.call { callee := Go.Callee.builtin Go.Builtin.append, args := #[Go.Operand.tmp 5, Go.Operand.tmp 6], argTypes := #[23, 23] }, none, false⟩,
    ⟨some 2, Go.Op.assign (Go.Operand.tmp 7), none, false⟩] [2]) (.ret)))
theorem Tryz.comp38 : ∃ c, Tryz.f38.body = some c ∧ compile c = erase Tryz.C38 := ⟨_, rfl, by kernel_rfl⟩
theorem Tryz.rs38 : Tryz.f38.results.toList = [Go.ResultVar.tmp 2] := by kernel_rfl
theorem Tryz.nt38 : Tryz.f38.ntmps = 8 := by kernel_rfl
theorem Tryz.en38 : ∀ vs w, (callFunc 38 vs).run Tryz.prog w = .ok (.enter 38 vs) w := enters_of Tryz.func38 (by kernel_rfl) rfl
theorem Tryz.ctr38 {a0 : V} {bx : Boxes} {Kc : V → Boxes → Prop} (h : FinB bx → pw Tryz.prog Tryz.C38 (retQ Tryz.prog [Go.ResultVar.tmp 2] Kc) ⟨8, slk [(0, a0)], bx⟩) : AbsCall Tryz.prog 38 [a0] bx Kc := abs_of (by kernel_rfl) Tryz.func38 Tryz.comp38 Tryz.en38 Tryz.nt38 Tryz.rs38 (fun hb => by rw [initSt_1]; exact h hb)
noncomputable def Tryz.C39 : PC := .seq (.reg false [⟨some 4, Go.Op.assign (Go.Operand.const (Go.Value.int Go.IntKind.u32 0)), none, false⟩] [0, 1]) (.seq (.reg false [⟨some 5, Go.Op.move (Go.Operand.tmp 0), none, false⟩,
    ⟨some 6, Go.Op.move (Go.Operand.tmp 1), none, false⟩,
    ⟨some 7, Go.Op.call { callee := Go.Callee.value (Go.Operand.func 83), args := #[Go.Operand.tmp 5, Go.Operand.const (Go.Value.int Go.IntKind.u32 16777619), Go.Operand.tmp 6], argTypes := #[58, 58, 60] }, none, false⟩,
    ⟨some 4, Go.Op.assign (Go.Operand.tmp 7), none, false⟩] [4]) (.ret))
theorem Tryz.comp39 : ∃ c, Tryz.f39.body = some c ∧ compile c = erase Tryz.C39 := ⟨_, rfl, by kernel_rfl⟩
theorem Tryz.rs39 : Tryz.f39.results.toList = [Go.ResultVar.tmp 4] := by kernel_rfl
theorem Tryz.nt39 : Tryz.f39.ntmps = 8 := by kernel_rfl
theorem Tryz.en39 : ∀ vs w, (callFunc 39 vs).run Tryz.prog w = .ok (.enter 39 vs) w := enters_of Tryz.func39 (by kernel_rfl) rfl
theorem Tryz.ctr39 {a0 a1 : V} {bx : Boxes} {Kc : V → Boxes → Prop} (h : FinB bx → pw Tryz.prog Tryz.C39 (retQ Tryz.prog [Go.ResultVar.tmp 4] Kc) ⟨8, slk [(0, a0), (1, a1)], bx⟩) : AbsCall Tryz.prog 39 [a0, a1] bx Kc := abs_of (by kernel_rfl) Tryz.func39 Tryz.comp39 Tryz.en39 Tryz.nt39 Tryz.rs39 (fun hb => by rw [initSt_2]; exact h hb)
theorem Tryz.en40 : ∀ vs w, (callFunc 40 vs).run Tryz.prog w = .ok (.enter 40 vs) w := enters_of Tryz.func40 (by kernel_rfl) rfl
noncomputable def Tryz.C41 : PC := .seq (.reg false [⟨some 5, Go.Op.move (Go.Operand.tmp 0), none, false⟩,
    ⟨some 6, Go.Op.call { callee := Go.Callee.builtin Go.Builtin.len, args := #[Go.Operand.tmp 5], argTypes := #[24] }, none, false⟩,
    ⟨some 4, Go.Op.assign (Go.Operand.tmp 6), none, false⟩] [0, 1, 4]) (.reg false [⟨some 7, Go.Op.move (Go.Operand.tmp 0), none, false⟩,
    ⟨some 8, Go.Op.move (Go.Operand.tmp 4), none, false⟩,
    ⟨some 9, Go.Op.move (Go.Operand.tmp 4), none, false⟩,
    ⟨some 10, Go.Op.convert 3 110 (Go.Operand.tmp 9), none, false⟩,
    ⟨some 11, Go.Op.call { callee := Go.Callee.value (Go.Operand.func 86), args := #[Go.Operand.tmp 10], argTypes := #[110] }, none, false⟩,
    ⟨some 12, Go.Op.move (Go.Operand.tmp 1), none, false⟩,
    ⟨some 13, Go.Op.call { callee := Go.Callee.value (Go.Operand.func 85), args := #[Go.Operand.tmp 7, Go.Operand.const (Go.Value.int Go.IntKind.i64 0), Go.Operand.tmp 8, Go.Operand.tmp 11, Go.Operand.tmp 12], argTypes := #[24, 3, 3, 3, 73] }, none, false⟩] [])
theorem Tryz.comp41 : ∃ c, Tryz.f41.body = some c ∧ compile c = erase Tryz.C41 := ⟨_, rfl, by kernel_rfl⟩
theorem Tryz.rs41 : Tryz.f41.results.toList = [] := by kernel_rfl
theorem Tryz.nt41 : Tryz.f41.ntmps = 14 := by kernel_rfl
theorem Tryz.en41 : ∀ vs w, (callFunc 41 vs).run Tryz.prog w = .ok (.enter 41 vs) w := enters_of Tryz.func41 (by kernel_rfl) rfl
theorem Tryz.ctr41 {a0 a1 : V} {bx : Boxes} {Kc : V → Boxes → Prop} (h : FinB bx → pw Tryz.prog Tryz.C41 (retQ Tryz.prog [] Kc) ⟨14, slk [(0, a0), (1, a1)], bx⟩) : AbsCall Tryz.prog 41 [a0, a1] bx Kc := abs_of (by kernel_rfl) Tryz.func41 Tryz.comp41 Tryz.en41 Tryz.nt41 Tryz.rs41 (fun hb => by rw [initSt_2]; exact h hb)
noncomputable def Tryz.C42 : PC := .seq (.reg false [⟨some 2, Go.Op.box 63 (Go.Operand.tmp 0), none, true⟩,
    ⟨some 3, Go.Op.box 63 (Go.Operand.tmp 1), none, true⟩,
    ⟨some 4, Go.Op.assign (Go.Operand.const (Go.Value.int Go.IntKind.i64 0)), none, false⟩] [2, 3]) (.seq (.reg true [⟨some 5, Go.Op.fieldAddr 63 (Go.Operand.tmp 2) 0, none, false⟩,
    ⟨some 6, Go.Op.load 58 (Go.Operand.tmp 5), none, false⟩,
    ⟨some 7, Go.Op.fieldAddr 63 (Go.Operand.tmp 3) 0, none, false⟩,
    ⟨some 8, Go.Op.load 58 (Go.Operand.tmp 7), none, false⟩,
    ⟨some 9, Go.Op.call { callee := Go.Callee.value (Go.Operand.func 44), args := #[Go.Operand.tmp 6, Go.Operand.tmp 8], argTypes := #[58, 58] }, none, false⟩,
    ⟨some 10, Go.Op.fieldAddr 63 (Go.Operand.tmp 2) 1, none, false⟩,
    ⟨some 11, Go.Op.load 3 (Go.Operand.tmp 10), none, false⟩,
    ⟨some 12, Go.Op.fieldAddr 63 (Go.Operand.tmp 3) 1, none, false⟩,
    ⟨some 13, Go.Op.load 3 (Go.Operand.tmp 12), none, false⟩,
    ⟨some 14, Go.Op.call { callee := Go.Callee.value (Go.Operand.func 45), args := #[Go.Operand.tmp 11, Go.Operand.tmp 13], argTypes := #[3, 3] }, none, false⟩,
    ⟨some 15, Go.Op.buildSlice 23 2 #[(0, Go.Operand.tmp 9), (1, Go.Operand.tmp 14)], none, false⟩,
    ⟨some 16, Go.Op.call { callee := Go.Callee.value (Go.Operand.func 43), args := #[Go.Operand.tmp 15], argTypes := #[23] }, none, false⟩,
    ⟨some 4, Go.Op.assign (Go.Operand.tmp 16), none, false⟩] [4]) (.ret))
theorem Tryz.comp42 : ∃ c, Tryz.f42.body = some c ∧ compile c = erase Tryz.C42 := ⟨_, rfl, by kernel_rfl⟩
theorem Tryz.rs42 : Tryz.f42.results.toList = [Go.ResultVar.tmp 4] := by kernel_rfl
theorem Tryz.nt42 : Tryz.f42.ntmps = 17 := by kernel_rfl
theorem Tryz.en42 : ∀ vs w, (callFunc 42 vs).run Tryz.prog w = .ok (.enter 42 vs) w := enters_of Tryz.func42 (by kernel_rfl) rfl
theorem Tryz.ctr42 {a0 a1 : V} {bx : Boxes} {Kc : V → Boxes → Prop} (h : FinB bx → pw Tryz.prog Tryz.C42 (retQ Tryz.prog [Go.ResultVar.tmp 4] Kc) ⟨17, slk [(0, a0), (1, a1)], bx⟩) : AbsCall Tryz.prog 42 [a0, a1] bx Kc := abs_of (by kernel_rfl) Tryz.func42 Tryz.comp42 Tryz.en42 Tryz.nt42 Tryz.rs42 (fun hb => by rw [initSt_2]; exact h hb)
noncomputable def Tryz.L43_0 : PC := .seq (.reg false [⟨some 9, Go.Op.binOp Go.BinOp.lss 3 (Go.Operand.tmp 8) (Go.Operand.tmp 7) 3, none, false⟩] [3, 6, 7, 8, 9]) (.seq (.cond (Go.Operand.tmp 9) (.skip) (.exit 0)) (.seq (.block 1 (.seq (.reg false [⟨some 10, Go.Op.indexAddr 23 (Go.Operand.tmp 6) (Go.Operand.tmp 8), none, false⟩,
    ⟨some 11, Go.Op.load 3 (Go.Operand.tmp 10), none, false⟩,
    ⟨some 5, Go.Op.assign (Go.Operand.tmp 11), none, false⟩] [3, 5, 6, 7, 8]) (.seq (.reg false [⟨some 12, Go.Op.move (Go.Operand.tmp 5), none, false⟩,
    ⟨some 13, Go.Op.move (Go.Operand.tmp 3), none, false⟩,
    ⟨some 14, Go.Op.binOp Go.BinOp.neq 3 (Go.Operand.tmp 12) (Go.Operand.tmp 13) 3, none, false⟩] [3, 5, 6, 7, 8, 14]) (.cond (Go.Operand.tmp 14) (.seq (.reg false [⟨some 15, Go.Op.move (Go.Operand.tmp 5), none, false⟩,
    ⟨some 2, Go.Op.assign (Go.Operand.tmp 15), none, false⟩] [2]) (.ret)) (.skip))))) (.reg false [⟨some 16, Go.Op.binOp Go.BinOp.add 3 (Go.Operand.tmp 8) (Go.Operand.const (Go.Value.int Go.IntKind.i64 1)) 3, none, false⟩,
    ⟨some 8, Go.Op.move (Go.Operand.tmp 16), none, false⟩] [3, 6, 7, 8])))
noncomputable def Tryz.C43 : PC := .seq (.reg false [⟨some 2, Go.Op.assign (Go.Operand.const (Go.Value.int Go.IntKind.i64 0)), none, false⟩] [0]) (.seq (.reg false [⟨some 3, Go.Op.assign (Go.Operand.const (Go.Value.int Go.IntKind.i64 0)), none, false⟩] [0, 3]) (.seq (.seq (.reg false [⟨some 6, Go.Op.move (Go.Operand.tmp 0), none, false⟩,
    ⟨some 7, Go.Op.call { callee := Go.Callee.builtin Go.Builtin.len, args := #[Go.Operand.tmp 6], argTypes := #[23] }, none, false⟩,
    ⟨some 8, Go.Op.move (Go.Operand.const (Go.Value.int Go.IntKind.i64 0)), none, false⟩] [3, 6, 7, 8]) (.block 0 (.loop Tryz.L43_0))) (.seq (.reg false [⟨some 17, Go.Op.move (Go.Operand.tmp 3), none, false⟩,
    ⟨some 2, Go.Op.assign (Go.Operand.tmp 17), none, false⟩] [2]) (.ret))))
theorem Tryz.comp43 : ∃ c, Tryz.f43.body = some c ∧ compile c = erase Tryz.C43 := ⟨_, rfl, by kernel_rfl⟩
theorem Tryz.rs43 : Tryz.f43.results.toList = [Go.ResultVar.tmp 2] := by kernel_rfl
theorem Tryz.nt43 : Tryz.f43.ntmps = 18 := by kernel_rfl
theorem Tryz.en43 : ∀ vs w, (callFunc 43 vs).run Tryz.prog w = .ok (.enter 43 vs) w := enters_of Tryz.func43 (by kernel_rfl) rfl
theorem Tryz.ctr43 {a0 : V} {bx : Boxes} {Kc : V → Boxes → Prop} (h : FinB bx → pw Tryz.prog Tryz.C43 (retQ Tryz.prog [Go.ResultVar.tmp 2] Kc) ⟨18, slk [(0, a0)], bx⟩) : AbsCall Tryz.prog 43 [a0] bx Kc := abs_of (by kernel_rfl) Tryz.func43 Tryz.comp43 Tryz.en43 Tryz.nt43 Tryz.rs43 (fun hb => by rw [initSt_1]; exact h hb)
noncomputable def Tryz.C44 : PC := .seq (.reg false [⟨some 4, Go.Op.assign (Go.Operand.const (Go.Value.int Go.IntKind.i64 0)), none, false⟩] [0, 1]) (.seq (.reg false [⟨some 7, Go.Op.move (Go.Operand.tmp 0), none, false⟩,
    ⟨some 8, Go.Op.call { callee := Go.Callee.value (Go.Operand.func 87), args := #[Go.Operand.tmp 7], argTypes := #[58] }, none, false⟩,
    ⟨some 5, Go.Op.assign (Go.Operand.tmp 8), none, false⟩] [0, 1, 5]) (.seq (.reg false [⟨some 9, Go.Op.move (Go.Operand.tmp 1), none, false⟩,
    ⟨some 10, Go.Op.call { callee := Go.Callee.value (Go.Operand.func 87), args := #[Go.Operand.tmp 9], argTypes := #[58] }, none, false⟩,
    ⟨some 6, Go.Op.assign (Go.Operand.tmp 10), none, false⟩] [0, 1, 5, 6]) (.seq (.seq (.reg false [⟨some 11, Go.Op.move (Go.Operand.tmp 5), none, false⟩] [0, 1, 6, 11]) (.cond (Go.Operand.tmp 11) (.seq (.seq (.reg false [⟨some 12, Go.Op.move (Go.Operand.tmp 6), none, false⟩] [12]) (.cond (Go.Operand.tmp 12) (.seq (.reg false [⟨some 4, Go.Op.assign (Go.Operand.const (Go.Value.int Go.IntKind.i64 0)), none, false⟩] [4]) (.ret)) (.skip))) (.seq (.reg false [⟨some 4, Go.Op.assign (Go.Operand.const (Go.Value.int Go.IntKind.i64 (-1))), none, false⟩] [4]) (.ret))) (.skip))) (.seq (.seq (.reg false [⟨some 13, Go.Op.move (Go.Operand.tmp 6), none, false⟩] [0, 1, 13]) (.cond (Go.Operand.tmp 13) (.seq (.reg false [⟨some 4, Go.Op.assign (Go.Operand.const (Go.Value.int Go.IntKind.i64 1)), none, false⟩] [4]) (.ret)) (.skip))) (.seq (.seq (.reg false [⟨some 14, Go.Op.move (Go.Operand.tmp 0), none, false⟩,
    ⟨some 15, Go.Op.move (Go.Operand.tmp 1), none, false⟩,
    ⟨some 16, Go.Op.binOp Go.BinOp.lss 58 (Go.Operand.tmp 14) (Go.Operand.tmp 15) 58, none, false⟩] [0, 1, 16]) (.cond (Go.Operand.tmp 16) (.seq (.reg false [⟨some 4, Go.Op.assign (Go.Operand.const (Go.Value.int Go.IntKind.i64 (-1))), none, false⟩] [4]) (.ret)) (.skip))) (.seq (.seq (.reg false [⟨some 17, Go.Op.move (Go.Operand.tmp 0), none, false⟩,
    ⟨some 18, Go.Op.move (Go.Operand.tmp 1), none, false⟩,
    ⟨some 19, Go.Op.binOp Go.BinOp.gtr 58 (Go.Operand.tmp 17) (Go.Operand.tmp 18) 58, none, false⟩] [19]) (.cond (Go.Operand.tmp 19) (.seq (.reg false [⟨some 4, Go.Op.assign (Go.Operand.const (Go.Value.int Go.IntKind.i64 1)), none, false⟩] [4]) (.ret)) (.skip))) (.seq (.reg false [⟨some 4, Go.Op.assign (Go.Operand.const (Go.Value.int Go.IntKind.i64 0)), none, false⟩] [4]) (.ret))))))))
theorem Tryz.comp44 : ∃ c, Tryz.f44.body = some c ∧ compile c = erase Tryz.C44 := ⟨_, rfl, by kernel_rfl⟩
theorem Tryz.rs44 : Tryz.f44.results.toList = [Go.ResultVar.tmp 4] := by kernel_rfl
theorem Tryz.nt44 : Tryz.f44.ntmps = 20 := by kernel_rfl
theorem Tryz.en44 : ∀ vs w, (callFunc 44 vs).run Tryz.prog w = .ok (.enter 44 vs) w := enters_of Tryz.func44 (by kernel_rfl) rfl
theorem Tryz.ctr44 {a0 a1 : V} {bx : Boxes} {Kc : V → Boxes → Prop} (h : FinB bx → pw Tryz.prog Tryz.C44 (retQ Tryz.prog [Go.ResultVar.tmp 4] Kc) ⟨20, slk [(0, a0), (1, a1)], bx⟩) : AbsCall Tryz.prog 44 [a0, a1] bx Kc := abs_of (by kernel_rfl) Tryz.func44 Tryz.comp44 Tryz.en44 Tryz.nt44 Tryz.rs44 (fun hb => by rw [initSt_2]; exact h hb)
noncomputable def Tryz.C45 : PC := .seq (.reg false [⟨some 4, Go.Op.assign (Go.Operand.const (Go.Value.int Go.IntKind.i64 0)), none, false⟩] [0, 1]) (.seq (.reg false [⟨some 7, Go.Op.move (Go.Operand.tmp 0), none, false⟩,
    ⟨some 8, Go.Op.call { callee := Go.Callee.value (Go.Operand.func 88), args := #[Go.Operand.tmp 7], argTypes := #[3] }, none, false⟩,
    ⟨some 5, Go.Op.assign (Go.Operand.tmp 8), none, false⟩] [0, 1, 5]) (.seq (.reg false [⟨some 9, Go.Op.move (Go.Operand.tmp 1), none, false⟩,
    ⟨some 10, Go.Op.call { callee := Go.Callee.value (Go.Operand.func 88), args := #[Go.Operand.tmp 9], argTypes := #[3] }, none, false⟩,
    ⟨some 6, Go.Op.assign (Go.Operand.tmp 10), none, false⟩] [0, 1, 5, 6]) (.seq (.seq (.reg false [⟨some 11, Go.Op.move (Go.Operand.tmp 5), none, false⟩] [0, 1, 6, 11]) (.cond (Go.Operand.tmp 11) (.seq (.seq (.reg false [⟨some 12, Go.Op.move (Go.Operand.tmp 6), none, false⟩] [12]) (.cond (Go.Operand.tmp 12) (.seq (.reg false [⟨some 4, Go.Op.assign (Go.Operand.const (Go.Value.int Go.IntKind.i64 0)), none, false⟩] [4]) (.ret)) (.skip))) (.seq (.reg false [⟨some 4, Go.Op.assign (Go.Operand.const (Go.Value.int Go.IntKind.i64 (-1))), none, false⟩] [4]) (.ret))) (.skip))) (.seq (.seq (.reg false [⟨some 13, Go.Op.move (Go.Operand.tmp 6), none, false⟩] [0, 1, 13]) (.cond (Go.Operand.tmp 13) (.seq (.reg false [⟨some 4, Go.Op.assign (Go.Operand.const (Go.Value.int Go.IntKind.i64 1)), none, false⟩] [4]) (.ret)) (.skip))) (.seq (.seq (.reg false [⟨some 14, Go.Op.move (Go.Operand.tmp 0), none, false⟩,
    ⟨some 15, Go.Op.move (Go.Operand.tmp 1), none, false⟩,
    ⟨some 16, Go.Op.binOp Go.BinOp.lss 3 (Go.Operand.tmp 14) (Go.Operand.tmp 15) 3, none, false⟩] [0, 1, 16]) (.cond (Go.Operand.tmp 16) (.seq (.reg false [⟨some 4, Go.Op.assign (Go.Operand.const (Go.Value.int Go.IntKind.i64 (-1))), none, false⟩] [4]) (.ret)) (.skip))) (.seq (.seq (.reg false [⟨some 17, Go.Op.move (Go.Operand.tmp 0), none, false⟩,
    ⟨some 18, Go.Op.move (Go.Operand.tmp 1), none, false⟩,
    ⟨some 19, Go.Op.binOp Go.BinOp.gtr 3 (Go.Operand.tmp 17) (Go.Operand.tmp 18) 3, none, false⟩] [19]) (.cond (Go.Operand.tmp 19) (.seq (.reg false [⟨some 4, Go.Op.assign (Go.Operand.const (Go.Value.int Go.IntKind.i64 1)), none, false⟩] [4]) (.ret)) (.skip))) (.seq (.reg false [⟨some 4, Go.Op.assign (Go.Operand.const (Go.Value.int Go.IntKind.i64 0)), none, false⟩] [4]) (.ret))))))))
theorem Tryz.comp45 : ∃ c, Tryz.f45.body = some c ∧ compile c = erase Tryz.C45 := ⟨_, rfl, by kernel_rfl⟩
theorem Tryz.rs45 : Tryz.f45.results.toList = [Go.ResultVar.tmp 4] := by kernel_rfl
theorem Tryz.nt45 : Tryz.f45.ntmps = 20 := by kernel_rfl
theorem Tryz.en45 : ∀ vs w, (callFunc 45 vs).run Tryz.prog w = .ok (.enter 45 vs) w := enters_of Tryz.func45 (by kernel_rfl) rfl
theorem Tryz.ctr45 {a0 a1 : V} {bx : Boxes} {Kc : V → Boxes → Prop} (h : FinB bx → pw Tryz.prog Tryz.C45 (retQ Tryz.prog [Go.ResultVar.tmp 4] Kc) ⟨20, slk [(0, a0), (1, a1)], bx⟩) : AbsCall Tryz.prog 45 [a0, a1] bx Kc := abs_of (by kernel_rfl) Tryz.func45 Tryz.comp45 Tryz.en45 Tryz.nt45 Tryz.rs45 (fun hb => by rw [initSt_2]; exact h hb)
noncomputable def Tryz.L51_0 : PC := .seq (.reg false [⟨some 14, Go.Op.binOp Go.BinOp.lss 3 (Go.Operand.tmp 13) (Go.Operand.tmp 12) 3, none, false⟩] [0, 1, 12, 13, 14]) (.seq (.cond (Go.Operand.tmp 14) (.skip) (.exit 0)) (.seq (.block 1 (.seq (.reg false [⟨some 15, Go.Op.move (Go.Operand.tmp 13), none, false⟩,
    ⟨some 5, Go.Op.assign (Go.Operand.tmp 15), none, false⟩] [0, 1, 5, 12, 13]) (.seq (.reg true [⟨some 16, Go.Op.move (Go.Operand.tmp 0), none, false⟩,
    ⟨some 17, Go.Op.move (Go.Operand.tmp 5), none, false⟩,
    ⟨some 18, Go.Op.indexAddr 24 (Go.Operand.tmp 16) (Go.Operand.tmp 17), none, false⟩,
    ⟨some 19, Go.Op.load 63 (Go.Operand.tmp 18), none, false⟩,
    ⟨some 20, Go.Op.move (Go.Operand.tmp 1), none, false⟩,
    ⟨some 21, Go.Op.move (Go.Operand.tmp 5), none, false⟩,
    ⟨some 22, Go.Op.indexAddr 24 (Go.Operand.tmp 20) (Go.Operand.tmp 21), none, false⟩,
    ⟨some 23, Go.Op.load 63 (Go.Operand.tmp 22), none, false⟩,
    ⟨some 24, Go.Op.binOp Go.BinOp.neq 63 (Go.Operand.tmp 19) (Go.Operand.tmp 23) 63, none, false⟩] [0, 1, 12, 13, 24]) (.cond (Go.Operand.tmp 24) (.seq (.reg false [⟨some 4, Go.Op.assign (Go.Operand.const (Go.Value.bool false)), none, false⟩] [4]) (.ret)) (.skip))))) (.reg false [⟨some 25, Go.Op.binOp Go.BinOp.add 3 (Go.Operand.tmp 13) (Go.Operand.const (Go.Value.int Go.IntKind.i64 1)) 3, none, false⟩,
    ⟨some 13, Go.Op.move (Go.Operand.tmp 25), none, false⟩] [0, 1, 12, 13])))
noncomputable def Tryz.C51 : PC := .seq (.reg false [⟨some 4, Go.Op.assign (Go.Operand.const (Go.Value.bool false)), none, false⟩] [0, 1]) (.seq (.seq (.reg false [⟨some 6, Go.Op.move (Go.Operand.tmp 0), none, false⟩,
    ⟨some 7, Go.Op.call { callee := Go.Callee.builtin Go.Builtin.len, args := #[Go.Operand.tmp 6], argTypes := #[24] }, none, false⟩,
    ⟨some 8, Go.Op.move (Go.Operand.tmp 1), none, false⟩,
    ⟨some 9, Go.Op.call { callee := Go.Callee.builtin Go.Builtin.len, args := #[Go.Operand.tmp 8], argTypes := #[24] }, none, false⟩,
    ⟨some 10, Go.Op.binOp Go.BinOp.neq 3 (Go.Operand.tmp 7) (Go.Operand.tmp 9) 3, none, false⟩] [0, 1, 10]) (.cond (Go.Operand.tmp 10) (.seq (.reg false [⟨some 4, Go.Op.assign (Go.Operand.const (Go.Value.bool false)), none, false⟩] [4]) (.ret)) (.skip))) (.seq (.seq (.reg false [⟨some 11, Go.Op.move (Go.Operand.tmp 0), none, false⟩,
    ⟨some 12, Go.Op.call { callee := Go.Callee.builtin Go.Builtin.len, args := #[Go.Operand.tmp 11], argTypes := #[24] }, none, false⟩,
    ⟨some 13, Go.Op.move (Go.Operand.const (Go.Value.int Go.IntKind.i64 0)), none, false⟩] [0, 1, 12, 13]) (.block 0 (.loop Tryz.L51_0))) (.seq (.reg false [⟨some 4, Go.Op.assign (Go.Operand.const (Go.Value.bool true)), none, false⟩] [4]) (.ret))))
theorem Tryz.comp51 : ∃ c, Tryz.f51.body = some c ∧ compile c = erase Tryz.C51 := ⟨_, rfl, by kernel_rfl⟩
theorem Tryz.rs51 : Tryz.f51.results.toList = [Go.ResultVar.tmp 4] := by kernel_rfl
theorem Tryz.nt51 : Tryz.f51.ntmps = 26 := by kernel_rfl
theorem Tryz.en51 : ∀ vs w, (callFunc 51 vs).run Tryz.prog w = .ok (.enter 51 vs) w := enters_of Tryz.func51 (by kernel_rfl) rfl
theorem Tryz.ctr51 {a0 a1 : V} {bx : Boxes} {Kc : V → Boxes → Prop} (h : FinB bx → pw Tryz.prog Tryz.C51 (retQ Tryz.prog [Go.ResultVar.tmp 4] Kc) ⟨26, slk [(0, a0), (1, a1)], bx⟩) : AbsCall Tryz.prog 51 [a0, a1] bx Kc := abs_of (by kernel_rfl) Tryz.func51 Tryz.comp51 Tryz.en51 Tryz.nt51 Tryz.rs51 (fun hb => by rw [initSt_2]; exact h hb)
noncomputable def Tryz.C52 : PC := .seq (.reg false [⟨some 2, Go.Op.box 26 (Go.Operand.tmp 0), none, true⟩,
    ⟨some 4, Go.Op.assign (Go.Operand.const (Go.Value.int Go.IntKind.i64 0)), none, false⟩] [1, 2]) (.seq (.seq (.reg false [⟨some 6, Go.Op.load 26 (Go.Operand.tmp 2), none, false⟩,
    ⟨some 7, Go.Op.call { callee := Go.Callee.value (Go.Operand.func 15), args := #[Go.Operand.tmp 6], argTypes := #[26] }, none, false⟩,
    ⟨some 5, Go.Op.assign (Go.Operand.tmp 7), none, false⟩] [1, 2, 5]) (.seq (.reg false [⟨some 8, Go.Op.move (Go.Operand.tmp 5), none, false⟩,
    ⟨some 9, Go.Op.binOp Go.BinOp.neq 29 (Go.Operand.tmp 8) (Go.Operand.const (Go.Value.int Go.IntKind.i64 0)) 29, none, false⟩] [1, 2, 5, 9]) (.cond (Go.Operand.tmp 9) (.seq (.reg false [⟨some 10, Go.Op.move (Go.Operand.tmp 5), none, false⟩,
    ⟨some 4, Go.Op.assign (Go.Operand.tmp 10), none, false⟩] [4]) (.ret)) (.skip)))) (.seq (.seq (.reg false [⟨some 11, Go.Op.move (Go.Operand.tmp 1), none, false⟩,
    ⟨some 12, Go.Op.call { callee := Go.Callee.value (Go.Operand.func 79), args := #[Go.Operand.tmp 11, Go.Operand.func 92], argTypes := #[22, 100] }, none, false⟩] [2, 12]) (.cond (Go.Operand.tmp 12) (.seq (.reg false [⟨some 4, Go.Op.assign (Go.Operand.const (Go.Value.int Go.IntKind.i64 3)), none, false⟩] [4]) (.ret)) (.skip))) (.seq (.seq (.reg false [⟨some 13, Go.Op.fieldAddr 26 (Go.Operand.tmp 2) 3, none, false⟩,
    ⟨some 14, Go.Op.load 24 (Go.Operand.tmp 13), none, false⟩,
    ⟨some 15, Go.Op.call { callee := Go.Callee.builtin Go.Builtin.len, args := #[Go.Operand.tmp 14], argTypes := #[24] }, none, false⟩,
    ⟨some 16, Go.Op.binOp Go.BinOp.eql 3 (Go.Operand.tmp 15) (Go.Operand.const (Go.Value.int Go.IntKind.i64 0)) 3, none, false⟩] [16]) (.cond (Go.Operand.tmp 16) (.seq (.reg false [⟨some 4, Go.Op.assign (Go.Operand.const (Go.Value.int Go.IntKind.i64 4)), none, false⟩] [4]) (.ret)) (.skip))) (.seq (.reg false [⟨some 4, Go.Op.assign (Go.Operand.const (Go.Value.int Go.IntKind.i64 0)), none, false⟩] [4]) (.ret)))))
theorem Tryz.comp52 : ∃ c, Tryz.f52.body = some c ∧ compile c = erase Tryz.C52 := ⟨_, rfl, by kernel_rfl⟩
theorem Tryz.rs52 : Tryz.f52.results.toList = [Go.ResultVar.tmp 4] := by kernel_rfl
theorem Tryz.nt52 : Tryz.f52.ntmps = 17 := by kernel_rfl
theorem Tryz.en52 : ∀ vs w, (callFunc 52 vs).run Tryz.prog w = .ok (.enter 52 vs) w := enters_of Tryz.func52 (by kernel_rfl) rfl
theorem Tryz.ctr52 {a0 a1 : V} {bx : Boxes} {Kc : V → Boxes → Prop} (h : FinB bx → pw Tryz.prog Tryz.C52 (retQ Tryz.prog [Go.ResultVar.tmp 4] Kc) ⟨17, slk [(0, a0), (1, a1)], bx⟩) : AbsCall Tryz.prog 52 [a0, a1] bx Kc := abs_of (by kernel_rfl) Tryz.func52 Tryz.comp52 Tryz.en52 Tryz.nt52 Tryz.rs52 (fun hb => by rw [initSt_2]; exact h hb)
noncomputable def Tryz.C53 : PC := .seq (.reg false [⟨some 2, Go.Op.box 26 (Go.Operand.tmp 0), none, true⟩,
    ⟨some 4, Go.Op.assign (Go.Operand.const (Go.Value.int Go.IntKind.i64 0)), none, false⟩] [1, 2]) (.seq (.reg false [⟨some 8, Go.Op.fieldAddr 26 (Go.Operand.tmp 2) 3, none, false⟩,
    ⟨some 9, Go.Op.load 24 (Go.Operand.tmp 8), none, false⟩,
    ⟨some 10, Go.Op.move (Go.Operand.tmp 1), none, false⟩,
    ⟨some 11, Go.Op.call { callee := Go.Callee.value (Go.Operand.func 93), args := #[Go.Operand.tmp 9, Go.Operand.tmp 10, Go.Operand.func 94], argTypes := #[24, 58, 115] }, none, false⟩,
    ⟨some 7, Go.Op.move (Go.Operand.tmp 11), none, false⟩,
    ⟨some 12, Go.Op.extract (Go.Operand.tmp 7) 0, none, false⟩,
    ⟨some 13, Go.Op.extract (Go.Operand.tmp 7) 1, none, false⟩,
    ⟨some 5, Go.Op.assign (Go.Operand.tmp 12), none, false⟩,
    ⟨some 6, Go.Op.assign (Go.Operand.tmp 13), none, false⟩] [2, 5]) (.seq (.seq (.reg false [⟨some 14, Go.Op.move (Go.Operand.tmp 5), none, false⟩,
    ⟨some 15, Go.Op.fieldAddr 26 (Go.Operand.tmp 2) 3, none, false⟩,
    ⟨some 16, Go.Op.load 24 (Go.Operand.tmp 15), none, false⟩,
    ⟨some 17, Go.Op.call { callee := Go.Callee.builtin Go.Builtin.len, args := #[Go.Operand.tmp 16], argTypes := #[24] }, none, false⟩,
    ⟨some 18, Go.Op.binOp Go.BinOp.eql 3 (Go.Operand.tmp 14) (Go.Operand.tmp 17) 3, none, false⟩] [5, 18]) (.cond (Go.Operand.tmp 18) (.seq (.reg false [⟨some 4, Go.Op.assign (Go.Operand.const (Go.Value.int Go.IntKind.i64 0)), none, false⟩] [4]) (.ret)) (.skip))) (.seq (.reg false [⟨some 19, Go.Op.move (Go.Operand.tmp 5), none, false⟩,
    ⟨some 4, Go.Op.assign (Go.Operand.tmp 19), none, false⟩] [4]) (.ret))))
theorem Tryz.comp53 : ∃ c, Tryz.f53.body = some c ∧ compile c = erase Tryz.C53 := ⟨_, rfl, by kernel_rfl⟩
theorem Tryz.rs53 : Tryz.f53.results.toList = [Go.ResultVar.tmp 4] := by kernel_rfl
theorem Tryz.nt53 : Tryz.f53.ntmps = 20 := by kernel_rfl
theorem Tryz.en53 : ∀ vs w, (callFunc 53 vs).run Tryz.prog w = .ok (.enter 53 vs) w := enters_of Tryz.func53 (by kernel_rfl) rfl
theorem Tryz.ctr53 {a0 a1 : V} {bx : Boxes} {Kc : V → Boxes → Prop} (h : FinB bx → pw Tryz.prog Tryz.C53 (retQ Tryz.prog [Go.ResultVar.tmp 4] Kc) ⟨20, slk [(0, a0), (1, a1)], bx⟩) : AbsCall Tryz.prog 53 [a0, a1] bx Kc := abs_of (by kernel_rfl) Tryz.func53 Tryz.comp53 Tryz.en53 Tryz.nt53 Tryz.rs53 (fun hb => by rw [initSt_2]; exact h hb)
noncomputable def Tryz.L56_0 : PC := .seq (.reg false [⟨some 12, Go.Op.binOp Go.BinOp.lss 3 (Go.Operand.tmp 11) (Go.Operand.tmp 10) 3, none, false⟩] [0, 3, 9, 10, 11, 12]) (.seq (.cond (Go.Operand.tmp 12) (.skip) (.exit 0)) (.seq (.block 1 (.seq (.reg false [⟨some 13, Go.Op.indexAddr 116 (Go.Operand.tmp 9) (Go.Operand.tmp 11), none, false⟩,
    ⟨some 14, Go.Op.load 24 (Go.Operand.tmp 13), none, false⟩,
    ⟨some 5, Go.Op.assign (Go.Operand.tmp 14), none, false⟩] [0, 3, 5, 9, 10, 11]) (.seq (.reg false [⟨some 15, Go.Op.move (Go.Operand.tmp 3), none, false⟩,
    ⟨some 16, Go.Op.move (Go.Operand.tmp 5), none, false⟩,
    ⟨some 17, Go.Op.call { callee := Go.Callee.builtin Go.Builtin.len, args := #[Go.Operand.tmp 16], argTypes := #[24] }, none, false⟩,
    ⟨some 18, Go.Op.binOp Go.BinOp.add 3 (Go.Operand.tmp 15) (Go.Operand.tmp 17) 3, none, false⟩,
    ⟨some 3, Go.Op.assign (Go.Operand.tmp 18), none, false⟩] [0, 3, 9, 10, 11]) (.seq (.reg false [⟨some 19, Go.Op.move (Go.Operand.tmp 3), none, false⟩,
    ⟨some 20, Go.Op.binOp Go.BinOp.lss 3 (Go.Operand.tmp 19) (Go.Operand.const (Go.Value.int Go.IntKind.i64 0)) 3, none, false⟩] [0, 3, 9, 10, 11, 20]) (.cond (Go.Operand.tmp 20) (.reg false [⟨some 21, Go.Op.makeInterface 9 (Go.Operand.const (Go.Value.string { data := #[108, 101, 110, 32, 111, 117, 116, 32, 111, 102, 32, 114, 97, 110, 103, 101] })), none, false⟩,
    ⟨none, Go.Op.panic (Go.Operand.tmp 21), none, false⟩] [0, 3, 9, 10, 11]) (.skip)))))) (.reg false [⟨some 22, Go.Op.binOp Go.BinOp.add 3 (Go.Operand.tmp 11) (Go.Operand.const (Go.Value.int Go.IntKind.i64 1)) 3, none, false⟩,
    ⟨some 11, Go.Op.move (Go.Operand.tmp 22), none, false⟩] [0, 3, 9, 10, 11])))
noncomputable def Tryz.L56_1 : PC := .seq (.reg false [⟨some 28, Go.Op.binOp Go.BinOp.lss 3 (Go.Operand.tmp 27) (Go.Operand.tmp 26) 3, none, false⟩] [6, 25, 26, 27, 28]) (.seq (.cond (Go.Operand.tmp 28) (.skip) (.exit 2)) (.seq (.block 3 (.seq (.reg false [⟨some 29, Go.Op.indexAddr 116 (Go.Operand.tmp 25) (Go.Operand.tmp 27), none, false⟩,
    ⟨some 30, Go.Op.load 24 (Go.Operand.tmp 29), none, false⟩,
    ⟨some 8, Go.Op.assign (Go.Operand.tmp 30), none, false⟩] [6, 8, 25, 26, 27]) (.reg false [⟨some 31, Go.Op.move (Go.Operand.tmp 6), none, false⟩,
    ⟨some 32, Go.Op.move (Go.Operand.tmp 8), none, false⟩,
    ⟨some 33, Go.Op.call { callee := Go.Callee.builtin Go.Builtin.append, args := #[Go.Operand.tmp 31, Go.Operand.tmp 32], argTypes := #[24, 24] }, none, false⟩,
    ⟨some 6, Go.Op.assign (Go.Operand.tmp 33), none, false⟩] [6, 25, 26, 27]))) (.reg false [⟨some 34, Go.Op.binOp Go.BinOp.add 3 (Go.Operand.tmp 27) (Go.Operand.const (Go.Value.int Go.IntKind.i64 1)) 3, none, false⟩,
    ⟨some 27, Go.Op.move (Go.Operand.tmp 34), none, false⟩] [6, 25, 26, 27])))
noncomputable def Tryz.C56 : PC := .seq (.reg false [⟨some 2, Go.Op.assign (Go.Operand.const (Go.Value.slice none 0 0)), none, false⟩] [0]) (.seq (.reg false [⟨some 3, Go.Op.assign (Go.Operand.const (Go.Value.int Go.IntKind.i64 0)), none, false⟩] [0, 3]) (.seq (.seq (.reg false [⟨some 9, Go.Op.move (Go.Operand.tmp 0), none, false⟩,
    ⟨some 10, Go.Op.call { callee := Go.Callee.builtin Go.Builtin.len, args := #[Go.Operand.tmp 9], argTypes := #[116] }, none, false⟩,
    ⟨some 11, Go.Op.move (Go.Operand.const (Go.Value.int Go.IntKind.i64 0)), none, false⟩] [0, 3, 9, 10, 11]) (.block 0 (.loop Tryz.L56_0))) (.seq (.reg false [⟨some 23, Go.Op.move (Go.Operand.tmp 3), none, false⟩,
    ⟨some 24, Go.Op.call { callee := Go.Callee.value (Go.Operand.func 95), args := #[Go.Operand.const (Go.Value.slice none 0 0), Go.Operand.tmp 23], argTypes := #[24, 3] }, none, false⟩,
    ⟨some 6, Go.Op.assign (Go.Operand.tmp 24), none, false⟩] [0, 6]) (.seq (.seq (.reg false [⟨some 25, Go.Op.move (Go.Operand.tmp 0), none, false⟩,
    ⟨some 26, Go.Op.call { callee := Go.Callee.builtin Go.Builtin.len, args := #[Go.Operand.tmp 25], argTypes := #[116] }, none, false⟩,
    ⟨some 27, Go.Op.move (Go.Operand.const (Go.Value.int Go.IntKind.i64 0)), none, false⟩] [6, 25, 26, 27]) (.block 2 (.loop Tryz.L56_1))) (.seq (.reg false [⟨some 35, Go.Op.move (Go.Operand.tmp 6), none, false⟩,
    ⟨some 2, Go.Op.assign (Go.Operand.tmp 35), none, false⟩] [2]) (.ret))))))
theorem Tryz.comp56 : ∃ c, Tryz.f56.body = some c ∧ compile c = erase Tryz.C56 := ⟨_, rfl, by kernel_rfl⟩
theorem Tryz.rs56 : Tryz.f56.results.toList = [Go.ResultVar.tmp 2] := by kernel_rfl
theorem Tryz.nt56 : Tryz.f56.ntmps = 36 := by kernel_rfl
theorem Tryz.en56 : ∀ vs w, (callFunc 56 vs).run Tryz.prog w = .ok (.enter 56 vs) w := enters_of Tryz.func56 (by kernel_rfl) rfl
theorem Tryz.ctr56 {a0 : V} {bx : Boxes} {Kc : V → Boxes → Prop} (h : FinB bx → pw Tryz.prog Tryz.C56 (retQ Tryz.prog [Go.ResultVar.tmp 2] Kc) ⟨36, slk [(0, a0)], bx⟩) : AbsCall Tryz.prog 56 [a0] bx Kc := abs_of (by kernel_rfl) Tryz.func56 Tryz.comp56 Tryz.en56 Tryz.nt56 Tryz.rs56 (fun hb => by rw [initSt_1]; exact h hb)
noncomputable def Tryz.C57 : PC := .seq (.reg false [⟨some 4, Go.Op.assign (Go.Operand.const (Go.Value.bool false)), none, false⟩] [0, 1]) (.seq (.reg false [⟨some 5, Go.Op.move (Go.Operand.tmp 0), none, false⟩,
    ⟨some 6, Go.Op.move (Go.Operand.tmp 1), none, false⟩,
    ⟨some 7, Go.Op.call { callee := Go.Callee.value (Go.Operand.func 96), args := #[Go.Operand.tmp 5, Go.Operand.tmp 6], argTypes := #[23, 3] }, none, false⟩,
    ⟨some 8, Go.Op.binOp Go.BinOp.geq 3 (Go.Operand.tmp 7) (Go.Operand.const (Go.Value.int Go.IntKind.i64 0)) 3, none, false⟩,
    ⟨some 4, Go.Op.assign (Go.Operand.tmp 8), none, false⟩] [4]) (.ret))
theorem Tryz.comp57 : ∃ c, Tryz.f57.body = some c ∧ compile c = erase Tryz.C57 := ⟨_, rfl, by kernel_rfl⟩
theorem Tryz.rs57 : Tryz.f57.results.toList = [Go.ResultVar.tmp 4] := by kernel_rfl
theorem Tryz.nt57 : Tryz.f57.ntmps = 9 := by kernel_rfl
theorem Tryz.en57 : ∀ vs w, (callFunc 57 vs).run Tryz.prog w = .ok (.enter 57 vs) w := enters_of Tryz.func57 (by kernel_rfl) rfl
theorem Tryz.ctr57 {a0 a1 : V} {bx : Boxes} {Kc : V → Boxes → Prop} (h : FinB bx → pw Tryz.prog Tryz.C57 (retQ Tryz.prog [Go.ResultVar.tmp 4] Kc) ⟨9, slk [(0, a0), (1, a1)], bx⟩) : AbsCall Tryz.prog 57 [a0, a1] bx Kc := abs_of (by kernel_rfl) Tryz.func57 Tryz.comp57 Tryz.en57 Tryz.nt57 Tryz.rs57 (fun hb => by rw [initSt_2]; exact h hb)
noncomputable def Tryz.L68_0 : PC := .seq (.reg false [⟨some 9, Go.Op.binOp Go.BinOp.lss 3 (Go.Operand.tmp 8) (Go.Operand.tmp 7) 3, none, false⟩] [0, 1, 7, 8, 9]) (.seq (.cond (Go.Operand.tmp 9) (.skip) (.exit 0)) (.seq (.block 1 (.seq (.reg false [⟨some 10, Go.Op.move (Go.Operand.tmp 8), none, false⟩,
    ⟨some 5, Go.Op.assign (Go.Operand.tmp 10), none, false⟩] [0, 1, 5, 7, 8]) (.seq (.reg false [⟨some 11, Go.Op.move (Go.Operand.tmp 1), none, false⟩,
    ⟨some 12, Go.Op.move (Go.Operand.tmp 0), none, false⟩,
    ⟨some 13, Go.Op.move (Go.Operand.tmp 5), none, false⟩,
    ⟨some 14, Go.Op.indexAddr 23 (Go.Operand.tmp 12) (Go.Operand.tmp 13), none, false⟩,
    ⟨some 15, Go.Op.load 3 (Go.Operand.tmp 14), none, false⟩,
    ⟨some 16, Go.Op.call { callee := Go.Callee.value (Go.Operand.tmp 11), args := #[Go.Operand.tmp 15], argTypes := #[3] }, none, false⟩] [0, 1, 5, 7, 8, 16]) (.cond (Go.Operand.tmp 16) (.seq (.reg false [⟨some 17, Go.Op.move (Go.Operand.tmp 5), none, false⟩,
    ⟨some 4, Go.Op.assign (Go.Operand.tmp 17), none, false⟩] [4]) (.ret)) (.skip))))) (.reg false [⟨some 18, Go.Op.binOp Go.BinOp.add 3 (Go.Operand.tmp 8) (Go.Operand.const (Go.Value.int Go.IntKind.i64 1)) 3, none, false⟩,
    ⟨some 8, Go.Op.move (Go.Operand.tmp 18), none, false⟩] [0, 1, 7, 8])))
noncomputable def Tryz.C68 : PC := .seq (.reg false [⟨some 4, Go.Op.assign (Go.Operand.const (Go.Value.int Go.IntKind.i64 0)), none, false⟩] [0, 1]) (.seq (.seq (.reg false [⟨some 6, Go.Op.move (Go.Operand.tmp 0), none, false⟩,
    ⟨some 7, Go.Op.call { callee := Go.Callee.builtin Go.Builtin.len, args := #[Go.Operand.tmp 6], argTypes := #[23] }, none, false⟩,
    ⟨some 8, Go.Op.move (Go.Operand.const (Go.Value.int Go.IntKind.i64 0)), none, false⟩] [0, 1, 7, 8]) (.block 0 (.loop Tryz.L68_0))) (.seq (.reg false [⟨some 4, Go.Op.assign (Go.Operand.const (Go.Value.int Go.IntKind.i64 (-1))), none, false⟩] [4]) (.ret)))
theorem Tryz.comp68 : ∃ c, Tryz.f68.body = some c ∧ compile c = erase Tryz.C68 := ⟨_, rfl, by kernel_rfl⟩
theorem Tryz.rs68 : Tryz.f68.results.toList = [Go.ResultVar.tmp 4] := by kernel_rfl
theorem Tryz.nt68 : Tryz.f68.ntmps = 19 := by kernel_rfl
theorem Tryz.en68 : ∀ vs w, (callFunc 68 vs).run Tryz.prog w = .ok (.enter 68 vs) w := enters_of Tryz.func68 (by kernel_rfl) rfl
theorem Tryz.ctr68 {a0 a1 : V} {bx : Boxes} {Kc : V → Boxes → Prop} (h : FinB bx → pw Tryz.prog Tryz.C68 (retQ Tryz.prog [Go.ResultVar.tmp 4] Kc) ⟨19, slk [(0, a0), (1, a1)], bx⟩) : AbsCall Tryz.prog 68 [a0, a1] bx Kc := abs_of (by kernel_rfl) Tryz.func68 Tryz.comp68 Tryz.en68 Tryz.nt68 Tryz.rs68 (fun hb => by rw [initSt_2]; exact h hb)
noncomputable def Tryz.C73 : PC := .seq (.reg false [⟨some 4, Go.Op.assign (Go.Operand.const (Go.Value.int Go.IntKind.u64 0)), none, false⟩] [0, 1]) (.seq (.reg false [⟨some 5, Go.Op.move (Go.Operand.tmp 0), none, false⟩,
    ⟨some 6, Go.Op.move (Go.Operand.tmp 1), none, false⟩,
    ⟨some 7, Go.Op.call { callee := Go.Callee.value (Go.Operand.func 110), args := #[Go.Operand.tmp 5, Go.Operand.const (Go.Value.int Go.IntKind.u64 1099511628211), Go.Operand.tmp 6], argTypes := #[42, 42, 60] }, none, false⟩,
    ⟨some 4, Go.Op.assign (Go.Operand.tmp 7), none, false⟩] [4]) (.ret))
theorem Tryz.comp73 : ∃ c, Tryz.f73.body = some c ∧ compile c = erase Tryz.C73 := ⟨_, rfl, by kernel_rfl⟩
theorem Tryz.rs73 : Tryz.f73.results.toList = [Go.ResultVar.tmp 4] := by kernel_rfl
theorem Tryz.nt73 : Tryz.f73.ntmps = 8 := by kernel_rfl
theorem Tryz.en73 : ∀ vs w, (callFunc 73 vs).run Tryz.prog w = .ok (.enter 73 vs) w := enters_of Tryz.func73 (by kernel_rfl) rfl
theorem Tryz.ctr73 {a0 a1 : V} {bx : Boxes} {Kc : V → Boxes → Prop} (h : FinB bx → pw Tryz.prog Tryz.C73 (retQ Tryz.prog [Go.ResultVar.tmp 4] Kc) ⟨8, slk [(0, a0), (1, a1)], bx⟩) : AbsCall Tryz.prog 73 [a0, a1] bx Kc := abs_of (by kernel_rfl) Tryz.func73 Tryz.comp73 Tryz.en73 Tryz.nt73 Tryz.rs73 (fun hb => by rw [initSt_2]; exact h hb)
noncomputable def Tryz.C74 : PC := .seq (.reg false [⟨some 2, Go.Op.assign (Go.Operand.const (Go.Value.bool false)), none, false⟩] [0]) (.seq (.reg false [⟨some 3, Go.Op.move (Go.Operand.tmp 0), none, false⟩,
    ⟨some 4, Go.Op.binOp Go.BinOp.lss 3 (Go.Operand.tmp 3) (Go.Operand.const (Go.Value.int Go.IntKind.i64 0)) 3, none, false⟩,
    ⟨some 5, Go.Op.move (Go.Operand.tmp 4), none, false⟩,
    ⟨some 6, Go.Op.move (Go.Operand.tmp 0), some (5, false), false⟩,
    ⟨some 7, Go.Op.binOp Go.BinOp.gtr 3 (Go.Operand.tmp 6) (Go.Operand.const (Go.Value.int Go.IntKind.i64 20)) 3, some (5, false), false⟩,
    ⟨some 8, Go.Op.pick (Go.Operand.tmp 5) (Go.Operand.const (Go.Value.bool true)) (Go.Operand.tmp 7), none, false⟩,
    ⟨some 2, Go.Op.assign (Go.Operand.tmp 8), none, false⟩] [2]) (.ret))
theorem Tryz.comp74 : ∃ c, Tryz.f74.body = some c ∧ compile c = erase Tryz.C74 := ⟨_, rfl, by kernel_rfl⟩
theorem Tryz.rs74 : Tryz.f74.results.toList = [Go.ResultVar.tmp 2] := by kernel_rfl
theorem Tryz.nt74 : Tryz.f74.ntmps = 9 := by kernel_rfl
theorem Tryz.en74 : ∀ vs w, (callFunc 74 vs).run Tryz.prog w = .ok (.enter 74 vs) w := enters_of Tryz.func74 (by kernel_rfl) rfl
theorem Tryz.ctr74 {a0 : V} {bx : Boxes} {Kc : V → Boxes → Prop} (h : FinB bx → pw Tryz.prog Tryz.C74 (retQ Tryz.prog [Go.ResultVar.tmp 2] Kc) ⟨9, slk [(0, a0)], bx⟩) : AbsCall Tryz.prog 74 [a0] bx Kc := abs_of (by kernel_rfl) Tryz.func74 Tryz.comp74 Tryz.en74 Tryz.nt74 Tryz.rs74 (fun hb => by rw [initSt_1]; exact h hb)
noncomputable def Tryz.C75 : PC := .seq (.reg false [⟨some 2, Go.Op.assign (Go.Operand.const (Go.Value.bool false)), none, false⟩] [0]) (.seq (.reg false [⟨some 3, Go.Op.move (Go.Operand.tmp 0), none, false⟩,
    ⟨some 4, Go.Op.binOp Go.BinOp.eql 9 (Go.Operand.tmp 3) (Go.Operand.const (Go.Value.string { data := #[] })) 9, none, false⟩,
    ⟨some 5, Go.Op.move (Go.Operand.tmp 4), none, false⟩,
    ⟨some 6, Go.Op.move (Go.Operand.tmp 0), some (5, false), false⟩,
    ⟨some 7, Go.Op.call { callee := Go.Callee.builtin Go.Builtin.len, args := #[Go.Operand.tmp 6], argTypes := #[9] }, some (5, false), false⟩,
    ⟨some 8, Go.Op.binOp Go.BinOp.gtr 3 (Go.Operand.tmp 7) (Go.Operand.const (Go.Value.int Go.IntKind.i64 32)) 3, some (5, false), false⟩,
    ⟨some 9, Go.Op.pick (Go.Operand.tmp 5) (Go.Operand.const (Go.Value.bool true)) (Go.Operand.tmp 8), none, false⟩,
    ⟨some 10, Go.Op.move (Go.Operand.tmp 9), none, false⟩,
    ⟨some 11, Go.Op.move (Go.Operand.tmp 0), some (10, false), false⟩,
    ⟨some 12, Go.Op.convert 9 60 (Go.Operand.tmp 11), some (10, false), false⟩,
    ⟨some 13, Go.Op.call { callee := Go.Callee.value (Go.Operand.func 76), args := #[Go.Operand.tmp 12, Go.Operand.func 77], argTypes := #[60, 99] }, some (10, false), false⟩,
    ⟨some 14, Go.Op.pick (Go.Operand.tmp 10) (Go.Operand.const (Go.Value.bool true)) (Go.Operand.tmp 13), none, false⟩,
    ⟨some 2, Go.Op.assign (Go.Operand.tmp 14), none, false⟩] [2]) (.ret))
theorem Tryz.comp75 : ∃ c, Tryz.f75.body = some c ∧ compile c = erase Tryz.C75 := ⟨_, rfl, by kernel_rfl⟩
theorem Tryz.rs75 : Tryz.f75.results.toList = [Go.ResultVar.tmp 2] := by kernel_rfl
theorem Tryz.nt75 : Tryz.f75.ntmps = 15 := by kernel_rfl
theorem Tryz.en75 : ∀ vs w, (callFunc 75 vs).run Tryz.prog w = .ok (.enter 75 vs) w := enters_of Tryz.func75 (by kernel_rfl) rfl
theorem Tryz.ctr75 {a0 : V} {bx : Boxes} {Kc : V → Boxes → Prop} (h : FinB bx → pw Tryz.prog Tryz.C75 (retQ Tryz.prog [Go.ResultVar.tmp 2] Kc) ⟨15, slk [(0, a0)], bx⟩) : AbsCall Tryz.prog 75 [a0] bx Kc := abs_of (by kernel_rfl) Tryz.func75 Tryz.comp75 Tryz.en75 Tryz.nt75 Tryz.rs75 (fun hb => by rw [initSt_1]; exact h hb)
noncomputable def Tryz.C76 : PC := .seq (.reg false [⟨some 4, Go.Op.assign (Go.Operand.const (Go.Value.bool false)), none, false⟩] [0, 1]) (.seq (.reg false [⟨some 5, Go.Op.move (Go.Operand.tmp 0), none, false⟩,
    ⟨some 6, Go.Op.move (Go.Operand.tmp 1), none, false⟩,
    ⟨some 7, Go.Op.call { callee := Go.Callee.value (Go.Operand.func 111), args := #[Go.Operand.tmp 5, Go.Operand.tmp 6], argTypes := #[60, 99] }, none, false⟩,
    ⟨some 8, Go.Op.binOp Go.BinOp.geq 3 (Go.Operand.tmp 7) (Go.Operand.const (Go.Value.int Go.IntKind.i64 0)) 3, none, false⟩,
    ⟨some 4, Go.Op.assign (Go.Operand.tmp 8), none, false⟩] [4]) (.ret))
theorem Tryz.comp76 : ∃ c, Tryz.f76.body = some c ∧ compile c = erase Tryz.C76 := ⟨_, rfl, by kernel_rfl⟩
theorem Tryz.rs76 : Tryz.f76.results.toList = [Go.ResultVar.tmp 4] := by kernel_rfl
theorem Tryz.nt76 : Tryz.f76.ntmps = 9 := by kernel_rfl
theorem Tryz.en76 : ∀ vs w, (callFunc 76 vs).run Tryz.prog w = .ok (.enter 76 vs) w := enters_of Tryz.func76 (by kernel_rfl) rfl
theorem Tryz.ctr76 {a0 a1 : V} {bx : Boxes} {Kc : V → Boxes → Prop} (h : FinB bx → pw Tryz.prog Tryz.C76 (retQ Tryz.prog [Go.ResultVar.tmp 4] Kc) ⟨9, slk [(0, a0), (1, a1)], bx⟩) : AbsCall Tryz.prog 76 [a0, a1] bx Kc := abs_of (by kernel_rfl) Tryz.func76 Tryz.comp76 Tryz.en76 Tryz.nt76 Tryz.rs76 (fun hb => by rw [initSt_2]; exact h hb)
noncomputable def Tryz.C77 : PC := .seq (.reg false [⟨some 2, Go.Op.assign (Go.Operand.const (Go.Value.bool false)), none, false⟩] [0]) (.seq (.reg false [⟨some 3, Go.Op.move (Go.Operand.tmp 0), none, false⟩,
    ⟨some 4, Go.Op.binOp Go.BinOp.lss 5 (Go.Operand.tmp 3) (Go.Operand.const (Go.Value.int Go.IntKind.u8 33)) 5, none, false⟩,
    ⟨some 5, Go.Op.move (Go.Operand.tmp 4), none, false⟩,
    ⟨some 6, Go.Op.move (Go.Operand.tmp 0), some (5, false), false⟩,
    ⟨some 7, Go.Op.binOp Go.BinOp.gtr 5 (Go.Operand.tmp 6) (Go.Operand.const (Go.Value.int Go.IntKind.u8 126)) 5, some (5, false), false⟩,
    ⟨some 8, Go.Op.pick (Go.Operand.tmp 5) (Go.Operand.const (Go.Value.bool true)) (Go.Operand.tmp 7), none, false⟩,
    ⟨some 2, Go.Op.assign (Go.Operand.tmp 8), none, false⟩] [2]) (.ret))
theorem Tryz.comp77 : ∃ c, Tryz.f77.body = some c ∧ compile c = erase Tryz.C77 := ⟨_, rfl, by kernel_rfl⟩
theorem Tryz.rs77 : Tryz.f77.results.toList = [Go.ResultVar.tmp 2] := by kernel_rfl
theorem Tryz.nt77 : Tryz.f77.ntmps = 9 := by kernel_rfl
theorem Tryz.en77 : ∀ vs w, (callFunc 77 vs).run Tryz.prog w = .ok (.enter 77 vs) w := enters_of Tryz.func77 (by kernel_rfl) rfl
theorem Tryz.ctr77 {a0 : V} {bx : Boxes} {Kc : V → Boxes → Prop} (h : FinB bx → pw Tryz.prog Tryz.C77 (retQ Tryz.prog [Go.ResultVar.tmp 2] Kc) ⟨9, slk [(0, a0)], bx⟩) : AbsCall Tryz.prog 77 [a0] bx Kc := abs_of (by kernel_rfl) Tryz.func77 Tryz.comp77 Tryz.en77 Tryz.nt77 Tryz.rs77 (fun hb => by rw [initSt_1]; exact h hb)
noncomputable def Tryz.C78 : PC := .seq (.reg false [⟨some 4, Go.Op.assign (Go.Operand.const (Go.Value.bool false)), none, false⟩] [0, 1]) (.seq (.reg false [⟨some 5, Go.Op.move (Go.Operand.tmp 0), none, false⟩,
    ⟨some 6, Go.Op.move (Go.Operand.tmp 1), none, false⟩,
    ⟨some 7, Go.Op.call { callee := Go.Callee.value (Go.Operand.func 68), args := #[Go.Operand.tmp 5, Go.Operand.tmp 6], argTypes := #[23, 91] }, none, false⟩,
    ⟨some 8, Go.Op.binOp Go.BinOp.geq 3 (Go.Operand.tmp 7) (Go.Operand.const (Go.Value.int Go.IntKind.i64 0)) 3, none, false⟩,
    ⟨some 4, Go.Op.assign (Go.Operand.tmp 8), none, false⟩] [4]) (.ret))
theorem Tryz.comp78 : ∃ c, Tryz.f78.body = some c ∧ compile c = erase Tryz.C78 := ⟨_, rfl, by kernel_rfl⟩
theorem Tryz.rs78 : Tryz.f78.results.toList = [Go.ResultVar.tmp 4] := by kernel_rfl
theorem Tryz.nt78 : Tryz.f78.ntmps = 9 := by kernel_rfl
theorem Tryz.en78 : ∀ vs w, (callFunc 78 vs).run Tryz.prog w = .ok (.enter 78 vs) w := enters_of Tryz.func78 (by kernel_rfl) rfl
theorem Tryz.ctr78 {a0 a1 : V} {bx : Boxes} {Kc : V → Boxes → Prop} (h : FinB bx → pw Tryz.prog Tryz.C78 (retQ Tryz.prog [Go.ResultVar.tmp 4] Kc) ⟨9, slk [(0, a0), (1, a1)], bx⟩) : AbsCall Tryz.prog 78 [a0, a1] bx Kc := abs_of (by kernel_rfl) Tryz.func78 Tryz.comp78 Tryz.en78 Tryz.nt78 Tryz.rs78 (fun hb => by rw [initSt_2]; exact h hb)
noncomputable def Tryz.C79 : PC := .seq (.reg false [⟨some 4, Go.Op.assign (Go.Operand.const (Go.Value.bool false)), none, false⟩] [0, 1]) (.seq (.reg false [⟨some 5, Go.Op.move (Go.Operand.tmp 0), none, false⟩,
    ⟨some 6, Go.Op.move (Go.Operand.tmp 1), none, false⟩,
    ⟨some 7, Go.Op.call { callee := Go.Callee.value (Go.Operand.func 112), args := #[Go.Operand.tmp 5, Go.Operand.tmp 6], argTypes := #[22, 100] }, none, false⟩,
    ⟨some 8, Go.Op.binOp Go.BinOp.geq 3 (Go.Operand.tmp 7) (Go.Operand.const (Go.Value.int Go.IntKind.i64 0)) 3, none, false⟩,
    ⟨some 4, Go.Op.assign (Go.Operand.tmp 8), none, false⟩] [4]) (.ret))
theorem Tryz.comp79 : ∃ c, Tryz.f79.body = some c ∧ compile c = erase Tryz.C79 := ⟨_, rfl, by kernel_rfl⟩
theorem Tryz.rs79 : Tryz.f79.results.toList = [Go.ResultVar.tmp 4] := by kernel_rfl
theorem Tryz.nt79 : Tryz.f79.ntmps = 9 := by kernel_rfl
theorem Tryz.en79 : ∀ vs w, (callFunc 79 vs).run Tryz.prog w = .ok (.enter 79 vs) w := enters_of Tryz.func79 (by kernel_rfl) rfl
theorem Tryz.ctr79 {a0 a1 : V} {bx : Boxes} {Kc : V → Boxes → Prop} (h : FinB bx → pw Tryz.prog Tryz.C79 (retQ Tryz.prog [Go.ResultVar.tmp 4] Kc) ⟨9, slk [(0, a0), (1, a1)], bx⟩) : AbsCall Tryz.prog 79 [a0, a1] bx Kc := abs_of (by kernel_rfl) Tryz.func79 Tryz.comp79 Tryz.en79 Tryz.nt79 Tryz.rs79 (fun hb => by rw [initSt_2]; exact h hb)
noncomputable def Tryz.C80 : PC := .seq (.reg false [⟨some 2, Go.Op.assign (Go.Operand.const (Go.Value.slice none 0 0)), none, false⟩] [0]) (.seq (.reg false [⟨some 4, Go.Op.move (Go.Operand.tmp 0), none, false⟩,
    ⟨some 5, Go.Op.call { callee := Go.Callee.value (Go.Operand.func 113), args := #[Go.Operand.tmp 4], argTypes := #[105] }, none, false⟩,
    ⟨some 3, Go.Op.assign (Go.Operand.tmp 5), none, false⟩] [3]) (.seq (.reg false [⟨some 6, Go.Op.move (Go.Operand.tmp 3), none, false⟩,
    ⟨some 7, Go.Op.call { callee := Go.Callee.value (Go.Operand.func 114), args := #[Go.Operand.tmp 6], argTypes := #[22] }, none, false⟩] [3]) (.seq (.reg false [⟨some 8, Go.Op.move (Go.Operand.tmp 3), none, false⟩,
    ⟨some 2, Go.Op.assign (Go.Operand.tmp 8), none, false⟩] [2]) (.ret))))
theorem Tryz.comp80 : ∃ c, Tryz.f80.body = some c ∧ compile c = erase Tryz.C80 := ⟨_, rfl, by kernel_rfl⟩
theorem Tryz.rs80 : Tryz.f80.results.toList = [Go.ResultVar.tmp 2] := by kernel_rfl
theorem Tryz.nt80 : Tryz.f80.ntmps = 9 := by kernel_rfl
theorem Tryz.en80 : ∀ vs w, (callFunc 80 vs).run Tryz.prog w = .ok (.enter 80 vs) w := enters_of Tryz.func80 (by kernel_rfl) rfl
theorem Tryz.ctr80 {a0 : V} {bx : Boxes} {Kc : V → Boxes → Prop} (h : FinB bx → pw Tryz.prog Tryz.C80 (retQ Tryz.prog [Go.ResultVar.tmp 2] Kc) ⟨9, slk [(0, a0)], bx⟩) : AbsCall Tryz.prog 80 [a0] bx Kc := abs_of (by kernel_rfl) Tryz.func80 Tryz.comp80 Tryz.en80 Tryz.nt80 Tryz.rs80 (fun hb => by rw [initSt_1]; exact h hb)
noncomputable def Tryz.C81 : PC := .seq (.reg false [⟨some 1, Go.Op.box 22 (Go.Operand.tmp 0), none, true⟩,
    ⟨some 2, Go.Op.assign (Go.Operand.const Go.Value.nilFunc), none, false⟩] [1]) (.seq (.reg false [⟨some 3, Go.Op.makeFunc (Go.Fn.func 115) #[] #[Go.Operand.tmp 1], none, false⟩,
    ⟨some 2, Go.Op.assign (Go.Operand.tmp 3), none, false⟩] [2]) (.ret))
theorem Tryz.comp81 : ∃ c, Tryz.f81.body = some c ∧ compile c = erase Tryz.C81 := ⟨_, rfl, by kernel_rfl⟩
theorem Tryz.rs81 : Tryz.f81.results.toList = [Go.ResultVar.tmp 2] := by kernel_rfl
theorem Tryz.nt81 : Tryz.f81.ntmps = 4 := by kernel_rfl
theorem Tryz.en81 : ∀ vs w, (callFunc 81 vs).run Tryz.prog w = .ok (.enter 81 vs) w := enters_of Tryz.func81 (by kernel_rfl) rfl
theorem Tryz.ctr81 {a0 : V} {bx : Boxes} {Kc : V → Boxes → Prop} (h : FinB bx → pw Tryz.prog Tryz.C81 (retQ Tryz.prog [Go.ResultVar.tmp 2] Kc) ⟨4, slk [(0, a0)], bx⟩) : AbsCall Tryz.prog 81 [a0] bx Kc := abs_of (by kernel_rfl) Tryz.func81 Tryz.comp81 Tryz.en81 Tryz.nt81 Tryz.rs81 (fun hb => by rw [initSt_1]; exact h hb)
theorem Tryz.en82 : ∀ vs w, (callFunc 82 vs).run Tryz.prog w = .ok (.enter 82 vs) w := enters_of Tryz.func82 (by kernel_rfl) rfl
noncomputable def Tryz.L83_0 : PC := .seq (.reg false [⟨some 12, Go.Op.binOp Go.BinOp.lss 3 (Go.Operand.tmp 11) (Go.Operand.tmp 10) 3, none, false⟩] [0, 1, 9, 10, 11, 12]) (.seq (.cond (Go.Operand.tmp 12) (.skip) (.exit 0)) (.seq (.block 1 (.seq (.reg false [⟨some 13, Go.Op.indexAddr 60 (Go.Operand.tmp 9) (Go.Operand.tmp 11), none, false⟩,
    ⟨some 14, Go.Op.load 5 (Go.Operand.tmp 13), none, false⟩,
    ⟨some 8, Go.Op.assign (Go.Operand.tmp 14), none, false⟩] [0, 1, 8, 9, 10, 11]) (.seq (.reg false [⟨some 15, Go.Op.move (Go.Operand.tmp 0), none, false⟩,
    ⟨some 16, Go.Op.move (Go.Operand.tmp 8), none, false⟩,
    ⟨some 17, Go.Op.convert 5 58 (Go.Operand.tmp 16), none, false⟩,
    ⟨some 18, Go.Op.binOp Go.BinOp.xor 58 (Go.Operand.tmp 15) (Go.Operand.tmp 17) 58, none, false⟩,
    ⟨some 0, Go.Op.assign (Go.Operand.tmp 18), none, false⟩] [0, 1, 9, 10, 11]) (.reg false [⟨some 19, Go.Op.move (Go.Operand.tmp 0), none, false⟩,
    ⟨some 20, Go.Op.move (Go.Operand.tmp 1), none, false⟩,
    ⟨some 21, Go.Op.binOp Go.BinOp.mul 58 (Go.Operand.tmp 19) (Go.Operand.tmp 20) 58, none, false⟩,
    ⟨some 0, Go.Op.assign (Go.Operand.tmp 21), none, false⟩] [0, 1, 9, 10, 11])))) (.reg false [⟨some 22, Go.Op.binOp Go.BinOp.add 3 (Go.Operand.tmp 11) (Go.Operand.const (Go.Value.int Go.IntKind.i64 1)) 3, none, false⟩,
    ⟨some 11, Go.Op.move (Go.Operand.tmp 22), none, false⟩] [0, 1, 9, 10, 11])))
noncomputable def Tryz.C83 : PC := .seq (.reg false [⟨some 6, Go.Op.assign (Go.Operand.const (Go.Value.int Go.IntKind.u32 0)), none, false⟩] [0, 1, 2]) (.seq (.seq (.reg false [⟨some 9, Go.Op.move (Go.Operand.tmp 2), none, false⟩,
    ⟨some 10, Go.Op.call { callee := Go.Callee.builtin Go.Builtin.len, args := #[Go.Operand.tmp 9], argTypes := #[60] }, none, false⟩,
    ⟨some 11, Go.Op.move (Go.Operand.const (Go.Value.int Go.IntKind.i64 0)), none, false⟩] [0, 1, 9, 10, 11]) (.block 0 (.loop Tryz.L83_0))) (.seq (.reg false [⟨some 23, Go.Op.move (Go.Operand.tmp 0), none, false⟩,
    ⟨some 6, Go.Op.assign (Go.Operand.tmp 23), none, false⟩] [6]) (.ret)))
theorem Tryz.comp83 : ∃ c, Tryz.f83.body = some c ∧ compile c = erase Tryz.C83 := ⟨_, rfl, by kernel_rfl⟩
theorem Tryz.rs83 : Tryz.f83.results.toList = [Go.ResultVar.tmp 6] := by kernel_rfl
theorem Tryz.nt83 : Tryz.f83.ntmps = 24 := by kernel_rfl
theorem Tryz.en83 : ∀ vs w, (callFunc 83 vs).run Tryz.prog w = .ok (.enter 83 vs) w := enters_of Tryz.func83 (by kernel_rfl) rfl
theorem Tryz.ctr83 {a0 a1 a2 : V} {bx : Boxes} {Kc : V → Boxes → Prop} (h : FinB bx → pw Tryz.prog Tryz.C83 (retQ Tryz.prog [Go.ResultVar.tmp 6] Kc) ⟨24, slk [(0, a0), (1, a1), (2, a2)], bx⟩) : AbsCall Tryz.prog 83 [a0, a1, a2] bx Kc := abs_of (by kernel_rfl) Tryz.func83 Tryz.comp83 Tryz.en83 Tryz.nt83 Tryz.rs83 (fun hb => by rw [initSt_3]; exact h hb)
noncomputable def Tryz.L85_0 : PC := .block 1 (.seq (.reg false [⟨some 21, Go.Op.move (Go.Operand.tmp 2), none, false⟩,
    ⟨some 22, Go.Op.move (Go.Operand.tmp 1), none, false⟩,
    ⟨some 23, Go.Op.binOp Go.BinOp.sub 3 (Go.Operand.tmp 21) (Go.Operand.tmp 22) 3, none, false⟩,
    ⟨some 12, Go.Op.assign (Go.Operand.tmp 23), none, false⟩] [0, 1, 2, 3, 4, 10, 11, 12]) (.seq (.seq (.reg false [⟨some 24, Go.Op.move (Go.Operand.tmp 12), none, false⟩,
    ⟨some 25, Go.Op.binOp Go.BinOp.leq 3 (Go.Operand.tmp 24) (Go.Operand.const (Go.Value.int Go.IntKind.i64 12)) 3, none, false⟩] [0, 1, 2, 3, 4, 10, 11, 12, 25]) (.cond (Go.Operand.tmp 25) (.seq (.reg false [⟨some 26, Go.Op.move (Go.Operand.tmp 0), none, false⟩,
    ⟨some 27, Go.Op.move (Go.Operand.tmp 1), none, false⟩,
    ⟨some 28, Go.Op.move (Go.Operand.tmp 2), none, false⟩,
    ⟨some 29, Go.Op.move (Go.Operand.tmp 4), none, false⟩,
    ⟨some 30, Go.Op.call { callee := Go.Callee.value (Go.Operand.func 117), args := #[Go.Operand.tmp 26, Go.Operand.tmp 27, Go.Operand.tmp 28, Go.Operand.tmp 29], argTypes := #[24, 3, 3, 73] }, none, false⟩] []) (.ret)) (.skip))) (.seq (.seq (.reg false [⟨some 31, Go.Op.move (Go.Operand.tmp 3), none, false⟩,
    ⟨some 32, Go.Op.binOp Go.BinOp.eql 3 (Go.Operand.tmp 31) (Go.Operand.const (Go.Value.int Go.IntKind.i64 0)) 3, none, false⟩] [0, 1, 2, 3, 4, 10, 11, 12, 32]) (.cond (Go.Operand.tmp 32) (.seq (.reg false [⟨some 33, Go.Op.move (Go.Operand.tmp 0), none, false⟩,
    ⟨some 34, Go.Op.move (Go.Operand.tmp 1), none, false⟩,
    ⟨some 35, Go.Op.move (Go.Operand.tmp 2), none, false⟩,
    ⟨some 36, Go.Op.move (Go.Operand.tmp 4), none, false⟩,
    ⟨some 37, Go.Op.call { callee := Go.Callee.value (Go.Operand.func 118), args := #[Go.Operand.tmp 33, Go.Operand.tmp 34, Go.Operand.tmp 35, Go.Operand.tmp 36], argTypes := #[24, 3, 3, 73] }, none, false⟩] []) (.ret)) (.skip))) (.seq (.seq (.reg false [⟨some 38, Go.Op.move (Go.Operand.tmp 10), none, false⟩,
    ⟨some 39, Go.Op.unOp Go.UnOp.not 4 (Go.Operand.tmp 38), none, false⟩] [0, 1, 2, 3, 4, 10, 11, 12, 39]) (.cond (Go.Operand.tmp 39) (.seq (.reg false [⟨some 40, Go.Op.move (Go.Operand.tmp 0), none, false⟩,
    ⟨some 41, Go.Op.move (Go.Operand.tmp 1), none, false⟩,
    ⟨some 42, Go.Op.move (Go.Operand.tmp 2), none, false⟩,
    ⟨some 43, Go.Op.move (Go.Operand.tmp 4), none, false⟩,
    ⟨some 44, Go.Op.call { callee := Go.Callee.value (Go.Operand.func 119), args := #[Go.Operand.tmp 40, Go.Operand.tmp 41, Go.Operand.tmp 42, Go.Operand.tmp 43], argTypes := #[24, 3, 3, 73] }, none, false⟩] [0, 1, 2, 3, 4, 10, 11, 12]) (.reg false [⟨some 45, Go.Op.move (Go.Operand.tmp 3), none, false⟩,
    ⟨some 46, Go.Op.binOp Go.BinOp.sub 3 (Go.Operand.tmp 45) (Go.Operand.const (Go.Value.int Go.IntKind.i64 1)) 3, none, false⟩,
    ⟨some 3, Go.Op.assign (Go.Operand.tmp 46), none, false⟩] [0, 1, 2, 3, 4, 10, 11, 12])) (.skip))) (.seq (.reg false [⟨some 48, Go.Op.move (Go.Operand.tmp 0), none, false⟩,
    ⟨some 49, Go.Op.move (Go.Operand.tmp 1), none, false⟩,
    ⟨some 50, Go.Op.move (Go.Operand.tmp 2), none, false⟩,
    ⟨some 51, Go.Op.move (Go.Operand.tmp 4), none, false⟩,
    ⟨some 52, Go.Op.call { callee := Go.Callee.value (Go.Operand.func 120), args := #[Go.Operand.tmp 48, Go.Operand.tmp 49, Go.Operand.tmp 50, Go.Operand.tmp 51], argTypes := #[24, 3, 3, 73] }, none, false⟩,
    ⟨some 47, Go.Op.move (Go.Operand.tmp 52), none, false⟩,
    ⟨some 53, Go.Op.extract (Go.Operand.tmp 47) 0, none, false⟩,
    ⟨some 54, Go.Op.extract (Go.Operand.tmp 47) 1, none, false⟩,
    ⟨some 13, Go.Op.assign (Go.Operand.tmp 53), none, false⟩,
    ⟨some 14, Go.Op.assign (Go.Operand.tmp 54), none, false⟩] [0, 1, 2, 3, 4, 10, 11, 12, 13, 14]) (.seq (.seq (.reg false [⟨some 55, Go.Op.move (Go.Operand.tmp 14), none, false⟩,
    ⟨some 56, Go.Op.binOp Go.BinOp.eql 134 (Go.Operand.tmp 55) (Go.Operand.const (Go.Value.int Go.IntKind.i64 2)) 134, none, false⟩] [0, 1, 2, 3, 4, 10, 11, 12, 13, 14, 56]) (.cond (Go.Operand.tmp 56) (.seq (.reg false [⟨some 57, Go.Op.move (Go.Operand.tmp 0), none, false⟩,
    ⟨some 58, Go.Op.move (Go.Operand.tmp 1), none, false⟩,
    ⟨some 59, Go.Op.move (Go.Operand.tmp 2), none, false⟩,
    ⟨some 60, Go.Op.move (Go.Operand.tmp 4), none, false⟩,
    ⟨some 61, Go.Op.call { callee := Go.Callee.value (Go.Operand.func 121), args := #[Go.Operand.tmp 57, Go.Operand.tmp 58, Go.Operand.tmp 59, Go.Operand.tmp 60], argTypes := #[24, 3, 3, 73] }, none, false⟩] [0, 1, 2, 3, 4, 10, 11, 12, 13]) (.seq (.reg false [⟨some 62, Go.Op.move (Go.Operand.tmp 2), none, false⟩,
    ⟨some 63, Go.Op.binOp Go.BinOp.sub 3 (Go.Operand.tmp 62) (Go.Operand.const (Go.Value.int Go.IntKind.i64 1)) 3, none, false⟩,
    ⟨some 64, Go.Op.move (Go.Operand.tmp 13), none, false⟩,
    ⟨some 65, Go.Op.move (Go.Operand.tmp 1), none, false⟩,
    ⟨some 66, Go.Op.binOp Go.BinOp.sub 3 (Go.Operand.tmp 64) (Go.Operand.tmp 65) 3, none, false⟩,
    ⟨some 67, Go.Op.binOp Go.BinOp.sub 3 (Go.Operand.tmp 63) (Go.Operand.tmp 66) 3, none, false⟩,
    ⟨some 13, Go.Op.assign (Go.Operand.tmp 67), none, false⟩] [0, 1, 2, 3, 4, 10, 11, 12, 13]) (.reg false [⟨some 14, Go.Op.assign (Go.Operand.const (Go.Value.int Go.IntKind.i64 1)), none, false⟩] [0, 1, 2, 3, 4, 10, 11, 12, 13, 14]))) (.skip))) (.seq (.seq (.reg false [⟨some 68, Go.Op.move (Go.Operand.tmp 10), none, false⟩,
    ⟨some 69, Go.Op.move (Go.Operand.tmp 68), none, false⟩,
    ⟨some 70, Go.Op.move (Go.Operand.tmp 11), some (69, true), false⟩,
    ⟨some 71, Go.Op.pick (Go.Operand.tmp 69) (Go.Operand.tmp 70) (Go.Operand.const (Go.Value.bool false)), none, false⟩,
    ⟨some 72, Go.Op.move (Go.Operand.tmp 71), none, false⟩,
    ⟨some 73, Go.Op.move (Go.Operand.tmp 14), some (72, true), false⟩,
    ⟨some 74, Go.Op.binOp Go.BinOp.eql 134 (Go.Operand.tmp 73) (Go.Operand.const (Go.Value.int Go.IntKind.i64 1)) 134, some (72, true), false⟩,
    ⟨some 75, Go.Op.pick (Go.Operand.tmp 72) (Go.Operand.tmp 74) (Go.Operand.const (Go.Value.bool false)), none, false⟩] [0, 1, 2, 3, 4, 10, 11, 12, 13, 75]) (.cond (Go.Operand.tmp 75) (.seq (.reg false [⟨some 76, Go.Op.move (Go.Operand.tmp 0), none, false⟩,
    ⟨some 77, Go.Op.move (Go.Operand.tmp 1), none, false⟩,
    ⟨some 78, Go.Op.move (Go.Operand.tmp 2), none, false⟩,
    ⟨some 79, Go.Op.move (Go.Operand.tmp 4), none, false⟩,
    ⟨some 80, Go.Op.call { callee := Go.Callee.value (Go.Operand.func 122), args := #[Go.Operand.tmp 76, Go.Operand.tmp 77, Go.Operand.tmp 78, Go.Operand.tmp 79], argTypes := #[24, 3, 3, 73] }, none, false⟩] [0, 1, 2, 3, 4, 10, 11, 12, 13, 80]) (.cond (Go.Operand.tmp 80) (.ret) (.skip))) (.skip))) (.seq (.seq (.reg true [⟨some 81, Go.Op.move (Go.Operand.tmp 1), none, false⟩,
    ⟨some 82, Go.Op.binOp Go.BinOp.gtr 3 (Go.Operand.tmp 81) (Go.Operand.const (Go.Value.int Go.IntKind.i64 0)) 3, none, false⟩,
    ⟨some 83, Go.Op.move (Go.Operand.tmp 82), none, false⟩,
    ⟨some 84, Go.Op.move (Go.Operand.tmp 4), some (83, true), false⟩,
    ⟨some 85, Go.Op.move (Go.Operand.tmp 0), some (83, true), false⟩,
    ⟨some 86, Go.Op.move (Go.Operand.tmp 1), some (83, true), false⟩,
    ⟨some 87, Go.Op.binOp Go.BinOp.sub 3 (Go.Operand.tmp 86) (Go.Operand.const (Go.Value.int Go.IntKind.i64 1)) 3, some (83, true), false⟩,
    ⟨some 88, Go.Op.indexAddr 24 (Go.Operand.tmp 85) (Go.Operand.tmp 87), some (83, true), false⟩,
    ⟨some 89, Go.Op.load 63 (Go.Operand.tmp 88), some (83, true), false⟩,
    ⟨some 90, Go.Op.move (Go.Operand.tmp 0), some (83, true), false⟩,
    ⟨some 91, Go.Op.move (Go.Operand.tmp 13), some (83, true), false⟩,
    ⟨some 92, Go.Op.indexAddr 24 (Go.Operand.tmp 90) (Go.Operand.tmp 91), some (83, true), false⟩,
    ⟨some 93, Go.Op.load 63 (Go.Operand.tmp 92), some (83, true), false⟩,
    ⟨some 94, Go.Op.call { callee := Go.Callee.value (Go.Operand.tmp 84), args := #[Go.Operand.tmp 89, Go.Operand.tmp 93], argTypes := #[63, 63] }, some (83, true), false⟩,
    ⟨some 95, Go.Op.binOp Go.BinOp.lss 3 (Go.Operand.tmp 94) (Go.Operand.const (Go.Value.int Go.IntKind.i64 0)) 3, some (83, true), false⟩,
    ⟨some 96, Go.Op.unOp Go.UnOp.not 4 (Go.Operand.tmp 95), some (83, true), false⟩,
    ⟨some 97, Go.Op.pick (Go.Operand.tmp 83) (Go.Operand.tmp 96) (Go.Operand.const (Go.Value.bool false)), none, false⟩] [0, 1, 2, 3, 4, 10, 11, 12, 13, 97]) (.cond (Go.Operand.tmp 97) (.seq (.reg false [⟨some 98, Go.Op.move (Go.Operand.tmp 0), none, false⟩,
    ⟨some 99, Go.Op.move (Go.Operand.tmp 1), none, false⟩,
    ⟨some 100, Go.Op.move (Go.Operand.tmp 2), none, false⟩,
    ⟨some 101, Go.Op.move (Go.Operand.tmp 13), none, false⟩,
    ⟨some 102, Go.Op.move (Go.Operand.tmp 4), none, false⟩,
    ⟨some 103, Go.Op.call { callee := Go.Callee.value (Go.Operand.func 123), args := #[Go.Operand.tmp 98, Go.Operand.tmp 99, Go.Operand.tmp 100, Go.Operand.tmp 101, Go.Operand.tmp 102], argTypes := #[24, 3, 3, 3, 73] }, none, false⟩,
    ⟨some 15, Go.Op.assign (Go.Operand.tmp 103), none, false⟩] [0, 2, 3, 4, 10, 11, 15]) (.seq (.reg false [⟨some 104, Go.Op.move (Go.Operand.tmp 15), none, false⟩,
    ⟨some 1, Go.Op.assign (Go.Operand.tmp 104), none, false⟩] [0, 1, 2, 3, 4, 10, 11]) (.exit 1))) (.skip))) (.seq (.reg false [⟨some 106, Go.Op.move (Go.Operand.tmp 0), none, false⟩,
    ⟨some 107, Go.Op.move (Go.Operand.tmp 1), none, false⟩,
    ⟨some 108, Go.Op.move (Go.Operand.tmp 2), none, false⟩,
    ⟨some 109, Go.Op.move (Go.Operand.tmp 13), none, false⟩,
    ⟨some 110, Go.Op.move (Go.Operand.tmp 4), none, false⟩,
    ⟨some 111, Go.Op.call { callee := Go.Callee.value (Go.Operand.func 124), args := #[Go.Operand.tmp 106, Go.Operand.tmp 107, Go.Operand.tmp 108, Go.Operand.tmp 109, Go.Operand.tmp 110], argTypes := #[24, 3, 3, 3, 73] }, none, false⟩,
    ⟨some 105, Go.Op.move (Go.Operand.tmp 111), none, false⟩,
    ⟨some 112, Go.Op.extract (Go.Operand.tmp 105) 0, none, false⟩,
    ⟨some 113, Go.Op.extract (Go.Operand.tmp 105) 1, none, false⟩,
    ⟨some 16, Go.Op.assign (Go.Operand.tmp 112), none, false⟩,
    ⟨some 17, Go.Op.assign (Go.Operand.tmp 113), none, false⟩] [0, 1, 2, 3, 4, 12, 16, 17]) (.seq (.reg false [⟨some 114, Go.Op.move (Go.Operand.tmp 17), none, false⟩,
    ⟨some 11, Go.Op.assign (Go.Operand.tmp 114), none, false⟩] [0, 1, 2, 3, 4, 11, 12, 16]) (.seq (.reg false [⟨some 115, Go.Op.move (Go.Operand.tmp 16), none, false⟩,
    ⟨some 116, Go.Op.move (Go.Operand.tmp 1), none, false⟩,
    ⟨some 117, Go.Op.binOp Go.BinOp.sub 3 (Go.Operand.tmp 115) (Go.Operand.tmp 116) 3, none, false⟩,
    ⟨some 118, Go.Op.move (Go.Operand.tmp 2), none, false⟩,
    ⟨some 119, Go.Op.move (Go.Operand.tmp 16), none, false⟩,
    ⟨some 120, Go.Op.binOp Go.BinOp.sub 3 (Go.Operand.tmp 118) (Go.Operand.tmp 119) 3, none, false⟩,
    ⟨some 18, Go.Op.assign (Go.Operand.tmp 117), none, false⟩,
    ⟨some 19, Go.Op.assign (Go.Operand.tmp 120), none, false⟩] [0, 1, 2, 3, 4, 11, 12, 16, 18, 19]) (.seq (.reg false [⟨some 121, Go.Op.move (Go.Operand.tmp 12), none, false⟩,
    ⟨some 122, Go.Op.binOp Go.BinOp.quo 3 (Go.Operand.tmp 121) (Go.Operand.const (Go.Value.int Go.IntKind.i64 8)) 3, none, false⟩,
    ⟨some 20, Go.Op.assign (Go.Operand.tmp 122), none, false⟩] [0, 1, 2, 3, 4, 11, 16, 18, 19, 20]) (.seq (.reg false [⟨some 123, Go.Op.move (Go.Operand.tmp 18), none, false⟩,
    ⟨some 124, Go.Op.move (Go.Operand.tmp 19), none, false⟩,
    ⟨some 125, Go.Op.binOp Go.BinOp.lss 3 (Go.Operand.tmp 123) (Go.Operand.tmp 124) 3, none, false⟩] [0, 1, 2, 3, 4, 11, 16, 18, 19, 20, 125]) (.cond (Go.Operand.tmp 125) (.seq (.reg false [⟨some 126, Go.Op.move (Go.Operand.tmp 18), none, false⟩,
    ⟨some 127, Go.Op.move (Go.Operand.tmp 20), none, false⟩,
    ⟨some 128, Go.Op.binOp Go.BinOp.geq 3 (Go.Operand.tmp 126) (Go.Operand.tmp 127) 3, none, false⟩,
    ⟨some 10, Go.Op.assign (Go.Operand.tmp 128), none, false⟩] [0, 1, 2, 3, 4, 10, 11, 16]) (.seq (.reg false [⟨some 129, Go.Op.move (Go.Operand.tmp 0), none, false⟩,
    ⟨some 130, Go.Op.move (Go.Operand.tmp 1), none, false⟩,
    ⟨some 131, Go.Op.move (Go.Operand.tmp 16), none, false⟩,
    ⟨some 132, Go.Op.move (Go.Operand.tmp 3), none, false⟩,
    ⟨some 133, Go.Op.move (Go.Operand.tmp 4), none, false⟩,
    ⟨some 134, Go.Op.call { callee := Go.Callee.value (Go.Operand.func 85), args := #[Go.Operand.tmp 129, Go.Operand.tmp 130, Go.Operand.tmp 131, Go.Operand.tmp 132, Go.Operand.tmp 133], argTypes := #[24, 3, 3, 3, 73] }, none, false⟩] [0, 2, 3, 4, 10, 11, 16]) (.reg false [⟨some 135, Go.Op.move (Go.Operand.tmp 16), none, false⟩,
    ⟨some 136, Go.Op.binOp Go.BinOp.add 3 (Go.Operand.tmp 135) (Go.Operand.const (Go.Value.int Go.IntKind.i64 1)) 3, none, false⟩,
    ⟨some 1, Go.Op.assign (Go.Operand.tmp 136), none, false⟩] [0, 1, 2, 3, 4, 10, 11]))) (.seq (.reg false [⟨some 137, Go.Op.move (Go.Operand.tmp 19), none, false⟩,
    ⟨some 138, Go.Op.move (Go.Operand.tmp 20), none, false⟩,
    ⟨some 139, Go.Op.binOp Go.BinOp.geq 3 (Go.Operand.tmp 137) (Go.Operand.tmp 138) 3, none, false⟩,
    ⟨some 10, Go.Op.assign (Go.Operand.tmp 139), none, false⟩] [0, 1, 2, 3, 4, 10, 11, 16]) (.seq (.reg false [⟨some 140, Go.Op.move (Go.Operand.tmp 0), none, false⟩,
    ⟨some 141, Go.Op.move (Go.Operand.tmp 16), none, false⟩,
    ⟨some 142, Go.Op.binOp Go.BinOp.add 3 (Go.Operand.tmp 141) (Go.Operand.const (Go.Value.int Go.IntKind.i64 1)) 3, none, false⟩,
    ⟨some 143, Go.Op.move (Go.Operand.tmp 2), none, false⟩,
    ⟨some 144, Go.Op.move (Go.Operand.tmp 3), none, false⟩,
    ⟨some 145, Go.Op.move (Go.Operand.tmp 4), none, false⟩,
    ⟨some 146, Go.Op.call { callee := Go.Callee.value (Go.Operand.func 85), args := #[Go.Operand.tmp 140, Go.Operand.tmp 142, Go.Operand.tmp 143, Go.Operand.tmp 144, Go.Operand.tmp 145], argTypes := #[24, 3, 3, 3, 73] }, none, false⟩] [0, 1, 3, 4, 10, 11, 16]) (.reg false [⟨some 147, Go.Op.move (Go.Operand.tmp 16), none, false⟩,
    ⟨some 2, Go.Op.assign (Go.Operand.tmp 147), none, false⟩] [0, 1, 2, 3, 4, 10, 11])))))))))))))))))
noncomputable def Tryz.C85 : PC := .seq (.reg false [⟨some 10, Go.Op.assign (Go.Operand.const (Go.Value.bool true)), none, false⟩] [0, 1, 2, 3, 4, 10]) (.seq (.reg false [⟨some 11, Go.Op.assign (Go.Operand.const (Go.Value.bool true)), none, false⟩] [0, 1, 2, 3, 4, 10, 11]) (.block 0 (.loop Tryz.L85_0)))
theorem Tryz.comp85 : ∃ c, Tryz.f85.body = some c ∧ compile c = erase Tryz.C85 := ⟨_, rfl, by kernel_rfl⟩
theorem Tryz.rs85 : Tryz.f85.results.toList = [] := by kernel_rfl
theorem Tryz.nt85 : Tryz.f85.ntmps = 148 := by kernel_rfl
theorem Tryz.en85 : ∀ vs w, (callFunc 85 vs).run Tryz.prog w = .ok (.enter 85 vs) w := enters_of Tryz.func85 (by kernel_rfl) rfl
theorem Tryz.ctr85 {a0 a1 a2 a3 a4 : V} {bx : Boxes} {Kc : V → Boxes → Prop} (h : FinB bx → pw Tryz.prog Tryz.C85 (retQ Tryz.prog [] Kc) ⟨148, slk [(0, a0), (1, a1), (2, a2), (3, a3), (4, a4)], bx⟩) : AbsCall Tryz.prog 85 [a0, a1, a2, a3, a4] bx Kc := abs_of (by kernel_rfl) Tryz.func85 Tryz.comp85 Tryz.en85 Tryz.nt85 Tryz.rs85 (fun hb => by rw [initSt_5]; exact h hb)
theorem Tryz.en86 : ∀ vs w, (callFunc 86 vs).run Tryz.prog w = .ok (.enter 86 vs) w := enters_of Tryz.func86 (by kernel_rfl) rfl
noncomputable def Tryz.C87 : PC := .seq (.reg false [⟨some 2, Go.Op.assign (Go.Operand.const (Go.Value.bool false)), none, false⟩] [0]) (.seq (.reg false [⟨some 3, Go.Op.move (Go.Operand.tmp 0), none, false⟩,
    ⟨some 4, Go.Op.move (Go.Operand.tmp 0), none, false⟩,
    ⟨some 5, Go.Op.binOp Go.BinOp.neq 58 (Go.Operand.tmp 3) (Go.Operand.tmp 4) 58, none, false⟩,
    ⟨some 2, Go.Op.assign (Go.Operand.tmp 5), none, false⟩] [2]) (.ret))
theorem Tryz.comp87 : ∃ c, Tryz.f87.body = some c ∧ compile c = erase Tryz.C87 := ⟨_, rfl, by kernel_rfl⟩
theorem Tryz.rs87 : Tryz.f87.results.toList = [Go.ResultVar.tmp 2] := by kernel_rfl
theorem Tryz.nt87 : Tryz.f87.ntmps = 6 := by kernel_rfl
theorem Tryz.en87 : ∀ vs w, (callFunc 87 vs).run Tryz.prog w = .ok (.enter 87 vs) w := enters_of Tryz.func87 (by kernel_rfl) rfl
theorem Tryz.ctr87 {a0 : V} {bx : Boxes} {Kc : V → Boxes → Prop} (h : FinB bx → pw Tryz.prog Tryz.C87 (retQ Tryz.prog [Go.ResultVar.tmp 2] Kc) ⟨6, slk [(0, a0)], bx⟩) : AbsCall Tryz.prog 87 [a0] bx Kc := abs_of (by kernel_rfl) Tryz.func87 Tryz.comp87 Tryz.en87 Tryz.nt87 Tryz.rs87 (fun hb => by rw [initSt_1]; exact h hb)
noncomputable def Tryz.C88 : PC := .seq (.reg false [⟨some 2, Go.Op.assign (Go.Operand.const (Go.Value.bool false)), none, false⟩] [0]) (.seq (.reg false [⟨some 3, Go.Op.move (Go.Operand.tmp 0), none, false⟩,
    ⟨some 4, Go.Op.move (Go.Operand.tmp 0), none, false⟩,
    ⟨some 5, Go.Op.binOp Go.BinOp.neq 3 (Go.Operand.tmp 3) (Go.Operand.tmp 4) 3, none, false⟩,
    ⟨some 2, Go.Op.assign (Go.Operand.tmp 5), none, false⟩] [2]) (.ret))
theorem Tryz.comp88 : ∃ c, Tryz.f88.body = some c ∧ compile c = erase Tryz.C88 := ⟨_, rfl, by kernel_rfl⟩
theorem Tryz.rs88 : Tryz.f88.results.toList = [Go.ResultVar.tmp 2] := by kernel_rfl
theorem Tryz.nt88 : Tryz.f88.ntmps = 6 := by kernel_rfl
theorem Tryz.en88 : ∀ vs w, (callFunc 88 vs).run Tryz.prog w = .ok (.enter 88 vs) w := enters_of Tryz.func88 (by kernel_rfl) rfl
theorem Tryz.ctr88 {a0 : V} {bx : Boxes} {Kc : V → Boxes → Prop} (h : FinB bx → pw Tryz.prog Tryz.C88 (retQ Tryz.prog [Go.ResultVar.tmp 2] Kc) ⟨6, slk [(0, a0)], bx⟩) : AbsCall Tryz.prog 88 [a0] bx Kc := abs_of (by kernel_rfl) Tryz.func88 Tryz.comp88 Tryz.en88 Tryz.nt88 Tryz.rs88 (fun hb => by rw [initSt_1]; exact h hb)
noncomputable def Tryz.C92 : PC := .seq (.reg false [⟨some 2, Go.Op.assign (Go.Operand.const (Go.Value.bool false)), none, false⟩] [0]) (.seq (.reg false [⟨some 3, Go.Op.move (Go.Operand.tmp 0), none, false⟩,
    ⟨some 4, Go.Op.call { callee := Go.Callee.builtin Go.Builtin.len, args := #[Go.Operand.tmp 3], argTypes := #[9] }, none, false⟩,
    ⟨some 5, Go.Op.binOp Go.BinOp.gtr 3 (Go.Operand.tmp 4) (Go.Operand.const (Go.Value.int Go.IntKind.i64 200)) 3, none, false⟩,
    ⟨some 2, Go.Op.assign (Go.Operand.tmp 5), none, false⟩] [2]) (.ret))
theorem Tryz.comp92 : ∃ c, Tryz.f92.body = some c ∧ compile c = erase Tryz.C92 := ⟨_, rfl, by kernel_rfl⟩
theorem Tryz.rs92 : Tryz.f92.results.toList = [Go.ResultVar.tmp 2] := by kernel_rfl
theorem Tryz.nt92 : Tryz.f92.ntmps = 6 := by kernel_rfl
theorem Tryz.en92 : ∀ vs w, (callFunc 92 vs).run Tryz.prog w = .ok (.enter 92 vs) w := enters_of Tryz.func92 (by kernel_rfl) rfl
theorem Tryz.ctr92 {a0 : V} {bx : Boxes} {Kc : V → Boxes → Prop} (h : FinB bx → pw Tryz.prog Tryz.C92 (retQ Tryz.prog [Go.ResultVar.tmp 2] Kc) ⟨6, slk [(0, a0)], bx⟩) : AbsCall Tryz.prog 92 [a0] bx Kc := abs_of (by kernel_rfl) Tryz.func92 Tryz.comp92 Tryz.en92 Tryz.nt92 Tryz.rs92 (fun hb => by rw [initSt_1]; exact h hb)
noncomputable def Tryz.L93_0 : PC := .seq (.seq (.reg false [⟨some 15, Go.Op.move (Go.Operand.tmp 9), none, false⟩,
    ⟨some 16, Go.Op.move (Go.Operand.tmp 10), none, false⟩,
    ⟨some 17, Go.Op.binOp Go.BinOp.lss 3 (Go.Operand.tmp 15) (Go.Operand.tmp 16) 3, none, false⟩] [0, 1, 2, 8, 9, 10, 17]) (.cond (Go.Operand.tmp 17) (.skip) (.exit 0))) (.block 1 (.seq (.reg false [⟨some 18, Go.Op.move (Go.Operand.tmp 9), none, false⟩,
    ⟨some 19, Go.Op.move (Go.Operand.tmp 10), none, false⟩,
    ⟨some 20, Go.Op.binOp Go.BinOp.add 3 (Go.Operand.tmp 18) (Go.Operand.tmp 19) 3, none, false⟩,
    ⟨some 21, Go.Op.convert 3 110 (Go.Operand.tmp 20), none, false⟩,
    ⟨some 22, Go.Op.binOp Go.BinOp.shr 110 (Go.Operand.tmp 21) (Go.Operand.const (Go.Value.int Go.IntKind.u64 1)) 110, none, false⟩,
    ⟨some 23, Go.Op.convert 110 3 (Go.Operand.tmp 22), none, false⟩,
    ⟨some 11, Go.Op.assign (Go.Operand.tmp 23), none, false⟩] [0, 1, 2, 8, 9, 10, 11]) (.seq (.reg false [⟨some 24, Go.Op.move (Go.Operand.tmp 2), none, false⟩,
    ⟨some 25, Go.Op.move (Go.Operand.tmp 0), none, false⟩,
    ⟨some 26, Go.Op.move (Go.Operand.tmp 11), none, false⟩,
    ⟨some 27, Go.Op.indexAddr 24 (Go.Operand.tmp 25) (Go.Operand.tmp 26), none, false⟩,
    ⟨some 28, Go.Op.load 63 (Go.Operand.tmp 27), none, false⟩,
    ⟨some 29, Go.Op.move (Go.Operand.tmp 1), none, false⟩,
    ⟨some 30, Go.Op.call { callee := Go.Callee.value (Go.Operand.tmp 24), args := #[Go.Operand.tmp 28, Go.Operand.tmp 29], argTypes := #[63, 58] }, none, false⟩,
    ⟨some 31, Go.Op.binOp Go.BinOp.lss 3 (Go.Operand.tmp 30) (Go.Operand.const (Go.Value.int Go.IntKind.i64 0)) 3, none, false⟩] [0, 1, 2, 8, 9, 10, 11, 31]) (.cond (Go.Operand.tmp 31) (.reg false [⟨some 32, Go.Op.move (Go.Operand.tmp 11), none, false⟩,
    ⟨some 33, Go.Op.binOp Go.BinOp.add 3 (Go.Operand.tmp 32) (Go.Operand.const (Go.Value.int Go.IntKind.i64 1)) 3, none, false⟩,
    ⟨some 9, Go.Op.assign (Go.Operand.tmp 33), none, false⟩] [0, 1, 2, 8, 9, 10]) (.reg false [⟨some 34, Go.Op.move (Go.Operand.tmp 11), none, false⟩,
    ⟨some 10, Go.Op.assign (Go.Operand.tmp 34), none, false⟩] [0, 1, 2, 8, 9, 10])))))
noncomputable def Tryz.C93 : PC := .seq (.reg false [⟨some 6, Go.Op.assign (Go.Operand.const (Go.Value.int Go.IntKind.i64 0)), none, false⟩,
    ⟨some 7, Go.Op.assign (Go.Operand.const (Go.Value.bool false)), none, false⟩] [0, 1, 2]) (.seq (.reg false [⟨some 12, Go.Op.move (Go.Operand.tmp 0), none, false⟩,
    ⟨some 13, Go.Op.call { callee := Go.Callee.builtin Go.Builtin.len, args := #[Go.Operand.tmp 12], argTypes := #[24] }, none, false⟩,
    ⟨some 8, Go.Op.assign (Go.Operand.tmp 13), none, false⟩] [0, 1, 2, 8]) (.seq (.reg false [⟨some 14, Go.Op.move (Go.Operand.tmp 8), none, false⟩,
    ⟨some 9, Go.Op.assign (Go.Operand.const (Go.Value.int Go.IntKind.i64 0)), none, false⟩,
    ⟨some 10, Go.Op.assign (Go.Operand.tmp 14), none, false⟩] [0, 1, 2, 8, 9, 10]) (.seq (.block 0 (.loop Tryz.L93_0)) (.seq (.reg false [⟨some 35, Go.Op.move (Go.Operand.tmp 9), none, false⟩,
    ⟨some 36, Go.Op.move (Go.Operand.tmp 9), none, false⟩,
    ⟨some 37, Go.Op.move (Go.Operand.tmp 8), none, false⟩,
    ⟨some 38, Go.Op.binOp Go.BinOp.lss 3 (Go.Operand.tmp 36) (Go.Operand.tmp 37) 3, none, false⟩,
    ⟨some 39, Go.Op.move (Go.Operand.tmp 38), none, false⟩,
    ⟨some 40, Go.Op.move (Go.Operand.tmp 2), some (39, true), false⟩,
    ⟨some 41, Go.Op.move (Go.Operand.tmp 0), some (39, true), false⟩,
    ⟨some 42, Go.Op.move (Go.Operand.tmp 9), some (39, true), false⟩,
    ⟨some 43, Go.Op.indexAddr 24 (Go.Operand.tmp 41) (Go.Operand.tmp 42), some (39, true), false⟩,
    ⟨some 44, Go.Op.load 63 (Go.Operand.tmp 43), some (39, true), false⟩,
    ⟨some 45, Go.Op.move (Go.Operand.tmp 1), some (39, true), false⟩,
    ⟨some 46, Go.Op.call { callee := Go.Callee.value (Go.Operand.tmp 40), args := #[Go.Operand.tmp 44, Go.Operand.tmp 45], argTypes := #[63, 58] }, some (39, true), false⟩,
    ⟨some 47, Go.Op.binOp Go.BinOp.eql 3 (Go.Operand.tmp 46) (Go.Operand.const (Go.Value.int Go.IntKind.i64 0)) 3, some (39, true), false⟩,
    ⟨some 48, Go.Op.pick (Go.Operand.tmp 39) (Go.Operand.tmp 47) (Go.Operand.const (Go.Value.bool false)), none, false⟩,
    ⟨some 6, Go.Op.assign (Go.Operand.tmp 35), none, false⟩,
    ⟨some 7, Go.Op.assign (Go.Operand.tmp 48), none, false⟩] [6, 7]) (.ret)))))
theorem Tryz.comp93 : ∃ c, Tryz.f93.body = some c ∧ compile c = erase Tryz.C93 := ⟨_, rfl, by kernel_rfl⟩
theorem Tryz.rs93 : Tryz.f93.results.toList = [Go.ResultVar.tmp 6, Go.ResultVar.tmp 7] := by kernel_rfl
theorem Tryz.nt93 : Tryz.f93.ntmps = 49 := by kernel_rfl
theorem Tryz.en93 : ∀ vs w, (callFunc 93 vs).run Tryz.prog w = .ok (.enter 93 vs) w := enters_of Tryz.func93 (by kernel_rfl) rfl
theorem Tryz.ctr93 {a0 a1 a2 : V} {bx : Boxes} {Kc : V → Boxes → Prop} (h : FinB bx → pw Tryz.prog Tryz.C93 (retQ Tryz.prog [Go.ResultVar.tmp 6, Go.ResultVar.tmp 7] Kc) ⟨49, slk [(0, a0), (1, a1), (2, a2)], bx⟩) : AbsCall Tryz.prog 93 [a0, a1, a2] bx Kc := abs_of (by kernel_rfl) Tryz.func93 Tryz.comp93 Tryz.en93 Tryz.nt93 Tryz.rs93 (fun hb => by rw [initSt_3]; exact h hb)
noncomputable def Tryz.C94 : PC := .seq (.reg false [⟨some 2, Go.Op.box 63 (Go.Operand.tmp 0), none, true⟩,
    ⟨some 4, Go.Op.assign (Go.Operand.const (Go.Value.int Go.IntKind.i64 0)), none, false⟩] [1, 2]) (.seq (.reg false [⟨some 5, Go.Op.fieldAddr 63 (Go.Operand.tmp 2) 0, none, false⟩,
    ⟨some 6, Go.Op.load 58 (Go.Operand.tmp 5), none, false⟩,
    ⟨some 7, Go.Op.move (Go.Operand.tmp 1), none, false⟩,
    ⟨some 8, Go.Op.call { callee := Go.Callee.value (Go.Operand.func 44), args := #[Go.Operand.tmp 6, Go.Operand.tmp 7], argTypes := #[58, 58] }, none, false⟩,
    ⟨some 4, Go.Op.assign (Go.Operand.tmp 8), none, false⟩] [4]) (.ret))
theorem Tryz.comp94 : ∃ c, Tryz.f94.body = some c ∧ compile c = erase Tryz.C94 := ⟨_, rfl, by kernel_rfl⟩
theorem Tryz.rs94 : Tryz.f94.results.toList = [Go.ResultVar.tmp 4] := by kernel_rfl
theorem Tryz.nt94 : Tryz.f94.ntmps = 9 := by kernel_rfl
theorem Tryz.en94 : ∀ vs w, (callFunc 94 vs).run Tryz.prog w = .ok (.enter 94 vs) w := enters_of Tryz.func94 (by kernel_rfl) rfl
theorem Tryz.ctr94 {a0 a1 : V} {bx : Boxes} {Kc : V → Boxes → Prop} (h : FinB bx → pw Tryz.prog Tryz.C94 (retQ Tryz.prog [Go.ResultVar.tmp 4] Kc) ⟨9, slk [(0, a0), (1, a1)], bx⟩) : AbsCall Tryz.prog 94 [a0, a1] bx Kc := abs_of (by kernel_rfl) Tryz.func94 Tryz.comp94 Tryz.en94 Tryz.nt94 Tryz.rs94 (fun hb => by rw [initSt_2]; exact h hb)
theorem Tryz.en95 : ∀ vs w, (callFunc 95 vs).run Tryz.prog w = .ok (.enter 95 vs) w := enters_of Tryz.func95 (by kernel_rfl) rfl
noncomputable def Tryz.L96_0 : PC := .seq (.reg false [⟨some 9, Go.Op.binOp Go.BinOp.lss 3 (Go.Operand.tmp 8) (Go.Operand.tmp 7) 3, none, false⟩] [0, 1, 7, 8, 9]) (.seq (.cond (Go.Operand.tmp 9) (.skip) (.exit 0)) (.seq (.block 1 (.seq (.reg false [⟨some 10, Go.Op.move (Go.Operand.tmp 8), none, false⟩,
    ⟨some 5, Go.Op.assign (Go.Operand.tmp 10), none, false⟩] [0, 1, 5, 7, 8]) (.seq (.reg false [⟨some 11, Go.Op.move (Go.Operand.tmp 1), none, false⟩,
    ⟨some 12, Go.Op.move (Go.Operand.tmp 0), none, false⟩,
    ⟨some 13, Go.Op.move (Go.Operand.tmp 5), none, false⟩,
    ⟨some 14, Go.Op.indexAddr 23 (Go.Operand.tmp 12) (Go.Operand.tmp 13), none, false⟩,
    ⟨some 15, Go.Op.load 3 (Go.Operand.tmp 14), none, false⟩,
    ⟨some 16, Go.Op.binOp Go.BinOp.eql 3 (Go.Operand.tmp 11) (Go.Operand.tmp 15) 3, none, false⟩] [0, 1, 5, 7, 8, 16]) (.cond (Go.Operand.tmp 16) (.seq (.reg false [⟨some 17, Go.Op.move (Go.Operand.tmp 5), none, false⟩,
    ⟨some 4, Go.Op.assign (Go.Operand.tmp 17), none, false⟩] [4]) (.ret)) (.skip))))) (.reg false [⟨some 18, Go.Op.binOp Go.BinOp.add 3 (Go.Operand.tmp 8) (Go.Operand.const (Go.Value.int Go.IntKind.i64 1)) 3, none, false⟩,
    ⟨some 8, Go.Op.move (Go.Operand.tmp 18), none, false⟩] [0, 1, 7, 8])))
noncomputable def Tryz.C96 : PC := .seq (.reg false [⟨some 4, Go.Op.assign (Go.Operand.const (Go.Value.int Go.IntKind.i64 0)), none, false⟩] [0, 1]) (.seq (.seq (.reg false [⟨some 6, Go.Op.move (Go.Operand.tmp 0), none, false⟩,
    ⟨some 7, Go.Op.call { callee := Go.Callee.builtin Go.Builtin.len, args := #[Go.Operand.tmp 6], argTypes := #[23] }, none, false⟩,
    ⟨some 8, Go.Op.move (Go.Operand.const (Go.Value.int Go.IntKind.i64 0)), none, false⟩] [0, 1, 7, 8]) (.block 0 (.loop Tryz.L96_0))) (.seq (.reg false [⟨some 4, Go.Op.assign (Go.Operand.const (Go.Value.int Go.IntKind.i64 (-1))), none, false⟩] [4]) (.ret)))
theorem Tryz.comp96 : ∃ c, Tryz.f96.body = some c ∧ compile c = erase Tryz.C96 := ⟨_, rfl, by kernel_rfl⟩
theorem Tryz.rs96 : Tryz.f96.results.toList = [Go.ResultVar.tmp 4] := by kernel_rfl
theorem Tryz.nt96 : Tryz.f96.ntmps = 19 := by kernel_rfl
theorem Tryz.en96 : ∀ vs w, (callFunc 96 vs).run Tryz.prog w = .ok (.enter 96 vs) w := enters_of Tryz.func96 (by kernel_rfl) rfl
theorem Tryz.ctr96 {a0 a1 : V} {bx : Boxes} {Kc : V → Boxes → Prop} (h : FinB bx → pw Tryz.prog Tryz.C96 (retQ Tryz.prog [Go.ResultVar.tmp 4] Kc) ⟨19, slk [(0, a0), (1, a1)], bx⟩) : AbsCall Tryz.prog 96 [a0, a1] bx Kc := abs_of (by kernel_rfl) Tryz.func96 Tryz.comp96 Tryz.en96 Tryz.nt96 Tryz.rs96 (fun hb => by rw [initSt_2]; exact h hb)
noncomputable def Tryz.L110_0 : PC := .seq (.reg false [⟨some 12, Go.Op.binOp Go.BinOp.lss 3 (Go.Operand.tmp 11) (Go.Operand.tmp 10) 3, none, false⟩] [0, 1, 9, 10, 11, 12]) (.seq (.cond (Go.Operand.tmp 12) (.skip) (.exit 0)) (.seq (.block 1 (.seq (.reg false [⟨some 13, Go.Op.indexAddr 60 (Go.Operand.tmp 9) (Go.Operand.tmp 11), none, false⟩,
    ⟨some 14, Go.Op.load 5 (Go.Operand.tmp 13), none, false⟩,
    ⟨some 8, Go.Op.assign (Go.Operand.tmp 14), none, false⟩] [0, 1, 8, 9, 10, 11]) (.seq (.reg false [⟨some 15, Go.Op.move (Go.Operand.tmp 0), none, false⟩,
    ⟨some 16, Go.Op.move (Go.Operand.tmp 8), none, false⟩,
    ⟨some 17, Go.Op.convert 5 42 (Go.Operand.tmp 16), none, false⟩,
    ⟨some 18, Go.Op.binOp Go.BinOp.xor 42 (Go.Operand.tmp 15) (Go.Operand.tmp 17) 42, none, false⟩,
    ⟨some 0, Go.Op.assign (Go.Operand.tmp 18), none, false⟩] [0, 1, 9, 10, 11]) (.reg false [⟨some 19, Go.Op.move (Go.Operand.tmp 0), none, false⟩,
    ⟨some 20, Go.Op.move (Go.Operand.tmp 1), none, false⟩,
    ⟨some 21, Go.Op.binOp Go.BinOp.mul 42 (Go.Operand.tmp 19) (Go.Operand.tmp 20) 42, none, false⟩,
    ⟨some 0, Go.Op.assign (Go.Operand.tmp 21), none, false⟩] [0, 1, 9, 10, 11])))) (.reg false [⟨some 22, Go.Op.binOp Go.BinOp.add 3 (Go.Operand.tmp 11) (Go.Operand.const (Go.Value.int Go.IntKind.i64 1)) 3, none, false⟩,
    ⟨some 11, Go.Op.move (Go.Operand.tmp 22), none, false⟩] [0, 1, 9, 10, 11])))
noncomputable def Tryz.C110 : PC := .seq (.reg false [⟨some 6, Go.Op.assign (Go.Operand.const (Go.Value.int Go.IntKind.u64 0)), none, false⟩] [0, 1, 2]) (.seq (.seq (.reg false [⟨some 9, Go.Op.move (Go.Operand.tmp 2), none, false⟩,
    ⟨some 10, Go.Op.call { callee := Go.Callee.builtin Go.Builtin.len, args := #[Go.Operand.tmp 9], argTypes := #[60] }, none, false⟩,
    ⟨some 11, Go.Op.move (Go.Operand.const (Go.Value.int Go.IntKind.i64 0)), none, false⟩] [0, 1, 9, 10, 11]) (.block 0 (.loop Tryz.L110_0))) (.seq (.reg false [⟨some 23, Go.Op.move (Go.Operand.tmp 0), none, false⟩,
    ⟨some 6, Go.Op.assign (Go.Operand.tmp 23), none, false⟩] [6]) (.ret)))
theorem Tryz.comp110 : ∃ c, Tryz.f110.body = some c ∧ compile c = erase Tryz.C110 := ⟨_, rfl, by kernel_rfl⟩
theorem Tryz.rs110 : Tryz.f110.results.toList = [Go.ResultVar.tmp 6] := by kernel_rfl
theorem Tryz.nt110 : Tryz.f110.ntmps = 24 := by kernel_rfl
theorem Tryz.en110 : ∀ vs w, (callFunc 110 vs).run Tryz.prog w = .ok (.enter 110 vs) w := enters_of Tryz.func110 (by kernel_rfl) rfl
theorem Tryz.ctr110 {a0 a1 a2 : V} {bx : Boxes} {Kc : V → Boxes → Prop} (h : FinB bx → pw Tryz.prog Tryz.C110 (retQ Tryz.prog [Go.ResultVar.tmp 6] Kc) ⟨24, slk [(0, a0), (1, a1), (2, a2)], bx⟩) : AbsCall Tryz.prog 110 [a0, a1, a2] bx Kc := abs_of (by kernel_rfl) Tryz.func110 Tryz.comp110 Tryz.en110 Tryz.nt110 Tryz.rs110 (fun hb => by rw [initSt_3]; exact h hb)
noncomputable def Tryz.L111_0 : PC := .seq (.reg false [⟨some 9, Go.Op.binOp Go.BinOp.lss 3 (Go.Operand.tmp 8) (Go.Operand.tmp 7) 3, none, false⟩] [0, 1, 7, 8, 9]) (.seq (.cond (Go.Operand.tmp 9) (.skip) (.exit 0)) (.seq (.block 1 (.seq (.reg false [⟨some 10, Go.Op.move (Go.Operand.tmp 8), none, false⟩,
    ⟨some 5, Go.Op.assign (Go.Operand.tmp 10), none, false⟩] [0, 1, 5, 7, 8]) (.seq (.reg false [⟨some 11, Go.Op.move (Go.Operand.tmp 1), none, false⟩,
    ⟨some 12, Go.Op.move (Go.Operand.tmp 0), none, false⟩,
    ⟨some 13, Go.Op.move (Go.Operand.tmp 5), none, false⟩,
    ⟨some 14, Go.Op.indexAddr 60 (Go.Operand.tmp 12) (Go.Operand.tmp 13), none, false⟩,
    ⟨some 15, Go.Op.load 5 (Go.Operand.tmp 14), none, false⟩,
    ⟨some 16, Go.Op.call { callee := Go.Callee.value (Go.Operand.tmp 11), args := #[Go.Operand.tmp 15], argTypes := #[5] }, none, false⟩] [0, 1, 5, 7, 8, 16]) (.cond (Go.Operand.tmp 16) (.seq (.reg false [⟨some 17, Go.Op.move (Go.Operand.tmp 5), none, false⟩,
    ⟨some 4, Go.Op.assign (Go.Operand.tmp 17), none, false⟩] [4]) (.ret)) (.skip))))) (.reg false [⟨some 18, Go.Op.binOp Go.BinOp.add 3 (Go.Operand.tmp 8) (Go.Operand.const (Go.Value.int Go.IntKind.i64 1)) 3, none, false⟩,
    ⟨some 8, Go.Op.move (Go.Operand.tmp 18), none, false⟩] [0, 1, 7, 8])))
noncomputable def Tryz.C111 : PC := .seq (.reg false [⟨some 4, Go.Op.assign (Go.Operand.const (Go.Value.int Go.IntKind.i64 0)), none, false⟩] [0, 1]) (.seq (.seq (.reg false [⟨some 6, Go.Op.move (Go.Operand.tmp 0), none, false⟩,
    ⟨some 7, Go.Op.call { callee := Go.Callee.builtin Go.Builtin.len, args := #[Go.Operand.tmp 6], argTypes := #[60] }, none, false⟩,
    ⟨some 8, Go.Op.move (Go.Operand.const (Go.Value.int Go.IntKind.i64 0)), none, false⟩] [0, 1, 7, 8]) (.block 0 (.loop Tryz.L111_0))) (.seq (.reg false [⟨some 4, Go.Op.assign (Go.Operand.const (Go.Value.int Go.IntKind.i64 (-1))), none, false⟩] [4]) (.ret)))
theorem Tryz.comp111 : ∃ c, Tryz.f111.body = some c ∧ compile c = erase Tryz.C111 := ⟨_, rfl, by kernel_rfl⟩
theorem Tryz.rs111 : Tryz.f111.results.toList = [Go.ResultVar.tmp 4] := by kernel_rfl
theorem Tryz.nt111 : Tryz.f111.ntmps = 19 := by kernel_rfl
theorem Tryz.en111 : ∀ vs w, (callFunc 111 vs).run Tryz.prog w = .ok (.enter 111 vs) w := enters_of Tryz.func111 (by kernel_rfl) rfl
theorem Tryz.ctr111 {a0 a1 : V} {bx : Boxes} {Kc : V → Boxes → Prop} (h : FinB bx → pw Tryz.prog Tryz.C111 (retQ Tryz.prog [Go.ResultVar.tmp 4] Kc) ⟨19, slk [(0, a0), (1, a1)], bx⟩) : AbsCall Tryz.prog 111 [a0, a1] bx Kc := abs_of (by kernel_rfl) Tryz.func111 Tryz.comp111 Tryz.en111 Tryz.nt111 Tryz.rs111 (fun hb => by rw [initSt_2]; exact h hb)
noncomputable def Tryz.L112_0 : PC := .seq (.reg false [⟨some 9, Go.Op.binOp Go.BinOp.lss 3 (Go.Operand.tmp 8) (Go.Operand.tmp 7) 3, none, false⟩] [0, 1, 7, 8, 9]) (.seq (.cond (Go.Operand.tmp 9) (.skip) (.exit 0)) (.seq (.block 1 (.seq (.reg false [⟨some 10, Go.Op.move (Go.Operand.tmp 8), none, false⟩,
    ⟨some 5, Go.Op.assign (Go.Operand.tmp 10), none, false⟩] [0, 1, 5, 7, 8]) (.seq (.reg false [⟨some 11, Go.Op.move (Go.Operand.tmp 1), none, false⟩,
    ⟨some 12, Go.Op.move (Go.Operand.tmp 0), none, false⟩,
    ⟨some 13, Go.Op.move (Go.Operand.tmp 5), none, false⟩,
    ⟨some 14, Go.Op.indexAddr 22 (Go.Operand.tmp 12) (Go.Operand.tmp 13), none, false⟩,
    ⟨some 15, Go.Op.load 9 (Go.Operand.tmp 14), none, false⟩,
    ⟨some 16, Go.Op.call { callee := Go.Callee.value (Go.Operand.tmp 11), args := #[Go.Operand.tmp 15], argTypes := #[9] }, none, false⟩] [0, 1, 5, 7, 8, 16]) (.cond (Go.Operand.tmp 16) (.seq (.reg false [⟨some 17, Go.Op.move (Go.Operand.tmp 5), none, false⟩,
    ⟨some 4, Go.Op.assign (Go.Operand.tmp 17), none, false⟩] [4]) (.ret)) (.skip))))) (.reg false [⟨some 18, Go.Op.binOp Go.BinOp.add 3 (Go.Operand.tmp 8) (Go.Operand.const (Go.Value.int Go.IntKind.i64 1)) 3, none, false⟩,
    ⟨some 8, Go.Op.move (Go.Operand.tmp 18), none, false⟩] [0, 1, 7, 8])))
noncomputable def Tryz.C112 : PC := .seq (.reg false [⟨some 4, Go.Op.assign (Go.Operand.const (Go.Value.int Go.IntKind.i64 0)), none, false⟩] [0, 1]) (.seq (.seq (.reg false [⟨some 6, Go.Op.move (Go.Operand.tmp 0), none, false⟩,
    ⟨some 7, Go.Op.call { callee := Go.Callee.builtin Go.Builtin.len, args := #[Go.Operand.tmp 6], argTypes := #[22] }, none, false⟩,
    ⟨some 8, Go.Op.move (Go.Operand.const (Go.Value.int Go.IntKind.i64 0)), none, false⟩] [0, 1, 7, 8]) (.block 0 (.loop Tryz.L112_0))) (.seq (.reg false [⟨some 4, Go.Op.assign (Go.Operand.const (Go.Value.int Go.IntKind.i64 (-1))), none, false⟩] [4]) (.ret)))
theorem Tryz.comp112 : ∃ c, Tryz.f112.body = some c ∧ compile c = erase Tryz.C112 := ⟨_, rfl, by kernel_rfl⟩
theorem Tryz.rs112 : Tryz.f112.results.toList = [Go.ResultVar.tmp 4] := by kernel_rfl
theorem Tryz.nt112 : Tryz.f112.ntmps = 19 := by kernel_rfl
theorem Tryz.en112 : ∀ vs w, (callFunc 112 vs).run Tryz.prog w = .ok (.enter 112 vs) w := enters_of Tryz.func112 (by kernel_rfl) rfl
theorem Tryz.ctr112 {a0 a1 : V} {bx : Boxes} {Kc : V → Boxes → Prop} (h : FinB bx → pw Tryz.prog Tryz.C112 (retQ Tryz.prog [Go.ResultVar.tmp 4] Kc) ⟨19, slk [(0, a0), (1, a1)], bx⟩) : AbsCall Tryz.prog 112 [a0, a1] bx Kc := abs_of (by kernel_rfl) Tryz.func112 Tryz.comp112 Tryz.en112 Tryz.nt112 Tryz.rs112 (fun hb => by rw [initSt_2]; exact h hb)
noncomputable def Tryz.C113 : PC := .seq (.reg false [⟨some 2, Go.Op.assign (Go.Operand.const (Go.Value.slice none 0 0)), none, false⟩] [0]) (.seq (.reg false [⟨some 3, Go.Op.move (Go.Operand.tmp 0), none, false⟩,
    ⟨some 4, Go.Op.call { callee := Go.Callee.value (Go.Operand.func 132), args := #[Go.Operand.const (Go.Value.slice none 0 0), Go.Operand.tmp 3], argTypes := #[22, 105] }, none, false⟩,
    ⟨some 2, Go.Op.assign (Go.Operand.tmp 4), none, false⟩] [2]) (.ret))
theorem Tryz.comp113 : ∃ c, Tryz.f113.body = some c ∧ compile c = erase Tryz.C113 := ⟨_, rfl, by kernel_rfl⟩
theorem Tryz.rs113 : Tryz.f113.results.toList = [Go.ResultVar.tmp 2] := by kernel_rfl
theorem Tryz.nt113 : Tryz.f113.ntmps = 5 := by kernel_rfl
theorem Tryz.en113 : ∀ vs w, (callFunc 113 vs).run Tryz.prog w = .ok (.enter 113 vs) w := enters_of Tryz.func113 (by kernel_rfl) rfl
theorem Tryz.ctr113 {a0 : V} {bx : Boxes} {Kc : V → Boxes → Prop} (h : FinB bx → pw Tryz.prog Tryz.C113 (retQ Tryz.prog [Go.ResultVar.tmp 2] Kc) ⟨5, slk [(0, a0)], bx⟩) : AbsCall Tryz.prog 113 [a0] bx Kc := abs_of (by kernel_rfl) Tryz.func113 Tryz.comp113 Tryz.en113 Tryz.nt113 Tryz.rs113 (fun hb => by rw [initSt_1]; exact h hb)
theorem Tryz.en114 : ∀ vs w, (callFunc 114 vs).run Tryz.prog w = .ok (.enter 114 vs) w := enters_of Tryz.func114 (by kernel_rfl) rfl
noncomputable def Tryz.L115_0 : PC := .seq (.reg false [⟨some 8, Go.Op.binOp Go.BinOp.lss 3 (Go.Operand.tmp 7) (Go.Operand.tmp 6) 3, none, false⟩] [0, 5, 6, 7, 8]) (.seq (.cond (Go.Operand.tmp 8) (.skip) (.exit 0)) (.seq (.block 1 (.seq (.reg false [⟨some 9, Go.Op.indexAddr 22 (Go.Operand.tmp 5) (Go.Operand.tmp 7), none, false⟩,
    ⟨some 10, Go.Op.load 9 (Go.Operand.tmp 9), none, false⟩,
    ⟨some 4, Go.Op.assign (Go.Operand.tmp 10), none, false⟩] [0, 4, 5, 6, 7]) (.seq (.reg false [⟨some 11, Go.Op.move (Go.Operand.tmp 0), none, false⟩,
    ⟨some 12, Go.Op.move (Go.Operand.tmp 4), none, false⟩,
    ⟨some 13, Go.Op.call { callee := Go.Callee.value (Go.Operand.tmp 11), args := #[Go.Operand.tmp 12], argTypes := #[9] }, none, false⟩,
    ⟨some 14, Go.Op.unOp Go.UnOp.not 4 (Go.Operand.tmp 13), none, false⟩] [0, 5, 6, 7, 14]) (.cond (Go.Operand.tmp 14) (.ret) (.skip))))) (.reg false [⟨some 15, Go.Op.binOp Go.BinOp.add 3 (Go.Operand.tmp 7) (Go.Operand.const (Go.Value.int Go.IntKind.i64 1)) 3, none, false⟩,
    ⟨some 7, Go.Op.move (Go.Operand.tmp 15), none, false⟩] [0, 5, 6, 7])))
noncomputable def Tryz.C115 : PC := .seq (.reg false [⟨some 5, Go.Op.load 22 (Go.Operand.tmp 1), none, false⟩,
    ⟨some 6, Go.Op.call { callee := Go.Callee.builtin Go.Builtin.len, args := #[Go.Operand.tmp 5], argTypes := #[22] }, none, false⟩,
    ⟨some 7, Go.Op.move (Go.Operand.const (Go.Value.int Go.IntKind.i64 0)), none, false⟩] [0, 5, 6, 7]) (.block 0 (.loop Tryz.L115_0))
theorem Tryz.comp115 : ∃ c, Tryz.f115.body = some c ∧ compile c = erase Tryz.C115 := ⟨_, rfl, by kernel_rfl⟩
theorem Tryz.rs115 : Tryz.f115.results.toList = [] := by kernel_rfl
theorem Tryz.nt115 : Tryz.f115.ntmps = 16 := by kernel_rfl
theorem Tryz.en115 : ∀ vs w, (callFunc 115 vs).run Tryz.prog w = .ok (.enter 115 vs) w := enters_of Tryz.func115 (by kernel_rfl) rfl
theorem Tryz.ctr115 {a0 a1 : V} {bx : Boxes} {Kc : V → Boxes → Prop} (h : FinB bx → pw Tryz.prog Tryz.C115 (retQ Tryz.prog [] Kc) ⟨16, slk [(0, a0), (1, a1)], bx⟩) : AbsCall Tryz.prog 115 [a0, a1] bx Kc := abs_of (by kernel_rfl) Tryz.func115 Tryz.comp115 Tryz.en115 Tryz.nt115 Tryz.rs115 (fun hb => by rw [initSt_2]; exact h hb)
noncomputable def Tryz.L117_0 : PC := .seq (.seq (.reg true [⟨some 18, Go.Op.move (Go.Operand.tmp 9), none, false⟩,
    ⟨some 19, Go.Op.move (Go.Operand.tmp 1), none, false⟩,
    ⟨some 20, Go.Op.binOp Go.BinOp.gtr 3 (Go.Operand.tmp 18) (Go.Operand.tmp 19) 3, none, false⟩,
    ⟨some 21, Go.Op.move (Go.Operand.tmp 20), none, false⟩,
    ⟨some 22, Go.Op.move (Go.Operand.tmp 3), some (21, true), false⟩,
    ⟨some 23, Go.Op.move (Go.Operand.tmp 0), some (21, true), false⟩,
    ⟨some 24, Go.Op.move (Go.Operand.tmp 9), some (21, true), false⟩,
    ⟨some 25, Go.Op.indexAddr 24 (Go.Operand.tmp 23) (Go.Operand.tmp 24), some (21, true), false⟩,
    ⟨some 26, Go.Op.load 63 (Go.Operand.tmp 25), some (21, true), false⟩,
    ⟨some 27, Go.Op.move (Go.Operand.tmp 0), some (21, true), false⟩,
    ⟨some 28, Go.Op.move (Go.Operand.tmp 9), some (21, true), false⟩,
    ⟨some 29, Go.Op.binOp Go.BinOp.sub 3 (Go.Operand.tmp 28) (Go.Operand.const (Go.Value.int Go.IntKind.i64 1)) 3, some (21, true), false⟩,
    ⟨some 30, Go.Op.indexAddr 24 (Go.Operand.tmp 27) (Go.Operand.tmp 29), some (21, true), false⟩,
    ⟨some 31, Go.Op.load 63 (Go.Operand.tmp 30), some (21, true), false⟩,
    ⟨some 32, Go.Op.call { callee := Go.Callee.value (Go.Operand.tmp 22), args := #[Go.Operand.tmp 26, Go.Operand.tmp 31], argTypes := #[63, 63] }, some (21, true), false⟩,
    ⟨some 33, Go.Op.binOp Go.BinOp.lss 3 (Go.Operand.tmp 32) (Go.Operand.const (Go.Value.int Go.IntKind.i64 0)) 3, some (21, true), false⟩,
    ⟨some 34, Go.Op.pick (Go.Operand.tmp 21) (Go.Operand.tmp 33) (Go.Operand.const (Go.Value.bool false)), none, false⟩] [0, 1, 2, 3, 8, 9, 34]) (.cond (Go.Operand.tmp 34) (.skip) (.exit 2))) (.seq (.block 3 (.reg true [⟨some 37, Go.Op.move (Go.Operand.tmp 0), none, false⟩,
    ⟨some 38, Go.Op.move (Go.Operand.tmp 9), none, false⟩,
    ⟨some 39, Go.Op.move (Go.Operand.tmp 0), none, false⟩,
    ⟨some 40, Go.Op.move (Go.Operand.tmp 9), none, false⟩,
    ⟨some 41, Go.Op.binOp Go.BinOp.sub 3 (Go.Operand.tmp 40) (Go.Operand.const (Go.Value.int Go.IntKind.i64 1)) 3, none, false⟩,
    ⟨some 42, Go.Op.move (Go.Operand.tmp 0), none, false⟩,
    ⟨some 43, Go.Op.move (Go.Operand.tmp 9), none, false⟩,
    ⟨some 44, Go.Op.binOp Go.BinOp.sub 3 (Go.Operand.tmp 43) (Go.Operand.const (Go.Value.int Go.IntKind.i64 1)) 3, none, false⟩,
    ⟨some 45, Go.Op.indexAddr 24 (Go.Operand.tmp 42) (Go.Operand.tmp 44), none, false⟩,
    ⟨some 46, Go.Op.load 63 (Go.Operand.tmp 45), none, false⟩,
    ⟨some 47, Go.Op.move (Go.Operand.tmp 0), none, false⟩,
    ⟨some 48, Go.Op.move (Go.Operand.tmp 9), none, false⟩,
    ⟨some 49, Go.Op.indexAddr 24 (Go.Operand.tmp 47) (Go.Operand.tmp 48), none, false⟩,
    ⟨some 50, Go.Op.load 63 (Go.Operand.tmp 49), none, false⟩,
    ⟨some 51, Go.Op.indexAddr 24 (Go.Operand.tmp 37) (Go.Operand.tmp 38), none, false⟩,
    ⟨none, Go.Op.store 63 (Go.Operand.tmp 51) (Go.Operand.tmp 46), none, false⟩,
    ⟨some 52, Go.Op.indexAddr 24 (Go.Operand.tmp 39) (Go.Operand.tmp 41), none, false⟩,
    ⟨none, Go.Op.store 63 (Go.Operand.tmp 52) (Go.Operand.tmp 50), none, false⟩] [0, 1, 2, 3, 8, 9])) (.reg false [⟨some 35, Go.Op.move (Go.Operand.tmp 9), none, false⟩,
    ⟨some 36, Go.Op.binOp Go.BinOp.sub 3 (Go.Operand.tmp 35) (Go.Operand.const (Go.Value.int Go.IntKind.i64 1)) 3, none, false⟩,
    ⟨some 9, Go.Op.assign (Go.Operand.tmp 36), none, false⟩] [0, 1, 2, 3, 8, 9]))
noncomputable def Tryz.L117_1 : PC := .seq (.seq (.reg false [⟨some 12, Go.Op.move (Go.Operand.tmp 8), none, false⟩,
    ⟨some 13, Go.Op.move (Go.Operand.tmp 2), none, false⟩,
    ⟨some 14, Go.Op.binOp Go.BinOp.lss 3 (Go.Operand.tmp 12) (Go.Operand.tmp 13) 3, none, false⟩] [0, 1, 2, 3, 8, 14]) (.cond (Go.Operand.tmp 14) (.skip) (.exit 0))) (.seq (.block 1 (.seq (.reg false [⟨some 17, Go.Op.move (Go.Operand.tmp 8), none, false⟩,
    ⟨some 9, Go.Op.assign (Go.Operand.tmp 17), none, false⟩] [0, 1, 2, 3, 8, 9]) (.block 2 (.loop Tryz.L117_0)))) (.reg false [⟨some 15, Go.Op.move (Go.Operand.tmp 8), none, false⟩,
    ⟨some 16, Go.Op.binOp Go.BinOp.add 3 (Go.Operand.tmp 15) (Go.Operand.const (Go.Value.int Go.IntKind.i64 1)) 3, none, false⟩,
    ⟨some 8, Go.Op.assign (Go.Operand.tmp 16), none, false⟩] [0, 1, 2, 3, 8]))
noncomputable def Tryz.C117 : PC := .seq (.reg false [⟨some 10, Go.Op.move (Go.Operand.tmp 1), none, false⟩,
    ⟨some 11, Go.Op.binOp Go.BinOp.add 3 (Go.Operand.tmp 10) (Go.Operand.const (Go.Value.int Go.IntKind.i64 1)) 3, none, false⟩,
    ⟨some 8, Go.Op.assign (Go.Operand.tmp 11), none, false⟩] [0, 1, 2, 3, 8]) (.block 0 (.loop Tryz.L117_1))
theorem Tryz.comp117 : ∃ c, Tryz.f117.body = some c ∧ compile c = erase Tryz.C117 := ⟨_, rfl, by kernel_rfl⟩
theorem Tryz.rs117 : Tryz.f117.results.toList = [] := by kernel_rfl
theorem Tryz.nt117 : Tryz.f117.ntmps = 53 := by kernel_rfl
theorem Tryz.en117 : ∀ vs w, (callFunc 117 vs).run Tryz.prog w = .ok (.enter 117 vs) w := enters_of Tryz.func117 (by kernel_rfl) rfl
theorem Tryz.ctr117 {a0 a1 a2 a3 : V} {bx : Boxes} {Kc : V → Boxes → Prop} (h : FinB bx → pw Tryz.prog Tryz.C117 (retQ Tryz.prog [] Kc) ⟨53, slk [(0, a0), (1, a1), (2, a2), (3, a3)], bx⟩) : AbsCall Tryz.prog 117 [a0, a1, a2, a3] bx Kc := abs_of (by kernel_rfl) Tryz.func117 Tryz.comp117 Tryz.en117 Tryz.nt117 Tryz.rs117 (fun hb => by rw [initSt_4]; exact h hb)
noncomputable def Tryz.L132_0a : PC := .reg false [⟨some 5, Go.Op.assign (Go.Operand.tmp 7), none, false⟩] [2, 5]
noncomputable def Tryz.L132_0b : PC := .block 1 (.reg false [⟨some 8, Go.Op.load 22 (Go.Operand.tmp 2), none, false⟩,
    ⟨some 9, Go.Op.move (Go.Operand.tmp 5), none, false⟩,
    ⟨some 10, Go.Op.buildSlice 22 1 #[(0, Go.Operand.tmp 9)], none, false⟩,
    ⟨some 11, Go.Op.call { callee := Go.Callee.builtin Go.Builtin.append, args := #[Go.Operand.tmp 8, Go.Operand.tmp 10], argTypes := #[22, 22] }, none, false⟩,
    ⟨none, Go.Op.store 22 (Go.Operand.tmp 2) (Go.Operand.tmp 11), none, false⟩] [])
noncomputable def Tryz.C132 : PC := .seq (.reg false [⟨some 2, Go.Op.box 22 (Go.Operand.tmp 0), none, false⟩,
    ⟨some 4, Go.Op.assign (Go.Operand.const (Go.Value.slice none 0 0)), none, false⟩] [1, 2, 4]) (.seq (.seq (.reg false [⟨some 6, Go.Op.move (Go.Operand.tmp 1), none, false⟩] [2, 4, 6]) (.block 0 (.rangeFunc (Go.Operand.tmp 6) #[7] Tryz.L132_0a Tryz.L132_0b))) (.seq (.reg false [⟨some 12, Go.Op.load 22 (Go.Operand.tmp 2), none, false⟩,
    ⟨some 4, Go.Op.assign (Go.Operand.tmp 12), none, false⟩] [4]) (.ret)))
theorem Tryz.comp132 : ∃ c, Tryz.f132.body = some c ∧ compile c = erase Tryz.C132 := ⟨_, rfl, by kernel_rfl⟩
theorem Tryz.rs132 : Tryz.f132.results.toList = [Go.ResultVar.tmp 4] := by kernel_rfl
theorem Tryz.nt132 : Tryz.f132.ntmps = 13 := by kernel_rfl
theorem Tryz.en132 : ∀ vs w, (callFunc 132 vs).run Tryz.prog w = .ok (.enter 132 vs) w := enters_of Tryz.func132 (by kernel_rfl) rfl
theorem Tryz.ctr132 {a0 a1 : V} {bx : Boxes} {Kc : V → Boxes → Prop} (h : FinB bx → pw Tryz.prog Tryz.C132 (retQ Tryz.prog [Go.ResultVar.tmp 4] Kc) ⟨13, slk [(0, a0), (1, a1)], bx⟩) : AbsCall Tryz.prog 132 [a0, a1] bx Kc := abs_of (by kernel_rfl) Tryz.func132 Tryz.comp132 Tryz.en132 Tryz.nt132 Tryz.rs132 (fun hb => by rw [initSt_2]; exact h hb)
end Go.Proofs
