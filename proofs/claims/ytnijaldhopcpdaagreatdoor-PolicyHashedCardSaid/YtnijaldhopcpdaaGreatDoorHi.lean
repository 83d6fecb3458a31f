/- Texts of the proof, put together: Pe. -/
import Derived.Test.YtnijaldhopcpdaaGreatDoorHg
import Derived.Test.YtnijaldhopcpdaaGreatDoorHc

/- The compact forms of the functions: printed by gen_pc.py. -/
set_option maxRecDepth 100000
namespace Go.Proofs
open Go Go.Pl
noncomputable def Tryz.C6 : PC := .seq (.reg false [⟨some 4, Go.Op.box 26 (Go.Operand.tmp 1), none, true⟩,
    ⟨some 5, Go.Op.box 50 (Go.Operand.tmp 2), none, true⟩,
    ⟨some 6, Go.Op.assign (Go.Operand.const (Go.Value.bool false)), none, false⟩] [0, 4, 5]) (.seq (.seq (.reg false [⟨some 15, Go.Op.move (Go.Operand.tmp 0), none, false⟩,
    ⟨some 16, Go.Op.call { callee := Go.Callee.builtin Go.Builtin.len, args := #[Go.Operand.tmp 15], argTypes := #[48] }, none, false⟩,
    ⟨some 17, Go.Op.binOp Go.BinOp.gtr 3 (Go.Operand.tmp 16) (Go.Operand.const (Go.Value.int Go.IntKind.i64 20)) 3, none, false⟩,
    ⟨some 18, Go.Op.move (Go.Operand.tmp 17), none, false⟩,
    ⟨some 19, Go.Op.load 26 (Go.Operand.tmp 4), some (18, false), false⟩,
    ⟨some 20, Go.Op.call { callee := Go.Callee.value (Go.Operand.func 26), args := #[Go.Operand.tmp 19], argTypes := #[26] }, some (18, false), false⟩,
    ⟨some 21, Go.Op.pick (Go.Operand.tmp 18) (Go.Operand.const (Go.Value.bool true)) (Go.Operand.tmp 20), none, false⟩,
    ⟨some 22, Go.Op.move (Go.Operand.tmp 21), none, false⟩,
    ⟨some 23, Go.Op.fieldAddr 50 (Go.Operand.tmp 5) 0, some (22, false), false⟩,
    ⟨some 24, Go.Op.load 9 (Go.Operand.tmp 23), some (22, false), false⟩,
    ⟨some 25, Go.Op.call { callee := Go.Callee.builtin Go.Builtin.len, args := #[Go.Operand.tmp 24], argTypes := #[9] }, some (22, false), false⟩,
    ⟨some 26, Go.Op.binOp Go.BinOp.gtr 3 (Go.Operand.tmp 25) (Go.Operand.const (Go.Value.int Go.IntKind.i64 300)) 3, some (22, false), false⟩,
    ⟨some 27, Go.Op.pick (Go.Operand.tmp 22) (Go.Operand.const (Go.Value.bool true)) (Go.Operand.tmp 26), none, false⟩] [0, 4, 5, 27]) (.cond (Go.Operand.tmp 27) (.seq (.reg false [⟨some 28, Go.Op.call { callee := Go.Callee.value (Go.Operand.func 27), args := #[], argTypes := #[] }, none, false⟩,
    ⟨some 6, Go.Op.assign (Go.Operand.tmp 28), none, false⟩] [6]) (.ret)) (.skip))) (.seq (.reg false [⟨some 30, Go.Op.move (Go.Operand.tmp 0), none, false⟩,
    ⟨some 31, Go.Op.load 26 (Go.Operand.tmp 4), none, false⟩,
    ⟨some 32, Go.Op.fieldAddr 50 (Go.Operand.tmp 5) 0, none, false⟩,
    ⟨some 33, Go.Op.load 9 (Go.Operand.tmp 32), none, false⟩,
    ⟨some 34, Go.Op.fieldAddr 50 (Go.Operand.tmp 5) 2, none, false⟩,
    ⟨some 35, Go.Op.load 3 (Go.Operand.tmp 34), none, false⟩,
    ⟨some 36, Go.Op.call { callee := Go.Callee.value (Go.Operand.func 28), args := #[Go.Operand.tmp 30, Go.Operand.tmp 31, Go.Operand.tmp 33, Go.Operand.tmp 35], argTypes := #[48, 26, 9, 3] }, none, false⟩,
    ⟨some 29, Go.Op.move (Go.Operand.tmp 36), none, false⟩,
    ⟨some 37, Go.Op.extract (Go.Operand.tmp 29) 0, none, false⟩,
    ⟨some 38, Go.Op.extract (Go.Operand.tmp 29) 1, none, false⟩,
    ⟨some 7, Go.Op.assign (Go.Operand.tmp 37), none, false⟩,
    ⟨some 8, Go.Op.assign (Go.Operand.tmp 38), none, false⟩] [0, 4, 5, 7, 8]) (.seq (.reg false [⟨some 40, Go.Op.move (Go.Operand.tmp 0), none, false⟩,
    ⟨some 41, Go.Op.load 26 (Go.Operand.tmp 4), none, false⟩,
    ⟨some 42, Go.Op.fieldAddr 50 (Go.Operand.tmp 5) 0, none, false⟩,
    ⟨some 43, Go.Op.load 9 (Go.Operand.tmp 42), none, false⟩,
    ⟨some 44, Go.Op.fieldAddr 50 (Go.Operand.tmp 5) 2, none, false⟩,
    ⟨some 45, Go.Op.load 3 (Go.Operand.tmp 44), none, false⟩,
    ⟨some 46, Go.Op.call { callee := Go.Callee.value (Go.Operand.func 29), args := #[Go.Operand.tmp 40, Go.Operand.tmp 41, Go.Operand.tmp 43, Go.Operand.tmp 45], argTypes := #[48, 26, 9, 3] }, none, false⟩,
    ⟨some 39, Go.Op.move (Go.Operand.tmp 46), none, false⟩,
    ⟨some 47, Go.Op.extract (Go.Operand.tmp 39) 0, none, false⟩,
    ⟨some 48, Go.Op.extract (Go.Operand.tmp 39) 1, none, false⟩,
    ⟨some 9, Go.Op.assign (Go.Operand.tmp 47), none, false⟩,
    ⟨some 10, Go.Op.assign (Go.Operand.tmp 48), none, false⟩] [0, 4, 5, 7, 8, 9, 10]) (.seq (.reg false [⟨some 50, Go.Op.move (Go.Operand.tmp 0), none, false⟩,
    ⟨some 51, Go.Op.load 26 (Go.Operand.tmp 4), none, false⟩,
    ⟨some 52, Go.Op.fieldAddr 50 (Go.Operand.tmp 5) 0, none, false⟩,
    ⟨some 53, Go.Op.load 9 (Go.Operand.tmp 52), none, false⟩,
    ⟨some 54, Go.Op.fieldAddr 50 (Go.Operand.tmp 5) 1, none, false⟩,
    ⟨some 55, Go.Op.load 3 (Go.Operand.tmp 54), none, false⟩,
    ⟨some 56, Go.Op.fieldAddr 50 (Go.Operand.tmp 5) 2, none, false⟩,
    ⟨some 57, Go.Op.load 3 (Go.Operand.tmp 56), none, false⟩,
    ⟨some 58, Go.Op.call { callee := Go.Callee.value (Go.Operand.func 30), args := #[Go.Operand.tmp 50, Go.Operand.tmp 51, Go.Operand.tmp 53, Go.Operand.tmp 55, Go.Operand.tmp 57], argTypes := #[48, 26, 9, 3, 3] }, none, false⟩,
    ⟨some 49, Go.Op.move (Go.Operand.tmp 58), none, false⟩,
    ⟨some 59, Go.Op.extract (Go.Operand.tmp 49) 0, none, false⟩,
    ⟨some 60, Go.Op.extract (Go.Operand.tmp 49) 1, none, false⟩,
    ⟨some 11, Go.Op.assign (Go.Operand.tmp 59), none, false⟩,
    ⟨some 12, Go.Op.assign (Go.Operand.tmp 60), none, false⟩] [0, 4, 5, 7, 8, 9, 10, 11, 12]) (.seq (.reg false [⟨some 62, Go.Op.move (Go.Operand.tmp 0), none, false⟩,
    ⟨some 63, Go.Op.load 26 (Go.Operand.tmp 4), none, false⟩,
    ⟨some 64, Go.Op.fieldAddr 50 (Go.Operand.tmp 5) 0, none, false⟩,
    ⟨some 65, Go.Op.load 9 (Go.Operand.tmp 64), none, false⟩,
    ⟨some 66, Go.Op.fieldAddr 50 (Go.Operand.tmp 5) 1, none, false⟩,
    ⟨some 67, Go.Op.load 3 (Go.Operand.tmp 66), none, false⟩,
    ⟨some 68, Go.Op.fieldAddr 50 (Go.Operand.tmp 5) 2, none, false⟩,
    ⟨some 69, Go.Op.load 3 (Go.Operand.tmp 68), none, false⟩,
    ⟨some 70, Go.Op.call { callee := Go.Callee.value (Go.Operand.func 31), args := #[Go.Operand.tmp 62, Go.Operand.tmp 63, Go.Operand.tmp 65, Go.Operand.tmp 67, Go.Operand.tmp 69], argTypes := #[48, 26, 9, 3, 3] }, none, false⟩,
    ⟨some 61, Go.Op.move (Go.Operand.tmp 70), none, false⟩,
    ⟨some 71, Go.Op.extract (Go.Operand.tmp 61) 0, none, false⟩,
    ⟨some 72, Go.Op.extract (Go.Operand.tmp 61) 1, none, false⟩,
    ⟨some 13, Go.Op.assign (Go.Operand.tmp 71), none, false⟩,
    ⟨some 14, Go.Op.assign (Go.Operand.tmp 72), none, false⟩] [7, 8, 9, 10, 11, 12, 13, 14]) (.seq (.reg false [⟨some 73, Go.Op.move (Go.Operand.tmp 7), none, false⟩,
    ⟨some 74, Go.Op.move (Go.Operand.tmp 9), none, false⟩,
    ⟨some 75, Go.Op.binOp Go.BinOp.eql 3 (Go.Operand.tmp 73) (Go.Operand.tmp 74) 3, none, false⟩,
    ⟨some 76, Go.Op.move (Go.Operand.tmp 75), none, false⟩,
    ⟨some 77, Go.Op.move (Go.Operand.tmp 8), some (76, true), false⟩,
    ⟨some 78, Go.Op.move (Go.Operand.tmp 10), some (76, true), false⟩,
    ⟨some 79, Go.Op.binOp Go.BinOp.eql 29 (Go.Operand.tmp 77) (Go.Operand.tmp 78) 29, some (76, true), false⟩,
    ⟨some 80, Go.Op.pick (Go.Operand.tmp 76) (Go.Operand.tmp 79) (Go.Operand.const (Go.Value.bool false)), none, false⟩,
    ⟨some 81, Go.Op.move (Go.Operand.tmp 80), none, false⟩,
    ⟨some 82, Go.Op.move (Go.Operand.tmp 11), some (81, true), false⟩,
    ⟨some 83, Go.Op.move (Go.Operand.tmp 13), some (81, true), false⟩,
    ⟨some 84, Go.Op.binOp Go.BinOp.eql 3 (Go.Operand.tmp 82) (Go.Operand.tmp 83) 3, some (81, true), false⟩,
    ⟨some 85, Go.Op.pick (Go.Operand.tmp 81) (Go.Operand.tmp 84) (Go.Operand.const (Go.Value.bool false)), none, false⟩,
    ⟨some 86, Go.Op.move (Go.Operand.tmp 85), none, false⟩,
    ⟨some 87, Go.Op.move (Go.Operand.tmp 12), some (86, true), false⟩,
    ⟨some 88, Go.Op.move (Go.Operand.tmp 14), some (86, true), false⟩,
    ⟨some 89, Go.Op.binOp Go.BinOp.eql 29 (Go.Operand.tmp 87) (Go.Operand.tmp 88) 29, some (86, true), false⟩,
    ⟨some 90, Go.Op.pick (Go.Operand.tmp 86) (Go.Operand.tmp 89) (Go.Operand.const (Go.Value.bool false)), none, false⟩,
    ⟨some 91, Go.Op.move (Go.Operand.tmp 90), none, false⟩,
    ⟨some 92, Go.Op.call { callee := Go.Callee.value (Go.Operand.func 27), args := #[], argTypes := #[] }, some (91, true), false⟩,
    ⟨some 93, Go.Op.pick (Go.Operand.tmp 91) (Go.Operand.tmp 92) (Go.Operand.const (Go.Value.bool false)), none, false⟩,
    ⟨some 6, Go.Op.assign (Go.Operand.tmp 93), none, false⟩] [6]) (.ret)))))))
theorem Tryz.comp6 : ∃ c, Tryz.f6.body = some c ∧ compile c = erase Tryz.C6 := ⟨_, rfl, by kernel_rfl⟩
theorem Tryz.rs6 : Tryz.f6.results.toList = [Go.ResultVar.tmp 6] := by kernel_rfl
theorem Tryz.nt6 : Tryz.f6.ntmps = 94 := by kernel_rfl
theorem Tryz.en6 : ∀ vs w, (callFunc 6 vs).run Tryz.prog w = .ok (.enter 6 vs) w := enters_of Tryz.func6 (by kernel_rfl) rfl
theorem Tryz.ctr6 {a0 a1 a2 : V} {bx : Boxes} {Kc : V → Boxes → Prop} (h : FinB bx → pw Tryz.prog Tryz.C6 (retQ Tryz.prog [Go.ResultVar.tmp 6] Kc) ⟨94, slk [(0, a0), (1, a1), (2, a2)], bx⟩) : AbsCall Tryz.prog 6 [a0, a1, a2] bx Kc := abs_of (by kernel_rfl) Tryz.func6 Tryz.comp6 Tryz.en6 Tryz.nt6 Tryz.rs6 (fun hb => by rw [initSt_3]; exact h hb)
noncomputable def Tryz.L26_0 : PC := .seq (.seq (.reg false [⟨some 22, Go.Op.move (Go.Operand.tmp 4), none, false⟩,
    ⟨some 23, Go.Op.fieldAddr 26 (Go.Operand.tmp 1) 1, none, false⟩,
    ⟨some 24, Go.Op.load 23 (Go.Operand.tmp 23), none, false⟩,
    ⟨some 25, Go.Op.call { callee := Go.Callee.builtin Go.Builtin.len, args := #[Go.Operand.tmp 24], argTypes := #[23] }, none, false⟩,
    ⟨some 26, Go.Op.binOp Go.BinOp.lss 3 (Go.Operand.tmp 22) (Go.Operand.tmp 25) 3, none, false⟩] [1, 3, 4, 26]) (.cond (Go.Operand.tmp 26) (.skip) (.exit 0))) (.seq (.block 1 (.seq (.reg false [⟨some 29, Go.Op.fieldAddr 26 (Go.Operand.tmp 1) 1, none, false⟩,
    ⟨some 30, Go.Op.load 23 (Go.Operand.tmp 29), none, false⟩,
    ⟨some 31, Go.Op.move (Go.Operand.tmp 4), none, false⟩,
    ⟨some 32, Go.Op.indexAddr 23 (Go.Operand.tmp 30) (Go.Operand.tmp 31), none, false⟩,
    ⟨some 33, Go.Op.load 3 (Go.Operand.tmp 32), none, false⟩,
    ⟨some 34, Go.Op.binOp Go.BinOp.geq 3 (Go.Operand.tmp 33) (Go.Operand.const (Go.Value.int Go.IntKind.i64 0)) 3, none, false⟩,
    ⟨some 35, Go.Op.move (Go.Operand.tmp 34), none, false⟩,
    ⟨some 36, Go.Op.fieldAddr 26 (Go.Operand.tmp 1) 1, some (35, true), false⟩,
    ⟨some 37, Go.Op.load 23 (Go.Operand.tmp 36), some (35, true), false⟩,
    ⟨some 38, Go.Op.move (Go.Operand.tmp 4), some (35, true), false⟩,
    ⟨some 39, Go.Op.indexAddr 23 (Go.Operand.tmp 37) (Go.Operand.tmp 38), some (35, true), false⟩,
    ⟨some 40, Go.Op.load 3 (Go.Operand.tmp 39), some (35, true), false⟩,
    ⟨some 41, Go.Op.binOp Go.BinOp.leq 3 (Go.Operand.tmp 40) (Go.Operand.const (Go.Value.int Go.IntKind.i64 20)) 3, some (35, true), false⟩,
    ⟨some 42, Go.Op.pick (Go.Operand.tmp 35) (Go.Operand.tmp 41) (Go.Operand.const (Go.Value.bool false)), none, false⟩,
    ⟨some 43, Go.Op.move (Go.Operand.tmp 42), none, false⟩,
    ⟨some 44, Go.Op.fieldAddr 26 (Go.Operand.tmp 1) 2, some (43, true), false⟩,
    ⟨some 45, Go.Op.load 3 (Go.Operand.tmp 44), some (43, true), false⟩,
    ⟨some 46, Go.Op.binOp Go.BinOp.geq 3 (Go.Operand.tmp 45) (Go.Operand.const (Go.Value.int Go.IntKind.i64 0)) 3, some (43, true), false⟩,
    ⟨some 47, Go.Op.pick (Go.Operand.tmp 43) (Go.Operand.tmp 46) (Go.Operand.const (Go.Value.bool false)), none, false⟩,
    ⟨some 48, Go.Op.move (Go.Operand.tmp 47), none, false⟩,
    ⟨some 49, Go.Op.fieldAddr 26 (Go.Operand.tmp 1) 2, some (48, true), false⟩,
    ⟨some 50, Go.Op.load 3 (Go.Operand.tmp 49), some (48, true), false⟩,
    ⟨some 51, Go.Op.binOp Go.BinOp.leq 3 (Go.Operand.tmp 50) (Go.Operand.const (Go.Value.int Go.IntKind.i64 100)) 3, some (48, true), false⟩,
    ⟨some 52, Go.Op.pick (Go.Operand.tmp 48) (Go.Operand.tmp 51) (Go.Operand.const (Go.Value.bool false)), none, false⟩] [1, 3, 4, 52]) (.cond (Go.Operand.tmp 52) (.reg true [⟨some 53, Go.Op.move (Go.Operand.tmp 3), none, false⟩,
    ⟨some 54, Go.Op.fieldAddr 26 (Go.Operand.tmp 1) 1, none, false⟩,
    ⟨some 55, Go.Op.load 23 (Go.Operand.tmp 54), none, false⟩,
    ⟨some 56, Go.Op.move (Go.Operand.tmp 4), none, false⟩,
    ⟨some 57, Go.Op.indexAddr 23 (Go.Operand.tmp 55) (Go.Operand.tmp 56), none, false⟩,
    ⟨some 58, Go.Op.load 3 (Go.Operand.tmp 57), none, false⟩,
    ⟨some 59, Go.Op.fieldAddr 26 (Go.Operand.tmp 1) 2, none, false⟩,
    ⟨some 60, Go.Op.load 3 (Go.Operand.tmp 59), none, false⟩,
    ⟨some 61, Go.Op.binOp Go.BinOp.mul 3 (Go.Operand.tmp 58) (Go.Operand.tmp 60) 3, none, false⟩,
    ⟨some 62, Go.Op.binOp Go.BinOp.add 3 (Go.Operand.tmp 53) (Go.Operand.tmp 61) 3, none, false⟩,
    ⟨some 3, Go.Op.assign (Go.Operand.tmp 62), none, false⟩] [1, 3, 4]) (.skip)))) (.reg false [⟨some 27, Go.Op.move (Go.Operand.tmp 4), none, false⟩,
    ⟨some 28, Go.Op.binOp Go.BinOp.add 3 (Go.Operand.tmp 27) (Go.Operand.const (Go.Value.int Go.IntKind.i64 1)) 3, none, false⟩,
    ⟨some 4, Go.Op.assign (Go.Operand.tmp 28), none, false⟩] [1, 3, 4]))
noncomputable def Tryz.L26_1 : PC := .seq (.seq (.reg false [⟨some 63, Go.Op.move (Go.Operand.tmp 5), none, false⟩,
    ⟨some 64, Go.Op.fieldAddr 26 (Go.Operand.tmp 1) 0, none, false⟩,
    ⟨some 65, Go.Op.load 22 (Go.Operand.tmp 64), none, false⟩,
    ⟨some 66, Go.Op.call { callee := Go.Callee.builtin Go.Builtin.len, args := #[Go.Operand.tmp 65], argTypes := #[22] }, none, false⟩,
    ⟨some 67, Go.Op.binOp Go.BinOp.lss 3 (Go.Operand.tmp 63) (Go.Operand.tmp 66) 3, none, false⟩] [1, 3, 5, 67]) (.cond (Go.Operand.tmp 67) (.skip) (.exit 2))) (.seq (.block 3 (.seq (.reg false [⟨some 70, Go.Op.fieldAddr 26 (Go.Operand.tmp 1) 0, none, false⟩,
    ⟨some 71, Go.Op.load 22 (Go.Operand.tmp 70), none, false⟩,
    ⟨some 72, Go.Op.move (Go.Operand.tmp 5), none, false⟩,
    ⟨some 73, Go.Op.indexAddr 22 (Go.Operand.tmp 71) (Go.Operand.tmp 72), none, false⟩,
    ⟨some 74, Go.Op.load 9 (Go.Operand.tmp 73), none, false⟩,
    ⟨some 75, Go.Op.call { callee := Go.Callee.builtin Go.Builtin.len, args := #[Go.Operand.tmp 74], argTypes := #[9] }, none, false⟩,
    ⟨some 76, Go.Op.binOp Go.BinOp.gtr 3 (Go.Operand.tmp 75) (Go.Operand.const (Go.Value.int Go.IntKind.i64 100)) 3, none, false⟩] [1, 3, 5, 76]) (.cond (Go.Operand.tmp 76) (.seq (.reg false [⟨some 2, Go.Op.assign (Go.Operand.const (Go.Value.bool true)), none, false⟩] [2]) (.ret)) (.skip)))) (.reg false [⟨some 68, Go.Op.move (Go.Operand.tmp 5), none, false⟩,
    ⟨some 69, Go.Op.binOp Go.BinOp.add 3 (Go.Operand.tmp 68) (Go.Operand.const (Go.Value.int Go.IntKind.i64 1)) 3, none, false⟩,
    ⟨some 5, Go.Op.assign (Go.Operand.tmp 69), none, false⟩] [1, 3, 5]))
noncomputable def Tryz.C26 : PC := .seq (.reg false [⟨some 1, Go.Op.box 26 (Go.Operand.tmp 0), none, true⟩,
    ⟨some 2, Go.Op.assign (Go.Operand.const (Go.Value.bool false)), none, false⟩] [1]) (.seq (.seq (.reg false [⟨some 6, Go.Op.fieldAddr 26 (Go.Operand.tmp 1) 0, none, false⟩,
    ⟨some 7, Go.Op.load 22 (Go.Operand.tmp 6), none, false⟩,
    ⟨some 8, Go.Op.call { callee := Go.Callee.builtin Go.Builtin.len, args := #[Go.Operand.tmp 7], argTypes := #[22] }, none, false⟩,
    ⟨some 9, Go.Op.binOp Go.BinOp.gtr 3 (Go.Operand.tmp 8) (Go.Operand.const (Go.Value.int Go.IntKind.i64 20)) 3, none, false⟩,
    ⟨some 10, Go.Op.move (Go.Operand.tmp 9), none, false⟩,
    ⟨some 11, Go.Op.fieldAddr 26 (Go.Operand.tmp 1) 1, some (10, false), false⟩,
    ⟨some 12, Go.Op.load 23 (Go.Operand.tmp 11), some (10, false), false⟩,
    ⟨some 13, Go.Op.call { callee := Go.Callee.builtin Go.Builtin.len, args := #[Go.Operand.tmp 12], argTypes := #[23] }, some (10, false), false⟩,
    ⟨some 14, Go.Op.binOp Go.BinOp.gtr 3 (Go.Operand.tmp 13) (Go.Operand.const (Go.Value.int Go.IntKind.i64 20)) 3, some (10, false), false⟩,
    ⟨some 15, Go.Op.pick (Go.Operand.tmp 10) (Go.Operand.const (Go.Value.bool true)) (Go.Operand.tmp 14), none, false⟩,
    ⟨some 16, Go.Op.move (Go.Operand.tmp 15), none, false⟩,
    ⟨some 17, Go.Op.fieldAddr 26 (Go.Operand.tmp 1) 3, some (16, false), false⟩,
    ⟨some 18, Go.Op.load 24 (Go.Operand.tmp 17), some (16, false), false⟩,
    ⟨some 19, Go.Op.call { callee := Go.Callee.builtin Go.Builtin.len, args := #[Go.Operand.tmp 18], argTypes := #[24] }, some (16, false), false⟩,
    ⟨some 20, Go.Op.binOp Go.BinOp.gtr 3 (Go.Operand.tmp 19) (Go.Operand.const (Go.Value.int Go.IntKind.i64 600)) 3, some (16, false), false⟩,
    ⟨some 21, Go.Op.pick (Go.Operand.tmp 16) (Go.Operand.const (Go.Value.bool true)) (Go.Operand.tmp 20), none, false⟩] [1, 21]) (.cond (Go.Operand.tmp 21) (.seq (.reg false [⟨some 2, Go.Op.assign (Go.Operand.const (Go.Value.bool true)), none, false⟩] [2]) (.ret)) (.skip))) (.seq (.reg false [⟨some 3, Go.Op.assign (Go.Operand.const (Go.Value.int Go.IntKind.i64 0)), none, false⟩] [1, 3]) (.seq (.seq (.reg false [⟨some 4, Go.Op.assign (Go.Operand.const (Go.Value.int Go.IntKind.i64 0)), none, false⟩] [1, 3, 4]) (.block 0 (.loop Tryz.L26_0))) (.seq (.seq (.reg false [⟨some 5, Go.Op.assign (Go.Operand.const (Go.Value.int Go.IntKind.i64 0)), none, false⟩] [1, 3, 5]) (.block 2 (.loop Tryz.L26_1))) (.seq (.reg false [⟨some 77, Go.Op.move (Go.Operand.tmp 3), none, false⟩,
    ⟨some 78, Go.Op.binOp Go.BinOp.gtr 3 (Go.Operand.tmp 77) (Go.Operand.const (Go.Value.int Go.IntKind.i64 600)) 3, none, false⟩,
    ⟨some 79, Go.Op.move (Go.Operand.tmp 78), none, false⟩,
    ⟨some 80, Go.Op.move (Go.Operand.tmp 3), some (79, true), false⟩,
    ⟨some 81, Go.Op.binOp Go.BinOp.leq 3 (Go.Operand.tmp 80) (Go.Operand.const (Go.Value.int Go.IntKind.i64 4096)) 3, some (79, true), false⟩,
    ⟨some 82, Go.Op.pick (Go.Operand.tmp 79) (Go.Operand.tmp 81) (Go.Operand.const (Go.Value.bool false)), none, false⟩,
    ⟨some 2, Go.Op.assign (Go.Operand.tmp 82), none, false⟩] [2]) (.ret))))))
theorem Tryz.comp26 : ∃ c, Tryz.f26.body = some c ∧ compile c = erase Tryz.C26 := ⟨_, rfl, by kernel_rfl⟩
theorem Tryz.rs26 : Tryz.f26.results.toList = [Go.ResultVar.tmp 2] := by kernel_rfl
theorem Tryz.nt26 : Tryz.f26.ntmps = 83 := by kernel_rfl
theorem Tryz.en26 : ∀ vs w, (callFunc 26 vs).run Tryz.prog w = .ok (.enter 26 vs) w := enters_of Tryz.func26 (by kernel_rfl) rfl
theorem Tryz.ctr26 {a0 : V} {bx : Boxes} {Kc : V → Boxes → Prop} (h : FinB bx → pw Tryz.prog Tryz.C26 (retQ Tryz.prog [Go.ResultVar.tmp 2] Kc) ⟨83, slk [(0, a0)], bx⟩) : AbsCall Tryz.prog 26 [a0] bx Kc := abs_of (by kernel_rfl) Tryz.func26 Tryz.comp26 Tryz.en26 Tryz.nt26 Tryz.rs26 (fun hb => by rw [initSt_1]; exact h hb)
noncomputable def Tryz.C27 : PC := .seq (.reg false [⟨some 0, Go.Op.assign (Go.Operand.const (Go.Value.bool false)), none, false⟩] []) (.seq (.reg false [⟨some 13, Go.Op.call { callee := Go.Callee.value (Go.Operand.func 60), args := #[], argTypes := #[] }, none, false⟩,
    ⟨some 14, Go.Op.call { callee := Go.Callee.value (Go.Operand.func 59), args := #[Go.Operand.tmp 13, Go.Operand.const (Go.Value.int Go.IntKind.i64 0)], argTypes := #[48, 3] }, none, false⟩,
    ⟨some 12, Go.Op.move (Go.Operand.tmp 14), none, false⟩,
    ⟨some 15, Go.Op.extract (Go.Operand.tmp 12) 0, none, false⟩,
    ⟨some 16, Go.Op.extract (Go.Operand.tmp 12) 1, none, false⟩,
    ⟨some 1, Go.Op.assign (Go.Operand.tmp 15), none, false⟩,
    ⟨some 2, Go.Op.assign (Go.Operand.tmp 16), none, false⟩] [1, 2]) (.seq (.reg false [⟨some 18, Go.Op.call { callee := Go.Callee.value (Go.Operand.func 60), args := #[], argTypes := #[] }, none, false⟩,
    ⟨some 19, Go.Op.call { callee := Go.Callee.value (Go.Operand.func 59), args := #[Go.Operand.tmp 18, Go.Operand.const (Go.Value.int Go.IntKind.i64 4)], argTypes := #[48, 3] }, none, false⟩,
    ⟨some 17, Go.Op.move (Go.Operand.tmp 19), none, false⟩,
    ⟨some 20, Go.Op.extract (Go.Operand.tmp 17) 0, none, false⟩,
    ⟨some 21, Go.Op.extract (Go.Operand.tmp 17) 1, none, false⟩,
    ⟨some 3, Go.Op.assign (Go.Operand.tmp 20), none, false⟩,
    ⟨some 4, Go.Op.assign (Go.Operand.tmp 21), none, false⟩] [1, 2, 3, 4]) (.seq (.reg false [⟨some 23, Go.Op.buildSlice 23 3 #[(0, Go.Operand.const (Go.Value.int Go.IntKind.i64 5)), (1, Go.Operand.const (Go.Value.int Go.IntKind.i64 1)), (2, Go.Operand.const (Go.Value.int Go.IntKind.i64 1))], none, true⟩,
    ⟨some 24, Go.Op.call { callee := Go.Callee.value (Go.Operand.func 61), args := #[Go.Operand.tmp 23], argTypes := #[23] }, none, false⟩,
    ⟨some 22, Go.Op.move (Go.Operand.tmp 24), none, false⟩,
    ⟨some 25, Go.Op.extract (Go.Operand.tmp 22) 0, none, false⟩,
    ⟨some 26, Go.Op.extract (Go.Operand.tmp 22) 1, none, false⟩,
    ⟨some 5, Go.Op.assign (Go.Operand.tmp 25), none, false⟩,
    ⟨some 6, Go.Op.assign (Go.Operand.tmp 26), none, false⟩] [1, 2, 3, 4, 5, 6]) (.seq (.reg false [⟨some 28, Go.Op.call { callee := Go.Callee.value (Go.Operand.func 60), args := #[], argTypes := #[] }, none, false⟩,
    ⟨some 29, Go.Op.call { callee := Go.Callee.value (Go.Operand.func 62), args := #[Go.Operand.tmp 28, Go.Operand.const (Go.Value.int Go.IntKind.i64 0)], argTypes := #[48, 3] }, none, false⟩,
    ⟨some 27, Go.Op.move (Go.Operand.tmp 29), none, false⟩,
    ⟨some 30, Go.Op.extract (Go.Operand.tmp 27) 0, none, false⟩,
    ⟨some 31, Go.Op.extract (Go.Operand.tmp 27) 1, none, false⟩,
    ⟨some 32, Go.Op.extract (Go.Operand.tmp 27) 2, none, false⟩,
    ⟨some 7, Go.Op.assign (Go.Operand.tmp 30), none, false⟩,
    ⟨some 8, Go.Op.assign (Go.Operand.tmp 31), none, false⟩,
    ⟨some 9, Go.Op.assign (Go.Operand.tmp 32), none, false⟩] [1, 2, 3, 4, 5, 6, 7, 8, 9]) (.seq (.reg false [⟨some 34, Go.Op.call { callee := Go.Callee.value (Go.Operand.func 60), args := #[], argTypes := #[] }, none, false⟩,
    ⟨some 35, Go.Op.call { callee := Go.Callee.value (Go.Operand.func 63), args := #[Go.Operand.tmp 34, Go.Operand.const (Go.Value.int Go.IntKind.u32 1), Go.Operand.const (Go.Value.int Go.IntKind.u32 1), Go.Operand.const (Go.Value.int Go.IntKind.i64 0)], argTypes := #[48, 58, 58, 3] }, none, false⟩,
    ⟨some 33, Go.Op.move (Go.Operand.tmp 35), none, false⟩,
    ⟨some 36, Go.Op.extract (Go.Operand.tmp 33) 0, none, false⟩,
    ⟨some 37, Go.Op.extract (Go.Operand.tmp 33) 1, none, false⟩,
    ⟨some 10, Go.Op.assign (Go.Operand.tmp 36), none, false⟩,
    ⟨some 11, Go.Op.assign (Go.Operand.tmp 37), none, false⟩] [1, 2, 3, 4, 5, 6, 7, 8, 9, 10, 11]) (.seq (.seq (.reg false [⟨some 38, Go.Op.move (Go.Operand.tmp 2), none, false⟩,
    ⟨some 39, Go.Op.binOp Go.BinOp.neq 29 (Go.Operand.tmp 38) (Go.Operand.const (Go.Value.int Go.IntKind.i64 0)) 29, none, false⟩,
    ⟨some 40, Go.Op.move (Go.Operand.tmp 39), none, false⟩,
    ⟨some 41, Go.Op.move (Go.Operand.tmp 4), some (40, false), false⟩,
    ⟨some 42, Go.Op.binOp Go.BinOp.neq 29 (Go.Operand.tmp 41) (Go.Operand.const (Go.Value.int Go.IntKind.i64 0)) 29, some (40, false), false⟩,
    ⟨some 43, Go.Op.pick (Go.Operand.tmp 40) (Go.Operand.const (Go.Value.bool true)) (Go.Operand.tmp 42), none, false⟩,
    ⟨some 44, Go.Op.move (Go.Operand.tmp 43), none, false⟩,
    ⟨some 45, Go.Op.move (Go.Operand.tmp 6), some (44, false), false⟩,
    ⟨some 46, Go.Op.binOp Go.BinOp.neq 29 (Go.Operand.tmp 45) (Go.Operand.const (Go.Value.int Go.IntKind.i64 0)) 29, some (44, false), false⟩,
    ⟨some 47, Go.Op.pick (Go.Operand.tmp 44) (Go.Operand.const (Go.Value.bool true)) (Go.Operand.tmp 46), none, false⟩,
    ⟨some 48, Go.Op.move (Go.Operand.tmp 47), none, false⟩,
    ⟨some 49, Go.Op.move (Go.Operand.tmp 9), some (48, false), false⟩,
    ⟨some 50, Go.Op.binOp Go.BinOp.neq 29 (Go.Operand.tmp 49) (Go.Operand.const (Go.Value.int Go.IntKind.i64 0)) 29, some (48, false), false⟩,
    ⟨some 51, Go.Op.pick (Go.Operand.tmp 48) (Go.Operand.const (Go.Value.bool true)) (Go.Operand.tmp 50), none, false⟩,
    ⟨some 52, Go.Op.move (Go.Operand.tmp 51), none, false⟩,
    ⟨some 53, Go.Op.move (Go.Operand.tmp 11), some (52, false), false⟩,
    ⟨some 54, Go.Op.binOp Go.BinOp.neq 29 (Go.Operand.tmp 53) (Go.Operand.const (Go.Value.int Go.IntKind.i64 0)) 29, some (52, false), false⟩,
    ⟨some 55, Go.Op.pick (Go.Operand.tmp 52) (Go.Operand.const (Go.Value.bool true)) (Go.Operand.tmp 54), none, false⟩,
    ⟨some 56, Go.Op.move (Go.Operand.tmp 55), none, false⟩,
    ⟨some 57, Go.Op.move (Go.Operand.tmp 8), some (56, false), false⟩,
    ⟨some 58, Go.Op.call { callee := Go.Callee.builtin Go.Builtin.len, args := #[Go.Operand.tmp 57], argTypes := #[48] }, some (56, false), false⟩,
    ⟨some 59, Go.Op.binOp Go.BinOp.neq 3 (Go.Operand.tmp 58) (Go.Operand.const (Go.Value.int Go.IntKind.i64 3)) 3, some (56, false), false⟩,
    ⟨some 60, Go.Op.pick (Go.Operand.tmp 56) (Go.Operand.const (Go.Value.bool true)) (Go.Operand.tmp 59), none, false⟩] [1, 3, 5, 7, 8, 10, 60]) (.cond (Go.Operand.tmp 60) (.seq (.reg false [⟨some 0, Go.Op.assign (Go.Operand.const (Go.Value.bool false)), none, false⟩] [0]) (.ret)) (.skip))) (.seq (.reg false [⟨some 61, Go.Op.move (Go.Operand.tmp 1), none, false⟩,
    ⟨some 62, Go.Op.binOp Go.BinOp.eql 3 (Go.Operand.tmp 61) (Go.Operand.const (Go.Value.int Go.IntKind.i64 2)) 3, none, false⟩,
    ⟨some 63, Go.Op.move (Go.Operand.tmp 62), none, false⟩,
    ⟨some 64, Go.Op.move (Go.Operand.tmp 3), some (63, true), false⟩,
    ⟨some 65, Go.Op.binOp Go.BinOp.eql 3 (Go.Operand.tmp 64) (Go.Operand.const (Go.Value.int Go.IntKind.i64 0)) 3, some (63, true), false⟩,
    ⟨some 66, Go.Op.pick (Go.Operand.tmp 63) (Go.Operand.tmp 65) (Go.Operand.const (Go.Value.bool false)), none, false⟩,
    ⟨some 67, Go.Op.move (Go.Operand.tmp 66), none, false⟩,
    ⟨some 68, Go.Op.move (Go.Operand.tmp 5), some (67, true), false⟩,
    ⟨some 69, Go.Op.buildSlice 23 7 #[(0, Go.Operand.const (Go.Value.int Go.IntKind.i64 0)), (1, Go.Operand.const (Go.Value.int Go.IntKind.i64 0)), (2, Go.Operand.const (Go.Value.int Go.IntKind.i64 1)), (3, Go.Operand.const (Go.Value.int Go.IntKind.i64 0)), (4, Go.Operand.const (Go.Value.int Go.IntKind.i64 2)), (5, Go.Operand.const (Go.Value.int Go.IntKind.i64 0)), (6, Go.Operand.const (Go.Value.int Go.IntKind.i64 0))], some (67, true), true⟩,
    ⟨some 70, Go.Op.call { callee := Go.Callee.value (Go.Operand.func 64), args := #[Go.Operand.tmp 68, Go.Operand.tmp 69], argTypes := #[23, 23] }, some (67, true), false⟩,
    ⟨some 71, Go.Op.pick (Go.Operand.tmp 67) (Go.Operand.tmp 70) (Go.Operand.const (Go.Value.bool false)), none, false⟩,
    ⟨some 72, Go.Op.move (Go.Operand.tmp 71), none, false⟩,
    ⟨some 73, Go.Op.move (Go.Operand.tmp 7), some (72, true), false⟩,
    ⟨some 74, Go.Op.binOp Go.BinOp.eql 3 (Go.Operand.tmp 73) (Go.Operand.const (Go.Value.int Go.IntKind.i64 0)) 3, some (72, true), false⟩,
    ⟨some 75, Go.Op.pick (Go.Operand.tmp 72) (Go.Operand.tmp 74) (Go.Operand.const (Go.Value.bool false)), none, false⟩,
    ⟨some 76, Go.Op.move (Go.Operand.tmp 75), none, false⟩,
    ⟨some 77, Go.Op.move (Go.Operand.tmp 8), some (76, true), false⟩,
    ⟨some 78, Go.Op.indexAddr 48 (Go.Operand.tmp 77) (Go.Operand.const (Go.Value.int Go.IntKind.i64 0)), some (76, true), false⟩,
    ⟨some 79, Go.Op.fieldAddr 57 (Go.Operand.tmp 78) 2, some (76, true), false⟩,
    ⟨some 80, Go.Op.load 3 (Go.Operand.tmp 79), some (76, true), false⟩,
    ⟨some 81, Go.Op.binOp Go.BinOp.eql 3 (Go.Operand.tmp 80) (Go.Operand.const (Go.Value.int Go.IntKind.i64 (-2))) 3, some (76, true), false⟩,
    ⟨some 82, Go.Op.pick (Go.Operand.tmp 76) (Go.Operand.tmp 81) (Go.Operand.const (Go.Value.bool false)), none, false⟩,
    ⟨some 83, Go.Op.move (Go.Operand.tmp 82), none, false⟩,
    ⟨some 84, Go.Op.move (Go.Operand.tmp 8), some (83, true), false⟩,
    ⟨some 85, Go.Op.indexAddr 48 (Go.Operand.tmp 84) (Go.Operand.const (Go.Value.int Go.IntKind.i64 1)), some (83, true), false⟩,
    ⟨some 86, Go.Op.fieldAddr 57 (Go.Operand.tmp 85) 2, some (83, true), false⟩,
    ⟨some 87, Go.Op.load 3 (Go.Operand.tmp 86), some (83, true), false⟩,
    ⟨some 88, Go.Op.binOp Go.BinOp.eql 3 (Go.Operand.tmp 87) (Go.Operand.const (Go.Value.int Go.IntKind.i64 1)) 3, some (83, true), false⟩,
    ⟨some 89, Go.Op.pick (Go.Operand.tmp 83) (Go.Operand.tmp 88) (Go.Operand.const (Go.Value.bool false)), none, false⟩,
    ⟨some 90, Go.Op.move (Go.Operand.tmp 89), none, false⟩,
    ⟨some 91, Go.Op.move (Go.Operand.tmp 8), some (90, true), false⟩,
    ⟨some 92, Go.Op.indexAddr 48 (Go.Operand.tmp 91) (Go.Operand.const (Go.Value.int Go.IntKind.i64 2)), some (90, true), false⟩,
    ⟨some 93, Go.Op.fieldAddr 57 (Go.Operand.tmp 92) 2, some (90, true), false⟩,
    ⟨some 94, Go.Op.load 3 (Go.Operand.tmp 93), some (90, true), false⟩,
    ⟨some 95, Go.Op.binOp Go.BinOp.eql 3 (Go.Operand.tmp 94) (Go.Operand.const (Go.Value.int Go.IntKind.i64 1)) 3, some (90, true), false⟩,
    ⟨some 96, Go.Op.pick (Go.Operand.tmp 90) (Go.Operand.tmp 95) (Go.Operand.const (Go.Value.bool false)), none, false⟩,
    ⟨some 97, Go.Op.move (Go.Operand.tmp 96), none, false⟩,
    ⟨some 98, Go.Op.move (Go.Operand.tmp 10), some (97, true), false⟩,
    ⟨some 99, Go.Op.binOp Go.BinOp.eql 3 (Go.Operand.tmp 98) (Go.Operand.const (Go.Value.int Go.IntKind.i64 2)) 3, some (97, true), false⟩,
    ⟨some 100, Go.Op.pick (Go.Operand.tmp 97) (Go.Operand.tmp 99) (Go.Operand.const (Go.Value.bool false)), none, false⟩,
    ⟨some 0, Go.Op.assign (Go.Operand.tmp 100), none, false⟩] [0]) (.ret))))))))
theorem Tryz.comp27 : ∃ c, Tryz.f27.body = some c ∧ compile c = erase Tryz.C27 := ⟨_, rfl, by kernel_rfl⟩
theorem Tryz.rs27 : Tryz.f27.results.toList = [Go.ResultVar.tmp 0] := by kernel_rfl
theorem Tryz.nt27 : Tryz.f27.ntmps = 101 := by kernel_rfl
theorem Tryz.en27 : ∀ vs w, (callFunc 27 vs).run Tryz.prog w = .ok (.enter 27 vs) w := enters_of Tryz.func27 (by kernel_rfl) rfl
theorem Tryz.ctr27 {bx : Boxes} {Kc : V → Boxes → Prop} (h : FinB bx → pw Tryz.prog Tryz.C27 (retQ Tryz.prog [Go.ResultVar.tmp 0] Kc) ⟨101, slk [], bx⟩) : AbsCall Tryz.prog 27 [] bx Kc := abs_of (by kernel_rfl) Tryz.func27 Tryz.comp27 Tryz.en27 Tryz.nt27 Tryz.rs27 (fun hb => by rw [initSt_0]; exact h hb)
noncomputable def Tryz.C28 : PC := .seq (.reg false [⟨some 5, Go.Op.box 26 (Go.Operand.tmp 1), none, true⟩,
    ⟨some 8, Go.Op.assign (Go.Operand.const (Go.Value.int Go.IntKind.i64 0)), none, false⟩,
    ⟨some 9, Go.Op.assign (Go.Operand.const (Go.Value.int Go.IntKind.i64 0)), none, false⟩] [0, 2, 3, 5]) (.seq (.reg false [⟨some 13, Go.Op.move (Go.Operand.tmp 0), none, false⟩,
    ⟨some 14, Go.Op.load 26 (Go.Operand.tmp 5), none, false⟩,
    ⟨some 15, Go.Op.move (Go.Operand.tmp 2), none, false⟩,
    ⟨some 16, Go.Op.move (Go.Operand.tmp 3), none, false⟩,
    ⟨some 17, Go.Op.call { callee := Go.Callee.value (Go.Operand.func 65), args := #[Go.Operand.tmp 13, Go.Operand.tmp 14, Go.Operand.tmp 15, Go.Operand.const (Go.Value.int Go.IntKind.i64 100), Go.Operand.tmp 16], argTypes := #[48, 26, 9, 3, 3] }, none, false⟩,
    ⟨some 12, Go.Op.move (Go.Operand.tmp 17), none, false⟩,
    ⟨some 18, Go.Op.extract (Go.Operand.tmp 12) 0, none, false⟩,
    ⟨some 19, Go.Op.extract (Go.Operand.tmp 12) 1, none, false⟩,
    ⟨some 10, Go.Op.assign (Go.Operand.tmp 18), none, false⟩,
    ⟨some 11, Go.Op.assign (Go.Operand.tmp 19), none, false⟩] [10, 11]) (.seq (.seq (.reg false [⟨some 20, Go.Op.move (Go.Operand.tmp 11), none, false⟩,
    ⟨some 21, Go.Op.binOp Go.BinOp.neq 29 (Go.Operand.tmp 20) (Go.Operand.const (Go.Value.int Go.IntKind.i64 0)) 29, none, false⟩] [10, 11, 21]) (.cond (Go.Operand.tmp 21) (.seq (.reg false [⟨some 22, Go.Op.move (Go.Operand.tmp 11), none, false⟩,
    ⟨some 8, Go.Op.assign (Go.Operand.const (Go.Value.int Go.IntKind.i64 0)), none, false⟩,
    ⟨some 9, Go.Op.assign (Go.Operand.tmp 22), none, false⟩] [8, 9]) (.ret)) (.skip))) (.seq (.reg false [⟨some 23, Go.Op.move (Go.Operand.tmp 10), none, false⟩,
    ⟨some 24, Go.Op.indexAddr 23 (Go.Operand.tmp 23) (Go.Operand.const (Go.Value.int Go.IntKind.i64 0)), none, false⟩,
    ⟨some 25, Go.Op.load 3 (Go.Operand.tmp 24), none, false⟩,
    ⟨some 8, Go.Op.assign (Go.Operand.tmp 25), none, false⟩,
    ⟨some 9, Go.Op.assign (Go.Operand.const (Go.Value.int Go.IntKind.i64 0)), none, false⟩] [8, 9]) (.ret))))
theorem Tryz.comp28 : ∃ c, Tryz.f28.body = some c ∧ compile c = erase Tryz.C28 := ⟨_, rfl, by kernel_rfl⟩
theorem Tryz.rs28 : Tryz.f28.results.toList = [Go.ResultVar.tmp 8, Go.ResultVar.tmp 9] := by kernel_rfl
theorem Tryz.nt28 : Tryz.f28.ntmps = 26 := by kernel_rfl
theorem Tryz.en28 : ∀ vs w, (callFunc 28 vs).run Tryz.prog w = .ok (.enter 28 vs) w := enters_of Tryz.func28 (by kernel_rfl) rfl
theorem Tryz.ctr28 {a0 a1 a2 a3 : V} {bx : Boxes} {Kc : V → Boxes → Prop} (h : FinB bx → pw Tryz.prog Tryz.C28 (retQ Tryz.prog [Go.ResultVar.tmp 8, Go.ResultVar.tmp 9] Kc) ⟨26, slk [(0, a0), (1, a1), (2, a2), (3, a3)], bx⟩) : AbsCall Tryz.prog 28 [a0, a1, a2, a3] bx Kc := abs_of (by kernel_rfl) Tryz.func28 Tryz.comp28 Tryz.en28 Tryz.nt28 Tryz.rs28 (fun hb => by rw [initSt_4]; exact h hb)
noncomputable def Tryz.C29 : PC := .seq (.reg false [⟨some 5, Go.Op.box 26 (Go.Operand.tmp 1), none, true⟩,
    ⟨some 8, Go.Op.assign (Go.Operand.const (Go.Value.int Go.IntKind.i64 0)), none, false⟩,
    ⟨some 9, Go.Op.assign (Go.Operand.const (Go.Value.int Go.IntKind.i64 0)), none, false⟩] [0, 2, 3, 5]) (.seq (.reg false [⟨some 13, Go.Op.move (Go.Operand.tmp 0), none, false⟩,
    ⟨some 14, Go.Op.load 26 (Go.Operand.tmp 5), none, false⟩,
    ⟨some 15, Go.Op.move (Go.Operand.tmp 2), none, false⟩,
    ⟨some 16, Go.Op.move (Go.Operand.tmp 3), none, false⟩,
    ⟨some 17, Go.Op.call { callee := Go.Callee.value (Go.Operand.func 66), args := #[Go.Operand.tmp 13, Go.Operand.tmp 14, Go.Operand.tmp 15, Go.Operand.const (Go.Value.int Go.IntKind.i64 100), Go.Operand.tmp 16], argTypes := #[48, 26, 9, 3, 3] }, none, false⟩,
    ⟨some 12, Go.Op.move (Go.Operand.tmp 17), none, false⟩,
    ⟨some 18, Go.Op.extract (Go.Operand.tmp 12) 0, none, false⟩,
    ⟨some 19, Go.Op.extract (Go.Operand.tmp 12) 1, none, false⟩,
    ⟨some 10, Go.Op.assign (Go.Operand.tmp 18), none, false⟩,
    ⟨some 11, Go.Op.assign (Go.Operand.tmp 19), none, false⟩] [10, 11]) (.seq (.seq (.reg false [⟨some 20, Go.Op.move (Go.Operand.tmp 11), none, false⟩,
    ⟨some 21, Go.Op.binOp Go.BinOp.neq 29 (Go.Operand.tmp 20) (Go.Operand.const (Go.Value.int Go.IntKind.i64 0)) 29, none, false⟩] [10, 11, 21]) (.cond (Go.Operand.tmp 21) (.seq (.reg false [⟨some 22, Go.Op.move (Go.Operand.tmp 11), none, false⟩,
    ⟨some 8, Go.Op.assign (Go.Operand.const (Go.Value.int Go.IntKind.i64 0)), none, false⟩,
    ⟨some 9, Go.Op.assign (Go.Operand.tmp 22), none, false⟩] [8, 9]) (.ret)) (.skip))) (.seq (.reg false [⟨some 23, Go.Op.move (Go.Operand.tmp 10), none, false⟩,
    ⟨some 24, Go.Op.indexAddr 23 (Go.Operand.tmp 23) (Go.Operand.const (Go.Value.int Go.IntKind.i64 0)), none, false⟩,
    ⟨some 25, Go.Op.load 3 (Go.Operand.tmp 24), none, false⟩,
    ⟨some 8, Go.Op.assign (Go.Operand.tmp 25), none, false⟩,
    ⟨some 9, Go.Op.assign (Go.Operand.const (Go.Value.int Go.IntKind.i64 0)), none, false⟩] [8, 9]) (.ret))))
theorem Tryz.comp29 : ∃ c, Tryz.f29.body = some c ∧ compile c = erase Tryz.C29 := ⟨_, rfl, by kernel_rfl⟩
theorem Tryz.rs29 : Tryz.f29.results.toList = [Go.ResultVar.tmp 8, Go.ResultVar.tmp 9] := by kernel_rfl
theorem Tryz.nt29 : Tryz.f29.ntmps = 26 := by kernel_rfl
theorem Tryz.en29 : ∀ vs w, (callFunc 29 vs).run Tryz.prog w = .ok (.enter 29 vs) w := enters_of Tryz.func29 (by kernel_rfl) rfl
theorem Tryz.ctr29 {a0 a1 a2 a3 : V} {bx : Boxes} {Kc : V → Boxes → Prop} (h : FinB bx → pw Tryz.prog Tryz.C29 (retQ Tryz.prog [Go.ResultVar.tmp 8, Go.ResultVar.tmp 9] Kc) ⟨26, slk [(0, a0), (1, a1), (2, a2), (3, a3)], bx⟩) : AbsCall Tryz.prog 29 [a0, a1, a2, a3] bx Kc := abs_of (by kernel_rfl) Tryz.func29 Tryz.comp29 Tryz.en29 Tryz.nt29 Tryz.rs29 (fun hb => by rw [initSt_4]; exact h hb)
noncomputable def Tryz.L30_0 : PC := .seq (.reg false [⟨some 35, Go.Op.binOp Go.BinOp.lss 3 (Go.Operand.tmp 34) (Go.Operand.tmp 33) 3, none, false⟩] [5, 8, 12, 14, 15, 32, 33, 34, 35]) (.seq (.cond (Go.Operand.tmp 35) (.skip) (.exit 0)) (.seq (.block 1 (.seq (.reg false [⟨some 36, Go.Op.indexAddr 23 (Go.Operand.tmp 32) (Go.Operand.tmp 34), none, false⟩,
    ⟨some 37, Go.Op.load 3 (Go.Operand.tmp 36), none, false⟩,
    ⟨some 17, Go.Op.assign (Go.Operand.tmp 37), none, false⟩] [5, 8, 12, 14, 15, 17, 32, 33, 34]) (.seq (.reg true [⟨some 38, Go.Op.load 3 (Go.Operand.tmp 14), none, false⟩,
    ⟨some 39, Go.Op.load 48 (Go.Operand.tmp 5), none, false⟩,
    ⟨some 40, Go.Op.move (Go.Operand.tmp 17), none, false⟩,
    ⟨some 41, Go.Op.indexAddr 48 (Go.Operand.tmp 39) (Go.Operand.tmp 40), none, false⟩,
    ⟨some 42, Go.Op.fieldAddr 57 (Go.Operand.tmp 41) 0, none, false⟩,
    ⟨some 43, Go.Op.load 3 (Go.Operand.tmp 42), none, false⟩,
    ⟨some 44, Go.Op.binOp Go.BinOp.add 3 (Go.Operand.tmp 38) (Go.Operand.tmp 43) 3, none, false⟩,
    ⟨none, Go.Op.store 3 (Go.Operand.tmp 14) (Go.Operand.tmp 44), none, false⟩] [5, 8, 12, 14, 15, 17, 32, 33, 34]) (.reg true [⟨some 45, Go.Op.load 3 (Go.Operand.tmp 15), none, false⟩,
    ⟨some 46, Go.Op.load 48 (Go.Operand.tmp 5), none, false⟩,
    ⟨some 47, Go.Op.move (Go.Operand.tmp 17), none, false⟩,
    ⟨some 48, Go.Op.indexAddr 48 (Go.Operand.tmp 46) (Go.Operand.tmp 47), none, false⟩,
    ⟨some 49, Go.Op.fieldAddr 57 (Go.Operand.tmp 48) 1, none, false⟩,
    ⟨some 50, Go.Op.load 3 (Go.Operand.tmp 49), none, false⟩,
    ⟨some 51, Go.Op.binOp Go.BinOp.add 3 (Go.Operand.tmp 45) (Go.Operand.tmp 50) 3, none, false⟩,
    ⟨none, Go.Op.store 3 (Go.Operand.tmp 15) (Go.Operand.tmp 51), none, false⟩] [5, 8, 12, 14, 15, 32, 33, 34])))) (.reg false [⟨some 52, Go.Op.binOp Go.BinOp.add 3 (Go.Operand.tmp 34) (Go.Operand.const (Go.Value.int Go.IntKind.i64 1)) 3, none, false⟩,
    ⟨some 34, Go.Op.move (Go.Operand.tmp 52), none, false⟩] [5, 8, 12, 14, 15, 32, 33, 34])))
noncomputable def Tryz.C30 : PC := .seq (.reg false [⟨some 5, Go.Op.box 48 (Go.Operand.tmp 0), none, true⟩,
    ⟨some 6, Go.Op.box 26 (Go.Operand.tmp 1), none, true⟩,
    ⟨some 8, Go.Op.box 3 (Go.Operand.tmp 3), none, true⟩,
    ⟨some 10, Go.Op.assign (Go.Operand.const (Go.Value.int Go.IntKind.i64 0)), none, false⟩,
    ⟨some 11, Go.Op.assign (Go.Operand.const (Go.Value.int Go.IntKind.i64 0)), none, false⟩] [2, 4, 5, 6, 8]) (.seq (.reg false [⟨some 21, Go.Op.load 48 (Go.Operand.tmp 5), none, false⟩,
    ⟨some 22, Go.Op.load 26 (Go.Operand.tmp 6), none, false⟩,
    ⟨some 23, Go.Op.move (Go.Operand.tmp 2), none, false⟩,
    ⟨some 24, Go.Op.load 3 (Go.Operand.tmp 8), none, false⟩,
    ⟨some 25, Go.Op.move (Go.Operand.tmp 4), none, false⟩,
    ⟨some 26, Go.Op.call { callee := Go.Callee.value (Go.Operand.func 65), args := #[Go.Operand.tmp 21, Go.Operand.tmp 22, Go.Operand.tmp 23, Go.Operand.tmp 24, Go.Operand.tmp 25], argTypes := #[48, 26, 9, 3, 3] }, none, false⟩,
    ⟨some 20, Go.Op.move (Go.Operand.tmp 26), none, false⟩,
    ⟨some 27, Go.Op.extract (Go.Operand.tmp 20) 0, none, false⟩,
    ⟨some 28, Go.Op.extract (Go.Operand.tmp 20) 1, none, false⟩,
    ⟨some 12, Go.Op.assign (Go.Operand.tmp 27), none, false⟩,
    ⟨some 13, Go.Op.assign (Go.Operand.tmp 28), none, false⟩] [5, 8, 12, 13]) (.seq (.seq (.reg false [⟨some 29, Go.Op.move (Go.Operand.tmp 13), none, false⟩,
    ⟨some 30, Go.Op.binOp Go.BinOp.neq 29 (Go.Operand.tmp 29) (Go.Operand.const (Go.Value.int Go.IntKind.i64 0)) 29, none, false⟩] [5, 8, 12, 13, 30]) (.cond (Go.Operand.tmp 30) (.seq (.reg false [⟨some 31, Go.Op.move (Go.Operand.tmp 13), none, false⟩,
    ⟨some 10, Go.Op.assign (Go.Operand.const (Go.Value.int Go.IntKind.i64 0)), none, false⟩,
    ⟨some 11, Go.Op.assign (Go.Operand.tmp 31), none, false⟩] [10, 11]) (.ret)) (.skip))) (.seq (.reg false [⟨some 14, Go.Op.alloc 3, none, false⟩,
    ⟨some 15, Go.Op.alloc 3, none, false⟩,
    ⟨none, Go.Op.store 3 (Go.Operand.tmp 14) (Go.Operand.const (Go.Value.int Go.IntKind.i64 0)), none, false⟩,
    ⟨none, Go.Op.store 3 (Go.Operand.tmp 15) (Go.Operand.const (Go.Value.int Go.IntKind.i64 0)), none, false⟩] [5, 8, 12, 14, 15]) (.seq (.seq (.reg false [⟨some 32, Go.Op.move (Go.Operand.tmp 12), none, false⟩,
    ⟨some 33, Go.Op.call { callee := Go.Callee.builtin Go.Builtin.len, args := #[Go.Operand.tmp 32], argTypes := #[23] }, none, false⟩,
    ⟨some 34, Go.Op.move (Go.Operand.const (Go.Value.int Go.IntKind.i64 0)), none, false⟩] [5, 8, 12, 14, 15, 32, 33, 34]) (.block 0 (.loop Tryz.L30_0))) (.wk (.seq (.reg false [⟨some 53, Go.Op.makeFunc (Go.Fn.func 67) #[] #[Go.Operand.tmp 8, Go.Operand.tmp 15, Go.Operand.tmp 14], none, false⟩,
    ⟨some 18, Go.Op.alloc 89, none, false⟩,
    ⟨none, Go.Op.store 89 (Go.Operand.tmp 18) (Go.Operand.tmp 53), none, false⟩] [5, 12, 18]) (.fz 18 (.seq (.reg false [⟨some 54, Go.Op.move (Go.Operand.tmp 12), none, false⟩,
    ⟨some 55, Go.Op.makeFunc (Go.Fn.func 69) #[] #[Go.Operand.tmp 5, Go.Operand.tmp 18], none, false⟩,
    ⟨some 56, Go.Op.call { callee := Go.Callee.value (Go.Operand.func 68), args := #[Go.Operand.tmp 54, Go.Operand.tmp 55], argTypes := #[23, 91] }, none, false⟩,
    ⟨some 19, Go.Op.assign (Go.Operand.tmp 56), none, false⟩] [12, 19]) (.seq (.reg false [⟨some 57, Go.Op.move (Go.Operand.tmp 12), none, false⟩,
    ⟨some 58, Go.Op.move (Go.Operand.tmp 19), none, false⟩,
    ⟨some 59, Go.Op.call { callee := Go.Callee.builtin Go.Builtin.max, args := #[Go.Operand.tmp 58, Go.Operand.const (Go.Value.int Go.IntKind.i64 0)], argTypes := #[3, 3] }, none, false⟩,
    ⟨some 60, Go.Op.indexAddr 23 (Go.Operand.tmp 57) (Go.Operand.tmp 59), none, false⟩,
    ⟨some 61, Go.Op.load 3 (Go.Operand.tmp 60), none, false⟩,
    ⟨some 10, Go.Op.assign (Go.Operand.tmp 61), none, false⟩,
    ⟨some 11, Go.Op.assign (Go.Operand.const (Go.Value.int Go.IntKind.i64 0)), none, false⟩] [10, 11]) (.ret))))))))))
theorem Tryz.comp30 : ∃ c, Tryz.f30.body = some c ∧ compile c = erase Tryz.C30 := ⟨_, rfl, by kernel_rfl⟩
theorem Tryz.rs30 : Tryz.f30.results.toList = [Go.ResultVar.tmp 10, Go.ResultVar.tmp 11] := by kernel_rfl
theorem Tryz.nt30 : Tryz.f30.ntmps = 62 := by kernel_rfl
theorem Tryz.en30 : ∀ vs w, (callFunc 30 vs).run Tryz.prog w = .ok (.enter 30 vs) w := enters_of Tryz.func30 (by kernel_rfl) rfl
theorem Tryz.ctr30 {a0 a1 a2 a3 a4 : V} {bx : Boxes} {Kc : V → Boxes → Prop} (h : FinB bx → pw Tryz.prog Tryz.C30 (retQ Tryz.prog [Go.ResultVar.tmp 10, Go.ResultVar.tmp 11] Kc) ⟨62, slk [(0, a0), (1, a1), (2, a2), (3, a3), (4, a4)], bx⟩) : AbsCall Tryz.prog 30 [a0, a1, a2, a3, a4] bx Kc := abs_of (by kernel_rfl) Tryz.func30 Tryz.comp30 Tryz.en30 Tryz.nt30 Tryz.rs30 (fun hb => by rw [initSt_5]; exact h hb)
noncomputable def Tryz.L31_0 : PC := .seq (.seq (.reg false [⟨some 31, Go.Op.move (Go.Operand.tmp 16), none, false⟩,
    ⟨some 32, Go.Op.move (Go.Operand.tmp 12), none, false⟩,
    ⟨some 33, Go.Op.call { callee := Go.Callee.builtin Go.Builtin.len, args := #[Go.Operand.tmp 32], argTypes := #[23] }, none, false⟩,
    ⟨some 34, Go.Op.binOp Go.BinOp.lss 3 (Go.Operand.tmp 31) (Go.Operand.tmp 33) 3, none, false⟩] [0, 3, 12, 14, 15, 16, 34]) (.cond (Go.Operand.tmp 34) (.skip) (.exit 0))) (.seq (.block 1 (.seq (.reg false [⟨some 37, Go.Op.move (Go.Operand.tmp 14), none, false⟩,
    ⟨some 38, Go.Op.move (Go.Operand.tmp 0), none, false⟩,
    ⟨some 39, Go.Op.move (Go.Operand.tmp 12), none, false⟩,
    ⟨some 40, Go.Op.move (Go.Operand.tmp 16), none, false⟩,
    ⟨some 41, Go.Op.indexAddr 23 (Go.Operand.tmp 39) (Go.Operand.tmp 40), none, false⟩,
    ⟨some 42, Go.Op.load 3 (Go.Operand.tmp 41), none, false⟩,
    ⟨some 43, Go.Op.indexAddr 48 (Go.Operand.tmp 38) (Go.Operand.tmp 42), none, false⟩,
    ⟨some 44, Go.Op.fieldAddr 57 (Go.Operand.tmp 43) 0, none, false⟩,
    ⟨some 45, Go.Op.load 3 (Go.Operand.tmp 44), none, false⟩,
    ⟨some 46, Go.Op.binOp Go.BinOp.add 3 (Go.Operand.tmp 37) (Go.Operand.tmp 45) 3, none, false⟩,
    ⟨some 14, Go.Op.assign (Go.Operand.tmp 46), none, false⟩] [0, 3, 12, 14, 15, 16]) (.reg false [⟨some 47, Go.Op.move (Go.Operand.tmp 15), none, false⟩,
    ⟨some 48, Go.Op.move (Go.Operand.tmp 0), none, false⟩,
    ⟨some 49, Go.Op.move (Go.Operand.tmp 12), none, false⟩,
    ⟨some 50, Go.Op.move (Go.Operand.tmp 16), none, false⟩,
    ⟨some 51, Go.Op.indexAddr 23 (Go.Operand.tmp 49) (Go.Operand.tmp 50), none, false⟩,
    ⟨some 52, Go.Op.load 3 (Go.Operand.tmp 51), none, false⟩,
    ⟨some 53, Go.Op.indexAddr 48 (Go.Operand.tmp 48) (Go.Operand.tmp 52), none, false⟩,
    ⟨some 54, Go.Op.fieldAddr 57 (Go.Operand.tmp 53) 1, none, false⟩,
    ⟨some 55, Go.Op.load 3 (Go.Operand.tmp 54), none, false⟩,
    ⟨some 56, Go.Op.binOp Go.BinOp.add 3 (Go.Operand.tmp 47) (Go.Operand.tmp 55) 3, none, false⟩,
    ⟨some 15, Go.Op.assign (Go.Operand.tmp 56), none, false⟩] [0, 3, 12, 14, 15, 16]))) (.reg false [⟨some 35, Go.Op.move (Go.Operand.tmp 16), none, false⟩,
    ⟨some 36, Go.Op.binOp Go.BinOp.add 3 (Go.Operand.tmp 35) (Go.Operand.const (Go.Value.int Go.IntKind.i64 1)) 3, none, false⟩,
    ⟨some 16, Go.Op.assign (Go.Operand.tmp 36), none, false⟩] [0, 3, 12, 14, 15, 16]))
noncomputable def Tryz.L31_1 : PC := .seq (.seq (.reg false [⟨some 57, Go.Op.move (Go.Operand.tmp 17), none, false⟩,
    ⟨some 58, Go.Op.move (Go.Operand.tmp 12), none, false⟩,
    ⟨some 59, Go.Op.call { callee := Go.Callee.builtin Go.Builtin.len, args := #[Go.Operand.tmp 58], argTypes := #[23] }, none, false⟩,
    ⟨some 60, Go.Op.binOp Go.BinOp.lss 3 (Go.Operand.tmp 57) (Go.Operand.tmp 59) 3, none, false⟩] [0, 3, 12, 14, 15, 17, 60]) (.cond (Go.Operand.tmp 60) (.skip) (.exit 2))) (.seq (.block 3 (.seq (.reg false [⟨some 63, Go.Op.move (Go.Operand.tmp 0), none, false⟩,
    ⟨some 64, Go.Op.move (Go.Operand.tmp 12), none, false⟩,
    ⟨some 65, Go.Op.move (Go.Operand.tmp 17), none, false⟩,
    ⟨some 66, Go.Op.indexAddr 23 (Go.Operand.tmp 64) (Go.Operand.tmp 65), none, false⟩,
    ⟨some 67, Go.Op.load 3 (Go.Operand.tmp 66), none, false⟩,
    ⟨some 68, Go.Op.indexAddr 48 (Go.Operand.tmp 63) (Go.Operand.tmp 67), none, false⟩,
    ⟨some 69, Go.Op.load 57 (Go.Operand.tmp 68), none, false⟩,
    ⟨some 18, Go.Op.alloc 57, none, false⟩,
    ⟨none, Go.Op.store 57 (Go.Operand.tmp 18) (Go.Operand.tmp 69), none, false⟩] [0, 3, 12, 14, 15, 17, 18]) (.fz 18 (.seq (.reg false [⟨some 70, Go.Op.fieldAddr 57 (Go.Operand.tmp 18) 1, none, false⟩,
    ⟨some 71, Go.Op.load 3 (Go.Operand.tmp 70), none, false⟩,
    ⟨some 72, Go.Op.binOp Go.BinOp.mul 3 (Go.Operand.tmp 71) (Go.Operand.const (Go.Value.int Go.IntKind.i64 100)) 3, none, false⟩,
    ⟨some 73, Go.Op.move (Go.Operand.tmp 14), none, false⟩,
    ⟨some 74, Go.Op.binOp Go.BinOp.mul 3 (Go.Operand.tmp 72) (Go.Operand.tmp 73) 3, none, false⟩,
    ⟨some 75, Go.Op.move (Go.Operand.tmp 3), none, false⟩,
    ⟨some 76, Go.Op.move (Go.Operand.tmp 15), none, false⟩,
    ⟨some 77, Go.Op.binOp Go.BinOp.add 3 (Go.Operand.tmp 76) (Go.Operand.const (Go.Value.int Go.IntKind.i64 1)) 3, none, false⟩,
    ⟨some 78, Go.Op.binOp Go.BinOp.mul 3 (Go.Operand.tmp 75) (Go.Operand.tmp 77) 3, none, false⟩,
    ⟨some 79, Go.Op.fieldAddr 57 (Go.Operand.tmp 18) 0, none, false⟩,
    ⟨some 80, Go.Op.load 3 (Go.Operand.tmp 79), none, false⟩,
    ⟨some 81, Go.Op.binOp Go.BinOp.mul 3 (Go.Operand.tmp 78) (Go.Operand.tmp 80) 3, none, false⟩,
    ⟨some 82, Go.Op.binOp Go.BinOp.lss 3 (Go.Operand.tmp 74) (Go.Operand.tmp 81) 3, none, false⟩] [0, 3, 12, 14, 15, 17, 82]) (.cond (Go.Operand.tmp 82) (.seq (.reg false [⟨some 83, Go.Op.move (Go.Operand.tmp 12), none, false⟩,
    ⟨some 84, Go.Op.move (Go.Operand.tmp 17), none, false⟩,
    ⟨some 85, Go.Op.indexAddr 23 (Go.Operand.tmp 83) (Go.Operand.tmp 84), none, false⟩,
    ⟨some 86, Go.Op.load 3 (Go.Operand.tmp 85), none, false⟩,
    ⟨some 10, Go.Op.assign (Go.Operand.tmp 86), none, false⟩,
    ⟨some 11, Go.Op.assign (Go.Operand.const (Go.Value.int Go.IntKind.i64 0)), none, false⟩] [10, 11]) (.ret)) (.skip)))))) (.reg false [⟨some 61, Go.Op.move (Go.Operand.tmp 17), none, false⟩,
    ⟨some 62, Go.Op.binOp Go.BinOp.add 3 (Go.Operand.tmp 61) (Go.Operand.const (Go.Value.int Go.IntKind.i64 1)) 3, none, false⟩,
    ⟨some 17, Go.Op.assign (Go.Operand.tmp 62), none, false⟩] [0, 3, 12, 14, 15, 17]))
noncomputable def Tryz.C31 : PC := .seq (.reg false [⟨some 6, Go.Op.box 26 (Go.Operand.tmp 1), none, true⟩,
    ⟨some 10, Go.Op.assign (Go.Operand.const (Go.Value.int Go.IntKind.i64 0)), none, false⟩,
    ⟨some 11, Go.Op.assign (Go.Operand.const (Go.Value.int Go.IntKind.i64 0)), none, false⟩] [0, 2, 3, 4, 6]) (.seq (.reg false [⟨some 20, Go.Op.move (Go.Operand.tmp 0), none, false⟩,
    ⟨some 21, Go.Op.load 26 (Go.Operand.tmp 6), none, false⟩,
    ⟨some 22, Go.Op.move (Go.Operand.tmp 2), none, false⟩,
    ⟨some 23, Go.Op.move (Go.Operand.tmp 3), none, false⟩,
    ⟨some 24, Go.Op.move (Go.Operand.tmp 4), none, false⟩,
    ⟨some 25, Go.Op.call { callee := Go.Callee.value (Go.Operand.func 66), args := #[Go.Operand.tmp 20, Go.Operand.tmp 21, Go.Operand.tmp 22, Go.Operand.tmp 23, Go.Operand.tmp 24], argTypes := #[48, 26, 9, 3, 3] }, none, false⟩,
    ⟨some 19, Go.Op.move (Go.Operand.tmp 25), none, false⟩,
    ⟨some 26, Go.Op.extract (Go.Operand.tmp 19) 0, none, false⟩,
    ⟨some 27, Go.Op.extract (Go.Operand.tmp 19) 1, none, false⟩,
    ⟨some 12, Go.Op.assign (Go.Operand.tmp 26), none, false⟩,
    ⟨some 13, Go.Op.assign (Go.Operand.tmp 27), none, false⟩] [0, 3, 12, 13]) (.seq (.seq (.reg false [⟨some 28, Go.Op.move (Go.Operand.tmp 13), none, false⟩,
    ⟨some 29, Go.Op.binOp Go.BinOp.neq 29 (Go.Operand.tmp 28) (Go.Operand.const (Go.Value.int Go.IntKind.i64 0)) 29, none, false⟩] [0, 3, 12, 13, 29]) (.cond (Go.Operand.tmp 29) (.seq (.reg false [⟨some 30, Go.Op.move (Go.Operand.tmp 13), none, false⟩,
    ⟨some 10, Go.Op.assign (Go.Operand.const (Go.Value.int Go.IntKind.i64 0)), none, false⟩,
    ⟨some 11, Go.Op.assign (Go.Operand.tmp 30), none, false⟩] [10, 11]) (.ret)) (.skip))) (.seq (.reg false [⟨some 14, Go.Op.assign (Go.Operand.const (Go.Value.int Go.IntKind.i64 0)), none, false⟩,
    ⟨some 15, Go.Op.assign (Go.Operand.const (Go.Value.int Go.IntKind.i64 0)), none, false⟩] [0, 3, 12, 14, 15]) (.seq (.seq (.reg false [⟨some 16, Go.Op.assign (Go.Operand.const (Go.Value.int Go.IntKind.i64 0)), none, false⟩] [0, 3, 12, 14, 15, 16]) (.block 0 (.loop Tryz.L31_0))) (.seq (.seq (.reg false [⟨some 17, Go.Op.assign (Go.Operand.const (Go.Value.int Go.IntKind.i64 0)), none, false⟩] [0, 3, 12, 14, 15, 17]) (.block 2 (.loop Tryz.L31_1))) (.seq (.reg false [⟨some 10, Go.Op.assign (Go.Operand.const (Go.Value.int Go.IntKind.i64 0)), none, false⟩,
    ⟨some 11, Go.Op.assign (Go.Operand.const (Go.Value.int Go.IntKind.i64 4)), none, false⟩] [10, 11]) (.ret)))))))
theorem Tryz.comp31 : ∃ c, Tryz.f31.body = some c ∧ compile c = erase Tryz.C31 := ⟨_, rfl, by kernel_rfl⟩
theorem Tryz.rs31 : Tryz.f31.results.toList = [Go.ResultVar.tmp 10, Go.ResultVar.tmp 11] := by kernel_rfl
theorem Tryz.nt31 : Tryz.f31.ntmps = 87 := by kernel_rfl
theorem Tryz.en31 : ∀ vs w, (callFunc 31 vs).run Tryz.prog w = .ok (.enter 31 vs) w := enters_of Tryz.func31 (by kernel_rfl) rfl
theorem Tryz.ctr31 {a0 a1 a2 a3 a4 : V} {bx : Boxes} {Kc : V → Boxes → Prop} (h : FinB bx → pw Tryz.prog Tryz.C31 (retQ Tryz.prog [Go.ResultVar.tmp 10, Go.ResultVar.tmp 11] Kc) ⟨87, slk [(0, a0), (1, a1), (2, a2), (3, a3), (4, a4)], bx⟩) : AbsCall Tryz.prog 31 [a0, a1, a2, a3, a4] bx Kc := abs_of (by kernel_rfl) Tryz.func31 Tryz.comp31 Tryz.en31 Tryz.nt31 Tryz.rs31 (fun hb => by rw [initSt_5]; exact h hb)
noncomputable def Tryz.C32 : PC := .seq (.reg false [⟨some 4, Go.Op.assign (Go.Operand.const (Go.Value.slice none 0 0)), none, false⟩,
    ⟨some 5, Go.Op.assign (Go.Operand.const (Go.Value.int Go.IntKind.i64 0)), none, false⟩] [0, 1]) (.seq (.seq (.reg false [⟨some 7, Go.Op.move (Go.Operand.tmp 0), none, false⟩,
    ⟨some 8, Go.Op.move (Go.Operand.tmp 1), none, false⟩,
    ⟨some 9, Go.Op.call { callee := Go.Callee.value (Go.Operand.func 70), args := #[Go.Operand.tmp 7, Go.Operand.tmp 8], argTypes := #[48, 3] }, none, false⟩,
    ⟨some 6, Go.Op.assign (Go.Operand.tmp 9), none, false⟩] [0, 1, 6]) (.seq (.reg false [⟨some 10, Go.Op.move (Go.Operand.tmp 6), none, false⟩,
    ⟨some 11, Go.Op.binOp Go.BinOp.neq 29 (Go.Operand.tmp 10) (Go.Operand.const (Go.Value.int Go.IntKind.i64 0)) 29, none, false⟩] [0, 1, 6, 11]) (.cond (Go.Operand.tmp 11) (.seq (.reg false [⟨some 12, Go.Op.move (Go.Operand.tmp 6), none, false⟩,
    ⟨some 4, Go.Op.assign (Go.Operand.const (Go.Value.slice none 0 0)), none, false⟩,
    ⟨some 5, Go.Op.assign (Go.Operand.tmp 12), none, false⟩] [4, 5]) (.ret)) (.skip)))) (.seq (.reg false [⟨some 13, Go.Op.move (Go.Operand.tmp 0), none, false⟩,
    ⟨some 14, Go.Op.move (Go.Operand.tmp 1), none, false⟩,
    ⟨some 15, Go.Op.call { callee := Go.Callee.value (Go.Operand.func 72), args := #[Go.Operand.tmp 13, Go.Operand.tmp 14], argTypes := #[48, 3] }, none, false⟩,
    ⟨some 16, Go.Op.call { callee := Go.Callee.value (Go.Operand.func 71), args := #[Go.Operand.tmp 15], argTypes := #[95] }, none, false⟩,
    ⟨some 4, Go.Op.assign (Go.Operand.tmp 16), none, false⟩,
    ⟨some 5, Go.Op.assign (Go.Operand.const (Go.Value.int Go.IntKind.i64 0)), none, false⟩] [4, 5]) (.ret)))
theorem Tryz.comp32 : ∃ c, Tryz.f32.body = some c ∧ compile c = erase Tryz.C32 := ⟨_, rfl, by kernel_rfl⟩
theorem Tryz.rs32 : Tryz.f32.results.toList = [Go.ResultVar.tmp 4, Go.ResultVar.tmp 5] := by kernel_rfl
theorem Tryz.nt32 : Tryz.f32.ntmps = 17 := by kernel_rfl
theorem Tryz.en32 : ∀ vs w, (callFunc 32 vs).run Tryz.prog w = .ok (.enter 32 vs) w := enters_of Tryz.func32 (by kernel_rfl) rfl
theorem Tryz.ctr32 {a0 a1 : V} {bx : Boxes} {Kc : V → Boxes → Prop} (h : FinB bx → pw Tryz.prog Tryz.C32 (retQ Tryz.prog [Go.ResultVar.tmp 4, Go.ResultVar.tmp 5] Kc) ⟨17, slk [(0, a0), (1, a1)], bx⟩) : AbsCall Tryz.prog 32 [a0, a1] bx Kc := abs_of (by kernel_rfl) Tryz.func32 Tryz.comp32 Tryz.en32 Tryz.nt32 Tryz.rs32 (fun hb => by rw [initSt_2]; exact h hb)
noncomputable def Tryz.L33_0 : PC := .seq (.seq (.reg false [⟨some 6, Go.Op.move (Go.Operand.tmp 5), none, false⟩,
    ⟨some 7, Go.Op.move (Go.Operand.tmp 0), none, false⟩,
    ⟨some 8, Go.Op.call { callee := Go.Callee.builtin Go.Builtin.len, args := #[Go.Operand.tmp 7], argTypes := #[23] }, none, false⟩,
    ⟨some 9, Go.Op.binOp Go.BinOp.lss 3 (Go.Operand.tmp 6) (Go.Operand.tmp 8) 3, none, false⟩] [0, 1, 5, 9]) (.cond (Go.Operand.tmp 9) (.skip) (.exit 0))) (.seq (.block 1 (.seq (.reg false [⟨some 12, Go.Op.move (Go.Operand.tmp 0), none, false⟩,
    ⟨some 13, Go.Op.move (Go.Operand.tmp 5), none, false⟩,
    ⟨some 14, Go.Op.indexAddr 23 (Go.Operand.tmp 12) (Go.Operand.tmp 13), none, false⟩,
    ⟨some 15, Go.Op.load 3 (Go.Operand.tmp 14), none, false⟩,
    ⟨some 16, Go.Op.move (Go.Operand.tmp 1), none, false⟩,
    ⟨some 17, Go.Op.binOp Go.BinOp.eql 3 (Go.Operand.tmp 15) (Go.Operand.tmp 16) 3, none, false⟩] [0, 1, 5, 17]) (.cond (Go.Operand.tmp 17) (.seq (.reg false [⟨some 4, Go.Op.assign (Go.Operand.const (Go.Value.bool true)), none, false⟩] [4]) (.ret)) (.skip)))) (.reg false [⟨some 10, Go.Op.move (Go.Operand.tmp 5), none, false⟩,
    ⟨some 11, Go.Op.binOp Go.BinOp.add 3 (Go.Operand.tmp 10) (Go.Operand.const (Go.Value.int Go.IntKind.i64 1)) 3, none, false⟩,
    ⟨some 5, Go.Op.assign (Go.Operand.tmp 11), none, false⟩] [0, 1, 5]))
noncomputable def Tryz.C33 : PC := .seq (.reg false [⟨some 4, Go.Op.assign (Go.Operand.const (Go.Value.bool false)), none, false⟩] [0, 1]) (.seq (.seq (.reg false [⟨some 5, Go.Op.assign (Go.Operand.const (Go.Value.int Go.IntKind.i64 0)), none, false⟩] [0, 1, 5]) (.block 0 (.loop Tryz.L33_0))) (.seq (.reg false [⟨some 4, Go.Op.assign (Go.Operand.const (Go.Value.bool false)), none, false⟩] [4]) (.ret)))
theorem Tryz.comp33 : ∃ c, Tryz.f33.body = some c ∧ compile c = erase Tryz.C33 := ⟨_, rfl, by kernel_rfl⟩
theorem Tryz.rs33 : Tryz.f33.results.toList = [Go.ResultVar.tmp 4] := by kernel_rfl
theorem Tryz.nt33 : Tryz.f33.ntmps = 18 := by kernel_rfl
theorem Tryz.en33 : ∀ vs w, (callFunc 33 vs).run Tryz.prog w = .ok (.enter 33 vs) w := enters_of Tryz.func33 (by kernel_rfl) rfl
theorem Tryz.ctr33 {a0 a1 : V} {bx : Boxes} {Kc : V → Boxes → Prop} (h : FinB bx → pw Tryz.prog Tryz.C33 (retQ Tryz.prog [Go.ResultVar.tmp 4] Kc) ⟨18, slk [(0, a0), (1, a1)], bx⟩) : AbsCall Tryz.prog 33 [a0, a1] bx Kc := abs_of (by kernel_rfl) Tryz.func33 Tryz.comp33 Tryz.en33 Tryz.nt33 Tryz.rs33 (fun hb => by rw [initSt_2]; exact h hb)
noncomputable def Tryz.L59_0a : PC := .reg false [⟨some 8, Go.Op.assign (Go.Operand.tmp 18), none, false⟩] [2, 7, 8]
noncomputable def Tryz.L59_0b : PC := .block 1 (.seq (.reg true [⟨some 19, Go.Op.load 3 (Go.Operand.tmp 7), none, false⟩,
    ⟨some 20, Go.Op.binOp Go.BinOp.lss 3 (Go.Operand.tmp 19) (Go.Operand.const (Go.Value.int Go.IntKind.i64 0)) 3, none, false⟩,
    ⟨some 21, Go.Op.move (Go.Operand.tmp 20), none, false⟩,
    ⟨some 22, Go.Op.load 48 (Go.Operand.tmp 2), some (21, false), false⟩,
    ⟨some 23, Go.Op.move (Go.Operand.tmp 8), some (21, false), false⟩,
    ⟨some 24, Go.Op.indexAddr 48 (Go.Operand.tmp 22) (Go.Operand.tmp 23), some (21, false), false⟩,
    ⟨some 25, Go.Op.load 57 (Go.Operand.tmp 24), some (21, false), false⟩,
    ⟨some 26, Go.Op.load 48 (Go.Operand.tmp 2), some (21, false), false⟩,
    ⟨some 27, Go.Op.load 3 (Go.Operand.tmp 7), some (21, false), false⟩,
    ⟨some 28, Go.Op.indexAddr 48 (Go.Operand.tmp 26) (Go.Operand.tmp 27), some (21, false), false⟩,
    ⟨some 29, Go.Op.load 57 (Go.Operand.tmp 28), some (21, false), false⟩,
    ⟨some 30, Go.Op.call { callee := Go.Callee.value (Go.Operand.func 97), args := #[Go.Operand.tmp 25, Go.Operand.tmp 29], argTypes := #[57, 57] }, some (21, false), false⟩,
    ⟨some 31, Go.Op.pick (Go.Operand.tmp 21) (Go.Operand.const (Go.Value.bool true)) (Go.Operand.tmp 30), none, false⟩] [7, 8, 31]) (.cond (Go.Operand.tmp 31) (.reg false [⟨some 32, Go.Op.move (Go.Operand.tmp 8), none, false⟩,
    ⟨none, Go.Op.store 3 (Go.Operand.tmp 7) (Go.Operand.tmp 32), none, false⟩] []) (.skip)))
noncomputable def Tryz.C59 : PC := .seq (.reg false [⟨some 2, Go.Op.box 48 (Go.Operand.tmp 0), none, true⟩,
    ⟨some 4, Go.Op.assign (Go.Operand.const (Go.Value.int Go.IntKind.i64 0)), none, false⟩,
    ⟨some 5, Go.Op.assign (Go.Operand.const (Go.Value.int Go.IntKind.i64 0)), none, false⟩] [1, 2, 4, 5]) (.seq (.seq (.reg false [⟨some 9, Go.Op.load 48 (Go.Operand.tmp 2), none, false⟩,
    ⟨some 10, Go.Op.move (Go.Operand.tmp 1), none, false⟩,
    ⟨some 11, Go.Op.call { callee := Go.Callee.value (Go.Operand.func 70), args := #[Go.Operand.tmp 9, Go.Operand.tmp 10], argTypes := #[48, 3] }, none, false⟩,
    ⟨some 6, Go.Op.assign (Go.Operand.tmp 11), none, false⟩] [1, 2, 4, 5, 6]) (.seq (.reg false [⟨some 12, Go.Op.move (Go.Operand.tmp 6), none, false⟩,
    ⟨some 13, Go.Op.binOp Go.BinOp.neq 29 (Go.Operand.tmp 12) (Go.Operand.const (Go.Value.int Go.IntKind.i64 0)) 29, none, false⟩] [1, 2, 4, 5, 6, 13]) (.cond (Go.Operand.tmp 13) (.seq (.reg false [⟨some 14, Go.Op.move (Go.Operand.tmp 6), none, false⟩,
    ⟨some 4, Go.Op.assign (Go.Operand.const (Go.Value.int Go.IntKind.i64 0)), none, false⟩,
    ⟨some 5, Go.Op.assign (Go.Operand.tmp 14), none, false⟩] [4, 5]) (.ret)) (.skip)))) (.seq (.reg false [⟨some 7, Go.Op.alloc 3, none, false⟩,
    ⟨none, Go.Op.store 3 (Go.Operand.tmp 7) (Go.Operand.const (Go.Value.int Go.IntKind.i64 (-1))), none, false⟩] [1, 2, 4, 5, 7]) (.seq (.seq (.reg false [⟨some 15, Go.Op.load 48 (Go.Operand.tmp 2), none, false⟩,
    ⟨some 16, Go.Op.move (Go.Operand.tmp 1), none, false⟩,
    ⟨some 17, Go.Op.call { callee := Go.Callee.value (Go.Operand.func 72), args := #[Go.Operand.tmp 15, Go.Operand.tmp 16], argTypes := #[48, 3] }, none, false⟩] [2, 4, 5, 7, 17]) (.block 0 (.rangeFunc (Go.Operand.tmp 17) #[18] Tryz.L59_0a Tryz.L59_0b))) (.seq (.seq (.reg false [⟨some 33, Go.Op.load 3 (Go.Operand.tmp 7), none, false⟩,
    ⟨some 34, Go.Op.binOp Go.BinOp.lss 3 (Go.Operand.tmp 33) (Go.Operand.const (Go.Value.int Go.IntKind.i64 0)) 3, none, false⟩] [7, 34]) (.cond (Go.Operand.tmp 34) (.seq (.reg false [⟨some 4, Go.Op.assign (Go.Operand.const (Go.Value.int Go.IntKind.i64 0)), none, false⟩,
    ⟨some 5, Go.Op.assign (Go.Operand.const (Go.Value.int Go.IntKind.i64 4)), none, false⟩] [4, 5]) (.ret)) (.skip))) (.seq (.reg false [⟨some 35, Go.Op.load 3 (Go.Operand.tmp 7), none, false⟩,
    ⟨some 4, Go.Op.assign (Go.Operand.tmp 35), none, false⟩,
    ⟨some 5, Go.Op.assign (Go.Operand.const (Go.Value.int Go.IntKind.i64 0)), none, false⟩] [4, 5]) (.ret))))))
theorem Tryz.comp59 : ∃ c, Tryz.f59.body = some c ∧ compile c = erase Tryz.C59 := ⟨_, rfl, by kernel_rfl⟩
theorem Tryz.rs59 : Tryz.f59.results.toList = [Go.ResultVar.tmp 4, Go.ResultVar.tmp 5] := by kernel_rfl
theorem Tryz.nt59 : Tryz.f59.ntmps = 36 := by kernel_rfl
theorem Tryz.en59 : ∀ vs w, (callFunc 59 vs).run Tryz.prog w = .ok (.enter 59 vs) w := enters_of Tryz.func59 (by kernel_rfl) rfl
theorem Tryz.ctr59 {a0 a1 : V} {bx : Boxes} {Kc : V → Boxes → Prop} (h : FinB bx → pw Tryz.prog Tryz.C59 (retQ Tryz.prog [Go.ResultVar.tmp 4, Go.ResultVar.tmp 5] Kc) ⟨36, slk [(0, a0), (1, a1)], bx⟩) : AbsCall Tryz.prog 59 [a0, a1] bx Kc := abs_of (by kernel_rfl) Tryz.func59 Tryz.comp59 Tryz.en59 Tryz.nt59 Tryz.rs59 (fun hb => by rw [initSt_2]; exact h hb)
noncomputable def Tryz.C60 : PC := .seq (.reg false [⟨some 0, Go.Op.assign (Go.Operand.const (Go.Value.slice none 0 0)), none, false⟩] []) (.seq (.reg false [⟨some 1, Go.Op.build 57 #[(0, Go.Operand.const (Go.Value.int Go.IntKind.i64 5)), (1, Go.Operand.const (Go.Value.int Go.IntKind.i64 4)), (3, Go.Operand.const (Go.Value.bool true))], none, false⟩,
    ⟨some 2, Go.Op.build 57 #[(0, Go.Operand.const (Go.Value.int Go.IntKind.i64 1)), (1, Go.Operand.const (Go.Value.int Go.IntKind.i64 1)), (3, Go.Operand.const (Go.Value.bool true))], none, false⟩,
    ⟨some 3, Go.Op.build 57 #[(0, Go.Operand.const (Go.Value.int Go.IntKind.i64 1)), (3, Go.Operand.const (Go.Value.bool true))], none, false⟩,
    ⟨some 4, Go.Op.buildSlice 48 3 #[(0, Go.Operand.tmp 1), (1, Go.Operand.tmp 2), (2, Go.Operand.tmp 3)], none, false⟩,
    ⟨some 0, Go.Op.assign (Go.Operand.tmp 4), none, false⟩] [0]) (.ret))
theorem Tryz.comp60 : ∃ c, Tryz.f60.body = some c ∧ compile c = erase Tryz.C60 := ⟨_, rfl, by kernel_rfl⟩
theorem Tryz.rs60 : Tryz.f60.results.toList = [Go.ResultVar.tmp 0] := by kernel_rfl
theorem Tryz.nt60 : Tryz.f60.ntmps = 5 := by kernel_rfl
theorem Tryz.en60 : ∀ vs w, (callFunc 60 vs).run Tryz.prog w = .ok (.enter 60 vs) w := enters_of Tryz.func60 (by kernel_rfl) rfl
theorem Tryz.ctr60 {bx : Boxes} {Kc : V → Boxes → Prop} (h : FinB bx → pw Tryz.prog Tryz.C60 (retQ Tryz.prog [Go.ResultVar.tmp 0] Kc) ⟨5, slk [], bx⟩) : AbsCall Tryz.prog 60 [] bx Kc := abs_of (by kernel_rfl) Tryz.func60 Tryz.comp60 Tryz.en60 Tryz.nt60 Tryz.rs60 (fun hb => by rw [initSt_0]; exact h hb)
noncomputable def Tryz.L61_0 : PC := .seq (.reg false [⟨some 16, Go.Op.binOp Go.BinOp.lss 3 (Go.Operand.tmp 15) (Go.Operand.tmp 14) 3, none, false⟩] [0, 4, 5, 13, 14, 15, 16]) (.seq (.cond (Go.Operand.tmp 16) (.skip) (.exit 0)) (.seq (.block 1 (.seq (.reg false [⟨some 17, Go.Op.indexAddr 23 (Go.Operand.tmp 13) (Go.Operand.tmp 15), none, false⟩,
    ⟨some 18, Go.Op.load 3 (Go.Operand.tmp 17), none, false⟩,
    ⟨some 7, Go.Op.assign (Go.Operand.tmp 18), none, false⟩] [0, 4, 5, 7, 13, 14, 15]) (.seq (.reg false [⟨some 19, Go.Op.move (Go.Operand.tmp 4), none, false⟩,
    ⟨some 20, Go.Op.move (Go.Operand.tmp 7), none, false⟩,
    ⟨some 21, Go.Op.build 57 #[(0, Go.Operand.tmp 20), (3, Go.Operand.const (Go.Value.bool true))], none, false⟩,
    ⟨some 22, Go.Op.buildSlice 48 1 #[(0, Go.Operand.tmp 21)], none, false⟩,
    ⟨some 23, Go.Op.call { callee := Go.Callee.builtin Go.Builtin.append, args := #[Go.Operand.tmp 19, Go.Operand.tmp 22], argTypes := #[48, 48] }, none, false⟩,
    ⟨some 4, Go.Op.assign (Go.Operand.tmp 23), none, false⟩] [0, 4, 5, 7, 13, 14, 15]) (.reg false [⟨some 24, Go.Op.move (Go.Operand.tmp 5), none, false⟩,
    ⟨some 25, Go.Op.move (Go.Operand.tmp 7), none, false⟩,
    ⟨some 26, Go.Op.call { callee := Go.Callee.builtin Go.Builtin.max, args := #[Go.Operand.tmp 25, Go.Operand.const (Go.Value.int Go.IntKind.i64 0)], argTypes := #[3, 3] }, none, false⟩,
    ⟨some 27, Go.Op.call { callee := Go.Callee.builtin Go.Builtin.min, args := #[Go.Operand.tmp 26, Go.Operand.const (Go.Value.int Go.IntKind.i64 1)], argTypes := #[3, 3] }, none, false⟩,
    ⟨some 28, Go.Op.binOp Go.BinOp.add 3 (Go.Operand.tmp 24) (Go.Operand.tmp 27) 3, none, false⟩,
    ⟨some 5, Go.Op.assign (Go.Operand.tmp 28), none, false⟩] [0, 4, 5, 13, 14, 15])))) (.reg false [⟨some 29, Go.Op.binOp Go.BinOp.add 3 (Go.Operand.tmp 15) (Go.Operand.const (Go.Value.int Go.IntKind.i64 1)) 3, none, false⟩,
    ⟨some 15, Go.Op.move (Go.Operand.tmp 29), none, false⟩] [0, 4, 5, 13, 14, 15])))
noncomputable def Tryz.L61_1 : PC := .seq (.seq (.reg false [⟨some 44, Go.Op.move (Go.Operand.tmp 4), none, false⟩,
    ⟨some 45, Go.Op.call { callee := Go.Callee.value (Go.Operand.func 101), args := #[Go.Operand.tmp 44, Go.Operand.func 102], argTypes := #[48, 124] }, none, false⟩] [4, 8, 45]) (.cond (Go.Operand.tmp 45) (.skip) (.exit 3))) (.block 4 (.reg false [⟨some 46, Go.Op.move (Go.Operand.tmp 8), none, false⟩,
    ⟨some 47, Go.Op.move (Go.Operand.tmp 4), none, false⟩,
    ⟨some 48, Go.Op.call { callee := Go.Callee.value (Go.Operand.func 100), args := #[Go.Operand.tmp 47, Go.Operand.const (Go.Value.int Go.IntKind.i64 0)], argTypes := #[48, 3] }, none, false⟩,
    ⟨some 49, Go.Op.buildSlice 23 1 #[(0, Go.Operand.tmp 48)], none, false⟩,
    ⟨some 50, Go.Op.call { callee := Go.Callee.builtin Go.Builtin.append, args := #[Go.Operand.tmp 46, Go.Operand.tmp 49], argTypes := #[23, 23] }, none, false⟩,
    ⟨some 8, Go.Op.assign (Go.Operand.tmp 50), none, false⟩] [4, 8]))
noncomputable def Tryz.C61 : PC := .seq (.reg false [⟨some 2, Go.Op.assign (Go.Operand.const (Go.Value.slice none 0 0)), none, false⟩,
    ⟨some 3, Go.Op.assign (Go.Operand.const (Go.Value.int Go.IntKind.i64 0)), none, false⟩] [0]) (.seq (.reg false [⟨some 4, Go.Op.assign (Go.Operand.const (Go.Value.slice none 0 0)), none, false⟩] [0, 4]) (.seq (.reg false [⟨some 5, Go.Op.assign (Go.Operand.const (Go.Value.int Go.IntKind.i64 0)), none, false⟩] [0, 4, 5]) (.seq (.seq (.reg false [⟨some 9, Go.Op.move (Go.Operand.tmp 0), none, false⟩,
    ⟨some 10, Go.Op.move (Go.Operand.tmp 0), none, false⟩,
    ⟨some 11, Go.Op.call { callee := Go.Callee.builtin Go.Builtin.len, args := #[Go.Operand.tmp 10], argTypes := #[23] }, none, false⟩,
    ⟨some 12, Go.Op.call { callee := Go.Callee.builtin Go.Builtin.min, args := #[Go.Operand.tmp 11, Go.Operand.const (Go.Value.int Go.IntKind.i64 16)], argTypes := #[3, 3] }, none, false⟩,
    ⟨some 13, Go.Op.slice 23 (Go.Operand.tmp 9) none (some (Go.Operand.tmp 12)) none, none, false⟩,
    ⟨some 14, Go.Op.call { callee := Go.Callee.builtin Go.Builtin.len, args := #[Go.Operand.tmp 13], argTypes := #[23] }, none, false⟩,
    ⟨some 15, Go.Op.move (Go.Operand.const (Go.Value.int Go.IntKind.i64 0)), none, false⟩] [0, 4, 5, 13, 14, 15]) (.block 0 (.loop Tryz.L61_0))) (.seq (.block 2 (.seq (.reg false [⟨some 31, Go.Op.move (Go.Operand.tmp 0), none, false⟩,
    ⟨some 32, Go.Op.call { callee := Go.Callee.builtin Go.Builtin.len, args := #[Go.Operand.tmp 31], argTypes := #[23] }, none, false⟩,
    ⟨some 33, Go.Op.call { callee := Go.Callee.value (Go.Operand.func 98), args := #[Go.Operand.tmp 32, Go.Operand.const (Go.Value.int Go.IntKind.i64 1), Go.Operand.const (Go.Value.int Go.IntKind.i64 16)], argTypes := #[3, 3, 3] }, none, false⟩,
    ⟨some 30, Go.Op.assign (Go.Operand.tmp 33), none, false⟩] [4, 5, 30]) (.cond (Go.Operand.tmp 30) (.seq (.reg false [⟨some 2, Go.Op.assign (Go.Operand.const (Go.Value.slice none 0 0)), none, false⟩,
    ⟨some 3, Go.Op.assign (Go.Operand.const (Go.Value.int Go.IntKind.i64 3)), none, false⟩] [2, 3]) (.ret)) (.seq (.reg false [⟨some 35, Go.Op.move (Go.Operand.tmp 4), none, false⟩,
    ⟨some 36, Go.Op.call { callee := Go.Callee.value (Go.Operand.func 99), args := #[Go.Operand.tmp 35], argTypes := #[48] }, none, false⟩,
    ⟨some 37, Go.Op.binOp Go.BinOp.neq 29 (Go.Operand.tmp 36) (Go.Operand.const (Go.Value.int Go.IntKind.i64 0)) 29, none, false⟩,
    ⟨some 34, Go.Op.assign (Go.Operand.tmp 37), none, false⟩] [4, 5, 34]) (.cond (Go.Operand.tmp 34) (.seq (.reg false [⟨some 2, Go.Op.assign (Go.Operand.const (Go.Value.slice none 0 0)), none, false⟩,
    ⟨some 3, Go.Op.assign (Go.Operand.const (Go.Value.int Go.IntKind.i64 7)), none, false⟩] [2, 3]) (.ret)) (.seq (.reg false [⟨some 39, Go.Op.move (Go.Operand.tmp 5), none, false⟩,
    ⟨some 40, Go.Op.binOp Go.BinOp.eql 3 (Go.Operand.tmp 39) (Go.Operand.const (Go.Value.int Go.IntKind.i64 0)) 3, none, false⟩,
    ⟨some 38, Go.Op.assign (Go.Operand.tmp 40), none, false⟩] [4, 38]) (.cond (Go.Operand.tmp 38) (.seq (.reg false [⟨some 2, Go.Op.assign (Go.Operand.const (Go.Value.slice none 0 0)), none, false⟩,
    ⟨some 3, Go.Op.assign (Go.Operand.const (Go.Value.int Go.IntKind.i64 4)), none, false⟩] [2, 3]) (.ret)) (.skip)))))))) (.seq (.reg false [⟨some 41, Go.Op.move (Go.Operand.tmp 4), none, false⟩,
    ⟨some 42, Go.Op.call { callee := Go.Callee.value (Go.Operand.func 100), args := #[Go.Operand.tmp 41, Go.Operand.const (Go.Value.int Go.IntKind.i64 0)], argTypes := #[48, 3] }, none, false⟩,
    ⟨some 43, Go.Op.buildSlice 23 1 #[(0, Go.Operand.tmp 42)], none, false⟩,
    ⟨some 8, Go.Op.assign (Go.Operand.tmp 43), none, false⟩] [4, 8]) (.seq (.block 3 (.loop Tryz.L61_1)) (.seq (.reg false [⟨some 51, Go.Op.move (Go.Operand.tmp 8), none, false⟩,
    ⟨some 2, Go.Op.assign (Go.Operand.tmp 51), none, false⟩,
    ⟨some 3, Go.Op.assign (Go.Operand.const (Go.Value.int Go.IntKind.i64 0)), none, false⟩] [2, 3]) (.ret))))))))
theorem Tryz.comp61 : ∃ c, Tryz.f61.body = some c ∧ compile c = erase Tryz.C61 := ⟨_, rfl, by kernel_rfl⟩
theorem Tryz.rs61 : Tryz.f61.results.toList = [Go.ResultVar.tmp 2, Go.ResultVar.tmp 3] := by kernel_rfl
theorem Tryz.nt61 : Tryz.f61.ntmps = 52 := by kernel_rfl
theorem Tryz.en61 : ∀ vs w, (callFunc 61 vs).run Tryz.prog w = .ok (.enter 61 vs) w := enters_of Tryz.func61 (by kernel_rfl) rfl
theorem Tryz.ctr61 {a0 : V} {bx : Boxes} {Kc : V → Boxes → Prop} (h : FinB bx → pw Tryz.prog Tryz.C61 (retQ Tryz.prog [Go.ResultVar.tmp 2, Go.ResultVar.tmp 3] Kc) ⟨52, slk [(0, a0)], bx⟩) : AbsCall Tryz.prog 61 [a0] bx Kc := abs_of (by kernel_rfl) Tryz.func61 Tryz.comp61 Tryz.en61 Tryz.nt61 Tryz.rs61 (fun hb => by rw [initSt_1]; exact h hb)
noncomputable def Tryz.C62 : PC := .seq (.reg false [⟨some 4, Go.Op.assign (Go.Operand.const (Go.Value.int Go.IntKind.i64 0)), none, false⟩,
    ⟨some 5, Go.Op.assign (Go.Operand.const (Go.Value.slice none 0 0)), none, false⟩,
    ⟨some 6, Go.Op.assign (Go.Operand.const (Go.Value.int Go.IntKind.i64 0)), none, false⟩] [0, 1]) (.seq (.seq (.reg false [⟨some 10, Go.Op.move (Go.Operand.tmp 0), none, false⟩,
    ⟨some 11, Go.Op.move (Go.Operand.tmp 1), none, false⟩,
    ⟨some 12, Go.Op.call { callee := Go.Callee.value (Go.Operand.func 70), args := #[Go.Operand.tmp 10, Go.Operand.tmp 11], argTypes := #[48, 3] }, none, false⟩,
    ⟨some 7, Go.Op.assign (Go.Operand.tmp 12), none, false⟩] [0, 1, 7]) (.seq (.reg false [⟨some 13, Go.Op.move (Go.Operand.tmp 7), none, false⟩,
    ⟨some 14, Go.Op.binOp Go.BinOp.neq 29 (Go.Operand.tmp 13) (Go.Operand.const (Go.Value.int Go.IntKind.i64 0)) 29, none, false⟩] [0, 1, 7, 14]) (.cond (Go.Operand.tmp 14) (.seq (.reg false [⟨some 15, Go.Op.move (Go.Operand.tmp 7), none, false⟩,
    ⟨some 4, Go.Op.assign (Go.Operand.const (Go.Value.int Go.IntKind.i64 0)), none, false⟩,
    ⟨some 5, Go.Op.assign (Go.Operand.const (Go.Value.slice none 0 0)), none, false⟩,
    ⟨some 6, Go.Op.assign (Go.Operand.tmp 15), none, false⟩] [4, 5, 6]) (.ret)) (.skip)))) (.seq (.reg false [⟨some 16, Go.Op.move (Go.Operand.tmp 0), none, false⟩,
    ⟨some 17, Go.Op.call { callee := Go.Callee.value (Go.Operand.func 103), args := #[Go.Operand.tmp 16], argTypes := #[48] }, none, false⟩,
    ⟨some 8, Go.Op.assign (Go.Operand.tmp 17), none, false⟩] [1, 8]) (.seq (.reg false [⟨some 18, Go.Op.move (Go.Operand.tmp 8), none, false⟩,
    ⟨some 19, Go.Op.move (Go.Operand.tmp 1), none, false⟩,
    ⟨some 20, Go.Op.call { callee := Go.Callee.value (Go.Operand.func 100), args := #[Go.Operand.tmp 18, Go.Operand.tmp 19], argTypes := #[48, 3] }, none, false⟩,
    ⟨some 9, Go.Op.assign (Go.Operand.tmp 20), none, false⟩] [8, 9]) (.seq (.seq (.reg false [⟨some 21, Go.Op.move (Go.Operand.tmp 9), none, false⟩,
    ⟨some 22, Go.Op.binOp Go.BinOp.lss 3 (Go.Operand.tmp 21) (Go.Operand.const (Go.Value.int Go.IntKind.i64 0)) 3, none, false⟩] [8, 9, 22]) (.cond (Go.Operand.tmp 22) (.seq (.reg false [⟨some 4, Go.Op.assign (Go.Operand.const (Go.Value.int Go.IntKind.i64 0)), none, false⟩,
    ⟨some 5, Go.Op.assign (Go.Operand.const (Go.Value.slice none 0 0)), none, false⟩,
    ⟨some 6, Go.Op.assign (Go.Operand.const (Go.Value.int Go.IntKind.i64 4)), none, false⟩] [4, 5, 6]) (.ret)) (.skip))) (.seq (.reg false [⟨some 23, Go.Op.move (Go.Operand.tmp 9), none, false⟩,
    ⟨some 24, Go.Op.move (Go.Operand.tmp 8), none, false⟩,
    ⟨some 4, Go.Op.assign (Go.Operand.tmp 23), none, false⟩,
    ⟨some 5, Go.Op.assign (Go.Operand.tmp 24), none, false⟩,
    ⟨some 6, Go.Op.assign (Go.Operand.const (Go.Value.int Go.IntKind.i64 0)), none, false⟩] [4, 5, 6]) (.ret))))))
theorem Tryz.comp62 : ∃ c, Tryz.f62.body = some c ∧ compile c = erase Tryz.C62 := ⟨_, rfl, by kernel_rfl⟩
theorem Tryz.rs62 : Tryz.f62.results.toList = [Go.ResultVar.tmp 4, Go.ResultVar.tmp 5, Go.ResultVar.tmp 6] := by kernel_rfl
theorem Tryz.nt62 : Tryz.f62.ntmps = 25 := by kernel_rfl
theorem Tryz.en62 : ∀ vs w, (callFunc 62 vs).run Tryz.prog w = .ok (.enter 62 vs) w := enters_of Tryz.func62 (by kernel_rfl) rfl
theorem Tryz.ctr62 {a0 a1 : V} {bx : Boxes} {Kc : V → Boxes → Prop} (h : FinB bx → pw Tryz.prog Tryz.C62 (retQ Tryz.prog [Go.ResultVar.tmp 4, Go.ResultVar.tmp 5, Go.ResultVar.tmp 6] Kc) ⟨25, slk [(0, a0), (1, a1)], bx⟩) : AbsCall Tryz.prog 62 [a0, a1] bx Kc := abs_of (by kernel_rfl) Tryz.func62 Tryz.comp62 Tryz.en62 Tryz.nt62 Tryz.rs62 (fun hb => by rw [initSt_2]; exact h hb)
noncomputable def Tryz.C63 : PC := .seq (.reg false [⟨some 8, Go.Op.assign (Go.Operand.const (Go.Value.int Go.IntKind.i64 0)), none, false⟩,
    ⟨some 9, Go.Op.assign (Go.Operand.const (Go.Value.int Go.IntKind.i64 0)), none, false⟩] [0, 1, 2, 3]) (.seq (.reg false [⟨some 16, Go.Op.move (Go.Operand.tmp 0), none, false⟩,
    ⟨some 17, Go.Op.move (Go.Operand.tmp 3), none, false⟩,
    ⟨some 18, Go.Op.call { callee := Go.Callee.value (Go.Operand.func 32), args := #[Go.Operand.tmp 16, Go.Operand.tmp 17], argTypes := #[48, 3] }, none, false⟩,
    ⟨some 15, Go.Op.move (Go.Operand.tmp 18), none, false⟩,
    ⟨some 19, Go.Op.extract (Go.Operand.tmp 15) 0, none, false⟩,
    ⟨some 20, Go.Op.extract (Go.Operand.tmp 15) 1, none, false⟩,
    ⟨some 10, Go.Op.assign (Go.Operand.tmp 19), none, false⟩,
    ⟨some 11, Go.Op.assign (Go.Operand.tmp 20), none, false⟩] [0, 1, 2, 10, 11]) (.seq (.reg false [⟨some 21, Go.Op.move (Go.Operand.tmp 10), none, false⟩,
    ⟨some 22, Go.Op.call { callee := Go.Callee.builtin Go.Builtin.len, args := #[Go.Operand.tmp 21], argTypes := #[23] }, none, false⟩,
    ⟨some 23, Go.Op.convert 3 58 (Go.Operand.tmp 22), none, false⟩,
    ⟨some 12, Go.Op.assign (Go.Operand.tmp 23), none, false⟩] [0, 1, 2, 10, 11, 12]) (.seq (.block 0 (.seq (.reg false [⟨some 25, Go.Op.move (Go.Operand.tmp 11), none, false⟩,
    ⟨some 26, Go.Op.binOp Go.BinOp.neq 29 (Go.Operand.tmp 25) (Go.Operand.const (Go.Value.int Go.IntKind.i64 0)) 29, none, false⟩,
    ⟨some 24, Go.Op.assign (Go.Operand.tmp 26), none, false⟩] [0, 1, 2, 10, 11, 12, 24]) (.cond (Go.Operand.tmp 24) (.seq (.reg false [⟨some 27, Go.Op.move (Go.Operand.tmp 11), none, false⟩,
    ⟨some 8, Go.Op.assign (Go.Operand.const (Go.Value.int Go.IntKind.i64 0)), none, false⟩,
    ⟨some 9, Go.Op.assign (Go.Operand.tmp 27), none, false⟩] [8, 9]) (.ret)) (.seq (.reg false [⟨some 29, Go.Op.move (Go.Operand.tmp 12), none, false⟩,
    ⟨some 30, Go.Op.binOp Go.BinOp.eql 58 (Go.Operand.tmp 29) (Go.Operand.const (Go.Value.int Go.IntKind.u32 0)) 58, none, false⟩,
    ⟨some 28, Go.Op.assign (Go.Operand.tmp 30), none, false⟩] [0, 1, 2, 10, 12, 28]) (.cond (Go.Operand.tmp 28) (.seq (.reg false [⟨some 8, Go.Op.assign (Go.Operand.const (Go.Value.int Go.IntKind.i64 0)), none, false⟩,
    ⟨some 9, Go.Op.assign (Go.Operand.const (Go.Value.int Go.IntKind.i64 4)), none, false⟩] [8, 9]) (.ret)) (.seq (.reg false [⟨some 32, Go.Op.move (Go.Operand.tmp 12), none, false⟩,
    ⟨some 33, Go.Op.binOp Go.BinOp.eql 58 (Go.Operand.tmp 32) (Go.Operand.const (Go.Value.int Go.IntKind.u32 1)) 58, none, false⟩,
    ⟨some 31, Go.Op.assign (Go.Operand.tmp 33), none, false⟩] [0, 1, 2, 10, 12, 31]) (.cond (Go.Operand.tmp 31) (.seq (.reg false [⟨some 34, Go.Op.move (Go.Operand.tmp 10), none, false⟩,
    ⟨some 35, Go.Op.indexAddr 23 (Go.Operand.tmp 34) (Go.Operand.const (Go.Value.int Go.IntKind.i64 0)), none, false⟩,
    ⟨some 36, Go.Op.load 3 (Go.Operand.tmp 35), none, false⟩,
    ⟨some 8, Go.Op.assign (Go.Operand.tmp 36), none, false⟩,
    ⟨some 9, Go.Op.assign (Go.Operand.const (Go.Value.int Go.IntKind.i64 0)), none, false⟩] [8, 9]) (.ret)) (.skip)))))))) (.seq (.reg true [⟨some 37, Go.Op.move (Go.Operand.tmp 1), none, false⟩,
    ⟨some 38, Go.Op.move (Go.Operand.tmp 12), none, false⟩,
    ⟨some 39, Go.Op.binOp Go.BinOp.rem 58 (Go.Operand.tmp 37) (Go.Operand.tmp 38) 58, none, false⟩,
    ⟨some 40, Go.Op.move (Go.Operand.tmp 2), none, false⟩,
    ⟨some 41, Go.Op.move (Go.Operand.tmp 12), none, false⟩,
    ⟨some 42, Go.Op.binOp Go.BinOp.sub 58 (Go.Operand.tmp 41) (Go.Operand.const (Go.Value.int Go.IntKind.u32 1)) 58, none, false⟩,
    ⟨some 43, Go.Op.binOp Go.BinOp.rem 58 (Go.Operand.tmp 40) (Go.Operand.tmp 42) 58, none, false⟩,
    ⟨some 13, Go.Op.assign (Go.Operand.tmp 39), none, false⟩,
    ⟨some 14, Go.Op.assign (Go.Operand.tmp 43), none, false⟩] [0, 10, 13, 14]) (.seq (.seq (.reg false [⟨some 44, Go.Op.move (Go.Operand.tmp 14), none, false⟩,
    ⟨some 45, Go.Op.move (Go.Operand.tmp 13), none, false⟩,
    ⟨some 46, Go.Op.binOp Go.BinOp.geq 58 (Go.Operand.tmp 44) (Go.Operand.tmp 45) 58, none, false⟩] [0, 10, 13, 14, 46]) (.cond (Go.Operand.tmp 46) (.reg false [⟨some 47, Go.Op.move (Go.Operand.tmp 14), none, false⟩,
    ⟨some 48, Go.Op.binOp Go.BinOp.add 58 (Go.Operand.tmp 47) (Go.Operand.const (Go.Value.int Go.IntKind.u32 1)) 58, none, false⟩,
    ⟨some 14, Go.Op.assign (Go.Operand.tmp 48), none, false⟩] [0, 10, 13, 14]) (.skip))) (.seq (.seq (.reg true [⟨some 49, Go.Op.move (Go.Operand.tmp 0), none, false⟩,
    ⟨some 50, Go.Op.move (Go.Operand.tmp 10), none, false⟩,
    ⟨some 51, Go.Op.move (Go.Operand.tmp 14), none, false⟩,
    ⟨some 52, Go.Op.indexAddr 23 (Go.Operand.tmp 50) (Go.Operand.tmp 51), none, false⟩,
    ⟨some 53, Go.Op.load 3 (Go.Operand.tmp 52), none, false⟩,
    ⟨some 54, Go.Op.indexAddr 48 (Go.Operand.tmp 49) (Go.Operand.tmp 53), none, false⟩,
    ⟨some 55, Go.Op.load 57 (Go.Operand.tmp 54), none, false⟩,
    ⟨some 56, Go.Op.move (Go.Operand.tmp 0), none, false⟩,
    ⟨some 57, Go.Op.move (Go.Operand.tmp 10), none, false⟩,
    ⟨some 58, Go.Op.move (Go.Operand.tmp 13), none, false⟩,
    ⟨some 59, Go.Op.indexAddr 23 (Go.Operand.tmp 57) (Go.Operand.tmp 58), none, false⟩,
    ⟨some 60, Go.Op.load 3 (Go.Operand.tmp 59), none, false⟩,
    ⟨some 61, Go.Op.indexAddr 48 (Go.Operand.tmp 56) (Go.Operand.tmp 60), none, false⟩,
    ⟨some 62, Go.Op.load 57 (Go.Operand.tmp 61), none, false⟩,
    ⟨some 63, Go.Op.call { callee := Go.Callee.value (Go.Operand.func 97), args := #[Go.Operand.tmp 55, Go.Operand.tmp 62], argTypes := #[57, 57] }, none, false⟩] [10, 13, 14, 63]) (.cond (Go.Operand.tmp 63) (.reg false [⟨some 64, Go.Op.move (Go.Operand.tmp 14), none, false⟩,
    ⟨some 13, Go.Op.assign (Go.Operand.tmp 64), none, false⟩] [10, 13]) (.skip))) (.seq (.reg false [⟨some 65, Go.Op.move (Go.Operand.tmp 10), none, false⟩,
    ⟨some 66, Go.Op.move (Go.Operand.tmp 13), none, false⟩,
    ⟨some 67, Go.Op.indexAddr 23 (Go.Operand.tmp 65) (Go.Operand.tmp 66), none, false⟩,
    ⟨some 68, Go.Op.load 3 (Go.Operand.tmp 67), none, false⟩,
    ⟨some 8, Go.Op.assign (Go.Operand.tmp 68), none, false⟩,
    ⟨some 9, Go.Op.assign (Go.Operand.const (Go.Value.int Go.IntKind.i64 0)), none, false⟩] [8, 9]) (.ret))))))))
theorem Tryz.comp63 : ∃ c, Tryz.f63.body = some c ∧ compile c = erase Tryz.C63 := ⟨_, rfl, by kernel_rfl⟩
theorem Tryz.rs63 : Tryz.f63.results.toList = [Go.ResultVar.tmp 8, Go.ResultVar.tmp 9] := by kernel_rfl
theorem Tryz.nt63 : Tryz.f63.ntmps = 69 := by kernel_rfl
theorem Tryz.en63 : ∀ vs w, (callFunc 63 vs).run Tryz.prog w = .ok (.enter 63 vs) w := enters_of Tryz.func63 (by kernel_rfl) rfl
theorem Tryz.ctr63 {a0 a1 a2 a3 : V} {bx : Boxes} {Kc : V → Boxes → Prop} (h : FinB bx → pw Tryz.prog Tryz.C63 (retQ Tryz.prog [Go.ResultVar.tmp 8, Go.ResultVar.tmp 9] Kc) ⟨69, slk [(0, a0), (1, a1), (2, a2), (3, a3)], bx⟩) : AbsCall Tryz.prog 63 [a0, a1, a2, a3] bx Kc := abs_of (by kernel_rfl) Tryz.func63 Tryz.comp63 Tryz.en63 Tryz.nt63 Tryz.rs63 (fun hb => by rw [initSt_4]; exact h hb)
noncomputable def Tryz.L64_0 : PC := .seq (.seq (.reg false [⟨some 11, Go.Op.move (Go.Operand.tmp 5), none, false⟩,
    ⟨some 12, Go.Op.move (Go.Operand.tmp 0), none, false⟩,
    ⟨some 13, Go.Op.call { callee := Go.Callee.builtin Go.Builtin.len, args := #[Go.Operand.tmp 12], argTypes := #[23] }, none, false⟩,
    ⟨some 14, Go.Op.binOp Go.BinOp.lss 3 (Go.Operand.tmp 11) (Go.Operand.tmp 13) 3, none, false⟩] [0, 1, 5, 14]) (.cond (Go.Operand.tmp 14) (.skip) (.exit 0))) (.seq (.block 1 (.seq (.reg true [⟨some 17, Go.Op.move (Go.Operand.tmp 0), none, false⟩,
    ⟨some 18, Go.Op.move (Go.Operand.tmp 5), none, false⟩,
    ⟨some 19, Go.Op.indexAddr 23 (Go.Operand.tmp 17) (Go.Operand.tmp 18), none, false⟩,
    ⟨some 20, Go.Op.load 3 (Go.Operand.tmp 19), none, false⟩,
    ⟨some 21, Go.Op.move (Go.Operand.tmp 1), none, false⟩,
    ⟨some 22, Go.Op.move (Go.Operand.tmp 5), none, false⟩,
    ⟨some 23, Go.Op.indexAddr 23 (Go.Operand.tmp 21) (Go.Operand.tmp 22), none, false⟩,
    ⟨some 24, Go.Op.load 3 (Go.Operand.tmp 23), none, false⟩,
    ⟨some 25, Go.Op.binOp Go.BinOp.neq 3 (Go.Operand.tmp 20) (Go.Operand.tmp 24) 3, none, false⟩] [0, 1, 5, 25]) (.cond (Go.Operand.tmp 25) (.seq (.reg false [⟨some 4, Go.Op.assign (Go.Operand.const (Go.Value.bool false)), none, false⟩] [4]) (.ret)) (.skip)))) (.reg false [⟨some 15, Go.Op.move (Go.Operand.tmp 5), none, false⟩,
    ⟨some 16, Go.Op.binOp Go.BinOp.add 3 (Go.Operand.tmp 15) (Go.Operand.const (Go.Value.int Go.IntKind.i64 1)) 3, none, false⟩,
    ⟨some 5, Go.Op.assign (Go.Operand.tmp 16), none, false⟩] [0, 1, 5]))
noncomputable def Tryz.C64 : PC := .seq (.reg false [⟨some 4, Go.Op.assign (Go.Operand.const (Go.Value.bool false)), none, false⟩] [0, 1]) (.seq (.seq (.reg false [⟨some 6, Go.Op.move (Go.Operand.tmp 0), none, false⟩,
    ⟨some 7, Go.Op.call { callee := Go.Callee.builtin Go.Builtin.len, args := #[Go.Operand.tmp 6], argTypes := #[23] }, none, false⟩,
    ⟨some 8, Go.Op.move (Go.Operand.tmp 1), none, false⟩,
    ⟨some 9, Go.Op.call { callee := Go.Callee.builtin Go.Builtin.len, args := #[Go.Operand.tmp 8], argTypes := #[23] }, none, false⟩,
    ⟨some 10, Go.Op.binOp Go.BinOp.neq 3 (Go.Operand.tmp 7) (Go.Operand.tmp 9) 3, none, false⟩] [0, 1, 10]) (.cond (Go.Operand.tmp 10) (.seq (.reg false [⟨some 4, Go.Op.assign (Go.Operand.const (Go.Value.bool false)), none, false⟩] [4]) (.ret)) (.skip))) (.seq (.seq (.reg false [⟨some 5, Go.Op.assign (Go.Operand.const (Go.Value.int Go.IntKind.i64 0)), none, false⟩] [0, 1, 5]) (.block 0 (.loop Tryz.L64_0))) (.seq (.reg false [⟨some 4, Go.Op.assign (Go.Operand.const (Go.Value.bool true)), none, false⟩] [4]) (.ret))))
theorem Tryz.comp64 : ∃ c, Tryz.f64.body = some c ∧ compile c = erase Tryz.C64 := ⟨_, rfl, by kernel_rfl⟩
theorem Tryz.rs64 : Tryz.f64.results.toList = [Go.ResultVar.tmp 4] := by kernel_rfl
theorem Tryz.nt64 : Tryz.f64.ntmps = 26 := by kernel_rfl
theorem Tryz.en64 : ∀ vs w, (callFunc 64 vs).run Tryz.prog w = .ok (.enter 64 vs) w := enters_of Tryz.func64 (by kernel_rfl) rfl
theorem Tryz.ctr64 {a0 a1 : V} {bx : Boxes} {Kc : V → Boxes → Prop} (h : FinB bx → pw Tryz.prog Tryz.C64 (retQ Tryz.prog [Go.ResultVar.tmp 4] Kc) ⟨26, slk [(0, a0), (1, a1)], bx⟩) : AbsCall Tryz.prog 64 [a0, a1] bx Kc := abs_of (by kernel_rfl) Tryz.func64 Tryz.comp64 Tryz.en64 Tryz.nt64 Tryz.rs64 (fun hb => by rw [initSt_2]; exact h hb)
noncomputable def Tryz.C65 : PC := .seq (.reg false [⟨some 6, Go.Op.box 26 (Go.Operand.tmp 1), none, true⟩,
    ⟨some 10, Go.Op.assign (Go.Operand.const (Go.Value.slice none 0 0)), none, false⟩,
    ⟨some 11, Go.Op.assign (Go.Operand.const (Go.Value.int Go.IntKind.i64 0)), none, false⟩] [0, 2, 3, 4, 6]) (.seq (.seq (.reg false [⟨some 17, Go.Op.move (Go.Operand.tmp 0), none, false⟩,
    ⟨some 18, Go.Op.move (Go.Operand.tmp 4), none, false⟩,
    ⟨some 19, Go.Op.call { callee := Go.Callee.value (Go.Operand.func 70), args := #[Go.Operand.tmp 17, Go.Operand.tmp 18], argTypes := #[48, 3] }, none, false⟩,
    ⟨some 12, Go.Op.assign (Go.Operand.tmp 19), none, false⟩] [0, 2, 3, 4, 6, 12]) (.seq (.reg false [⟨some 20, Go.Op.move (Go.Operand.tmp 12), none, false⟩,
    ⟨some 21, Go.Op.binOp Go.BinOp.neq 29 (Go.Operand.tmp 20) (Go.Operand.const (Go.Value.int Go.IntKind.i64 0)) 29, none, false⟩] [0, 2, 3, 4, 6, 12, 21]) (.cond (Go.Operand.tmp 21) (.seq (.reg false [⟨some 22, Go.Op.move (Go.Operand.tmp 12), none, false⟩,
    ⟨some 10, Go.Op.assign (Go.Operand.const (Go.Value.slice none 0 0)), none, false⟩,
    ⟨some 11, Go.Op.assign (Go.Operand.tmp 22), none, false⟩] [10, 11]) (.ret)) (.skip)))) (.seq (.seq (.reg false [⟨some 23, Go.Op.load 26 (Go.Operand.tmp 6), none, false⟩,
    ⟨some 24, Go.Op.call { callee := Go.Callee.value (Go.Operand.func 15), args := #[Go.Operand.tmp 23], argTypes := #[26] }, none, false⟩,
    ⟨some 13, Go.Op.assign (Go.Operand.tmp 24), none, false⟩] [0, 2, 3, 4, 6, 13]) (.seq (.reg false [⟨some 25, Go.Op.move (Go.Operand.tmp 13), none, false⟩,
    ⟨some 26, Go.Op.binOp Go.BinOp.neq 29 (Go.Operand.tmp 25) (Go.Operand.const (Go.Value.int Go.IntKind.i64 0)) 29, none, false⟩] [0, 2, 3, 4, 6, 13, 26]) (.cond (Go.Operand.tmp 26) (.seq (.reg false [⟨some 27, Go.Op.move (Go.Operand.tmp 13), none, false⟩,
    ⟨some 10, Go.Op.assign (Go.Operand.const (Go.Value.slice none 0 0)), none, false⟩,
    ⟨some 11, Go.Op.assign (Go.Operand.tmp 27), none, false⟩] [10, 11]) (.ret)) (.skip)))) (.seq (.seq (.reg false [⟨some 28, Go.Op.fieldAddr 26 (Go.Operand.tmp 6) 0, none, false⟩,
    ⟨some 29, Go.Op.load 22 (Go.Operand.tmp 28), none, false⟩,
    ⟨some 30, Go.Op.call { callee := Go.Callee.builtin Go.Builtin.len, args := #[Go.Operand.tmp 29], argTypes := #[22] }, none, false⟩,
    ⟨some 31, Go.Op.move (Go.Operand.tmp 0), none, false⟩,
    ⟨some 32, Go.Op.call { callee := Go.Callee.builtin Go.Builtin.len, args := #[Go.Operand.tmp 31], argTypes := #[48] }, none, false⟩,
    ⟨some 33, Go.Op.binOp Go.BinOp.neq 3 (Go.Operand.tmp 30) (Go.Operand.tmp 32) 3, none, false⟩,
    ⟨some 34, Go.Op.move (Go.Operand.tmp 33), none, false⟩,
    ⟨some 35, Go.Op.move (Go.Operand.tmp 3), some (34, false), false⟩,
    ⟨some 36, Go.Op.call { callee := Go.Callee.value (Go.Operand.func 98), args := #[Go.Operand.tmp 35, Go.Operand.const (Go.Value.int Go.IntKind.i64 100), Go.Operand.const (Go.Value.int Go.IntKind.i64 1000)], argTypes := #[3, 3, 3] }, some (34, false), false⟩,
    ⟨some 37, Go.Op.pick (Go.Operand.tmp 34) (Go.Operand.const (Go.Value.bool true)) (Go.Operand.tmp 36), none, false⟩] [0, 2, 4, 6, 37]) (.cond (Go.Operand.tmp 37) (.seq (.reg false [⟨some 10, Go.Op.assign (Go.Operand.const (Go.Value.slice none 0 0)), none, false⟩,
    ⟨some 11, Go.Op.assign (Go.Operand.const (Go.Value.int Go.IntKind.i64 2)), none, false⟩] [10, 11]) (.ret)) (.skip))) (.seq (.reg false [⟨some 38, Go.Op.move (Go.Operand.tmp 0), none, false⟩,
    ⟨some 39, Go.Op.move (Go.Operand.tmp 4), none, false⟩,
    ⟨some 40, Go.Op.call { callee := Go.Callee.value (Go.Operand.func 72), args := #[Go.Operand.tmp 38, Go.Operand.tmp 39], argTypes := #[48, 3] }, none, false⟩,
    ⟨some 41, Go.Op.call { callee := Go.Callee.value (Go.Operand.func 71), args := #[Go.Operand.tmp 40], argTypes := #[95] }, none, false⟩,
    ⟨some 14, Go.Op.alloc 23, none, false⟩,
    ⟨none, Go.Op.store 23 (Go.Operand.tmp 14) (Go.Operand.tmp 41), none, false⟩] [2, 6, 14]) (.fz 14 (.seq (.reg false [⟨some 43, Go.Op.load 26 (Go.Operand.tmp 6), none, false⟩,
    ⟨some 44, Go.Op.move (Go.Operand.tmp 2), none, false⟩,
    ⟨some 45, Go.Op.call { callee := Go.Callee.value (Go.Operand.func 24), args := #[Go.Operand.tmp 43, Go.Operand.tmp 44], argTypes := #[26, 9] }, none, false⟩,
    ⟨some 42, Go.Op.move (Go.Operand.tmp 45), none, false⟩,
    ⟨some 46, Go.Op.extract (Go.Operand.tmp 42) 0, none, false⟩,
    ⟨some 47, Go.Op.extract (Go.Operand.tmp 42) 1, none, false⟩,
    ⟨some 15, Go.Op.assign (Go.Operand.tmp 46), none, false⟩,
    ⟨some 16, Go.Op.assign (Go.Operand.tmp 47), none, false⟩] [14, 15, 16]) (.seq (.reg false [⟨some 48, Go.Op.move (Go.Operand.tmp 15), none, false⟩,
    ⟨some 49, Go.Op.makeFunc (Go.Fn.func 105) #[] #[Go.Operand.tmp 14], none, false⟩,
    ⟨some 50, Go.Op.call { callee := Go.Callee.value (Go.Operand.func 104), args := #[Go.Operand.tmp 48, Go.Operand.tmp 49], argTypes := #[23, 91] }, none, false⟩,
    ⟨some 15, Go.Op.assign (Go.Operand.tmp 50), none, false⟩] [15, 16]) (.seq (.seq (.reg false [⟨some 51, Go.Op.move (Go.Operand.tmp 16), none, false⟩,
    ⟨some 52, Go.Op.binOp Go.BinOp.eql 29 (Go.Operand.tmp 51) (Go.Operand.const (Go.Value.int Go.IntKind.i64 0)) 29, none, false⟩,
    ⟨some 53, Go.Op.move (Go.Operand.tmp 52), none, false⟩,
    ⟨some 54, Go.Op.move (Go.Operand.tmp 15), some (53, true), false⟩,
    ⟨some 55, Go.Op.call { callee := Go.Callee.builtin Go.Builtin.len, args := #[Go.Operand.tmp 54], argTypes := #[23] }, some (53, true), false⟩,
    ⟨some 56, Go.Op.binOp Go.BinOp.eql 3 (Go.Operand.tmp 55) (Go.Operand.const (Go.Value.int Go.IntKind.i64 0)) 3, some (53, true), false⟩,
    ⟨some 57, Go.Op.pick (Go.Operand.tmp 53) (Go.Operand.tmp 56) (Go.Operand.const (Go.Value.bool false)), none, false⟩] [15, 16, 57]) (.cond (Go.Operand.tmp 57) (.reg false [⟨some 16, Go.Op.assign (Go.Operand.const (Go.Value.int Go.IntKind.i64 4)), none, false⟩] [15, 16]) (.skip))) (.seq (.reg false [⟨some 58, Go.Op.move (Go.Operand.tmp 15), none, false⟩,
    ⟨some 59, Go.Op.move (Go.Operand.tmp 16), none, false⟩,
    ⟨some 10, Go.Op.assign (Go.Operand.tmp 58), none, false⟩,
    ⟨some 11, Go.Op.assign (Go.Operand.tmp 59), none, false⟩] [10, 11]) (.ret))))))))))
theorem Tryz.comp65 : ∃ c, Tryz.f65.body = some c ∧ compile c = erase Tryz.C65 := ⟨_, rfl, by kernel_rfl⟩
theorem Tryz.rs65 : Tryz.f65.results.toList = [Go.ResultVar.tmp 10, Go.ResultVar.tmp 11] := by kernel_rfl
theorem Tryz.nt65 : Tryz.f65.ntmps = 60 := by kernel_rfl
theorem Tryz.en65 : ∀ vs w, (callFunc 65 vs).run Tryz.prog w = .ok (.enter 65 vs) w := enters_of Tryz.func65 (by kernel_rfl) rfl
theorem Tryz.ctr65 {a0 a1 a2 a3 a4 : V} {bx : Boxes} {Kc : V → Boxes → Prop} (h : FinB bx → pw Tryz.prog Tryz.C65 (retQ Tryz.prog [Go.ResultVar.tmp 10, Go.ResultVar.tmp 11] Kc) ⟨60, slk [(0, a0), (1, a1), (2, a2), (3, a3), (4, a4)], bx⟩) : AbsCall Tryz.prog 65 [a0, a1, a2, a3, a4] bx Kc := abs_of (by kernel_rfl) Tryz.func65 Tryz.comp65 Tryz.en65 Tryz.nt65 Tryz.rs65 (fun hb => by rw [initSt_5]; exact h hb)
noncomputable def Tryz.L66_0 : PC := .seq (.seq (.reg false [⟨some 61, Go.Op.move (Go.Operand.tmp 16), none, false⟩,
    ⟨some 62, Go.Op.move (Go.Operand.tmp 14), none, false⟩,
    ⟨some 63, Go.Op.call { callee := Go.Callee.builtin Go.Builtin.len, args := #[Go.Operand.tmp 62], argTypes := #[23] }, none, false⟩,
    ⟨some 64, Go.Op.binOp Go.BinOp.lss 3 (Go.Operand.tmp 61) (Go.Operand.tmp 63) 3, none, false⟩] [12, 14, 15, 16, 64]) (.cond (Go.Operand.tmp 64) (.skip) (.exit 0))) (.seq (.block 1 (.seq (.reg false [⟨some 67, Go.Op.move (Go.Operand.tmp 12), none, false⟩,
    ⟨some 68, Go.Op.move (Go.Operand.tmp 14), none, false⟩,
    ⟨some 69, Go.Op.move (Go.Operand.tmp 16), none, false⟩,
    ⟨some 70, Go.Op.indexAddr 23 (Go.Operand.tmp 68) (Go.Operand.tmp 69), none, false⟩,
    ⟨some 71, Go.Op.load 3 (Go.Operand.tmp 70), none, false⟩,
    ⟨some 72, Go.Op.call { callee := Go.Callee.value (Go.Operand.func 107), args := #[Go.Operand.tmp 67, Go.Operand.tmp 71], argTypes := #[23, 3] }, none, false⟩] [12, 14, 15, 16, 72]) (.cond (Go.Operand.tmp 72) (.reg false [⟨some 73, Go.Op.move (Go.Operand.tmp 15), none, false⟩,
    ⟨some 74, Go.Op.move (Go.Operand.tmp 14), none, false⟩,
    ⟨some 75, Go.Op.move (Go.Operand.tmp 16), none, false⟩,
    ⟨some 76, Go.Op.indexAddr 23 (Go.Operand.tmp 74) (Go.Operand.tmp 75), none, false⟩,
    ⟨some 77, Go.Op.load 3 (Go.Operand.tmp 76), none, false⟩,
    ⟨some 78, Go.Op.buildSlice 23 1 #[(0, Go.Operand.tmp 77)], none, false⟩,
    ⟨some 79, Go.Op.call { callee := Go.Callee.builtin Go.Builtin.append, args := #[Go.Operand.tmp 73, Go.Operand.tmp 78], argTypes := #[23, 23] }, none, false⟩,
    ⟨some 15, Go.Op.assign (Go.Operand.tmp 79), none, false⟩] [12, 14, 15, 16]) (.skip)))) (.reg false [⟨some 65, Go.Op.move (Go.Operand.tmp 16), none, false⟩,
    ⟨some 66, Go.Op.binOp Go.BinOp.add 3 (Go.Operand.tmp 65) (Go.Operand.const (Go.Value.int Go.IntKind.i64 1)) 3, none, false⟩,
    ⟨some 16, Go.Op.assign (Go.Operand.tmp 66), none, false⟩] [12, 14, 15, 16]))
noncomputable def Tryz.C66 : PC := .seq (.reg false [⟨some 6, Go.Op.box 26 (Go.Operand.tmp 1), none, true⟩,
    ⟨some 10, Go.Op.assign (Go.Operand.const (Go.Value.slice none 0 0)), none, false⟩,
    ⟨some 11, Go.Op.assign (Go.Operand.const (Go.Value.int Go.IntKind.i64 0)), none, false⟩] [0, 2, 3, 4, 6]) (.seq (.reg false [⟨some 18, Go.Op.move (Go.Operand.tmp 0), none, false⟩,
    ⟨some 19, Go.Op.move (Go.Operand.tmp 4), none, false⟩,
    ⟨some 20, Go.Op.call { callee := Go.Callee.value (Go.Operand.func 106), args := #[Go.Operand.tmp 18, Go.Operand.tmp 19], argTypes := #[48, 3] }, none, false⟩,
    ⟨some 17, Go.Op.move (Go.Operand.tmp 20), none, false⟩,
    ⟨some 21, Go.Op.extract (Go.Operand.tmp 17) 0, none, false⟩,
    ⟨some 22, Go.Op.extract (Go.Operand.tmp 17) 1, none, false⟩,
    ⟨some 12, Go.Op.assign (Go.Operand.tmp 21), none, false⟩,
    ⟨some 13, Go.Op.assign (Go.Operand.tmp 22), none, false⟩] [0, 2, 3, 6, 12, 13]) (.seq (.seq (.reg false [⟨some 23, Go.Op.move (Go.Operand.tmp 13), none, false⟩,
    ⟨some 24, Go.Op.binOp Go.BinOp.eql 29 (Go.Operand.tmp 23) (Go.Operand.const (Go.Value.int Go.IntKind.i64 0)) 29, none, false⟩] [0, 2, 3, 6, 12, 13, 24]) (.cond (Go.Operand.tmp 24) (.reg false [⟨some 25, Go.Op.load 26 (Go.Operand.tmp 6), none, false⟩,
    ⟨some 26, Go.Op.call { callee := Go.Callee.value (Go.Operand.func 16), args := #[Go.Operand.tmp 25], argTypes := #[26] }, none, false⟩,
    ⟨some 13, Go.Op.assign (Go.Operand.tmp 26), none, false⟩] [0, 2, 3, 6, 12, 13]) (.skip))) (.seq (.seq (.reg false [⟨some 27, Go.Op.move (Go.Operand.tmp 13), none, false⟩,
    ⟨some 28, Go.Op.binOp Go.BinOp.eql 29 (Go.Operand.tmp 27) (Go.Operand.const (Go.Value.int Go.IntKind.i64 0)) 29, none, false⟩,
    ⟨some 29, Go.Op.move (Go.Operand.tmp 28), none, false⟩,
    ⟨some 30, Go.Op.fieldAddr 26 (Go.Operand.tmp 6) 0, some (29, true), false⟩,
    ⟨some 31, Go.Op.load 22 (Go.Operand.tmp 30), some (29, true), false⟩,
    ⟨some 32, Go.Op.call { callee := Go.Callee.builtin Go.Builtin.len, args := #[Go.Operand.tmp 31], argTypes := #[22] }, some (29, true), false⟩,
    ⟨some 33, Go.Op.move (Go.Operand.tmp 0), some (29, true), false⟩,
    ⟨some 34, Go.Op.call { callee := Go.Callee.builtin Go.Builtin.len, args := #[Go.Operand.tmp 33], argTypes := #[48] }, some (29, true), false⟩,
    ⟨some 35, Go.Op.binOp Go.BinOp.neq 3 (Go.Operand.tmp 32) (Go.Operand.tmp 34) 3, some (29, true), false⟩,
    ⟨some 36, Go.Op.move (Go.Operand.tmp 35), some (29, true), false⟩,
    ⟨some 37, Go.Op.move (Go.Operand.tmp 3), some (36, false), false⟩,
    ⟨some 38, Go.Op.binOp Go.BinOp.lss 3 (Go.Operand.tmp 37) (Go.Operand.const (Go.Value.int Go.IntKind.i64 100)) 3, some (36, false), false⟩,
    ⟨some 39, Go.Op.pick (Go.Operand.tmp 36) (Go.Operand.const (Go.Value.bool true)) (Go.Operand.tmp 38), some (29, true), false⟩,
    ⟨some 40, Go.Op.move (Go.Operand.tmp 39), some (29, true), false⟩,
    ⟨some 41, Go.Op.move (Go.Operand.tmp 3), some (40, false), false⟩,
    ⟨some 42, Go.Op.binOp Go.BinOp.gtr 3 (Go.Operand.tmp 41) (Go.Operand.const (Go.Value.int Go.IntKind.i64 1000)) 3, some (40, false), false⟩,
    ⟨some 43, Go.Op.pick (Go.Operand.tmp 40) (Go.Operand.const (Go.Value.bool true)) (Go.Operand.tmp 42), some (29, true), false⟩,
    ⟨some 44, Go.Op.pick (Go.Operand.tmp 29) (Go.Operand.tmp 43) (Go.Operand.const (Go.Value.bool false)), none, false⟩] [2, 6, 12, 13, 44]) (.cond (Go.Operand.tmp 44) (.reg false [⟨some 13, Go.Op.assign (Go.Operand.const (Go.Value.int Go.IntKind.i64 2)), none, false⟩] [2, 6, 12, 13]) (.skip))) (.seq (.seq (.reg false [⟨some 45, Go.Op.move (Go.Operand.tmp 13), none, false⟩,
    ⟨some 46, Go.Op.binOp Go.BinOp.neq 29 (Go.Operand.tmp 45) (Go.Operand.const (Go.Value.int Go.IntKind.i64 0)) 29, none, false⟩] [2, 6, 12, 13, 46]) (.cond (Go.Operand.tmp 46) (.seq (.reg false [⟨some 47, Go.Op.move (Go.Operand.tmp 13), none, false⟩,
    ⟨some 10, Go.Op.assign (Go.Operand.const (Go.Value.slice none 0 0)), none, false⟩,
    ⟨some 11, Go.Op.assign (Go.Operand.tmp 47), none, false⟩] [10, 11]) (.ret)) (.skip))) (.seq (.reg false [⟨some 49, Go.Op.load 26 (Go.Operand.tmp 6), none, false⟩,
    ⟨some 50, Go.Op.move (Go.Operand.tmp 2), none, false⟩,
    ⟨some 51, Go.Op.call { callee := Go.Callee.value (Go.Operand.func 25), args := #[Go.Operand.tmp 49, Go.Operand.tmp 50], argTypes := #[26, 9] }, none, false⟩,
    ⟨some 48, Go.Op.move (Go.Operand.tmp 51), none, false⟩,
    ⟨some 52, Go.Op.extract (Go.Operand.tmp 48) 0, none, false⟩,
    ⟨some 53, Go.Op.extract (Go.Operand.tmp 48) 1, none, false⟩,
    ⟨some 14, Go.Op.assign (Go.Operand.tmp 52), none, false⟩,
    ⟨some 13, Go.Op.assign (Go.Operand.tmp 53), none, false⟩] [12, 13, 14]) (.seq (.seq (.reg false [⟨some 54, Go.Op.move (Go.Operand.tmp 13), none, false⟩,
    ⟨some 55, Go.Op.binOp Go.BinOp.neq 29 (Go.Operand.tmp 54) (Go.Operand.const (Go.Value.int Go.IntKind.i64 0)) 29, none, false⟩,
    ⟨some 56, Go.Op.move (Go.Operand.tmp 55), none, false⟩,
    ⟨some 57, Go.Op.move (Go.Operand.tmp 13), some (56, true), false⟩,
    ⟨some 58, Go.Op.binOp Go.BinOp.neq 29 (Go.Operand.tmp 57) (Go.Operand.const (Go.Value.int Go.IntKind.i64 4)) 29, some (56, true), false⟩,
    ⟨some 59, Go.Op.pick (Go.Operand.tmp 56) (Go.Operand.tmp 58) (Go.Operand.const (Go.Value.bool false)), none, false⟩] [12, 13, 14, 59]) (.cond (Go.Operand.tmp 59) (.seq (.reg false [⟨some 60, Go.Op.move (Go.Operand.tmp 13), none, false⟩,
    ⟨some 10, Go.Op.assign (Go.Operand.const (Go.Value.slice none 0 0)), none, false⟩,
    ⟨some 11, Go.Op.assign (Go.Operand.tmp 60), none, false⟩] [10, 11]) (.ret)) (.skip))) (.seq (.reg false [⟨some 15, Go.Op.assign (Go.Operand.const (Go.Value.slice none 0 0)), none, false⟩] [12, 14, 15]) (.seq (.seq (.reg false [⟨some 16, Go.Op.assign (Go.Operand.const (Go.Value.int Go.IntKind.i64 0)), none, false⟩] [12, 14, 15, 16]) (.block 0 (.loop Tryz.L66_0))) (.seq (.seq (.reg false [⟨some 80, Go.Op.move (Go.Operand.tmp 15), none, false⟩,
    ⟨some 81, Go.Op.call { callee := Go.Callee.builtin Go.Builtin.len, args := #[Go.Operand.tmp 80], argTypes := #[23] }, none, false⟩,
    ⟨some 82, Go.Op.binOp Go.BinOp.eql 3 (Go.Operand.tmp 81) (Go.Operand.const (Go.Value.int Go.IntKind.i64 0)) 3, none, false⟩] [15, 82]) (.cond (Go.Operand.tmp 82) (.seq (.reg false [⟨some 10, Go.Op.assign (Go.Operand.const (Go.Value.slice none 0 0)), none, false⟩,
    ⟨some 11, Go.Op.assign (Go.Operand.const (Go.Value.int Go.IntKind.i64 4)), none, false⟩] [10, 11]) (.ret)) (.skip))) (.seq (.reg false [⟨some 83, Go.Op.move (Go.Operand.tmp 15), none, false⟩,
    ⟨some 10, Go.Op.assign (Go.Operand.tmp 83), none, false⟩,
    ⟨some 11, Go.Op.assign (Go.Operand.const (Go.Value.int Go.IntKind.i64 0)), none, false⟩] [10, 11]) (.ret)))))))))))
theorem Tryz.comp66 : ∃ c, Tryz.f66.body = some c ∧ compile c = erase Tryz.C66 := ⟨_, rfl, by kernel_rfl⟩
theorem Tryz.rs66 : Tryz.f66.results.toList = [Go.ResultVar.tmp 10, Go.ResultVar.tmp 11] := by kernel_rfl
theorem Tryz.nt66 : Tryz.f66.ntmps = 84 := by kernel_rfl
theorem Tryz.en66 : ∀ vs w, (callFunc 66 vs).run Tryz.prog w = .ok (.enter 66 vs) w := enters_of Tryz.func66 (by kernel_rfl) rfl
theorem Tryz.ctr66 {a0 a1 a2 a3 a4 : V} {bx : Boxes} {Kc : V → Boxes → Prop} (h : FinB bx → pw Tryz.prog Tryz.C66 (retQ Tryz.prog [Go.ResultVar.tmp 10, Go.ResultVar.tmp 11] Kc) ⟨84, slk [(0, a0), (1, a1), (2, a2), (3, a3), (4, a4)], bx⟩) : AbsCall Tryz.prog 66 [a0, a1, a2, a3, a4] bx Kc := abs_of (by kernel_rfl) Tryz.func66 Tryz.comp66 Tryz.en66 Tryz.nt66 Tryz.rs66 (fun hb => by rw [initSt_5]; exact h hb)
noncomputable def Tryz.C67 : PC := .seq (.reg false [⟨some 4, Go.Op.box 57 (Go.Operand.tmp 0), none, true⟩,
    ⟨some 5, Go.Op.assign (Go.Operand.const (Go.Value.int Go.IntKind.i64 0)), none, false⟩] [1, 2, 3, 4]) (.seq (.reg false [⟨some 6, Go.Op.load 3 (Go.Operand.tmp 1), none, false⟩,
    ⟨some 7, Go.Op.load 3 (Go.Operand.tmp 2), none, false⟩,
    ⟨some 8, Go.Op.binOp Go.BinOp.add 3 (Go.Operand.tmp 7) (Go.Operand.const (Go.Value.int Go.IntKind.i64 1)) 3, none, false⟩,
    ⟨some 9, Go.Op.binOp Go.BinOp.mul 3 (Go.Operand.tmp 6) (Go.Operand.tmp 8) 3, none, false⟩,
    ⟨some 10, Go.Op.fieldAddr 57 (Go.Operand.tmp 4) 0, none, false⟩,
    ⟨some 11, Go.Op.load 3 (Go.Operand.tmp 10), none, false⟩,
    ⟨some 12, Go.Op.binOp Go.BinOp.mul 3 (Go.Operand.tmp 9) (Go.Operand.tmp 11) 3, none, false⟩,
    ⟨some 13, Go.Op.load 3 (Go.Operand.tmp 3), none, false⟩,
    ⟨some 14, Go.Op.binOp Go.BinOp.mul 3 (Go.Operand.const (Go.Value.int Go.IntKind.i64 100)) (Go.Operand.tmp 13) 3, none, false⟩,
    ⟨some 15, Go.Op.binOp Go.BinOp.add 3 (Go.Operand.tmp 12) (Go.Operand.tmp 14) 3, none, false⟩,
    ⟨some 16, Go.Op.binOp Go.BinOp.sub 3 (Go.Operand.tmp 15) (Go.Operand.const (Go.Value.int Go.IntKind.i64 1)) 3, none, false⟩,
    ⟨some 17, Go.Op.load 3 (Go.Operand.tmp 3), none, false⟩,
    ⟨some 18, Go.Op.binOp Go.BinOp.mul 3 (Go.Operand.const (Go.Value.int Go.IntKind.i64 100)) (Go.Operand.tmp 17) 3, none, false⟩,
    ⟨some 19, Go.Op.binOp Go.BinOp.quo 3 (Go.Operand.tmp 16) (Go.Operand.tmp 18) 3, none, false⟩,
    ⟨some 5, Go.Op.assign (Go.Operand.tmp 19), none, false⟩] [5]) (.ret))
theorem Tryz.comp67 : ∃ c, Tryz.f67.body = some c ∧ compile c = erase Tryz.C67 := ⟨_, rfl, by kernel_rfl⟩
theorem Tryz.rs67 : Tryz.f67.results.toList = [Go.ResultVar.tmp 5] := by kernel_rfl
theorem Tryz.nt67 : Tryz.f67.ntmps = 20 := by kernel_rfl
theorem Tryz.en67 : ∀ vs w, (callFunc 67 vs).run Tryz.prog w = .ok (.enter 67 vs) w := enters_of Tryz.func67 (by kernel_rfl) rfl
theorem Tryz.ctr67 {a0 a1 a2 a3 : V} {bx : Boxes} {Kc : V → Boxes → Prop} (h : FinB bx → pw Tryz.prog Tryz.C67 (retQ Tryz.prog [Go.ResultVar.tmp 5] Kc) ⟨20, slk [(0, a0), (1, a1), (2, a2), (3, a3)], bx⟩) : AbsCall Tryz.prog 67 [a0, a1, a2, a3] bx Kc := abs_of (by kernel_rfl) Tryz.func67 Tryz.comp67 Tryz.en67 Tryz.nt67 Tryz.rs67 (fun hb => by rw [initSt_4]; exact h hb)
noncomputable def Tryz.C69 : PC := .seq (.reg false [⟨some 4, Go.Op.assign (Go.Operand.const (Go.Value.bool false)), none, false⟩] [0, 1, 2]) (.seq (.reg true [⟨some 5, Go.Op.load 48 (Go.Operand.tmp 1), none, false⟩,
    ⟨some 6, Go.Op.move (Go.Operand.tmp 0), none, false⟩,
    ⟨some 7, Go.Op.indexAddr 48 (Go.Operand.tmp 5) (Go.Operand.tmp 6), none, false⟩,
    ⟨some 8, Go.Op.fieldAddr 57 (Go.Operand.tmp 7) 1, none, false⟩,
    ⟨some 9, Go.Op.load 3 (Go.Operand.tmp 8), none, false⟩,
    ⟨some 10, Go.Op.load 89 (Go.Operand.tmp 2), none, false⟩,
    ⟨some 11, Go.Op.load 48 (Go.Operand.tmp 1), none, false⟩,
    ⟨some 12, Go.Op.move (Go.Operand.tmp 0), none, false⟩,
    ⟨some 13, Go.Op.indexAddr 48 (Go.Operand.tmp 11) (Go.Operand.tmp 12), none, false⟩,
    ⟨some 14, Go.Op.load 57 (Go.Operand.tmp 13), none, false⟩,
    ⟨some 15, Go.Op.call { callee := Go.Callee.value (Go.Operand.tmp 10), args := #[Go.Operand.tmp 14], argTypes := #[57] }, none, false⟩,
    ⟨some 16, Go.Op.binOp Go.BinOp.lss 3 (Go.Operand.tmp 9) (Go.Operand.tmp 15) 3, none, false⟩,
    ⟨some 4, Go.Op.assign (Go.Operand.tmp 16), none, false⟩] [4]) (.ret))
theorem Tryz.comp69 : ∃ c, Tryz.f69.body = some c ∧ compile c = erase Tryz.C69 := ⟨_, rfl, by kernel_rfl⟩
theorem Tryz.rs69 : Tryz.f69.results.toList = [Go.ResultVar.tmp 4] := by kernel_rfl
theorem Tryz.nt69 : Tryz.f69.ntmps = 17 := by kernel_rfl
theorem Tryz.en69 : ∀ vs w, (callFunc 69 vs).run Tryz.prog w = .ok (.enter 69 vs) w := enters_of Tryz.func69 (by kernel_rfl) rfl
theorem Tryz.ctr69 {a0 a1 a2 : V} {bx : Boxes} {Kc : V → Boxes → Prop} (h : FinB bx → pw Tryz.prog Tryz.C69 (retQ Tryz.prog [Go.ResultVar.tmp 4] Kc) ⟨17, slk [(0, a0), (1, a1), (2, a2)], bx⟩) : AbsCall Tryz.prog 69 [a0, a1, a2] bx Kc := abs_of (by kernel_rfl) Tryz.func69 Tryz.comp69 Tryz.en69 Tryz.nt69 Tryz.rs69 (fun hb => by rw [initSt_3]; exact h hb)
noncomputable def Tryz.C70 : PC := .seq (.reg false [⟨some 4, Go.Op.assign (Go.Operand.const (Go.Value.int Go.IntKind.i64 0)), none, false⟩] [0, 1]) (.seq (.seq (.reg false [⟨some 6, Go.Op.move (Go.Operand.tmp 0), none, false⟩,
    ⟨some 7, Go.Op.call { callee := Go.Callee.value (Go.Operand.func 99), args := #[Go.Operand.tmp 6], argTypes := #[48] }, none, false⟩,
    ⟨some 5, Go.Op.assign (Go.Operand.tmp 7), none, false⟩] [1, 5]) (.seq (.reg false [⟨some 8, Go.Op.move (Go.Operand.tmp 5), none, false⟩,
    ⟨some 9, Go.Op.binOp Go.BinOp.neq 29 (Go.Operand.tmp 8) (Go.Operand.const (Go.Value.int Go.IntKind.i64 0)) 29, none, false⟩] [1, 5, 9]) (.cond (Go.Operand.tmp 9) (.seq (.reg false [⟨some 10, Go.Op.move (Go.Operand.tmp 5), none, false⟩,
    ⟨some 4, Go.Op.assign (Go.Operand.tmp 10), none, false⟩] [4]) (.ret)) (.skip)))) (.seq (.seq (.reg false [⟨some 11, Go.Op.move (Go.Operand.tmp 1), none, false⟩,
    ⟨some 12, Go.Op.call { callee := Go.Callee.value (Go.Operand.func 98), args := #[Go.Operand.tmp 11, Go.Operand.const (Go.Value.int Go.IntKind.i64 0), Go.Operand.const (Go.Value.int Go.IntKind.i64 65535)], argTypes := #[3, 3, 3] }, none, false⟩] [12]) (.cond (Go.Operand.tmp 12) (.seq (.reg false [⟨some 4, Go.Op.assign (Go.Operand.const (Go.Value.int Go.IntKind.i64 2)), none, false⟩] [4]) (.ret)) (.skip))) (.seq (.reg false [⟨some 4, Go.Op.assign (Go.Operand.const (Go.Value.int Go.IntKind.i64 0)), none, false⟩] [4]) (.ret))))
theorem Tryz.comp70 : ∃ c, Tryz.f70.body = some c ∧ compile c = erase Tryz.C70 := ⟨_, rfl, by kernel_rfl⟩
theorem Tryz.rs70 : Tryz.f70.results.toList = [Go.ResultVar.tmp 4] := by kernel_rfl
theorem Tryz.nt70 : Tryz.f70.ntmps = 13 := by kernel_rfl
theorem Tryz.en70 : ∀ vs w, (callFunc 70 vs).run Tryz.prog w = .ok (.enter 70 vs) w := enters_of Tryz.func70 (by kernel_rfl) rfl
theorem Tryz.ctr70 {a0 a1 : V} {bx : Boxes} {Kc : V → Boxes → Prop} (h : FinB bx → pw Tryz.prog Tryz.C70 (retQ Tryz.prog [Go.ResultVar.tmp 4] Kc) ⟨13, slk [(0, a0), (1, a1)], bx⟩) : AbsCall Tryz.prog 70 [a0, a1] bx Kc := abs_of (by kernel_rfl) Tryz.func70 Tryz.comp70 Tryz.en70 Tryz.nt70 Tryz.rs70 (fun hb => by rw [initSt_2]; exact h hb)
noncomputable def Tryz.C71 : PC := .seq (.reg false [⟨some 2, Go.Op.assign (Go.Operand.const (Go.Value.slice none 0 0)), none, false⟩] [0]) (.seq (.reg false [⟨some 3, Go.Op.move (Go.Operand.tmp 0), none, false⟩,
    ⟨some 4, Go.Op.call { callee := Go.Callee.value (Go.Operand.func 108), args := #[Go.Operand.const (Go.Value.slice none 0 0), Go.Operand.tmp 3], argTypes := #[23, 95] }, none, false⟩,
    ⟨some 2, Go.Op.assign (Go.Operand.tmp 4), none, false⟩] [2]) (.ret))
theorem Tryz.comp71 : ∃ c, Tryz.f71.body = some c ∧ compile c = erase Tryz.C71 := ⟨_, rfl, by kernel_rfl⟩
theorem Tryz.rs71 : Tryz.f71.results.toList = [Go.ResultVar.tmp 2] := by kernel_rfl
theorem Tryz.nt71 : Tryz.f71.ntmps = 5 := by kernel_rfl
theorem Tryz.en71 : ∀ vs w, (callFunc 71 vs).run Tryz.prog w = .ok (.enter 71 vs) w := enters_of Tryz.func71 (by kernel_rfl) rfl
theorem Tryz.ctr71 {a0 : V} {bx : Boxes} {Kc : V → Boxes → Prop} (h : FinB bx → pw Tryz.prog Tryz.C71 (retQ Tryz.prog [Go.ResultVar.tmp 2] Kc) ⟨5, slk [(0, a0)], bx⟩) : AbsCall Tryz.prog 71 [a0] bx Kc := abs_of (by kernel_rfl) Tryz.func71 Tryz.comp71 Tryz.en71 Tryz.nt71 Tryz.rs71 (fun hb => by rw [initSt_1]; exact h hb)
noncomputable def Tryz.C72 : PC := .seq (.reg false [⟨some 2, Go.Op.box 48 (Go.Operand.tmp 0), none, true⟩,
    ⟨some 3, Go.Op.box 3 (Go.Operand.tmp 1), none, true⟩,
    ⟨some 4, Go.Op.assign (Go.Operand.const Go.Value.nilFunc), none, false⟩] [2, 3]) (.seq (.reg false [⟨some 5, Go.Op.makeFunc (Go.Fn.func 109) #[] #[Go.Operand.tmp 2, Go.Operand.tmp 3], none, false⟩,
    ⟨some 4, Go.Op.assign (Go.Operand.tmp 5), none, false⟩] [4]) (.ret))
theorem Tryz.comp72 : ∃ c, Tryz.f72.body = some c ∧ compile c = erase Tryz.C72 := ⟨_, rfl, by kernel_rfl⟩
theorem Tryz.rs72 : Tryz.f72.results.toList = [Go.ResultVar.tmp 4] := by kernel_rfl
theorem Tryz.nt72 : Tryz.f72.ntmps = 6 := by kernel_rfl
theorem Tryz.en72 : ∀ vs w, (callFunc 72 vs).run Tryz.prog w = .ok (.enter 72 vs) w := enters_of Tryz.func72 (by kernel_rfl) rfl
theorem Tryz.ctr72 {a0 a1 : V} {bx : Boxes} {Kc : V → Boxes → Prop} (h : FinB bx → pw Tryz.prog Tryz.C72 (retQ Tryz.prog [Go.ResultVar.tmp 4] Kc) ⟨6, slk [(0, a0), (1, a1)], bx⟩) : AbsCall Tryz.prog 72 [a0, a1] bx Kc := abs_of (by kernel_rfl) Tryz.func72 Tryz.comp72 Tryz.en72 Tryz.nt72 Tryz.rs72 (fun hb => by rw [initSt_2]; exact h hb)
noncomputable def Tryz.C97 : PC := .seq (.reg false [⟨some 2, Go.Op.box 57 (Go.Operand.tmp 0), none, true⟩,
    ⟨some 3, Go.Op.box 57 (Go.Operand.tmp 1), none, true⟩,
    ⟨some 4, Go.Op.assign (Go.Operand.const (Go.Value.bool false)), none, false⟩] [2, 3]) (.seq (.reg false [⟨some 5, Go.Op.fieldAddr 57 (Go.Operand.tmp 2) 1, none, false⟩,
    ⟨some 6, Go.Op.load 3 (Go.Operand.tmp 5), none, false⟩,
    ⟨some 7, Go.Op.fieldAddr 57 (Go.Operand.tmp 3) 0, none, false⟩,
    ⟨some 8, Go.Op.load 3 (Go.Operand.tmp 7), none, false⟩,
    ⟨some 9, Go.Op.binOp Go.BinOp.mul 3 (Go.Operand.tmp 6) (Go.Operand.tmp 8) 3, none, false⟩,
    ⟨some 10, Go.Op.fieldAddr 57 (Go.Operand.tmp 3) 1, none, false⟩,
    ⟨some 11, Go.Op.load 3 (Go.Operand.tmp 10), none, false⟩,
    ⟨some 12, Go.Op.fieldAddr 57 (Go.Operand.tmp 2) 0, none, false⟩,
    ⟨some 13, Go.Op.load 3 (Go.Operand.tmp 12), none, false⟩,
    ⟨some 14, Go.Op.binOp Go.BinOp.mul 3 (Go.Operand.tmp 11) (Go.Operand.tmp 13) 3, none, false⟩,
    ⟨some 15, Go.Op.binOp Go.BinOp.lss 3 (Go.Operand.tmp 9) (Go.Operand.tmp 14) 3, none, false⟩,
    ⟨some 4, Go.Op.assign (Go.Operand.tmp 15), none, false⟩] [4]) (.ret))
theorem Tryz.comp97 : ∃ c, Tryz.f97.body = some c ∧ compile c = erase Tryz.C97 := ⟨_, rfl, by kernel_rfl⟩
theorem Tryz.rs97 : Tryz.f97.results.toList = [Go.ResultVar.tmp 4] := by kernel_rfl
theorem Tryz.nt97 : Tryz.f97.ntmps = 16 := by kernel_rfl
theorem Tryz.en97 : ∀ vs w, (callFunc 97 vs).run Tryz.prog w = .ok (.enter 97 vs) w := enters_of Tryz.func97 (by kernel_rfl) rfl
theorem Tryz.ctr97 {a0 a1 : V} {bx : Boxes} {Kc : V → Boxes → Prop} (h : FinB bx → pw Tryz.prog Tryz.C97 (retQ Tryz.prog [Go.ResultVar.tmp 4] Kc) ⟨16, slk [(0, a0), (1, a1)], bx⟩) : AbsCall Tryz.prog 97 [a0, a1] bx Kc := abs_of (by kernel_rfl) Tryz.func97 Tryz.comp97 Tryz.en97 Tryz.nt97 Tryz.rs97 (fun hb => by rw [initSt_2]; exact h hb)
noncomputable def Tryz.C98 : PC := .seq (.reg false [⟨some 6, Go.Op.assign (Go.Operand.const (Go.Value.bool false)), none, false⟩] [0, 1, 2]) (.seq (.reg false [⟨some 7, Go.Op.move (Go.Operand.tmp 0), none, false⟩,
    ⟨some 8, Go.Op.move (Go.Operand.tmp 1), none, false⟩,
    ⟨some 9, Go.Op.binOp Go.BinOp.lss 3 (Go.Operand.tmp 7) (Go.Operand.tmp 8) 3, none, false⟩,
    ⟨some 10, Go.Op.move (Go.Operand.tmp 9), none, false⟩,
    ⟨some 11, Go.Op.move (Go.Operand.tmp 0), some (10, false), false⟩,
    ⟨some 12, Go.Op.move (Go.Operand.tmp 2), some (10, false), false⟩,
    ⟨some 13, Go.Op.binOp Go.BinOp.gtr 3 (Go.Operand.tmp 11) (Go.Operand.tmp 12) 3, some (10, false), false⟩,
    ⟨some 14, Go.Op.pick (Go.Operand.tmp 10) (Go.Operand.const (Go.Value.bool true)) (Go.Operand.tmp 13), none, false⟩,
    ⟨some 6, Go.Op.assign (Go.Operand.tmp 14), none, false⟩] [6]) (.ret))
theorem Tryz.comp98 : ∃ c, Tryz.f98.body = some c ∧ compile c = erase Tryz.C98 := ⟨_, rfl, by kernel_rfl⟩
theorem Tryz.rs98 : Tryz.f98.results.toList = [Go.ResultVar.tmp 6] := by kernel_rfl
theorem Tryz.nt98 : Tryz.f98.ntmps = 15 := by kernel_rfl
theorem Tryz.en98 : ∀ vs w, (callFunc 98 vs).run Tryz.prog w = .ok (.enter 98 vs) w := enters_of Tryz.func98 (by kernel_rfl) rfl
theorem Tryz.ctr98 {a0 a1 a2 : V} {bx : Boxes} {Kc : V → Boxes → Prop} (h : FinB bx → pw Tryz.prog Tryz.C98 (retQ Tryz.prog [Go.ResultVar.tmp 6] Kc) ⟨15, slk [(0, a0), (1, a1), (2, a2)], bx⟩) : AbsCall Tryz.prog 98 [a0, a1, a2] bx Kc := abs_of (by kernel_rfl) Tryz.func98 Tryz.comp98 Tryz.en98 Tryz.nt98 Tryz.rs98 (fun hb => by rw [initSt_3]; exact h hb)
noncomputable def Tryz.C99 : PC := .seq (.reg false [⟨some 2, Go.Op.assign (Go.Operand.const (Go.Value.int Go.IntKind.i64 0)), none, false⟩] [0]) (.seq (.seq (.reg false [⟨some 4, Go.Op.move (Go.Operand.tmp 0), none, false⟩,
    ⟨some 5, Go.Op.call { callee := Go.Callee.builtin Go.Builtin.len, args := #[Go.Operand.tmp 4], argTypes := #[48] }, none, false⟩,
    ⟨some 6, Go.Op.call { callee := Go.Callee.value (Go.Operand.func 98), args := #[Go.Operand.tmp 5, Go.Operand.const (Go.Value.int Go.IntKind.i64 1), Go.Operand.const (Go.Value.int Go.IntKind.i64 16)], argTypes := #[3, 3, 3] }, none, false⟩] [0, 6]) (.cond (Go.Operand.tmp 6) (.seq (.reg false [⟨some 2, Go.Op.assign (Go.Operand.const (Go.Value.int Go.IntKind.i64 3)), none, false⟩] [2]) (.ret)) (.skip))) (.seq (.reg false [⟨some 3, Go.Op.assign (Go.Operand.func 128), none, false⟩] [0, 3]) (.seq (.seq (.reg false [⟨some 7, Go.Op.move (Go.Operand.tmp 0), none, false⟩,
    ⟨some 8, Go.Op.move (Go.Operand.tmp 3), none, false⟩,
    ⟨some 9, Go.Op.call { callee := Go.Callee.value (Go.Operand.func 101), args := #[Go.Operand.tmp 7, Go.Operand.tmp 8], argTypes := #[48, 124] }, none, false⟩] [9]) (.cond (Go.Operand.tmp 9) (.seq (.reg false [⟨some 2, Go.Op.assign (Go.Operand.const (Go.Value.int Go.IntKind.i64 7)), none, false⟩] [2]) (.ret)) (.skip))) (.seq (.reg false [⟨some 2, Go.Op.assign (Go.Operand.const (Go.Value.int Go.IntKind.i64 0)), none, false⟩] [2]) (.ret)))))
theorem Tryz.comp99 : ∃ c, Tryz.f99.body = some c ∧ compile c = erase Tryz.C99 := ⟨_, rfl, by kernel_rfl⟩
theorem Tryz.rs99 : Tryz.f99.results.toList = [Go.ResultVar.tmp 2] := by kernel_rfl
theorem Tryz.nt99 : Tryz.f99.ntmps = 10 := by kernel_rfl
theorem Tryz.en99 : ∀ vs w, (callFunc 99 vs).run Tryz.prog w = .ok (.enter 99 vs) w := enters_of Tryz.func99 (by kernel_rfl) rfl
theorem Tryz.ctr99 {a0 : V} {bx : Boxes} {Kc : V → Boxes → Prop} (h : FinB bx → pw Tryz.prog Tryz.C99 (retQ Tryz.prog [Go.ResultVar.tmp 2] Kc) ⟨10, slk [(0, a0)], bx⟩) : AbsCall Tryz.prog 99 [a0] bx Kc := abs_of (by kernel_rfl) Tryz.func99 Tryz.comp99 Tryz.en99 Tryz.nt99 Tryz.rs99 (fun hb => by rw [initSt_1]; exact h hb)
noncomputable def Tryz.L100_0a : PC := .reg false [⟨some 7, Go.Op.assign (Go.Operand.tmp 11), none, false⟩] [2, 5, 6, 7]
noncomputable def Tryz.L100_0b : PC := .block 1 (.seq (.reg true [⟨some 12, Go.Op.load 48 (Go.Operand.tmp 2), none, false⟩,
    ⟨some 13, Go.Op.move (Go.Operand.tmp 7), none, false⟩,
    ⟨some 14, Go.Op.indexAddr 48 (Go.Operand.tmp 12) (Go.Operand.tmp 13), none, false⟩,
    ⟨some 15, Go.Op.fieldAddr 57 (Go.Operand.tmp 14) 2, none, false⟩,
    ⟨some 16, Go.Op.load 3 (Go.Operand.tmp 15), none, false⟩,
    ⟨some 17, Go.Op.load 48 (Go.Operand.tmp 2), none, false⟩,
    ⟨some 18, Go.Op.move (Go.Operand.tmp 7), none, false⟩,
    ⟨some 19, Go.Op.indexAddr 48 (Go.Operand.tmp 17) (Go.Operand.tmp 18), none, false⟩,
    ⟨some 20, Go.Op.fieldAddr 57 (Go.Operand.tmp 19) 0, none, false⟩,
    ⟨some 21, Go.Op.load 3 (Go.Operand.tmp 20), none, false⟩,
    ⟨some 22, Go.Op.binOp Go.BinOp.add 3 (Go.Operand.tmp 16) (Go.Operand.tmp 21) 3, none, false⟩,
    ⟨some 23, Go.Op.indexAddr 48 (Go.Operand.tmp 12) (Go.Operand.tmp 13), none, false⟩,
    ⟨some 24, Go.Op.fieldAddr 57 (Go.Operand.tmp 23) 2, none, false⟩,
    ⟨none, Go.Op.store 3 (Go.Operand.tmp 24) (Go.Operand.tmp 22), none, false⟩] [2, 5, 6, 7]) (.seq (.reg true [⟨some 25, Go.Op.load 3 (Go.Operand.tmp 6), none, false⟩,
    ⟨some 26, Go.Op.load 48 (Go.Operand.tmp 2), none, false⟩,
    ⟨some 27, Go.Op.move (Go.Operand.tmp 7), none, false⟩,
    ⟨some 28, Go.Op.indexAddr 48 (Go.Operand.tmp 26) (Go.Operand.tmp 27), none, false⟩,
    ⟨some 29, Go.Op.fieldAddr 57 (Go.Operand.tmp 28) 0, none, false⟩,
    ⟨some 30, Go.Op.load 3 (Go.Operand.tmp 29), none, false⟩,
    ⟨some 31, Go.Op.binOp Go.BinOp.add 3 (Go.Operand.tmp 25) (Go.Operand.tmp 30) 3, none, false⟩,
    ⟨none, Go.Op.store 3 (Go.Operand.tmp 6) (Go.Operand.tmp 31), none, false⟩] [2, 5, 7]) (.seq (.reg true [⟨some 32, Go.Op.load 3 (Go.Operand.tmp 5), none, false⟩,
    ⟨some 33, Go.Op.binOp Go.BinOp.lss 3 (Go.Operand.tmp 32) (Go.Operand.const (Go.Value.int Go.IntKind.i64 0)) 3, none, false⟩,
    ⟨some 34, Go.Op.move (Go.Operand.tmp 33), none, false⟩,
    ⟨some 35, Go.Op.load 48 (Go.Operand.tmp 2), some (34, false), false⟩,
    ⟨some 36, Go.Op.move (Go.Operand.tmp 7), some (34, false), false⟩,
    ⟨some 37, Go.Op.indexAddr 48 (Go.Operand.tmp 35) (Go.Operand.tmp 36), some (34, false), false⟩,
    ⟨some 38, Go.Op.fieldAddr 57 (Go.Operand.tmp 37) 2, some (34, false), false⟩,
    ⟨some 39, Go.Op.load 3 (Go.Operand.tmp 38), some (34, false), false⟩,
    ⟨some 40, Go.Op.load 48 (Go.Operand.tmp 2), some (34, false), false⟩,
    ⟨some 41, Go.Op.load 3 (Go.Operand.tmp 5), some (34, false), false⟩,
    ⟨some 42, Go.Op.indexAddr 48 (Go.Operand.tmp 40) (Go.Operand.tmp 41), some (34, false), false⟩,
    ⟨some 43, Go.Op.fieldAddr 57 (Go.Operand.tmp 42) 2, some (34, false), false⟩,
    ⟨some 44, Go.Op.load 3 (Go.Operand.tmp 43), some (34, false), false⟩,
    ⟨some 45, Go.Op.binOp Go.BinOp.gtr 3 (Go.Operand.tmp 39) (Go.Operand.tmp 44) 3, some (34, false), false⟩,
    ⟨some 46, Go.Op.pick (Go.Operand.tmp 34) (Go.Operand.const (Go.Value.bool true)) (Go.Operand.tmp 45), none, false⟩] [5, 7, 46]) (.cond (Go.Operand.tmp 46) (.reg false [⟨some 47, Go.Op.move (Go.Operand.tmp 7), none, false⟩,
    ⟨none, Go.Op.store 3 (Go.Operand.tmp 5) (Go.Operand.tmp 47), none, false⟩] []) (.skip)))))
noncomputable def Tryz.C100 : PC := .seq (.reg false [⟨some 2, Go.Op.box 48 (Go.Operand.tmp 0), none, true⟩,
    ⟨some 4, Go.Op.assign (Go.Operand.const (Go.Value.int Go.IntKind.i64 0)), none, false⟩] [1, 2, 4]) (.seq (.reg false [⟨some 5, Go.Op.alloc 3, none, false⟩,
    ⟨some 6, Go.Op.alloc 3, none, false⟩,
    ⟨none, Go.Op.store 3 (Go.Operand.tmp 5) (Go.Operand.const (Go.Value.int Go.IntKind.i64 (-1))), none, false⟩,
    ⟨none, Go.Op.store 3 (Go.Operand.tmp 6) (Go.Operand.const (Go.Value.int Go.IntKind.i64 0)), none, false⟩] [1, 2, 4, 5, 6]) (.seq (.seq (.reg false [⟨some 8, Go.Op.load 48 (Go.Operand.tmp 2), none, false⟩,
    ⟨some 9, Go.Op.move (Go.Operand.tmp 1), none, false⟩,
    ⟨some 10, Go.Op.call { callee := Go.Callee.value (Go.Operand.func 72), args := #[Go.Operand.tmp 8, Go.Operand.tmp 9], argTypes := #[48, 3] }, none, false⟩] [2, 4, 5, 6, 10]) (.block 0 (.rangeFunc (Go.Operand.tmp 10) #[11] Tryz.L100_0a Tryz.L100_0b))) (.seq (.seq (.reg false [⟨some 48, Go.Op.load 3 (Go.Operand.tmp 5), none, false⟩,
    ⟨some 49, Go.Op.binOp Go.BinOp.geq 3 (Go.Operand.tmp 48) (Go.Operand.const (Go.Value.int Go.IntKind.i64 0)) 3, none, false⟩] [2, 5, 6, 49]) (.cond (Go.Operand.tmp 49) (.reg true [⟨some 50, Go.Op.load 48 (Go.Operand.tmp 2), none, false⟩,
    ⟨some 51, Go.Op.load 3 (Go.Operand.tmp 5), none, false⟩,
    ⟨some 52, Go.Op.indexAddr 48 (Go.Operand.tmp 50) (Go.Operand.tmp 51), none, false⟩,
    ⟨some 53, Go.Op.fieldAddr 57 (Go.Operand.tmp 52) 2, none, false⟩,
    ⟨some 54, Go.Op.load 3 (Go.Operand.tmp 53), none, false⟩,
    ⟨some 55, Go.Op.load 3 (Go.Operand.tmp 6), none, false⟩,
    ⟨some 56, Go.Op.binOp Go.BinOp.sub 3 (Go.Operand.tmp 54) (Go.Operand.tmp 55) 3, none, false⟩,
    ⟨some 57, Go.Op.indexAddr 48 (Go.Operand.tmp 50) (Go.Operand.tmp 51), none, false⟩,
    ⟨some 58, Go.Op.fieldAddr 57 (Go.Operand.tmp 57) 2, none, false⟩,
    ⟨none, Go.Op.store 3 (Go.Operand.tmp 58) (Go.Operand.tmp 56), none, false⟩] [5]) (.skip))) (.seq (.reg false [⟨some 59, Go.Op.load 3 (Go.Operand.tmp 5), none, false⟩,
    ⟨some 4, Go.Op.assign (Go.Operand.tmp 59), none, false⟩] [4]) (.ret)))))
theorem Tryz.comp100 : ∃ c, Tryz.f100.body = some c ∧ compile c = erase Tryz.C100 := ⟨_, rfl, by kernel_rfl⟩
theorem Tryz.rs100 : Tryz.f100.results.toList = [Go.ResultVar.tmp 4] := by kernel_rfl
theorem Tryz.nt100 : Tryz.f100.ntmps = 60 := by kernel_rfl
theorem Tryz.en100 : ∀ vs w, (callFunc 100 vs).run Tryz.prog w = .ok (.enter 100 vs) w := enters_of Tryz.func100 (by kernel_rfl) rfl
theorem Tryz.ctr100 {a0 a1 : V} {bx : Boxes} {Kc : V → Boxes → Prop} (h : FinB bx → pw Tryz.prog Tryz.C100 (retQ Tryz.prog [Go.ResultVar.tmp 4] Kc) ⟨60, slk [(0, a0), (1, a1)], bx⟩) : AbsCall Tryz.prog 100 [a0, a1] bx Kc := abs_of (by kernel_rfl) Tryz.func100 Tryz.comp100 Tryz.en100 Tryz.nt100 Tryz.rs100 (fun hb => by rw [initSt_2]; exact h hb)
noncomputable def Tryz.C101 : PC := .seq (.reg false [⟨some 4, Go.Op.assign (Go.Operand.const (Go.Value.bool false)), none, false⟩] [0, 1]) (.seq (.reg false [⟨some 5, Go.Op.move (Go.Operand.tmp 0), none, false⟩,
    ⟨some 6, Go.Op.move (Go.Operand.tmp 1), none, false⟩,
    ⟨some 7, Go.Op.call { callee := Go.Callee.value (Go.Operand.func 129), args := #[Go.Operand.tmp 5, Go.Operand.tmp 6], argTypes := #[48, 124] }, none, false⟩,
    ⟨some 8, Go.Op.binOp Go.BinOp.geq 3 (Go.Operand.tmp 7) (Go.Operand.const (Go.Value.int Go.IntKind.i64 0)) 3, none, false⟩,
    ⟨some 4, Go.Op.assign (Go.Operand.tmp 8), none, false⟩] [4]) (.ret))
theorem Tryz.comp101 : ∃ c, Tryz.f101.body = some c ∧ compile c = erase Tryz.C101 := ⟨_, rfl, by kernel_rfl⟩
theorem Tryz.rs101 : Tryz.f101.results.toList = [Go.ResultVar.tmp 4] := by kernel_rfl
theorem Tryz.nt101 : Tryz.f101.ntmps = 9 := by kernel_rfl
theorem Tryz.en101 : ∀ vs w, (callFunc 101 vs).run Tryz.prog w = .ok (.enter 101 vs) w := enters_of Tryz.func101 (by kernel_rfl) rfl
theorem Tryz.ctr101 {a0 a1 : V} {bx : Boxes} {Kc : V → Boxes → Prop} (h : FinB bx → pw Tryz.prog Tryz.C101 (retQ Tryz.prog [Go.ResultVar.tmp 4] Kc) ⟨9, slk [(0, a0), (1, a1)], bx⟩) : AbsCall Tryz.prog 101 [a0, a1] bx Kc := abs_of (by kernel_rfl) Tryz.func101 Tryz.comp101 Tryz.en101 Tryz.nt101 Tryz.rs101 (fun hb => by rw [initSt_2]; exact h hb)
noncomputable def Tryz.C102 : PC := .seq (.reg false [⟨some 1, Go.Op.box 57 (Go.Operand.tmp 0), none, true⟩,
    ⟨some 2, Go.Op.assign (Go.Operand.const (Go.Value.bool false)), none, false⟩] [1]) (.seq (.reg false [⟨some 3, Go.Op.fieldAddr 57 (Go.Operand.tmp 1) 2, none, false⟩,
    ⟨some 4, Go.Op.load 3 (Go.Operand.tmp 3), none, false⟩,
    ⟨some 5, Go.Op.binOp Go.BinOp.neq 3 (Go.Operand.tmp 4) (Go.Operand.const (Go.Value.int Go.IntKind.i64 0)) 3, none, false⟩,
    ⟨some 2, Go.Op.assign (Go.Operand.tmp 5), none, false⟩] [2]) (.ret))
theorem Tryz.comp102 : ∃ c, Tryz.f102.body = some c ∧ compile c = erase Tryz.C102 := ⟨_, rfl, by kernel_rfl⟩
theorem Tryz.rs102 : Tryz.f102.results.toList = [Go.ResultVar.tmp 2] := by kernel_rfl
theorem Tryz.nt102 : Tryz.f102.ntmps = 6 := by kernel_rfl
theorem Tryz.en102 : ∀ vs w, (callFunc 102 vs).run Tryz.prog w = .ok (.enter 102 vs) w := enters_of Tryz.func102 (by kernel_rfl) rfl
theorem Tryz.ctr102 {a0 : V} {bx : Boxes} {Kc : V → Boxes → Prop} (h : FinB bx → pw Tryz.prog Tryz.C102 (retQ Tryz.prog [Go.ResultVar.tmp 2] Kc) ⟨6, slk [(0, a0)], bx⟩) : AbsCall Tryz.prog 102 [a0] bx Kc := abs_of (by kernel_rfl) Tryz.func102 Tryz.comp102 Tryz.en102 Tryz.nt102 Tryz.rs102 (fun hb => by rw [initSt_1]; exact h hb)
noncomputable def Tryz.C103 : PC := .seq (.reg false [⟨some 2, Go.Op.assign (Go.Operand.const (Go.Value.slice none 0 0)), none, false⟩] [0]) (.seq (.seq (.reg false [⟨some 3, Go.Op.move (Go.Operand.tmp 0), none, false⟩,
    ⟨some 4, Go.Op.binOp Go.BinOp.eql 48 (Go.Operand.tmp 3) (Go.Operand.const (Go.Value.slice none 0 0)) 48, none, true⟩] [0, 4]) (.cond (Go.Operand.tmp 4) (.seq (.reg false [⟨some 2, Go.Op.assign (Go.Operand.const (Go.Value.slice none 0 0)), none, false⟩] [2]) (.ret)) (.skip))) (.seq (.reg false [⟨some 5, Go.Op.buildSlice 48 0 #[], none, false⟩,
    ⟨some 6, Go.Op.move (Go.Operand.tmp 0), none, false⟩,
    ⟨some 7, Go.Op.call { callee := Go.Callee.builtin Go.Builtin.append, args := #[Go.Operand.tmp 5, Go.Operand.tmp 6], argTypes := #[48, 48] }, none, false⟩,
    ⟨some 2, Go.Op.assign (Go.Operand.tmp 7), none, false⟩] [2]) (.ret)))
theorem Tryz.comp103 : ∃ c, Tryz.f103.body = some c ∧ compile c = erase Tryz.C103 := ⟨_, rfl, by kernel_rfl⟩
theorem Tryz.rs103 : Tryz.f103.results.toList = [Go.ResultVar.tmp 2] := by kernel_rfl
theorem Tryz.nt103 : Tryz.f103.ntmps = 8 := by kernel_rfl
theorem Tryz.en103 : ∀ vs w, (callFunc 103 vs).run Tryz.prog w = .ok (.enter 103 vs) w := enters_of Tryz.func103 (by kernel_rfl) rfl
theorem Tryz.ctr103 {a0 : V} {bx : Boxes} {Kc : V → Boxes → Prop} (h : FinB bx → pw Tryz.prog Tryz.C103 (retQ Tryz.prog [Go.ResultVar.tmp 2] Kc) ⟨8, slk [(0, a0)], bx⟩) : AbsCall Tryz.prog 103 [a0] bx Kc := abs_of (by kernel_rfl) Tryz.func103 Tryz.comp103 Tryz.en103 Tryz.nt103 Tryz.rs103 (fun hb => by rw [initSt_1]; exact h hb)
noncomputable def Tryz.L104_0 : PC := .seq (.seq (.reg false [⟨some 16, Go.Op.move (Go.Operand.tmp 6), none, false⟩,
    ⟨some 17, Go.Op.move (Go.Operand.tmp 0), none, false⟩,
    ⟨some 18, Go.Op.call { callee := Go.Callee.builtin Go.Builtin.len, args := #[Go.Operand.tmp 17], argTypes := #[23] }, none, false⟩,
    ⟨some 19, Go.Op.binOp Go.BinOp.lss 3 (Go.Operand.tmp 16) (Go.Operand.tmp 18) 3, none, false⟩] [0, 1, 5, 6, 19]) (.cond (Go.Operand.tmp 19) (.skip) (.exit 0))) (.seq (.block 1 (.seq (.reg false [⟨some 22, Go.Op.move (Go.Operand.tmp 0), none, false⟩,
    ⟨some 23, Go.Op.move (Go.Operand.tmp 6), none, false⟩,
    ⟨some 24, Go.Op.indexAddr 23 (Go.Operand.tmp 22) (Go.Operand.tmp 23), none, false⟩,
    ⟨some 25, Go.Op.load 3 (Go.Operand.tmp 24), none, false⟩,
    ⟨some 7, Go.Op.assign (Go.Operand.tmp 25), none, false⟩] [0, 1, 5, 6, 7]) (.seq (.reg false [⟨some 26, Go.Op.move (Go.Operand.tmp 1), none, false⟩,
    ⟨some 27, Go.Op.move (Go.Operand.tmp 7), none, false⟩,
    ⟨some 28, Go.Op.call { callee := Go.Callee.value (Go.Operand.tmp 26), args := #[Go.Operand.tmp 27], argTypes := #[3] }, none, false⟩,
    ⟨some 29, Go.Op.unOp Go.UnOp.not 4 (Go.Operand.tmp 28), none, false⟩] [0, 1, 5, 6, 7, 29]) (.cond (Go.Operand.tmp 29) (.seq (.reg false [⟨some 30, Go.Op.move (Go.Operand.tmp 0), none, false⟩,
    ⟨some 31, Go.Op.move (Go.Operand.tmp 5), none, false⟩,
    ⟨some 32, Go.Op.move (Go.Operand.tmp 7), none, false⟩,
    ⟨some 33, Go.Op.indexAddr 23 (Go.Operand.tmp 30) (Go.Operand.tmp 31), none, false⟩,
    ⟨none, Go.Op.store 3 (Go.Operand.tmp 33) (Go.Operand.tmp 32), none, false⟩] [0, 1, 5, 6]) (.reg false [⟨some 34, Go.Op.move (Go.Operand.tmp 5), none, false⟩,
    ⟨some 35, Go.Op.binOp Go.BinOp.add 3 (Go.Operand.tmp 34) (Go.Operand.const (Go.Value.int Go.IntKind.i64 1)) 3, none, false⟩,
    ⟨some 5, Go.Op.assign (Go.Operand.tmp 35), none, false⟩] [0, 1, 5, 6])) (.skip))))) (.reg false [⟨some 20, Go.Op.move (Go.Operand.tmp 6), none, false⟩,
    ⟨some 21, Go.Op.binOp Go.BinOp.add 3 (Go.Operand.tmp 20) (Go.Operand.const (Go.Value.int Go.IntKind.i64 1)) 3, none, false⟩,
    ⟨some 6, Go.Op.assign (Go.Operand.tmp 21), none, false⟩] [0, 1, 5, 6]))
noncomputable def Tryz.C104 : PC := .seq (.reg false [⟨some 4, Go.Op.assign (Go.Operand.const (Go.Value.slice none 0 0)), none, false⟩] [0, 1]) (.seq (.reg false [⟨some 8, Go.Op.move (Go.Operand.tmp 0), none, false⟩,
    ⟨some 9, Go.Op.move (Go.Operand.tmp 1), none, false⟩,
    ⟨some 10, Go.Op.call { callee := Go.Callee.value (Go.Operand.func 68), args := #[Go.Operand.tmp 8, Go.Operand.tmp 9], argTypes := #[23, 91] }, none, false⟩,
    ⟨some 5, Go.Op.assign (Go.Operand.tmp 10), none, false⟩] [0, 1, 5]) (.seq (.seq (.reg false [⟨some 11, Go.Op.move (Go.Operand.tmp 5), none, false⟩,
    ⟨some 12, Go.Op.binOp Go.BinOp.eql 3 (Go.Operand.tmp 11) (Go.Operand.const (Go.Value.int Go.IntKind.i64 (-1))) 3, none, false⟩] [0, 1, 5, 12]) (.cond (Go.Operand.tmp 12) (.seq (.reg false [⟨some 13, Go.Op.move (Go.Operand.tmp 0), none, false⟩,
    ⟨some 4, Go.Op.assign (Go.Operand.tmp 13), none, false⟩] [4]) (.ret)) (.skip))) (.seq (.seq (.reg false [⟨some 14, Go.Op.move (Go.Operand.tmp 5), none, false⟩,
    ⟨some 15, Go.Op.binOp Go.BinOp.add 3 (Go.Operand.tmp 14) (Go.Operand.const (Go.Value.int Go.IntKind.i64 1)) 3, none, false⟩,
    ⟨some 6, Go.Op.assign (Go.Operand.tmp 15), none, false⟩] [0, 1, 5, 6]) (.block 0 (.loop Tryz.L104_0))) (.seq (.reg false [⟨some 36, Go.Op.move (Go.Operand.tmp 0), none, false⟩,
    ⟨some 37, Go.Op.move (Go.Operand.tmp 5), none, false⟩,
    ⟨some 38, Go.Op.slice 23 (Go.Operand.tmp 36) (some (Go.Operand.tmp 37)) none none, none, false⟩,
    ⟨none, Go.Op.call { callee := Go.Callee.builtin Go.Builtin.clear, args := #[Go.Operand.tmp 38], argTypes := #[23] }, none, false⟩] [0, 5]) (.seq (.reg false [⟨some 39, Go.Op.move (Go.Operand.tmp 0), none, false⟩,
    ⟨some 40, Go.Op.move (Go.Operand.tmp 5), none, false⟩,
    ⟨some 41, Go.Op.slice 23 (Go.Operand.tmp 39) none (some (Go.Operand.tmp 40)) none, none, false⟩,
    ⟨some 4, Go.Op.assign (Go.Operand.tmp 41), none, false⟩] [4]) (.ret))))))
theorem Tryz.comp104 : ∃ c, Tryz.f104.body = some c ∧ compile c = erase Tryz.C104 := ⟨_, rfl, by kernel_rfl⟩
theorem Tryz.rs104 : Tryz.f104.results.toList = [Go.ResultVar.tmp 4] := by kernel_rfl
theorem Tryz.nt104 : Tryz.f104.ntmps = 42 := by kernel_rfl
theorem Tryz.en104 : ∀ vs w, (callFunc 104 vs).run Tryz.prog w = .ok (.enter 104 vs) w := enters_of Tryz.func104 (by kernel_rfl) rfl
theorem Tryz.ctr104 {a0 a1 : V} {bx : Boxes} {Kc : V → Boxes → Prop} (h : FinB bx → pw Tryz.prog Tryz.C104 (retQ Tryz.prog [Go.ResultVar.tmp 4] Kc) ⟨42, slk [(0, a0), (1, a1)], bx⟩) : AbsCall Tryz.prog 104 [a0, a1] bx Kc := abs_of (by kernel_rfl) Tryz.func104 Tryz.comp104 Tryz.en104 Tryz.nt104 Tryz.rs104 (fun hb => by rw [initSt_2]; exact h hb)
noncomputable def Tryz.C105 : PC := .seq (.reg false [⟨some 3, Go.Op.assign (Go.Operand.const (Go.Value.bool false)), none, false⟩] [0, 1]) (.seq (.reg false [⟨some 4, Go.Op.load 23 (Go.Operand.tmp 1), none, false⟩,
    ⟨some 5, Go.Op.move (Go.Operand.tmp 0), none, false⟩,
    ⟨some 6, Go.Op.call { callee := Go.Callee.value (Go.Operand.func 57), args := #[Go.Operand.tmp 4, Go.Operand.tmp 5], argTypes := #[23, 3] }, none, false⟩,
    ⟨some 7, Go.Op.unOp Go.UnOp.not 4 (Go.Operand.tmp 6), none, false⟩,
    ⟨some 3, Go.Op.assign (Go.Operand.tmp 7), none, false⟩] [3]) (.ret))
theorem Tryz.comp105 : ∃ c, Tryz.f105.body = some c ∧ compile c = erase Tryz.C105 := ⟨_, rfl, by kernel_rfl⟩
theorem Tryz.rs105 : Tryz.f105.results.toList = [Go.ResultVar.tmp 3] := by kernel_rfl
theorem Tryz.nt105 : Tryz.f105.ntmps = 8 := by kernel_rfl
theorem Tryz.en105 : ∀ vs w, (callFunc 105 vs).run Tryz.prog w = .ok (.enter 105 vs) w := enters_of Tryz.func105 (by kernel_rfl) rfl
theorem Tryz.ctr105 {a0 a1 : V} {bx : Boxes} {Kc : V → Boxes → Prop} (h : FinB bx → pw Tryz.prog Tryz.C105 (retQ Tryz.prog [Go.ResultVar.tmp 3] Kc) ⟨8, slk [(0, a0), (1, a1)], bx⟩) : AbsCall Tryz.prog 105 [a0, a1] bx Kc := abs_of (by kernel_rfl) Tryz.func105 Tryz.comp105 Tryz.en105 Tryz.nt105 Tryz.rs105 (fun hb => by rw [initSt_2]; exact h hb)
noncomputable def Tryz.C106 : PC := .seq (.reg false [⟨some 4, Go.Op.assign (Go.Operand.const (Go.Value.slice none 0 0)), none, false⟩,
    ⟨some 5, Go.Op.assign (Go.Operand.const (Go.Value.int Go.IntKind.i64 0)), none, false⟩] [0, 1]) (.seq (.reg false [⟨some 7, Go.Op.move (Go.Operand.tmp 0), none, false⟩,
    ⟨some 8, Go.Op.move (Go.Operand.tmp 1), none, false⟩,
    ⟨some 9, Go.Op.call { callee := Go.Callee.value (Go.Operand.func 130), args := #[Go.Operand.tmp 7, Go.Operand.tmp 8], argTypes := #[48, 3] }, none, false⟩,
    ⟨some 6, Go.Op.assign (Go.Operand.tmp 9), none, false⟩] [0, 1, 6]) (.seq (.seq (.reg false [⟨some 10, Go.Op.move (Go.Operand.tmp 6), none, false⟩,
    ⟨some 11, Go.Op.binOp Go.BinOp.neq 29 (Go.Operand.tmp 10) (Go.Operand.const (Go.Value.int Go.IntKind.i64 0)) 29, none, false⟩] [0, 1, 6, 11]) (.cond (Go.Operand.tmp 11) (.seq (.reg false [⟨some 12, Go.Op.move (Go.Operand.tmp 6), none, false⟩,
    ⟨some 4, Go.Op.assign (Go.Operand.const (Go.Value.slice none 0 0)), none, false⟩,
    ⟨some 5, Go.Op.assign (Go.Operand.tmp 12), none, false⟩] [4, 5]) (.ret)) (.skip))) (.seq (.reg false [⟨some 13, Go.Op.move (Go.Operand.tmp 0), none, false⟩,
    ⟨some 14, Go.Op.move (Go.Operand.tmp 1), none, false⟩,
    ⟨some 15, Go.Op.call { callee := Go.Callee.value (Go.Operand.func 131), args := #[Go.Operand.tmp 13, Go.Operand.tmp 14], argTypes := #[48, 3] }, none, false⟩,
    ⟨some 4, Go.Op.assign (Go.Operand.tmp 15), none, false⟩,
    ⟨some 5, Go.Op.assign (Go.Operand.const (Go.Value.int Go.IntKind.i64 0)), none, false⟩] [4, 5]) (.ret))))
theorem Tryz.comp106 : ∃ c, Tryz.f106.body = some c ∧ compile c = erase Tryz.C106 := ⟨_, rfl, by kernel_rfl⟩
theorem Tryz.rs106 : Tryz.f106.results.toList = [Go.ResultVar.tmp 4, Go.ResultVar.tmp 5] := by kernel_rfl
theorem Tryz.nt106 : Tryz.f106.ntmps = 16 := by kernel_rfl
theorem Tryz.en106 : ∀ vs w, (callFunc 106 vs).run Tryz.prog w = .ok (.enter 106 vs) w := enters_of Tryz.func106 (by kernel_rfl) rfl
theorem Tryz.ctr106 {a0 a1 : V} {bx : Boxes} {Kc : V → Boxes → Prop} (h : FinB bx → pw Tryz.prog Tryz.C106 (retQ Tryz.prog [Go.ResultVar.tmp 4, Go.ResultVar.tmp 5] Kc) ⟨16, slk [(0, a0), (1, a1)], bx⟩) : AbsCall Tryz.prog 106 [a0, a1] bx Kc := abs_of (by kernel_rfl) Tryz.func106 Tryz.comp106 Tryz.en106 Tryz.nt106 Tryz.rs106 (fun hb => by rw [initSt_2]; exact h hb)
noncomputable def Tryz.L107_0 : PC := .seq (.seq (.reg false [⟨some 6, Go.Op.move (Go.Operand.tmp 5), none, false⟩,
    ⟨some 7, Go.Op.move (Go.Operand.tmp 0), none, false⟩,
    ⟨some 8, Go.Op.call { callee := Go.Callee.builtin Go.Builtin.len, args := #[Go.Operand.tmp 7], argTypes := #[23] }, none, false⟩,
    ⟨some 9, Go.Op.binOp Go.BinOp.lss 3 (Go.Operand.tmp 6) (Go.Operand.tmp 8) 3, none, false⟩] [0, 1, 5, 9]) (.cond (Go.Operand.tmp 9) (.skip) (.exit 0))) (.seq (.block 1 (.seq (.reg false [⟨some 12, Go.Op.move (Go.Operand.tmp 0), none, false⟩,
    ⟨some 13, Go.Op.move (Go.Operand.tmp 5), none, false⟩,
    ⟨some 14, Go.Op.indexAddr 23 (Go.Operand.tmp 12) (Go.Operand.tmp 13), none, false⟩,
    ⟨some 15, Go.Op.load 3 (Go.Operand.tmp 14), none, false⟩,
    ⟨some 16, Go.Op.move (Go.Operand.tmp 1), none, false⟩,
    ⟨some 17, Go.Op.binOp Go.BinOp.eql 3 (Go.Operand.tmp 15) (Go.Operand.tmp 16) 3, none, false⟩] [0, 1, 5, 17]) (.cond (Go.Operand.tmp 17) (.seq (.reg false [⟨some 4, Go.Op.assign (Go.Operand.const (Go.Value.bool true)), none, false⟩] [4]) (.ret)) (.skip)))) (.reg false [⟨some 10, Go.Op.move (Go.Operand.tmp 5), none, false⟩,
    ⟨some 11, Go.Op.binOp Go.BinOp.add 3 (Go.Operand.tmp 10) (Go.Operand.const (Go.Value.int Go.IntKind.i64 1)) 3, none, false⟩,
    ⟨some 5, Go.Op.assign (Go.Operand.tmp 11), none, false⟩] [0, 1, 5]))
noncomputable def Tryz.C107 : PC := .seq (.reg false [⟨some 4, Go.Op.assign (Go.Operand.const (Go.Value.bool false)), none, false⟩] [0, 1]) (.seq (.seq (.reg false [⟨some 5, Go.Op.assign (Go.Operand.const (Go.Value.int Go.IntKind.i64 0)), none, false⟩] [0, 1, 5]) (.block 0 (.loop Tryz.L107_0))) (.seq (.reg false [⟨some 4, Go.Op.assign (Go.Operand.const (Go.Value.bool false)), none, false⟩] [4]) (.ret)))
theorem Tryz.comp107 : ∃ c, Tryz.f107.body = some c ∧ compile c = erase Tryz.C107 := ⟨_, rfl, by kernel_rfl⟩
theorem Tryz.rs107 : Tryz.f107.results.toList = [Go.ResultVar.tmp 4] := by kernel_rfl
theorem Tryz.nt107 : Tryz.f107.ntmps = 18 := by kernel_rfl
theorem Tryz.en107 : ∀ vs w, (callFunc 107 vs).run Tryz.prog w = .ok (.enter 107 vs) w := enters_of Tryz.func107 (by kernel_rfl) rfl
theorem Tryz.ctr107 {a0 a1 : V} {bx : Boxes} {Kc : V → Boxes → Prop} (h : FinB bx → pw Tryz.prog Tryz.C107 (retQ Tryz.prog [Go.ResultVar.tmp 4] Kc) ⟨18, slk [(0, a0), (1, a1)], bx⟩) : AbsCall Tryz.prog 107 [a0, a1] bx Kc := abs_of (by kernel_rfl) Tryz.func107 Tryz.comp107 Tryz.en107 Tryz.nt107 Tryz.rs107 (fun hb => by rw [initSt_2]; exact h hb)
noncomputable def Tryz.L108_0a : PC := .reg false [⟨some 5, Go.Op.assign (Go.Operand.tmp 7), none, false⟩] [2, 5]
noncomputable def Tryz.L108_0b : PC := .block 1 (.reg false [⟨some 8, Go.Op.load 23 (Go.Operand.tmp 2), none, false⟩,
    ⟨some 9, Go.Op.move (Go.Operand.tmp 5), none, false⟩,
    ⟨some 10, Go.Op.buildSlice 23 1 #[(0, Go.Operand.tmp 9)], none, false⟩,
    ⟨some 11, Go.Op.call { callee := Go.Callee.builtin Go.Builtin.append, args := #[Go.Operand.tmp 8, Go.Operand.tmp 10], argTypes := #[23, 23] }, none, false⟩,
    ⟨none, Go.Op.store 23 (Go.Operand.tmp 2) (Go.Operand.tmp 11), none, false⟩] [])
noncomputable def Tryz.C108 : PC := .seq (.reg false [⟨some 2, Go.Op.box 23 (Go.Operand.tmp 0), none, false⟩,
    ⟨some 4, Go.Op.assign (Go.Operand.const (Go.Value.slice none 0 0)), none, false⟩] [1, 2, 4]) (.seq (.seq (.reg false [⟨some 6, Go.Op.move (Go.Operand.tmp 1), none, false⟩] [2, 4, 6]) (.block 0 (.rangeFunc (Go.Operand.tmp 6) #[7] Tryz.L108_0a Tryz.L108_0b))) (.seq (.reg false [⟨some 12, Go.Op.load 23 (Go.Operand.tmp 2), none, false⟩,
    ⟨some 4, Go.Op.assign (Go.Operand.tmp 12), none, false⟩] [4]) (.ret)))
theorem Tryz.comp108 : ∃ c, Tryz.f108.body = some c ∧ compile c = erase Tryz.C108 := ⟨_, rfl, by kernel_rfl⟩
theorem Tryz.rs108 : Tryz.f108.results.toList = [Go.ResultVar.tmp 4] := by kernel_rfl
theorem Tryz.nt108 : Tryz.f108.ntmps = 13 := by kernel_rfl
theorem Tryz.en108 : ∀ vs w, (callFunc 108 vs).run Tryz.prog w = .ok (.enter 108 vs) w := enters_of Tryz.func108 (by kernel_rfl) rfl
theorem Tryz.ctr108 {a0 a1 : V} {bx : Boxes} {Kc : V → Boxes → Prop} (h : FinB bx → pw Tryz.prog Tryz.C108 (retQ Tryz.prog [Go.ResultVar.tmp 4] Kc) ⟨13, slk [(0, a0), (1, a1)], bx⟩) : AbsCall Tryz.prog 108 [a0, a1] bx Kc := abs_of (by kernel_rfl) Tryz.func108 Tryz.comp108 Tryz.en108 Tryz.nt108 Tryz.rs108 (fun hb => by rw [initSt_2]; exact h hb)
noncomputable def Tryz.L109_0 : PC := .seq (.reg false [⟨some 9, Go.Op.binOp Go.BinOp.lss 3 (Go.Operand.tmp 8) (Go.Operand.tmp 7) 3, none, false⟩] [0, 2, 6, 7, 8, 9]) (.seq (.cond (Go.Operand.tmp 9) (.skip) (.exit 0)) (.seq (.block 1 (.seq (.reg false [⟨some 10, Go.Op.move (Go.Operand.tmp 8), none, false⟩,
    ⟨some 11, Go.Op.indexAddr 48 (Go.Operand.tmp 6) (Go.Operand.tmp 8), none, false⟩,
    ⟨some 12, Go.Op.load 57 (Go.Operand.tmp 11), none, false⟩,
    ⟨some 5, Go.Op.alloc 57, none, false⟩,
    ⟨some 4, Go.Op.assign (Go.Operand.tmp 10), none, false⟩,
    ⟨none, Go.Op.store 57 (Go.Operand.tmp 5) (Go.Operand.tmp 12), none, false⟩] [0, 2, 4, 5, 6, 7, 8]) (.fz 5 (.seq (.reg false [⟨some 13, Go.Op.fieldAddr 57 (Go.Operand.tmp 5) 3, none, false⟩,
    ⟨some 14, Go.Op.load 4 (Go.Operand.tmp 13), none, false⟩,
    ⟨some 15, Go.Op.move (Go.Operand.tmp 14), none, false⟩,
    ⟨some 16, Go.Op.fieldAddr 57 (Go.Operand.tmp 5) 4, some (15, true), false⟩,
    ⟨some 17, Go.Op.load 4 (Go.Operand.tmp 16), some (15, true), false⟩,
    ⟨some 18, Go.Op.unOp Go.UnOp.not 4 (Go.Operand.tmp 17), some (15, true), false⟩,
    ⟨some 19, Go.Op.pick (Go.Operand.tmp 15) (Go.Operand.tmp 18) (Go.Operand.const (Go.Value.bool false)), none, false⟩,
    ⟨some 20, Go.Op.move (Go.Operand.tmp 19), none, false⟩,
    ⟨some 21, Go.Op.fieldAddr 57 (Go.Operand.tmp 5) 0, some (20, true), false⟩,
    ⟨some 22, Go.Op.load 3 (Go.Operand.tmp 21), some (20, true), false⟩,
    ⟨some 23, Go.Op.binOp Go.BinOp.gtr 3 (Go.Operand.tmp 22) (Go.Operand.const (Go.Value.int Go.IntKind.i64 0)) 3, some (20, true), false⟩,
    ⟨some 24, Go.Op.pick (Go.Operand.tmp 20) (Go.Operand.tmp 23) (Go.Operand.const (Go.Value.bool false)), none, false⟩,
    ⟨some 25, Go.Op.move (Go.Operand.tmp 24), none, false⟩,
    ⟨some 26, Go.Op.load 3 (Go.Operand.tmp 2), some (25, true), false⟩,
    ⟨some 27, Go.Op.move (Go.Operand.tmp 4), some (25, true), false⟩,
    ⟨some 28, Go.Op.binOp Go.BinOp.shr 3 (Go.Operand.tmp 26) (Go.Operand.tmp 27) 3, some (25, true), false⟩,
    ⟨some 29, Go.Op.binOp Go.BinOp.and 3 (Go.Operand.tmp 28) (Go.Operand.const (Go.Value.int Go.IntKind.i64 1)) 3, some (25, true), false⟩,
    ⟨some 30, Go.Op.binOp Go.BinOp.eql 3 (Go.Operand.tmp 29) (Go.Operand.const (Go.Value.int Go.IntKind.i64 0)) 3, some (25, true), false⟩,
    ⟨some 31, Go.Op.pick (Go.Operand.tmp 25) (Go.Operand.tmp 30) (Go.Operand.const (Go.Value.bool false)), none, false⟩,
    ⟨some 32, Go.Op.move (Go.Operand.tmp 31), none, false⟩,
    ⟨some 33, Go.Op.move (Go.Operand.tmp 0), some (32, true), false⟩,
    ⟨some 34, Go.Op.move (Go.Operand.tmp 4), some (32, true), false⟩,
    ⟨some 35, Go.Op.call { callee := Go.Callee.value (Go.Operand.tmp 33), args := #[Go.Operand.tmp 34], argTypes := #[3] }, some (32, true), false⟩,
    ⟨some 36, Go.Op.unOp Go.UnOp.not 4 (Go.Operand.tmp 35), some (32, true), false⟩,
    ⟨some 37, Go.Op.pick (Go.Operand.tmp 32) (Go.Operand.tmp 36) (Go.Operand.const (Go.Value.bool false)), none, false⟩] [0, 2, 6, 7, 8, 37]) (.cond (Go.Operand.tmp 37) (.ret) (.skip)))))) (.reg false [⟨some 38, Go.Op.binOp Go.BinOp.add 3 (Go.Operand.tmp 8) (Go.Operand.const (Go.Value.int Go.IntKind.i64 1)) 3, none, false⟩,
    ⟨some 8, Go.Op.move (Go.Operand.tmp 38), none, false⟩] [0, 2, 6, 7, 8])))
noncomputable def Tryz.C109 : PC := .seq (.reg false [⟨some 6, Go.Op.load 48 (Go.Operand.tmp 1), none, false⟩,
    ⟨some 7, Go.Op.call { callee := Go.Callee.builtin Go.Builtin.len, args := #[Go.Operand.tmp 6], argTypes := #[48] }, none, false⟩,
    ⟨some 8, Go.Op.move (Go.Operand.const (Go.Value.int Go.IntKind.i64 0)), none, false⟩] [0, 2, 6, 7, 8]) (.block 0 (.loop Tryz.L109_0))
theorem Tryz.comp109 : ∃ c, Tryz.f109.body = some c ∧ compile c = erase Tryz.C109 := ⟨_, rfl, by kernel_rfl⟩
theorem Tryz.rs109 : Tryz.f109.results.toList = [] := by kernel_rfl
theorem Tryz.nt109 : Tryz.f109.ntmps = 39 := by kernel_rfl
theorem Tryz.en109 : ∀ vs w, (callFunc 109 vs).run Tryz.prog w = .ok (.enter 109 vs) w := enters_of Tryz.func109 (by kernel_rfl) rfl
theorem Tryz.ctr109 {a0 a1 a2 : V} {bx : Boxes} {Kc : V → Boxes → Prop} (h : FinB bx → pw Tryz.prog Tryz.C109 (retQ Tryz.prog [] Kc) ⟨39, slk [(0, a0), (1, a1), (2, a2)], bx⟩) : AbsCall Tryz.prog 109 [a0, a1, a2] bx Kc := abs_of (by kernel_rfl) Tryz.func109 Tryz.comp109 Tryz.en109 Tryz.nt109 Tryz.rs109 (fun hb => by rw [initSt_3]; exact h hb)
noncomputable def Tryz.C128 : PC := .seq (.reg false [⟨some 1, Go.Op.box 57 (Go.Operand.tmp 0), none, true⟩,
    ⟨some 2, Go.Op.assign (Go.Operand.const (Go.Value.bool false)), none, false⟩] [1]) (.seq (.reg false [⟨some 3, Go.Op.fieldAddr 57 (Go.Operand.tmp 1) 0, none, false⟩,
    ⟨some 4, Go.Op.load 3 (Go.Operand.tmp 3), none, false⟩,
    ⟨some 5, Go.Op.call { callee := Go.Callee.value (Go.Operand.func 98), args := #[Go.Operand.tmp 4, Go.Operand.const (Go.Value.int Go.IntKind.i64 0), Go.Operand.const (Go.Value.int Go.IntKind.i64 100)], argTypes := #[3, 3, 3] }, none, false⟩,
    ⟨some 6, Go.Op.move (Go.Operand.tmp 5), none, false⟩,
    ⟨some 7, Go.Op.fieldAddr 57 (Go.Operand.tmp 1) 1, some (6, false), false⟩,
    ⟨some 8, Go.Op.load 3 (Go.Operand.tmp 7), some (6, false), false⟩,
    ⟨some 9, Go.Op.call { callee := Go.Callee.value (Go.Operand.func 98), args := #[Go.Operand.tmp 8, Go.Operand.const (Go.Value.int Go.IntKind.i64 0), Go.Operand.const (Go.Value.int Go.IntKind.i64 10000)], argTypes := #[3, 3, 3] }, some (6, false), false⟩,
    ⟨some 10, Go.Op.pick (Go.Operand.tmp 6) (Go.Operand.const (Go.Value.bool true)) (Go.Operand.tmp 9), none, false⟩,
    ⟨some 11, Go.Op.move (Go.Operand.tmp 10), none, false⟩,
    ⟨some 12, Go.Op.fieldAddr 57 (Go.Operand.tmp 1) 2, some (11, false), false⟩,
    ⟨some 13, Go.Op.load 3 (Go.Operand.tmp 12), some (11, false), false⟩,
    ⟨some 14, Go.Op.call { callee := Go.Callee.value (Go.Operand.func 98), args := #[Go.Operand.tmp 13, Go.Operand.const (Go.Value.int Go.IntKind.i64 (-1000000)), Go.Operand.const (Go.Value.int Go.IntKind.i64 1000000)], argTypes := #[3, 3, 3] }, some (11, false), false⟩,
    ⟨some 15, Go.Op.pick (Go.Operand.tmp 11) (Go.Operand.const (Go.Value.bool true)) (Go.Operand.tmp 14), none, false⟩,
    ⟨some 2, Go.Op.assign (Go.Operand.tmp 15), none, false⟩] [2]) (.ret))
theorem Tryz.comp128 : ∃ c, Tryz.f128.body = some c ∧ compile c = erase Tryz.C128 := ⟨_, rfl, by kernel_rfl⟩
theorem Tryz.rs128 : Tryz.f128.results.toList = [Go.ResultVar.tmp 2] := by kernel_rfl
theorem Tryz.nt128 : Tryz.f128.ntmps = 16 := by kernel_rfl
theorem Tryz.en128 : ∀ vs w, (callFunc 128 vs).run Tryz.prog w = .ok (.enter 128 vs) w := enters_of Tryz.func128 (by kernel_rfl) rfl
theorem Tryz.ctr128 {a0 : V} {bx : Boxes} {Kc : V → Boxes → Prop} (h : FinB bx → pw Tryz.prog Tryz.C128 (retQ Tryz.prog [Go.ResultVar.tmp 2] Kc) ⟨16, slk [(0, a0)], bx⟩) : AbsCall Tryz.prog 128 [a0] bx Kc := abs_of (by kernel_rfl) Tryz.func128 Tryz.comp128 Tryz.en128 Tryz.nt128 Tryz.rs128 (fun hb => by rw [initSt_1]; exact h hb)
noncomputable def Tryz.L129_0 : PC := .seq (.reg false [⟨some 9, Go.Op.binOp Go.BinOp.lss 3 (Go.Operand.tmp 8) (Go.Operand.tmp 7) 3, none, false⟩] [0, 1, 7, 8, 9]) (.seq (.cond (Go.Operand.tmp 9) (.skip) (.exit 0)) (.seq (.block 1 (.seq (.reg false [⟨some 10, Go.Op.move (Go.Operand.tmp 8), none, false⟩,
    ⟨some 5, Go.Op.assign (Go.Operand.tmp 10), none, false⟩] [0, 1, 5, 7, 8]) (.seq (.reg false [⟨some 11, Go.Op.move (Go.Operand.tmp 1), none, false⟩,
    ⟨some 12, Go.Op.move (Go.Operand.tmp 0), none, false⟩,
    ⟨some 13, Go.Op.move (Go.Operand.tmp 5), none, false⟩,
    ⟨some 14, Go.Op.indexAddr 48 (Go.Operand.tmp 12) (Go.Operand.tmp 13), none, false⟩,
    ⟨some 15, Go.Op.load 57 (Go.Operand.tmp 14), none, false⟩,
    ⟨some 16, Go.Op.call { callee := Go.Callee.value (Go.Operand.tmp 11), args := #[Go.Operand.tmp 15], argTypes := #[57] }, none, false⟩] [0, 1, 5, 7, 8, 16]) (.cond (Go.Operand.tmp 16) (.seq (.reg false [⟨some 17, Go.Op.move (Go.Operand.tmp 5), none, false⟩,
    ⟨some 4, Go.Op.assign (Go.Operand.tmp 17), none, false⟩] [4]) (.ret)) (.skip))))) (.reg false [⟨some 18, Go.Op.binOp Go.BinOp.add 3 (Go.Operand.tmp 8) (Go.Operand.const (Go.Value.int Go.IntKind.i64 1)) 3, none, false⟩,
    ⟨some 8, Go.Op.move (Go.Operand.tmp 18), none, false⟩] [0, 1, 7, 8])))
noncomputable def Tryz.C129 : PC := .seq (.reg false [⟨some 4, Go.Op.assign (Go.Operand.const (Go.Value.int Go.IntKind.i64 0)), none, false⟩] [0, 1]) (.seq (.seq (.reg false [⟨some 6, Go.Op.move (Go.Operand.tmp 0), none, false⟩,
    ⟨some 7, Go.Op.call { callee := Go.Callee.builtin Go.Builtin.len, args := #[Go.Operand.tmp 6], argTypes := #[48] }, none, false⟩,
    ⟨some 8, Go.Op.move (Go.Operand.const (Go.Value.int Go.IntKind.i64 0)), none, false⟩] [0, 1, 7, 8]) (.block 0 (.loop Tryz.L129_0))) (.seq (.reg false [⟨some 4, Go.Op.assign (Go.Operand.const (Go.Value.int Go.IntKind.i64 (-1))), none, false⟩] [4]) (.ret)))
theorem Tryz.comp129 : ∃ c, Tryz.f129.body = some c ∧ compile c = erase Tryz.C129 := ⟨_, rfl, by kernel_rfl⟩
theorem Tryz.rs129 : Tryz.f129.results.toList = [Go.ResultVar.tmp 4] := by kernel_rfl
theorem Tryz.nt129 : Tryz.f129.ntmps = 19 := by kernel_rfl
theorem Tryz.en129 : ∀ vs w, (callFunc 129 vs).run Tryz.prog w = .ok (.enter 129 vs) w := enters_of Tryz.func129 (by kernel_rfl) rfl
theorem Tryz.ctr129 {a0 a1 : V} {bx : Boxes} {Kc : V → Boxes → Prop} (h : FinB bx → pw Tryz.prog Tryz.C129 (retQ Tryz.prog [Go.ResultVar.tmp 4] Kc) ⟨19, slk [(0, a0), (1, a1)], bx⟩) : AbsCall Tryz.prog 129 [a0, a1] bx Kc := abs_of (by kernel_rfl) Tryz.func129 Tryz.comp129 Tryz.en129 Tryz.nt129 Tryz.rs129 (fun hb => by rw [initSt_2]; exact h hb)
noncomputable def Tryz.C130 : PC := .seq (.reg false [⟨some 4, Go.Op.assign (Go.Operand.const (Go.Value.int Go.IntKind.i64 0)), none, false⟩] [0, 1]) (.seq (.reg false [⟨some 6, Go.Op.move (Go.Operand.tmp 0), none, false⟩,
    ⟨some 7, Go.Op.call { callee := Go.Callee.value (Go.Operand.func 143), args := #[Go.Operand.tmp 6], argTypes := #[48] }, none, false⟩,
    ⟨some 5, Go.Op.assign (Go.Operand.tmp 7), none, false⟩] [1, 5]) (.seq (.seq (.reg false [⟨some 8, Go.Op.move (Go.Operand.tmp 5), none, false⟩,
    ⟨some 9, Go.Op.binOp Go.BinOp.eql 29 (Go.Operand.tmp 8) (Go.Operand.const (Go.Value.int Go.IntKind.i64 0)) 29, none, false⟩,
    ⟨some 10, Go.Op.move (Go.Operand.tmp 9), none, false⟩,
    ⟨some 11, Go.Op.move (Go.Operand.tmp 1), some (10, true), false⟩,
    ⟨some 12, Go.Op.binOp Go.BinOp.lss 3 (Go.Operand.tmp 11) (Go.Operand.const (Go.Value.int Go.IntKind.i64 0)) 3, some (10, true), false⟩,
    ⟨some 13, Go.Op.move (Go.Operand.tmp 12), some (10, true), false⟩,
    ⟨some 14, Go.Op.move (Go.Operand.tmp 1), some (13, false), false⟩,
    ⟨some 15, Go.Op.binOp Go.BinOp.gtr 3 (Go.Operand.tmp 14) (Go.Operand.const (Go.Value.int Go.IntKind.i64 65535)) 3, some (13, false), false⟩,
    ⟨some 16, Go.Op.pick (Go.Operand.tmp 13) (Go.Operand.const (Go.Value.bool true)) (Go.Operand.tmp 15), some (10, true), false⟩,
    ⟨some 17, Go.Op.pick (Go.Operand.tmp 10) (Go.Operand.tmp 16) (Go.Operand.const (Go.Value.bool false)), none, false⟩] [5, 17]) (.cond (Go.Operand.tmp 17) (.reg false [⟨some 5, Go.Op.assign (Go.Operand.const (Go.Value.int Go.IntKind.i64 2)), none, false⟩] [5]) (.skip))) (.seq (.reg false [⟨some 18, Go.Op.move (Go.Operand.tmp 5), none, false⟩,
    ⟨some 4, Go.Op.assign (Go.Operand.tmp 18), none, false⟩] [4]) (.ret))))
theorem Tryz.comp130 : ∃ c, Tryz.f130.body = some c ∧ compile c = erase Tryz.C130 := ⟨_, rfl, by kernel_rfl⟩
theorem Tryz.rs130 : Tryz.f130.results.toList = [Go.ResultVar.tmp 4] := by kernel_rfl
theorem Tryz.nt130 : Tryz.f130.ntmps = 19 := by kernel_rfl
theorem Tryz.en130 : ∀ vs w, (callFunc 130 vs).run Tryz.prog w = .ok (.enter 130 vs) w := enters_of Tryz.func130 (by kernel_rfl) rfl
theorem Tryz.ctr130 {a0 a1 : V} {bx : Boxes} {Kc : V → Boxes → Prop} (h : FinB bx → pw Tryz.prog Tryz.C130 (retQ Tryz.prog [Go.ResultVar.tmp 4] Kc) ⟨19, slk [(0, a0), (1, a1)], bx⟩) : AbsCall Tryz.prog 130 [a0, a1] bx Kc := abs_of (by kernel_rfl) Tryz.func130 Tryz.comp130 Tryz.en130 Tryz.nt130 Tryz.rs130 (fun hb => by rw [initSt_2]; exact h hb)
noncomputable def Tryz.L131_0 : PC := .seq (.seq (.reg false [⟨some 7, Go.Op.move (Go.Operand.tmp 6), none, false⟩,
    ⟨some 8, Go.Op.move (Go.Operand.tmp 0), none, false⟩,
    ⟨some 9, Go.Op.call { callee := Go.Callee.builtin Go.Builtin.len, args := #[Go.Operand.tmp 8], argTypes := #[48] }, none, false⟩,
    ⟨some 10, Go.Op.binOp Go.BinOp.lss 3 (Go.Operand.tmp 7) (Go.Operand.tmp 9) 3, none, false⟩] [0, 1, 5, 6, 10]) (.cond (Go.Operand.tmp 10) (.skip) (.exit 0))) (.seq (.block 1 (.seq (.reg false [⟨some 13, Go.Op.move (Go.Operand.tmp 0), none, false⟩,
    ⟨some 14, Go.Op.move (Go.Operand.tmp 6), none, false⟩,
    ⟨some 15, Go.Op.indexAddr 48 (Go.Operand.tmp 13) (Go.Operand.tmp 14), none, false⟩,
    ⟨some 16, Go.Op.fieldAddr 57 (Go.Operand.tmp 15) 3, none, false⟩,
    ⟨some 17, Go.Op.load 4 (Go.Operand.tmp 16), none, false⟩,
    ⟨some 18, Go.Op.move (Go.Operand.tmp 17), none, false⟩,
    ⟨some 19, Go.Op.move (Go.Operand.tmp 0), some (18, true), false⟩,
    ⟨some 20, Go.Op.move (Go.Operand.tmp 6), some (18, true), false⟩,
    ⟨some 21, Go.Op.indexAddr 48 (Go.Operand.tmp 19) (Go.Operand.tmp 20), some (18, true), false⟩,
    ⟨some 22, Go.Op.fieldAddr 57 (Go.Operand.tmp 21) 4, some (18, true), false⟩,
    ⟨some 23, Go.Op.load 4 (Go.Operand.tmp 22), some (18, true), false⟩,
    ⟨some 24, Go.Op.unOp Go.UnOp.not 4 (Go.Operand.tmp 23), some (18, true), false⟩,
    ⟨some 25, Go.Op.pick (Go.Operand.tmp 18) (Go.Operand.tmp 24) (Go.Operand.const (Go.Value.bool false)), none, false⟩,
    ⟨some 26, Go.Op.move (Go.Operand.tmp 25), none, false⟩,
    ⟨some 27, Go.Op.move (Go.Operand.tmp 0), some (26, true), false⟩,
    ⟨some 28, Go.Op.move (Go.Operand.tmp 6), some (26, true), false⟩,
    ⟨some 29, Go.Op.indexAddr 48 (Go.Operand.tmp 27) (Go.Operand.tmp 28), some (26, true), false⟩,
    ⟨some 30, Go.Op.fieldAddr 57 (Go.Operand.tmp 29) 0, some (26, true), false⟩,
    ⟨some 31, Go.Op.load 3 (Go.Operand.tmp 30), some (26, true), false⟩,
    ⟨some 32, Go.Op.binOp Go.BinOp.gtr 3 (Go.Operand.tmp 31) (Go.Operand.const (Go.Value.int Go.IntKind.i64 0)) 3, some (26, true), false⟩,
    ⟨some 33, Go.Op.pick (Go.Operand.tmp 26) (Go.Operand.tmp 32) (Go.Operand.const (Go.Value.bool false)), none, false⟩,
    ⟨some 34, Go.Op.move (Go.Operand.tmp 33), none, false⟩,
    ⟨some 35, Go.Op.move (Go.Operand.tmp 1), some (34, true), false⟩,
    ⟨some 36, Go.Op.move (Go.Operand.tmp 6), some (34, true), false⟩,
    ⟨some 37, Go.Op.binOp Go.BinOp.shr 3 (Go.Operand.tmp 35) (Go.Operand.tmp 36) 3, some (34, true), false⟩,
    ⟨some 38, Go.Op.binOp Go.BinOp.rem 3 (Go.Operand.tmp 37) (Go.Operand.const (Go.Value.int Go.IntKind.i64 2)) 3, some (34, true), false⟩,
    ⟨some 39, Go.Op.binOp Go.BinOp.eql 3 (Go.Operand.tmp 38) (Go.Operand.const (Go.Value.int Go.IntKind.i64 0)) 3, some (34, true), false⟩,
    ⟨some 40, Go.Op.pick (Go.Operand.tmp 34) (Go.Operand.tmp 39) (Go.Operand.const (Go.Value.bool false)), none, false⟩] [0, 1, 5, 6, 40]) (.cond (Go.Operand.tmp 40) (.reg false [⟨some 41, Go.Op.move (Go.Operand.tmp 5), none, false⟩,
    ⟨some 42, Go.Op.move (Go.Operand.tmp 6), none, false⟩,
    ⟨some 43, Go.Op.buildSlice 23 1 #[(0, Go.Operand.tmp 42)], none, false⟩,
    ⟨some 44, Go.Op.call { callee := Go.Callee.builtin Go.Builtin.append, args := #[Go.Operand.tmp 41, Go.Operand.tmp 43], argTypes := #[23, 23] }, none, false⟩,
    ⟨some 5, Go.Op.assign (Go.Operand.tmp 44), none, false⟩] [0, 1, 5, 6]) (.skip)))) (.reg false [⟨some 11, Go.Op.move (Go.Operand.tmp 6), none, false⟩,
    ⟨some 12, Go.Op.binOp Go.BinOp.add 3 (Go.Operand.tmp 11) (Go.Operand.const (Go.Value.int Go.IntKind.i64 1)) 3, none, false⟩,
    ⟨some 6, Go.Op.assign (Go.Operand.tmp 12), none, false⟩] [0, 1, 5, 6]))
noncomputable def Tryz.C131 : PC := .seq (.reg false [⟨some 4, Go.Op.assign (Go.Operand.const (Go.Value.slice none 0 0)), none, false⟩] [0, 1]) (.seq (.reg false [⟨some 5, Go.Op.assign (Go.Operand.const (Go.Value.slice none 0 0)), none, false⟩] [0, 1, 5]) (.seq (.seq (.reg false [⟨some 6, Go.Op.assign (Go.Operand.const (Go.Value.int Go.IntKind.i64 0)), none, false⟩] [0, 1, 5, 6]) (.block 0 (.loop Tryz.L131_0))) (.seq (.reg false [⟨some 45, Go.Op.move (Go.Operand.tmp 5), none, false⟩,
    ⟨some 4, Go.Op.assign (Go.Operand.tmp 45), none, false⟩] [4]) (.ret))))
theorem Tryz.comp131 : ∃ c, Tryz.f131.body = some c ∧ compile c = erase Tryz.C131 := ⟨_, rfl, by kernel_rfl⟩
theorem Tryz.rs131 : Tryz.f131.results.toList = [Go.ResultVar.tmp 4] := by kernel_rfl
theorem Tryz.nt131 : Tryz.f131.ntmps = 46 := by kernel_rfl
theorem Tryz.en131 : ∀ vs w, (callFunc 131 vs).run Tryz.prog w = .ok (.enter 131 vs) w := enters_of Tryz.func131 (by kernel_rfl) rfl
theorem Tryz.ctr131 {a0 a1 : V} {bx : Boxes} {Kc : V → Boxes → Prop} (h : FinB bx → pw Tryz.prog Tryz.C131 (retQ Tryz.prog [Go.ResultVar.tmp 4] Kc) ⟨46, slk [(0, a0), (1, a1)], bx⟩) : AbsCall Tryz.prog 131 [a0, a1] bx Kc := abs_of (by kernel_rfl) Tryz.func131 Tryz.comp131 Tryz.en131 Tryz.nt131 Tryz.rs131 (fun hb => by rw [initSt_2]; exact h hb)
noncomputable def Tryz.L143_0 : PC := .seq (.seq (.reg false [⟨some 13, Go.Op.move (Go.Operand.tmp 3), none, false⟩,
    ⟨some 14, Go.Op.move (Go.Operand.tmp 0), none, false⟩,
    ⟨some 15, Go.Op.call { callee := Go.Callee.builtin Go.Builtin.len, args := #[Go.Operand.tmp 14], argTypes := #[48] }, none, false⟩,
    ⟨some 16, Go.Op.binOp Go.BinOp.lss 3 (Go.Operand.tmp 13) (Go.Operand.tmp 15) 3, none, false⟩] [0, 3, 16]) (.cond (Go.Operand.tmp 16) (.skip) (.exit 0))) (.seq (.block 1 (.seq (.reg false [⟨some 19, Go.Op.move (Go.Operand.tmp 0), none, false⟩,
    ⟨some 20, Go.Op.move (Go.Operand.tmp 3), none, false⟩,
    ⟨some 21, Go.Op.indexAddr 48 (Go.Operand.tmp 19) (Go.Operand.tmp 20), none, false⟩,
    ⟨some 22, Go.Op.load 57 (Go.Operand.tmp 21), none, false⟩,
    ⟨some 4, Go.Op.alloc 57, none, false⟩,
    ⟨none, Go.Op.store 57 (Go.Operand.tmp 4) (Go.Operand.tmp 22), none, false⟩] [0, 3, 4]) (.fz 4 (.seq (.reg false [⟨some 23, Go.Op.fieldAddr 57 (Go.Operand.tmp 4) 0, none, false⟩,
    ⟨some 24, Go.Op.load 3 (Go.Operand.tmp 23), none, false⟩,
    ⟨some 25, Go.Op.binOp Go.BinOp.lss 3 (Go.Operand.tmp 24) (Go.Operand.const (Go.Value.int Go.IntKind.i64 0)) 3, none, false⟩,
    ⟨some 26, Go.Op.move (Go.Operand.tmp 25), none, false⟩,
    ⟨some 27, Go.Op.fieldAddr 57 (Go.Operand.tmp 4) 0, some (26, false), false⟩,
    ⟨some 28, Go.Op.load 3 (Go.Operand.tmp 27), some (26, false), false⟩,
    ⟨some 29, Go.Op.binOp Go.BinOp.gtr 3 (Go.Operand.tmp 28) (Go.Operand.const (Go.Value.int Go.IntKind.i64 100)) 3, some (26, false), false⟩,
    ⟨some 30, Go.Op.pick (Go.Operand.tmp 26) (Go.Operand.const (Go.Value.bool true)) (Go.Operand.tmp 29), none, false⟩,
    ⟨some 31, Go.Op.move (Go.Operand.tmp 30), none, false⟩,
    ⟨some 32, Go.Op.fieldAddr 57 (Go.Operand.tmp 4) 1, some (31, false), false⟩,
    ⟨some 33, Go.Op.load 3 (Go.Operand.tmp 32), some (31, false), false⟩,
    ⟨some 34, Go.Op.binOp Go.BinOp.lss 3 (Go.Operand.tmp 33) (Go.Operand.const (Go.Value.int Go.IntKind.i64 0)) 3, some (31, false), false⟩,
    ⟨some 35, Go.Op.pick (Go.Operand.tmp 31) (Go.Operand.const (Go.Value.bool true)) (Go.Operand.tmp 34), none, false⟩,
    ⟨some 36, Go.Op.move (Go.Operand.tmp 35), none, false⟩,
    ⟨some 37, Go.Op.fieldAddr 57 (Go.Operand.tmp 4) 1, some (36, false), false⟩,
    ⟨some 38, Go.Op.load 3 (Go.Operand.tmp 37), some (36, false), false⟩,
    ⟨some 39, Go.Op.binOp Go.BinOp.gtr 3 (Go.Operand.tmp 38) (Go.Operand.const (Go.Value.int Go.IntKind.i64 10000)) 3, some (36, false), false⟩,
    ⟨some 40, Go.Op.pick (Go.Operand.tmp 36) (Go.Operand.const (Go.Value.bool true)) (Go.Operand.tmp 39), none, false⟩,
    ⟨some 41, Go.Op.move (Go.Operand.tmp 40), none, false⟩,
    ⟨some 42, Go.Op.fieldAddr 57 (Go.Operand.tmp 4) 2, some (41, false), false⟩,
    ⟨some 43, Go.Op.load 3 (Go.Operand.tmp 42), some (41, false), false⟩,
    ⟨some 44, Go.Op.binOp Go.BinOp.lss 3 (Go.Operand.tmp 43) (Go.Operand.const (Go.Value.int Go.IntKind.i64 (-1000000))) 3, some (41, false), false⟩,
    ⟨some 45, Go.Op.pick (Go.Operand.tmp 41) (Go.Operand.const (Go.Value.bool true)) (Go.Operand.tmp 44), none, false⟩,
    ⟨some 46, Go.Op.move (Go.Operand.tmp 45), none, false⟩,
    ⟨some 47, Go.Op.fieldAddr 57 (Go.Operand.tmp 4) 2, some (46, false), false⟩,
    ⟨some 48, Go.Op.load 3 (Go.Operand.tmp 47), some (46, false), false⟩,
    ⟨some 49, Go.Op.binOp Go.BinOp.gtr 3 (Go.Operand.tmp 48) (Go.Operand.const (Go.Value.int Go.IntKind.i64 1000000)) 3, some (46, false), false⟩,
    ⟨some 50, Go.Op.pick (Go.Operand.tmp 46) (Go.Operand.const (Go.Value.bool true)) (Go.Operand.tmp 49), none, false⟩] [0, 3, 50]) (.cond (Go.Operand.tmp 50) (.seq (.reg false [⟨some 2, Go.Op.assign (Go.Operand.const (Go.Value.int Go.IntKind.i64 7)), none, false⟩] [2]) (.ret)) (.skip)))))) (.reg false [⟨some 17, Go.Op.move (Go.Operand.tmp 3), none, false⟩,
    ⟨some 18, Go.Op.binOp Go.BinOp.add 3 (Go.Operand.tmp 17) (Go.Operand.const (Go.Value.int Go.IntKind.i64 1)) 3, none, false⟩,
    ⟨some 3, Go.Op.assign (Go.Operand.tmp 18), none, false⟩] [0, 3]))
noncomputable def Tryz.C143 : PC := .seq (.reg false [⟨some 2, Go.Op.assign (Go.Operand.const (Go.Value.int Go.IntKind.i64 0)), none, false⟩] [0]) (.seq (.seq (.reg false [⟨some 5, Go.Op.move (Go.Operand.tmp 0), none, false⟩,
    ⟨some 6, Go.Op.call { callee := Go.Callee.builtin Go.Builtin.len, args := #[Go.Operand.tmp 5], argTypes := #[48] }, none, false⟩,
    ⟨some 7, Go.Op.binOp Go.BinOp.lss 3 (Go.Operand.tmp 6) (Go.Operand.const (Go.Value.int Go.IntKind.i64 1)) 3, none, false⟩,
    ⟨some 8, Go.Op.move (Go.Operand.tmp 7), none, false⟩,
    ⟨some 9, Go.Op.move (Go.Operand.tmp 0), some (8, false), false⟩,
    ⟨some 10, Go.Op.call { callee := Go.Callee.builtin Go.Builtin.len, args := #[Go.Operand.tmp 9], argTypes := #[48] }, some (8, false), false⟩,
    ⟨some 11, Go.Op.binOp Go.BinOp.gtr 3 (Go.Operand.tmp 10) (Go.Operand.const (Go.Value.int Go.IntKind.i64 16)) 3, some (8, false), false⟩,
    ⟨some 12, Go.Op.pick (Go.Operand.tmp 8) (Go.Operand.const (Go.Value.bool true)) (Go.Operand.tmp 11), none, false⟩] [0, 12]) (.cond (Go.Operand.tmp 12) (.seq (.reg false [⟨some 2, Go.Op.assign (Go.Operand.const (Go.Value.int Go.IntKind.i64 3)), none, false⟩] [2]) (.ret)) (.skip))) (.seq (.seq (.reg false [⟨some 3, Go.Op.assign (Go.Operand.const (Go.Value.int Go.IntKind.i64 0)), none, false⟩] [0, 3]) (.block 0 (.loop Tryz.L143_0))) (.seq (.reg false [⟨some 2, Go.Op.assign (Go.Operand.const (Go.Value.int Go.IntKind.i64 0)), none, false⟩] [2]) (.ret))))
theorem Tryz.comp143 : ∃ c, Tryz.f143.body = some c ∧ compile c = erase Tryz.C143 := ⟨_, rfl, by kernel_rfl⟩
theorem Tryz.rs143 : Tryz.f143.results.toList = [Go.ResultVar.tmp 2] := by kernel_rfl
theorem Tryz.nt143 : Tryz.f143.ntmps = 51 := by kernel_rfl
theorem Tryz.en143 : ∀ vs w, (callFunc 143 vs).run Tryz.prog w = .ok (.enter 143 vs) w := enters_of Tryz.func143 (by kernel_rfl) rfl
theorem Tryz.ctr143 {a0 : V} {bx : Boxes} {Kc : V → Boxes → Prop} (h : FinB bx → pw Tryz.prog Tryz.C143 (retQ Tryz.prog [Go.ResultVar.tmp 2] Kc) ⟨51, slk [(0, a0)], bx⟩) : AbsCall Tryz.prog 143 [a0] bx Kc := abs_of (by kernel_rfl) Tryz.func143 Tryz.comp143 Tryz.en143 Tryz.nt143 Tryz.rs143 (fun hb => by rw [initSt_1]; exact h hb)
end Go.Proofs
