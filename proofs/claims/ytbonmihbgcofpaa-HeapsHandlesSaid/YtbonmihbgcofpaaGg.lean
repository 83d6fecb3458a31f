/- Texts of the proof, put together: Pc. -/
import Derived.Test.YtbonmihbgcofpaaGf
import Derived.Test.YtbonmihbgcofpaaGd

/- The compact forms of the functions: printed by gen_pc.py. -/
set_option maxRecDepth 100000
namespace Go.Proofs
open Go Go.Pl
noncomputable def Try.L3_0 : PC := .seq (.seq (.reg false [⟨some 31, Go.Op.move (Go.Operand.tmp 10), none, false⟩,
    ⟨some 32, Go.Op.move (Go.Operand.tmp 1), none, false⟩,
    ⟨some 33, Go.Op.call { callee := Go.Callee.builtin Go.Builtin.len, args := #[Go.Operand.tmp 32], argTypes := #[22] }, none, false⟩,
    ⟨some 34, Go.Op.binOp Go.BinOp.lss 3 (Go.Operand.tmp 31) (Go.Operand.tmp 33) 3, none, false⟩] [1, 5, 6, 7, 8, 9, 10, 34]) (.cond (Go.Operand.tmp 34) (.skip) (.exit 0))) (.seq (.block 1 (.seq (.reg false [⟨some 38, Go.Op.move (Go.Operand.tmp 5), none, false⟩,
    ⟨some 39, Go.Op.call { callee := Go.Callee.value (Go.Operand.func 13), args := #[Go.Operand.tmp 38], argTypes := #[24] }, none, false⟩,
    ⟨some 37, Go.Op.move (Go.Operand.tmp 39), none, false⟩,
    ⟨some 40, Go.Op.extract (Go.Operand.tmp 37) 0, none, false⟩,
    ⟨some 41, Go.Op.extract (Go.Operand.tmp 37) 1, none, false⟩,
    ⟨some 42, Go.Op.extract (Go.Operand.tmp 37) 2, none, false⟩,
    ⟨some 11, Go.Op.assign (Go.Operand.tmp 40), none, false⟩,
    ⟨some 12, Go.Op.assign (Go.Operand.tmp 41), none, false⟩,
    ⟨some 13, Go.Op.assign (Go.Operand.tmp 42), none, false⟩] [1, 5, 6, 7, 8, 9, 10, 11, 12, 13]) (.seq (.seq (.reg false [⟨some 43, Go.Op.move (Go.Operand.tmp 13), none, false⟩,
    ⟨some 44, Go.Op.binOp Go.BinOp.neq 29 (Go.Operand.tmp 43) (Go.Operand.const (Go.Value.int Go.IntKind.i64 0)) 29, none, false⟩,
    ⟨some 45, Go.Op.move (Go.Operand.tmp 44), none, false⟩,
    ⟨some 46, Go.Op.move (Go.Operand.tmp 11), some (45, false), false⟩,
    ⟨some 47, Go.Op.binOp Go.BinOp.lss 2 (Go.Operand.tmp 46) (Go.Operand.const (Go.Value.int Go.IntKind.i64 1)) 2, some (45, false), false⟩,
    ⟨some 48, Go.Op.pick (Go.Operand.tmp 45) (Go.Operand.const (Go.Value.bool true)) (Go.Operand.tmp 47), none, false⟩,
    ⟨some 49, Go.Op.move (Go.Operand.tmp 48), none, false⟩,
    ⟨some 50, Go.Op.move (Go.Operand.tmp 11), some (49, false), false⟩,
    ⟨some 51, Go.Op.move (Go.Operand.tmp 1), some (49, false), false⟩,
    ⟨some 52, Go.Op.call { callee := Go.Callee.builtin Go.Builtin.len, args := #[Go.Operand.tmp 51], argTypes := #[22] }, some (49, false), false⟩,
    ⟨some 53, Go.Op.binOp Go.BinOp.gtr 2 (Go.Operand.tmp 50) (Go.Operand.tmp 52) 2, some (49, false), false⟩,
    ⟨some 54, Go.Op.pick (Go.Operand.tmp 49) (Go.Operand.const (Go.Value.bool true)) (Go.Operand.tmp 53), none, false⟩,
    ⟨some 55, Go.Op.move (Go.Operand.tmp 54), none, false⟩,
    ⟨some 56, Go.Op.move (Go.Operand.tmp 7), some (55, false), false⟩,
    ⟨some 57, Go.Op.move (Go.Operand.tmp 11), some (55, false), false⟩,
    ⟨some 58, Go.Op.binOp Go.BinOp.sub 2 (Go.Operand.tmp 57) (Go.Operand.const (Go.Value.int Go.IntKind.i64 1)) 2, some (55, false), false⟩,
    ⟨some 59, Go.Op.indexAddr 28 (Go.Operand.tmp 56) (Go.Operand.tmp 58), some (55, false), false⟩,
    ⟨some 60, Go.Op.load 4 (Go.Operand.tmp 59), some (55, false), false⟩,
    ⟨some 61, Go.Op.pick (Go.Operand.tmp 55) (Go.Operand.const (Go.Value.bool true)) (Go.Operand.tmp 60), none, false⟩,
    ⟨some 62, Go.Op.move (Go.Operand.tmp 61), none, false⟩,
    ⟨some 63, Go.Op.move (Go.Operand.tmp 1), some (62, false), false⟩,
    ⟨some 64, Go.Op.move (Go.Operand.tmp 11), some (62, false), false⟩,
    ⟨some 65, Go.Op.binOp Go.BinOp.sub 2 (Go.Operand.tmp 64) (Go.Operand.const (Go.Value.int Go.IntKind.i64 1)) 2, some (62, false), false⟩,
    ⟨some 66, Go.Op.indexAddr 22 (Go.Operand.tmp 63) (Go.Operand.tmp 65), some (62, false), false⟩,
    ⟨some 67, Go.Op.load 3 (Go.Operand.tmp 66), some (62, false), false⟩,
    ⟨some 68, Go.Op.move (Go.Operand.tmp 12), some (62, false), false⟩,
    ⟨some 69, Go.Op.binOp Go.BinOp.neq 3 (Go.Operand.tmp 67) (Go.Operand.tmp 68) 3, some (62, false), false⟩,
    ⟨some 70, Go.Op.pick (Go.Operand.tmp 62) (Go.Operand.const (Go.Value.bool true)) (Go.Operand.tmp 69), none, false⟩,
    ⟨some 71, Go.Op.move (Go.Operand.tmp 70), none, false⟩,
    ⟨some 72, Go.Op.move (Go.Operand.tmp 5), some (71, false), false⟩,
    ⟨some 73, Go.Op.call { callee := Go.Callee.value (Go.Operand.func 14), args := #[Go.Operand.tmp 72], argTypes := #[24] }, some (71, false), false⟩,
    ⟨some 74, Go.Op.move (Go.Operand.tmp 1), some (71, false), false⟩,
    ⟨some 75, Go.Op.call { callee := Go.Callee.builtin Go.Builtin.len, args := #[Go.Operand.tmp 74], argTypes := #[22] }, some (71, false), false⟩,
    ⟨some 76, Go.Op.binOp Go.BinOp.sub 3 (Go.Operand.tmp 75) (Go.Operand.const (Go.Value.int Go.IntKind.i64 1)) 3, some (71, false), false⟩,
    ⟨some 77, Go.Op.move (Go.Operand.tmp 10), some (71, false), false⟩,
    ⟨some 78, Go.Op.binOp Go.BinOp.sub 3 (Go.Operand.tmp 76) (Go.Operand.tmp 77) 3, some (71, false), false⟩,
    ⟨some 79, Go.Op.binOp Go.BinOp.neq 3 (Go.Operand.tmp 73) (Go.Operand.tmp 78) 3, some (71, false), false⟩,
    ⟨some 80, Go.Op.pick (Go.Operand.tmp 71) (Go.Operand.const (Go.Value.bool true)) (Go.Operand.tmp 79), none, false⟩] [1, 5, 6, 7, 8, 9, 10, 11, 12, 80]) (.cond (Go.Operand.tmp 80) (.seq (.reg false [⟨some 4, Go.Op.assign (Go.Operand.const (Go.Value.bool false)), none, false⟩] [4]) (.ret)) (.skip))) (.seq (.reg false [⟨some 81, Go.Op.move (Go.Operand.tmp 7), none, false⟩,
    ⟨some 82, Go.Op.move (Go.Operand.tmp 11), none, false⟩,
    ⟨some 83, Go.Op.binOp Go.BinOp.sub 2 (Go.Operand.tmp 82) (Go.Operand.const (Go.Value.int Go.IntKind.i64 1)) 2, none, false⟩,
    ⟨some 84, Go.Op.indexAddr 28 (Go.Operand.tmp 81) (Go.Operand.tmp 83), none, false⟩,
    ⟨none, Go.Op.store 4 (Go.Operand.tmp 84) (Go.Operand.const (Go.Value.bool true)), none, false⟩] [1, 5, 6, 7, 8, 9, 10, 11, 12]) (.seq (.seq (.reg false [⟨some 85, Go.Op.move (Go.Operand.tmp 10), none, false⟩,
    ⟨some 86, Go.Op.binOp Go.BinOp.gtr 3 (Go.Operand.tmp 85) (Go.Operand.const (Go.Value.int Go.IntKind.i64 0)) 3, none, false⟩,
    ⟨some 87, Go.Op.move (Go.Operand.tmp 86), none, false⟩,
    ⟨some 88, Go.Op.move (Go.Operand.tmp 6), some (87, true), false⟩,
    ⟨some 89, Go.Op.move (Go.Operand.tmp 12), some (87, true), false⟩,
    ⟨some 90, Go.Op.move (Go.Operand.tmp 8), some (87, true), false⟩,
    ⟨some 91, Go.Op.call { callee := Go.Callee.value (Go.Operand.tmp 88), args := #[Go.Operand.tmp 89, Go.Operand.tmp 90], argTypes := #[3, 3] }, some (87, true), false⟩,
    ⟨some 92, Go.Op.move (Go.Operand.tmp 91), some (87, true), false⟩,
    ⟨some 93, Go.Op.move (Go.Operand.tmp 6), some (92, false), false⟩,
    ⟨some 94, Go.Op.move (Go.Operand.tmp 8), some (92, false), false⟩,
    ⟨some 95, Go.Op.move (Go.Operand.tmp 12), some (92, false), false⟩,
    ⟨some 96, Go.Op.call { callee := Go.Callee.value (Go.Operand.tmp 93), args := #[Go.Operand.tmp 94, Go.Operand.tmp 95], argTypes := #[3, 3] }, some (92, false), false⟩,
    ⟨some 97, Go.Op.unOp Go.UnOp.not 4 (Go.Operand.tmp 96), some (92, false), false⟩,
    ⟨some 98, Go.Op.move (Go.Operand.tmp 97), some (92, false), false⟩,
    ⟨some 99, Go.Op.move (Go.Operand.tmp 11), some (98, true), false⟩,
    ⟨some 100, Go.Op.move (Go.Operand.tmp 9), some (98, true), false⟩,
    ⟨some 101, Go.Op.binOp Go.BinOp.lss 2 (Go.Operand.tmp 99) (Go.Operand.tmp 100) 2, some (98, true), false⟩,
    ⟨some 102, Go.Op.pick (Go.Operand.tmp 98) (Go.Operand.tmp 101) (Go.Operand.const (Go.Value.bool false)), some (92, false), false⟩,
    ⟨some 103, Go.Op.pick (Go.Operand.tmp 92) (Go.Operand.const (Go.Value.bool true)) (Go.Operand.tmp 102), some (87, true), false⟩,
    ⟨some 104, Go.Op.pick (Go.Operand.tmp 87) (Go.Operand.tmp 103) (Go.Operand.const (Go.Value.bool false)), none, false⟩] [1, 5, 6, 7, 10, 11, 12, 104]) (.cond (Go.Operand.tmp 104) (.seq (.reg false [⟨some 4, Go.Op.assign (Go.Operand.const (Go.Value.bool false)), none, false⟩] [4]) (.ret)) (.skip))) (.reg false [⟨some 105, Go.Op.move (Go.Operand.tmp 12), none, false⟩,
    ⟨some 106, Go.Op.move (Go.Operand.tmp 11), none, false⟩,
    ⟨some 8, Go.Op.assign (Go.Operand.tmp 105), none, false⟩,
    ⟨some 9, Go.Op.assign (Go.Operand.tmp 106), none, false⟩] [1, 5, 6, 7, 8, 9, 10])))))) (.reg false [⟨some 35, Go.Op.move (Go.Operand.tmp 10), none, false⟩,
    ⟨some 36, Go.Op.binOp Go.BinOp.add 3 (Go.Operand.tmp 35) (Go.Operand.const (Go.Value.int Go.IntKind.i64 1)) 3, none, false⟩,
    ⟨some 10, Go.Op.assign (Go.Operand.tmp 36), none, false⟩] [1, 5, 6, 7, 8, 9, 10]))
noncomputable def Try.C3 : PC := .seq (.reg false [⟨some 4, Go.Op.assign (Go.Operand.const (Go.Value.bool false)), none, false⟩] [0, 1]) (.seq (.seq (.reg false [⟨some 17, Go.Op.move (Go.Operand.tmp 1), none, false⟩,
    ⟨some 18, Go.Op.call { callee := Go.Callee.builtin Go.Builtin.len, args := #[Go.Operand.tmp 17], argTypes := #[22] }, none, false⟩,
    ⟨some 19, Go.Op.binOp Go.BinOp.gtr 3 (Go.Operand.tmp 18) (Go.Operand.const (Go.Value.int Go.IntKind.i64 300)) 3, none, false⟩] [0, 1, 19]) (.cond (Go.Operand.tmp 19) (.seq (.reg false [⟨some 20, Go.Op.call { callee := Go.Callee.value (Go.Operand.func 10), args := #[], argTypes := #[] }, none, false⟩,
    ⟨some 4, Go.Op.assign (Go.Operand.tmp 20), none, false⟩] [4]) (.ret)) (.skip))) (.seq (.reg false [⟨some 21, Go.Op.move (Go.Operand.tmp 0), none, false⟩,
    ⟨some 22, Go.Op.move (Go.Operand.tmp 1), none, false⟩,
    ⟨some 23, Go.Op.call { callee := Go.Callee.value (Go.Operand.func 11), args := #[Go.Operand.tmp 21, Go.Operand.tmp 22], argTypes := #[5, 22] }, none, false⟩,
    ⟨some 5, Go.Op.assign (Go.Operand.tmp 23), none, false⟩] [0, 1, 5]) (.seq (.seq (.reg false [⟨some 24, Go.Op.move (Go.Operand.tmp 5), none, false⟩,
    ⟨some 25, Go.Op.binOp Go.BinOp.eql 24 (Go.Operand.tmp 24) (Go.Operand.const (Go.Value.pointer none)) 24, none, false⟩] [0, 1, 5, 25]) (.cond (Go.Operand.tmp 25) (.seq (.reg false [⟨some 4, Go.Op.assign (Go.Operand.const (Go.Value.bool false)), none, false⟩] [4]) (.ret)) (.skip))) (.seq (.reg false [⟨some 26, Go.Op.move (Go.Operand.tmp 0), none, false⟩,
    ⟨some 27, Go.Op.call { callee := Go.Callee.value (Go.Operand.func 12), args := #[Go.Operand.tmp 26], argTypes := #[5] }, none, false⟩,
    ⟨some 6, Go.Op.assign (Go.Operand.tmp 27), none, false⟩] [1, 5, 6]) (.seq (.reg false [⟨some 28, Go.Op.move (Go.Operand.tmp 1), none, false⟩,
    ⟨some 29, Go.Op.call { callee := Go.Callee.builtin Go.Builtin.len, args := #[Go.Operand.tmp 28], argTypes := #[22] }, none, false⟩,
    ⟨some 30, Go.Op.makeSlice 28 (Go.Operand.tmp 29) (Go.Operand.tmp 29), none, false⟩,
    ⟨some 7, Go.Op.assign (Go.Operand.tmp 30), none, false⟩] [1, 5, 6, 7]) (.seq (.reg false [⟨some 8, Go.Op.assign (Go.Operand.const (Go.Value.int Go.IntKind.i64 0)), none, false⟩,
    ⟨some 9, Go.Op.assign (Go.Operand.const (Go.Value.int Go.IntKind.i64 0)), none, false⟩] [1, 5, 6, 7, 8, 9]) (.seq (.seq (.reg false [⟨some 10, Go.Op.assign (Go.Operand.const (Go.Value.int Go.IntKind.i64 0)), none, false⟩] [1, 5, 6, 7, 8, 9, 10]) (.block 0 (.loop Try.L3_0))) (.seq (.reg false [⟨some 108, Go.Op.move (Go.Operand.tmp 5), none, false⟩,
    ⟨some 109, Go.Op.call { callee := Go.Callee.value (Go.Operand.func 13), args := #[Go.Operand.tmp 108], argTypes := #[24] }, none, false⟩,
    ⟨some 107, Go.Op.move (Go.Operand.tmp 109), none, false⟩,
    ⟨some 110, Go.Op.extract (Go.Operand.tmp 107) 0, none, false⟩,
    ⟨some 111, Go.Op.extract (Go.Operand.tmp 107) 1, none, false⟩,
    ⟨some 112, Go.Op.extract (Go.Operand.tmp 107) 2, none, false⟩,
    ⟨some 14, Go.Op.assign (Go.Operand.tmp 110), none, false⟩,
    ⟨some 15, Go.Op.assign (Go.Operand.tmp 111), none, false⟩,
    ⟨some 16, Go.Op.assign (Go.Operand.tmp 112), none, false⟩] [16]) (.seq (.reg false [⟨some 113, Go.Op.move (Go.Operand.tmp 16), none, false⟩,
    ⟨some 114, Go.Op.binOp Go.BinOp.eql 29 (Go.Operand.tmp 113) (Go.Operand.const (Go.Value.int Go.IntKind.i64 4)) 29, none, false⟩,
    ⟨some 115, Go.Op.move (Go.Operand.tmp 114), none, false⟩,
    ⟨some 116, Go.Op.call { callee := Go.Callee.value (Go.Operand.func 10), args := #[], argTypes := #[] }, some (115, true), false⟩,
    ⟨some 117, Go.Op.pick (Go.Operand.tmp 115) (Go.Operand.tmp 116) (Go.Operand.const (Go.Value.bool false)), none, false⟩,
    ⟨some 4, Go.Op.assign (Go.Operand.tmp 117), none, false⟩] [4]) (.ret))))))))))
theorem Try.comp3 : ∃ c, Try.f3.body = some c ∧ compile c = erase Try.C3 := ⟨_, rfl, by kernel_rfl⟩
theorem Try.rs3 : Try.f3.results.toList = [Go.ResultVar.tmp 4] := by kernel_rfl
theorem Try.nt3 : Try.f3.ntmps = 118 := by kernel_rfl
theorem Try.en3 : ∀ vs w, (callFunc 3 vs).run Try.prog w = .ok (.enter 3 vs) w := enters_of Try.func3 (by kernel_rfl) rfl
theorem Try.ctr3 {a0 a1 : V} {bx : Boxes} {Kc : V → Boxes → Prop} (h : FinB bx → pw Try.prog Try.C3 (retQ Try.prog [Go.ResultVar.tmp 4] Kc) ⟨118, slk [(0, a0), (1, a1)], bx⟩) : AbsCall Try.prog 3 [a0, a1] bx Kc := abs_of (by kernel_rfl) Try.func3 Try.comp3 Try.en3 Try.nt3 Try.rs3 (fun hb => by rw [initSt_2]; exact h hb)
noncomputable def Try.L6_0 : PC := .seq (.seq (.reg false [⟨some 32, Go.Op.move (Go.Operand.tmp 9), none, false⟩,
    ⟨some 33, Go.Op.binOp Go.BinOp.lss 3 (Go.Operand.tmp 32) (Go.Operand.const (Go.Value.int Go.IntKind.i64 3)) 3, none, false⟩] [1, 5, 7, 8, 9, 33]) (.cond (Go.Operand.tmp 33) (.skip) (.exit 0))) (.seq (.block 1 (.seq (.reg false [⟨some 37, Go.Op.move (Go.Operand.tmp 7), none, false⟩,
    ⟨some 38, Go.Op.indexAddr 50 (Go.Operand.tmp 5) (Go.Operand.const (Go.Value.int Go.IntKind.i64 0)), none, false⟩,
    ⟨some 39, Go.Op.load 3 (Go.Operand.tmp 38), none, false⟩,
    ⟨some 40, Go.Op.call { callee := Go.Callee.value (Go.Operand.func 17), args := #[Go.Operand.tmp 37, Go.Operand.tmp 39], argTypes := #[24, 3] }, none, false⟩,
    ⟨some 36, Go.Op.move (Go.Operand.tmp 40), none, false⟩,
    ⟨some 41, Go.Op.extract (Go.Operand.tmp 36) 0, none, false⟩,
    ⟨some 42, Go.Op.extract (Go.Operand.tmp 36) 1, none, false⟩,
    ⟨some 10, Go.Op.assign (Go.Operand.tmp 41), none, false⟩,
    ⟨some 11, Go.Op.assign (Go.Operand.tmp 42), none, false⟩] [1, 5, 7, 8, 9, 10, 11]) (.seq (.seq (.reg false [⟨some 43, Go.Op.move (Go.Operand.tmp 11), none, false⟩,
    ⟨some 44, Go.Op.binOp Go.BinOp.neq 29 (Go.Operand.tmp 43) (Go.Operand.const (Go.Value.int Go.IntKind.i64 0)) 29, none, false⟩,
    ⟨some 45, Go.Op.move (Go.Operand.tmp 44), none, false⟩,
    ⟨some 46, Go.Op.move (Go.Operand.tmp 10), some (45, false), false⟩,
    ⟨some 47, Go.Op.fieldAddr 52 (Go.Operand.tmp 8) 0, some (45, false), false⟩,
    ⟨some 48, Go.Op.load 2 (Go.Operand.tmp 47), some (45, false), false⟩,
    ⟨some 49, Go.Op.move (Go.Operand.tmp 9), some (45, false), false⟩,
    ⟨some 50, Go.Op.binOp Go.BinOp.add 2 (Go.Operand.tmp 48) (Go.Operand.tmp 49) 2, some (45, false), false⟩,
    ⟨some 51, Go.Op.binOp Go.BinOp.neq 2 (Go.Operand.tmp 46) (Go.Operand.tmp 50) 2, some (45, false), false⟩,
    ⟨some 52, Go.Op.pick (Go.Operand.tmp 45) (Go.Operand.const (Go.Value.bool true)) (Go.Operand.tmp 51), none, false⟩] [1, 5, 7, 8, 9, 10, 52]) (.cond (Go.Operand.tmp 52) (.seq (.reg false [⟨some 6, Go.Op.assign (Go.Operand.const (Go.Value.bool false)), none, false⟩] [6]) (.ret)) (.skip))) (.seq (.reg false [⟨some 54, Go.Op.move (Go.Operand.tmp 7), none, false⟩,
    ⟨some 55, Go.Op.move (Go.Operand.tmp 10), none, false⟩,
    ⟨some 56, Go.Op.call { callee := Go.Callee.value (Go.Operand.func 16), args := #[Go.Operand.tmp 54, Go.Operand.tmp 55], argTypes := #[24, 2] }, none, false⟩,
    ⟨some 53, Go.Op.move (Go.Operand.tmp 56), none, false⟩,
    ⟨some 57, Go.Op.extract (Go.Operand.tmp 53) 0, none, false⟩,
    ⟨some 58, Go.Op.extract (Go.Operand.tmp 53) 1, none, false⟩,
    ⟨some 12, Go.Op.assign (Go.Operand.tmp 57), none, false⟩,
    ⟨some 11, Go.Op.assign (Go.Operand.tmp 58), none, false⟩] [1, 5, 7, 8, 9, 11, 12]) (.seq (.reg true [⟨some 59, Go.Op.move (Go.Operand.tmp 11), none, false⟩,
    ⟨some 60, Go.Op.binOp Go.BinOp.neq 29 (Go.Operand.tmp 59) (Go.Operand.const (Go.Value.int Go.IntKind.i64 0)) 29, none, false⟩,
    ⟨some 61, Go.Op.move (Go.Operand.tmp 60), none, false⟩,
    ⟨some 62, Go.Op.move (Go.Operand.tmp 12), some (61, false), false⟩,
    ⟨some 63, Go.Op.indexAddr 50 (Go.Operand.tmp 5) (Go.Operand.const (Go.Value.int Go.IntKind.i64 0)), some (61, false), false⟩,
    ⟨some 64, Go.Op.load 3 (Go.Operand.tmp 63), some (61, false), false⟩,
    ⟨some 65, Go.Op.binOp Go.BinOp.neq 3 (Go.Operand.tmp 62) (Go.Operand.tmp 64) 3, some (61, false), false⟩,
    ⟨some 66, Go.Op.pick (Go.Operand.tmp 61) (Go.Operand.const (Go.Value.bool true)) (Go.Operand.tmp 65), none, false⟩,
    ⟨some 67, Go.Op.move (Go.Operand.tmp 66), none, false⟩,
    ⟨some 68, Go.Op.move (Go.Operand.tmp 7), some (67, false), false⟩,
    ⟨some 69, Go.Op.call { callee := Go.Callee.value (Go.Operand.func 23), args := #[Go.Operand.tmp 68], argTypes := #[24] }, some (67, false), false⟩,
    ⟨some 70, Go.Op.field 52 (Go.Operand.tmp 69) 1, some (67, false), false⟩,
    ⟨some 71, Go.Op.fieldAddr 52 (Go.Operand.tmp 8) 1, some (67, false), false⟩,
    ⟨some 72, Go.Op.load 46 (Go.Operand.tmp 71), some (67, false), false⟩,
    ⟨some 73, Go.Op.call { callee := Go.Callee.value (Go.Operand.func 20), args := #[Go.Operand.tmp 70, Go.Operand.tmp 72], argTypes := #[46, 46] }, some (67, false), false⟩,
    ⟨some 74, Go.Op.unOp Go.UnOp.not 4 (Go.Operand.tmp 73), some (67, false), false⟩,
    ⟨some 75, Go.Op.pick (Go.Operand.tmp 67) (Go.Operand.const (Go.Value.bool true)) (Go.Operand.tmp 74), none, false⟩] [1, 5, 7, 8, 9, 75]) (.cond (Go.Operand.tmp 75) (.seq (.reg false [⟨some 6, Go.Op.assign (Go.Operand.const (Go.Value.bool false)), none, false⟩] [6]) (.ret)) (.skip))))))) (.reg false [⟨some 34, Go.Op.move (Go.Operand.tmp 9), none, false⟩,
    ⟨some 35, Go.Op.binOp Go.BinOp.add 3 (Go.Operand.tmp 34) (Go.Operand.const (Go.Value.int Go.IntKind.i64 1)) 3, none, false⟩,
    ⟨some 9, Go.Op.assign (Go.Operand.tmp 35), none, false⟩] [1, 5, 7, 8, 9]))
noncomputable def Try.L6_1 : PC := .seq (.seq (.reg false [⟨some 134, Go.Op.move (Go.Operand.tmp 20), none, false⟩,
    ⟨some 135, Go.Op.move (Go.Operand.tmp 16), none, false⟩,
    ⟨some 136, Go.Op.call { callee := Go.Callee.builtin Go.Builtin.len, args := #[Go.Operand.tmp 135], argTypes := #[46] }, none, false⟩,
    ⟨some 137, Go.Op.binOp Go.BinOp.lss 3 (Go.Operand.tmp 134) (Go.Operand.tmp 136) 3, none, false⟩,
    ⟨some 138, Go.Op.move (Go.Operand.tmp 137), none, false⟩,
    ⟨some 139, Go.Op.move (Go.Operand.tmp 20), some (138, true), false⟩,
    ⟨some 140, Go.Op.move (Go.Operand.tmp 17), some (138, true), false⟩,
    ⟨some 141, Go.Op.call { callee := Go.Callee.builtin Go.Builtin.len, args := #[Go.Operand.tmp 140], argTypes := #[46] }, some (138, true), false⟩,
    ⟨some 142, Go.Op.binOp Go.BinOp.lss 3 (Go.Operand.tmp 139) (Go.Operand.tmp 141) 3, some (138, true), false⟩,
    ⟨some 143, Go.Op.pick (Go.Operand.tmp 138) (Go.Operand.tmp 142) (Go.Operand.const (Go.Value.bool false)), none, false⟩] [13, 16, 17, 18, 19, 20, 143]) (.cond (Go.Operand.tmp 143) (.skip) (.exit 2))) (.seq (.block 3 (.seq (.seq (.reg false [⟨some 146, Go.Op.move (Go.Operand.tmp 16), none, false⟩,
    ⟨some 147, Go.Op.move (Go.Operand.tmp 20), none, false⟩,
    ⟨some 148, Go.Op.indexAddr 46 (Go.Operand.tmp 146) (Go.Operand.tmp 147), none, false⟩,
    ⟨some 149, Go.Op.fieldAddr 49 (Go.Operand.tmp 148) 0, none, false⟩,
    ⟨some 150, Go.Op.load 2 (Go.Operand.tmp 149), none, false⟩,
    ⟨some 151, Go.Op.move (Go.Operand.tmp 13), none, false⟩,
    ⟨some 152, Go.Op.binOp Go.BinOp.neq 2 (Go.Operand.tmp 150) (Go.Operand.tmp 151) 2, none, false⟩] [13, 16, 17, 18, 19, 20, 152]) (.cond (Go.Operand.tmp 152) (.reg false [⟨some 153, Go.Op.move (Go.Operand.tmp 18), none, false⟩,
    ⟨some 154, Go.Op.move (Go.Operand.tmp 16), none, false⟩,
    ⟨some 155, Go.Op.move (Go.Operand.tmp 20), none, false⟩,
    ⟨some 156, Go.Op.indexAddr 46 (Go.Operand.tmp 154) (Go.Operand.tmp 155), none, false⟩,
    ⟨some 157, Go.Op.load 49 (Go.Operand.tmp 156), none, false⟩,
    ⟨some 158, Go.Op.buildSlice 46 1 #[(0, Go.Operand.tmp 157)], none, false⟩,
    ⟨some 159, Go.Op.call { callee := Go.Callee.builtin Go.Builtin.append, args := #[Go.Operand.tmp 153, Go.Operand.tmp 158], argTypes := #[46, 46] }, none, false⟩,
    ⟨some 18, Go.Op.assign (Go.Operand.tmp 159), none, false⟩] [13, 16, 17, 18, 19, 20]) (.skip))) (.seq (.reg false [⟨some 160, Go.Op.move (Go.Operand.tmp 17), none, false⟩,
    ⟨some 161, Go.Op.move (Go.Operand.tmp 20), none, false⟩,
    ⟨some 162, Go.Op.indexAddr 46 (Go.Operand.tmp 160) (Go.Operand.tmp 161), none, false⟩,
    ⟨some 163, Go.Op.fieldAddr 49 (Go.Operand.tmp 162) 0, none, false⟩,
    ⟨some 164, Go.Op.load 2 (Go.Operand.tmp 163), none, false⟩,
    ⟨some 165, Go.Op.move (Go.Operand.tmp 13), none, false⟩,
    ⟨some 166, Go.Op.binOp Go.BinOp.neq 2 (Go.Operand.tmp 164) (Go.Operand.tmp 165) 2, none, false⟩] [13, 16, 17, 18, 19, 20, 166]) (.cond (Go.Operand.tmp 166) (.reg false [⟨some 167, Go.Op.move (Go.Operand.tmp 19), none, false⟩,
    ⟨some 168, Go.Op.move (Go.Operand.tmp 17), none, false⟩,
    ⟨some 169, Go.Op.move (Go.Operand.tmp 20), none, false⟩,
    ⟨some 170, Go.Op.indexAddr 46 (Go.Operand.tmp 168) (Go.Operand.tmp 169), none, false⟩,
    ⟨some 171, Go.Op.load 49 (Go.Operand.tmp 170), none, false⟩,
    ⟨some 172, Go.Op.buildSlice 46 1 #[(0, Go.Operand.tmp 171)], none, false⟩,
    ⟨some 173, Go.Op.call { callee := Go.Callee.builtin Go.Builtin.append, args := #[Go.Operand.tmp 167, Go.Operand.tmp 172], argTypes := #[46, 46] }, none, false⟩,
    ⟨some 19, Go.Op.assign (Go.Operand.tmp 173), none, false⟩] [13, 16, 17, 18, 19, 20]) (.skip))))) (.reg false [⟨some 144, Go.Op.move (Go.Operand.tmp 20), none, false⟩,
    ⟨some 145, Go.Op.binOp Go.BinOp.add 3 (Go.Operand.tmp 144) (Go.Operand.const (Go.Value.int Go.IntKind.i64 1)) 3, none, false⟩,
    ⟨some 20, Go.Op.assign (Go.Operand.tmp 145), none, false⟩] [13, 16, 17, 18, 19, 20]))
noncomputable def Try.C6 : PC := .seq (.reg false [⟨some 5, Go.Op.box 50 (Go.Operand.tmp 2), none, true⟩,
    ⟨some 6, Go.Op.assign (Go.Operand.const (Go.Value.bool false)), none, false⟩] [0, 1, 5]) (.seq (.seq (.reg false [⟨some 21, Go.Op.move (Go.Operand.tmp 1), none, false⟩,
    ⟨some 22, Go.Op.call { callee := Go.Callee.builtin Go.Builtin.len, args := #[Go.Operand.tmp 21], argTypes := #[22] }, none, false⟩,
    ⟨some 23, Go.Op.binOp Go.BinOp.gtr 3 (Go.Operand.tmp 22) (Go.Operand.const (Go.Value.int Go.IntKind.i64 100)) 3, none, false⟩] [0, 1, 5, 23]) (.cond (Go.Operand.tmp 23) (.seq (.reg false [⟨some 24, Go.Op.call { callee := Go.Callee.value (Go.Operand.func 10), args := #[], argTypes := #[] }, none, false⟩,
    ⟨some 6, Go.Op.assign (Go.Operand.tmp 24), none, false⟩] [6]) (.ret)) (.skip))) (.seq (.reg false [⟨some 25, Go.Op.move (Go.Operand.tmp 0), none, false⟩,
    ⟨some 26, Go.Op.move (Go.Operand.tmp 1), none, false⟩,
    ⟨some 27, Go.Op.call { callee := Go.Callee.value (Go.Operand.func 11), args := #[Go.Operand.tmp 25, Go.Operand.tmp 26], argTypes := #[5, 22] }, none, false⟩,
    ⟨some 7, Go.Op.assign (Go.Operand.tmp 27), none, false⟩] [1, 5, 7]) (.seq (.seq (.reg false [⟨some 28, Go.Op.move (Go.Operand.tmp 7), none, false⟩,
    ⟨some 29, Go.Op.binOp Go.BinOp.eql 24 (Go.Operand.tmp 28) (Go.Operand.const (Go.Value.pointer none)) 24, none, false⟩] [1, 5, 7, 29]) (.cond (Go.Operand.tmp 29) (.seq (.reg false [⟨some 6, Go.Op.assign (Go.Operand.const (Go.Value.bool false)), none, false⟩] [6]) (.ret)) (.skip))) (.seq (.reg false [⟨some 30, Go.Op.move (Go.Operand.tmp 7), none, false⟩,
    ⟨some 31, Go.Op.call { callee := Go.Callee.value (Go.Operand.func 23), args := #[Go.Operand.tmp 30], argTypes := #[24] }, none, false⟩,
    ⟨some 8, Go.Op.alloc 52, none, false⟩,
    ⟨none, Go.Op.store 52 (Go.Operand.tmp 8) (Go.Operand.tmp 31), none, false⟩] [1, 5, 7, 8]) (.fz 8 (.seq (.seq (.reg false [⟨some 9, Go.Op.assign (Go.Operand.const (Go.Value.int Go.IntKind.i64 0)), none, false⟩] [1, 5, 7, 8, 9]) (.block 0 (.loop Try.L6_0))) (.seq (.seq (.reg false [⟨some 76, Go.Op.move (Go.Operand.tmp 1), none, false⟩,
    ⟨some 77, Go.Op.call { callee := Go.Callee.builtin Go.Builtin.len, args := #[Go.Operand.tmp 76], argTypes := #[22] }, none, false⟩,
    ⟨some 78, Go.Op.binOp Go.BinOp.eql 3 (Go.Operand.tmp 77) (Go.Operand.const (Go.Value.int Go.IntKind.i64 0)) 3, none, false⟩] [1, 5, 7, 8, 78]) (.cond (Go.Operand.tmp 78) (.seq (.reg false [⟨some 79, Go.Op.call { callee := Go.Callee.value (Go.Operand.func 10), args := #[], argTypes := #[] }, none, false⟩,
    ⟨some 6, Go.Op.assign (Go.Operand.tmp 79), none, false⟩] [6]) (.ret)) (.skip))) (.seq (.reg false [⟨some 80, Go.Op.indexAddr 50 (Go.Operand.tmp 5) (Go.Operand.const (Go.Value.int Go.IntKind.i64 1)), none, false⟩,
    ⟨some 81, Go.Op.load 3 (Go.Operand.tmp 80), none, false⟩,
    ⟨some 82, Go.Op.indexAddr 50 (Go.Operand.tmp 5) (Go.Operand.const (Go.Value.int Go.IntKind.i64 1)), none, false⟩,
    ⟨some 83, Go.Op.load 3 (Go.Operand.tmp 82), none, false⟩,
    ⟨some 84, Go.Op.binOp Go.BinOp.add 3 (Go.Operand.tmp 83) (Go.Operand.const (Go.Value.int Go.IntKind.i64 1)) 3, none, false⟩,
    ⟨some 85, Go.Op.unOp Go.UnOp.neg 3 (Go.Operand.tmp 84), none, false⟩,
    ⟨some 86, Go.Op.call { callee := Go.Callee.builtin Go.Builtin.max, args := #[Go.Operand.tmp 81, Go.Operand.tmp 85], argTypes := #[3, 3] }, none, false⟩,
    ⟨some 87, Go.Op.move (Go.Operand.tmp 1), none, false⟩,
    ⟨some 88, Go.Op.call { callee := Go.Callee.builtin Go.Builtin.len, args := #[Go.Operand.tmp 87], argTypes := #[22] }, none, false⟩,
    ⟨some 89, Go.Op.binOp Go.BinOp.rem 3 (Go.Operand.tmp 86) (Go.Operand.tmp 88) 3, none, false⟩,
    ⟨some 90, Go.Op.binOp Go.BinOp.add 3 (Go.Operand.const (Go.Value.int Go.IntKind.i64 1)) (Go.Operand.tmp 89) 3, none, false⟩,
    ⟨some 13, Go.Op.assign (Go.Operand.tmp 90), none, false⟩] [1, 5, 7, 8, 13]) (.seq (.reg false [⟨some 92, Go.Op.move (Go.Operand.tmp 7), none, false⟩,
    ⟨some 93, Go.Op.move (Go.Operand.tmp 13), none, false⟩,
    ⟨some 94, Go.Op.call { callee := Go.Callee.value (Go.Operand.func 22), args := #[Go.Operand.tmp 92, Go.Operand.tmp 93], argTypes := #[24, 2] }, none, false⟩,
    ⟨some 91, Go.Op.move (Go.Operand.tmp 94), none, false⟩,
    ⟨some 95, Go.Op.extract (Go.Operand.tmp 91) 0, none, false⟩,
    ⟨some 96, Go.Op.extract (Go.Operand.tmp 91) 1, none, false⟩,
    ⟨some 14, Go.Op.assign (Go.Operand.tmp 95), none, false⟩,
    ⟨some 15, Go.Op.assign (Go.Operand.tmp 96), none, false⟩] [1, 5, 7, 8, 13, 14, 15]) (.seq (.seq (.reg true [⟨some 97, Go.Op.move (Go.Operand.tmp 15), none, false⟩,
    ⟨some 98, Go.Op.binOp Go.BinOp.neq 29 (Go.Operand.tmp 97) (Go.Operand.const (Go.Value.int Go.IntKind.i64 0)) 29, none, false⟩,
    ⟨some 99, Go.Op.move (Go.Operand.tmp 98), none, false⟩,
    ⟨some 100, Go.Op.move (Go.Operand.tmp 14), some (99, false), false⟩,
    ⟨some 101, Go.Op.move (Go.Operand.tmp 1), some (99, false), false⟩,
    ⟨some 102, Go.Op.move (Go.Operand.tmp 13), some (99, false), false⟩,
    ⟨some 103, Go.Op.binOp Go.BinOp.sub 2 (Go.Operand.tmp 102) (Go.Operand.const (Go.Value.int Go.IntKind.i64 1)) 2, some (99, false), false⟩,
    ⟨some 104, Go.Op.indexAddr 22 (Go.Operand.tmp 101) (Go.Operand.tmp 103), some (99, false), false⟩,
    ⟨some 105, Go.Op.load 3 (Go.Operand.tmp 104), some (99, false), false⟩,
    ⟨some 106, Go.Op.binOp Go.BinOp.neq 3 (Go.Operand.tmp 100) (Go.Operand.tmp 105) 3, some (99, false), false⟩,
    ⟨some 107, Go.Op.pick (Go.Operand.tmp 99) (Go.Operand.const (Go.Value.bool true)) (Go.Operand.tmp 106), none, false⟩,
    ⟨some 108, Go.Op.move (Go.Operand.tmp 107), none, false⟩,
    ⟨some 109, Go.Op.move (Go.Operand.tmp 7), some (108, false), false⟩,
    ⟨some 110, Go.Op.move (Go.Operand.tmp 13), some (108, false), false⟩,
    ⟨some 111, Go.Op.move (Go.Operand.tmp 14), some (108, false), false⟩,
    ⟨some 112, Go.Op.call { callee := Go.Callee.value (Go.Operand.func 18), args := #[Go.Operand.tmp 109, Go.Operand.tmp 110, Go.Operand.tmp 111], argTypes := #[24, 2, 3] }, some (108, false), false⟩,
    ⟨some 113, Go.Op.binOp Go.BinOp.neq 29 (Go.Operand.tmp 112) (Go.Operand.const (Go.Value.int Go.IntKind.i64 0)) 29, some (108, false), false⟩,
    ⟨some 114, Go.Op.pick (Go.Operand.tmp 108) (Go.Operand.const (Go.Value.bool true)) (Go.Operand.tmp 113), none, false⟩,
    ⟨some 115, Go.Op.move (Go.Operand.tmp 114), none, false⟩,
    ⟨some 116, Go.Op.move (Go.Operand.tmp 7), some (115, false), false⟩,
    ⟨some 117, Go.Op.call { callee := Go.Callee.value (Go.Operand.func 23), args := #[Go.Operand.tmp 116], argTypes := #[24] }, some (115, false), false⟩,
    ⟨some 118, Go.Op.field 52 (Go.Operand.tmp 117) 1, some (115, false), false⟩,
    ⟨some 119, Go.Op.fieldAddr 52 (Go.Operand.tmp 8) 1, some (115, false), false⟩,
    ⟨some 120, Go.Op.load 46 (Go.Operand.tmp 119), some (115, false), false⟩,
    ⟨some 121, Go.Op.call { callee := Go.Callee.value (Go.Operand.func 20), args := #[Go.Operand.tmp 118, Go.Operand.tmp 120], argTypes := #[46, 46] }, some (115, false), false⟩,
    ⟨some 122, Go.Op.unOp Go.UnOp.not 4 (Go.Operand.tmp 121), some (115, false), false⟩,
    ⟨some 123, Go.Op.pick (Go.Operand.tmp 115) (Go.Operand.const (Go.Value.bool true)) (Go.Operand.tmp 122), none, false⟩] [5, 7, 8, 13, 123]) (.cond (Go.Operand.tmp 123) (.seq (.reg false [⟨some 6, Go.Op.assign (Go.Operand.const (Go.Value.bool false)), none, false⟩] [6]) (.ret)) (.skip))) (.seq (.seq (.reg false [⟨some 124, Go.Op.move (Go.Operand.tmp 7), none, false⟩,
    ⟨some 125, Go.Op.move (Go.Operand.tmp 13), none, false⟩,
    ⟨some 126, Go.Op.indexAddr 50 (Go.Operand.tmp 5) (Go.Operand.const (Go.Value.int Go.IntKind.i64 0)), none, false⟩,
    ⟨some 127, Go.Op.load 3 (Go.Operand.tmp 126), none, false⟩,
    ⟨some 128, Go.Op.call { callee := Go.Callee.value (Go.Operand.func 18), args := #[Go.Operand.tmp 124, Go.Operand.tmp 125, Go.Operand.tmp 127], argTypes := #[24, 2, 3] }, none, false⟩,
    ⟨some 129, Go.Op.binOp Go.BinOp.neq 29 (Go.Operand.tmp 128) (Go.Operand.const (Go.Value.int Go.IntKind.i64 0)) 29, none, false⟩] [7, 8, 13, 129]) (.cond (Go.Operand.tmp 129) (.seq (.reg false [⟨some 6, Go.Op.assign (Go.Operand.const (Go.Value.bool false)), none, false⟩] [6]) (.ret)) (.skip))) (.seq (.reg true [⟨some 130, Go.Op.move (Go.Operand.tmp 7), none, false⟩,
    ⟨some 131, Go.Op.call { callee := Go.Callee.value (Go.Operand.func 21), args := #[Go.Operand.tmp 130], argTypes := #[24] }, none, false⟩,
    ⟨some 132, Go.Op.fieldAddr 52 (Go.Operand.tmp 8) 1, none, false⟩,
    ⟨some 133, Go.Op.load 46 (Go.Operand.tmp 132), none, false⟩,
    ⟨some 16, Go.Op.assign (Go.Operand.tmp 131), none, false⟩,
    ⟨some 17, Go.Op.assign (Go.Operand.tmp 133), none, false⟩] [13, 16, 17]) (.seq (.reg false [⟨some 18, Go.Op.assign (Go.Operand.const (Go.Value.slice none 0 0)), none, false⟩,
    ⟨some 19, Go.Op.assign (Go.Operand.const (Go.Value.slice none 0 0)), none, false⟩] [13, 16, 17, 18, 19]) (.seq (.seq (.reg false [⟨some 20, Go.Op.assign (Go.Operand.const (Go.Value.int Go.IntKind.i64 0)), none, false⟩] [13, 16, 17, 18, 19, 20]) (.block 2 (.loop Try.L6_1))) (.seq (.reg false [⟨some 174, Go.Op.move (Go.Operand.tmp 16), none, false⟩,
    ⟨some 175, Go.Op.call { callee := Go.Callee.builtin Go.Builtin.len, args := #[Go.Operand.tmp 174], argTypes := #[46] }, none, false⟩,
    ⟨some 176, Go.Op.move (Go.Operand.tmp 17), none, false⟩,
    ⟨some 177, Go.Op.call { callee := Go.Callee.builtin Go.Builtin.len, args := #[Go.Operand.tmp 176], argTypes := #[46] }, none, false⟩,
    ⟨some 178, Go.Op.binOp Go.BinOp.eql 3 (Go.Operand.tmp 175) (Go.Operand.tmp 177) 3, none, false⟩,
    ⟨some 179, Go.Op.move (Go.Operand.tmp 178), none, false⟩,
    ⟨some 180, Go.Op.move (Go.Operand.tmp 18), some (179, true), false⟩,
    ⟨some 181, Go.Op.move (Go.Operand.tmp 19), some (179, true), false⟩,
    ⟨some 182, Go.Op.call { callee := Go.Callee.value (Go.Operand.func 20), args := #[Go.Operand.tmp 180, Go.Operand.tmp 181], argTypes := #[46, 46] }, some (179, true), false⟩,
    ⟨some 183, Go.Op.pick (Go.Operand.tmp 179) (Go.Operand.tmp 182) (Go.Operand.const (Go.Value.bool false)), none, false⟩,
    ⟨some 184, Go.Op.move (Go.Operand.tmp 183), none, false⟩,
    ⟨some 185, Go.Op.call { callee := Go.Callee.value (Go.Operand.func 10), args := #[], argTypes := #[] }, some (184, true), false⟩,
    ⟨some 186, Go.Op.pick (Go.Operand.tmp 184) (Go.Operand.tmp 185) (Go.Operand.const (Go.Value.bool false)), none, false⟩,
    ⟨some 6, Go.Op.assign (Go.Operand.tmp 186), none, false⟩] [6]) (.ret))))))))))))))))
theorem Try.comp6 : ∃ c, Try.f6.body = some c ∧ compile c = erase Try.C6 := ⟨_, rfl, by kernel_rfl⟩
theorem Try.rs6 : Try.f6.results.toList = [Go.ResultVar.tmp 6] := by kernel_rfl
theorem Try.nt6 : Try.f6.ntmps = 187 := by kernel_rfl
theorem Try.en6 : ∀ vs w, (callFunc 6 vs).run Try.prog w = .ok (.enter 6 vs) w := enters_of Try.func6 (by kernel_rfl) rfl
theorem Try.ctr6 {a0 a1 a2 : V} {bx : Boxes} {Kc : V → Boxes → Prop} (h : FinB bx → pw Try.prog Try.C6 (retQ Try.prog [Go.ResultVar.tmp 6] Kc) ⟨187, slk [(0, a0), (1, a1), (2, a2)], bx⟩) : AbsCall Try.prog 6 [a0, a1, a2] bx Kc := abs_of (by kernel_rfl) Try.func6 Try.comp6 Try.en6 Try.nt6 Try.rs6 (fun hb => by rw [initSt_3]; exact h hb)
noncomputable def Try.C10 : PC := .seq (.reg false [⟨some 0, Go.Op.assign (Go.Operand.const (Go.Value.bool false)), none, false⟩] []) (.seq (.reg false [⟨some 11, Go.Op.call { callee := Go.Callee.value (Go.Operand.func 19), args := #[], argTypes := #[] }, none, false⟩,
    ⟨some 1, Go.Op.assign (Go.Operand.tmp 11), none, false⟩] [1]) (.seq (.seq (.reg false [⟨some 12, Go.Op.move (Go.Operand.tmp 1), none, false⟩,
    ⟨some 13, Go.Op.binOp Go.BinOp.eql 24 (Go.Operand.tmp 12) (Go.Operand.const (Go.Value.pointer none)) 24, none, false⟩] [1, 13]) (.cond (Go.Operand.tmp 13) (.seq (.reg false [⟨some 0, Go.Op.assign (Go.Operand.const (Go.Value.bool false)), none, false⟩] [0]) (.ret)) (.skip))) (.seq (.reg false [⟨some 15, Go.Op.move (Go.Operand.tmp 1), none, false⟩,
    ⟨some 16, Go.Op.call { callee := Go.Callee.value (Go.Operand.func 35), args := #[Go.Operand.tmp 15], argTypes := #[24] }, none, false⟩,
    ⟨some 14, Go.Op.move (Go.Operand.tmp 16), none, false⟩,
    ⟨some 17, Go.Op.extract (Go.Operand.tmp 14) 0, none, false⟩,
    ⟨some 18, Go.Op.extract (Go.Operand.tmp 14) 1, none, false⟩,
    ⟨some 19, Go.Op.extract (Go.Operand.tmp 14) 2, none, false⟩,
    ⟨some 2, Go.Op.assign (Go.Operand.tmp 17), none, false⟩,
    ⟨some 3, Go.Op.assign (Go.Operand.tmp 18), none, false⟩,
    ⟨some 4, Go.Op.assign (Go.Operand.tmp 19), none, false⟩] [1, 2, 3, 4]) (.seq (.reg false [⟨some 20, Go.Op.move (Go.Operand.tmp 1), none, false⟩,
    ⟨some 21, Go.Op.call { callee := Go.Callee.value (Go.Operand.func 18), args := #[Go.Operand.tmp 20, Go.Operand.const (Go.Value.int Go.IntKind.i64 1), Go.Operand.const (Go.Value.int Go.IntKind.i64 3)], argTypes := #[24, 2, 3] }, none, false⟩,
    ⟨some 5, Go.Op.assign (Go.Operand.tmp 21), none, false⟩] [1, 2, 3, 4, 5]) (.seq (.reg false [⟨some 23, Go.Op.move (Go.Operand.tmp 1), none, false⟩,
    ⟨some 24, Go.Op.call { callee := Go.Callee.value (Go.Operand.func 16), args := #[Go.Operand.tmp 23, Go.Operand.const (Go.Value.int Go.IntKind.i64 2)], argTypes := #[24, 2] }, none, false⟩,
    ⟨some 22, Go.Op.move (Go.Operand.tmp 24), none, false⟩,
    ⟨some 25, Go.Op.extract (Go.Operand.tmp 22) 0, none, false⟩,
    ⟨some 26, Go.Op.extract (Go.Operand.tmp 22) 1, none, false⟩,
    ⟨some 6, Go.Op.assign (Go.Operand.tmp 25), none, false⟩,
    ⟨some 7, Go.Op.assign (Go.Operand.tmp 26), none, false⟩] [1, 2, 3, 4, 5, 6, 7]) (.seq (.reg false [⟨some 28, Go.Op.move (Go.Operand.tmp 1), none, false⟩,
    ⟨some 29, Go.Op.call { callee := Go.Callee.value (Go.Operand.func 13), args := #[Go.Operand.tmp 28], argTypes := #[24] }, none, false⟩,
    ⟨some 27, Go.Op.move (Go.Operand.tmp 29), none, false⟩,
    ⟨some 30, Go.Op.extract (Go.Operand.tmp 27) 0, none, false⟩,
    ⟨some 31, Go.Op.extract (Go.Operand.tmp 27) 1, none, false⟩,
    ⟨some 32, Go.Op.extract (Go.Operand.tmp 27) 2, none, false⟩,
    ⟨some 8, Go.Op.assign (Go.Operand.tmp 30), none, false⟩,
    ⟨some 9, Go.Op.assign (Go.Operand.tmp 31), none, false⟩,
    ⟨some 10, Go.Op.assign (Go.Operand.tmp 32), none, false⟩] [1, 2, 3, 4, 5, 6, 7, 8, 9, 10]) (.seq (.reg false [⟨some 33, Go.Op.move (Go.Operand.tmp 4), none, false⟩,
    ⟨some 34, Go.Op.binOp Go.BinOp.eql 29 (Go.Operand.tmp 33) (Go.Operand.const (Go.Value.int Go.IntKind.i64 0)) 29, none, false⟩,
    ⟨some 35, Go.Op.move (Go.Operand.tmp 34), none, false⟩,
    ⟨some 36, Go.Op.move (Go.Operand.tmp 5), some (35, true), false⟩,
    ⟨some 37, Go.Op.binOp Go.BinOp.eql 29 (Go.Operand.tmp 36) (Go.Operand.const (Go.Value.int Go.IntKind.i64 0)) 29, some (35, true), false⟩,
    ⟨some 38, Go.Op.pick (Go.Operand.tmp 35) (Go.Operand.tmp 37) (Go.Operand.const (Go.Value.bool false)), none, false⟩,
    ⟨some 39, Go.Op.move (Go.Operand.tmp 38), none, false⟩,
    ⟨some 40, Go.Op.move (Go.Operand.tmp 7), some (39, true), false⟩,
    ⟨some 41, Go.Op.binOp Go.BinOp.eql 29 (Go.Operand.tmp 40) (Go.Operand.const (Go.Value.int Go.IntKind.i64 0)) 29, some (39, true), false⟩,
    ⟨some 42, Go.Op.pick (Go.Operand.tmp 39) (Go.Operand.tmp 41) (Go.Operand.const (Go.Value.bool false)), none, false⟩,
    ⟨some 43, Go.Op.move (Go.Operand.tmp 42), none, false⟩,
    ⟨some 44, Go.Op.move (Go.Operand.tmp 10), some (43, true), false⟩,
    ⟨some 45, Go.Op.binOp Go.BinOp.eql 29 (Go.Operand.tmp 44) (Go.Operand.const (Go.Value.int Go.IntKind.i64 0)) 29, some (43, true), false⟩,
    ⟨some 46, Go.Op.pick (Go.Operand.tmp 43) (Go.Operand.tmp 45) (Go.Operand.const (Go.Value.bool false)), none, false⟩,
    ⟨some 47, Go.Op.move (Go.Operand.tmp 46), none, false⟩,
    ⟨some 48, Go.Op.move (Go.Operand.tmp 2), some (47, true), false⟩,
    ⟨some 49, Go.Op.binOp Go.BinOp.eql 2 (Go.Operand.tmp 48) (Go.Operand.const (Go.Value.int Go.IntKind.i64 2)) 2, some (47, true), false⟩,
    ⟨some 50, Go.Op.pick (Go.Operand.tmp 47) (Go.Operand.tmp 49) (Go.Operand.const (Go.Value.bool false)), none, false⟩,
    ⟨some 51, Go.Op.move (Go.Operand.tmp 50), none, false⟩,
    ⟨some 52, Go.Op.move (Go.Operand.tmp 3), some (51, true), false⟩,
    ⟨some 53, Go.Op.binOp Go.BinOp.eql 3 (Go.Operand.tmp 52) (Go.Operand.const (Go.Value.int Go.IntKind.i64 3)) 3, some (51, true), false⟩,
    ⟨some 54, Go.Op.pick (Go.Operand.tmp 51) (Go.Operand.tmp 53) (Go.Operand.const (Go.Value.bool false)), none, false⟩,
    ⟨some 55, Go.Op.move (Go.Operand.tmp 54), none, false⟩,
    ⟨some 56, Go.Op.move (Go.Operand.tmp 6), some (55, true), false⟩,
    ⟨some 57, Go.Op.binOp Go.BinOp.eql 3 (Go.Operand.tmp 56) (Go.Operand.const (Go.Value.int Go.IntKind.i64 3)) 3, some (55, true), false⟩,
    ⟨some 58, Go.Op.pick (Go.Operand.tmp 55) (Go.Operand.tmp 57) (Go.Operand.const (Go.Value.bool false)), none, false⟩,
    ⟨some 59, Go.Op.move (Go.Operand.tmp 58), none, false⟩,
    ⟨some 60, Go.Op.move (Go.Operand.tmp 8), some (59, true), false⟩,
    ⟨some 61, Go.Op.binOp Go.BinOp.eql 2 (Go.Operand.tmp 60) (Go.Operand.const (Go.Value.int Go.IntKind.i64 1)) 2, some (59, true), false⟩,
    ⟨some 62, Go.Op.pick (Go.Operand.tmp 59) (Go.Operand.tmp 61) (Go.Operand.const (Go.Value.bool false)), none, false⟩,
    ⟨some 63, Go.Op.move (Go.Operand.tmp 62), none, false⟩,
    ⟨some 64, Go.Op.move (Go.Operand.tmp 9), some (63, true), false⟩,
    ⟨some 65, Go.Op.binOp Go.BinOp.eql 3 (Go.Operand.tmp 64) (Go.Operand.const (Go.Value.int Go.IntKind.i64 3)) 3, some (63, true), false⟩,
    ⟨some 66, Go.Op.pick (Go.Operand.tmp 63) (Go.Operand.tmp 65) (Go.Operand.const (Go.Value.bool false)), none, false⟩,
    ⟨some 67, Go.Op.move (Go.Operand.tmp 66), none, false⟩,
    ⟨some 68, Go.Op.move (Go.Operand.tmp 1), some (67, true), false⟩,
    ⟨some 69, Go.Op.call { callee := Go.Callee.value (Go.Operand.func 14), args := #[Go.Operand.tmp 68], argTypes := #[24] }, some (67, true), false⟩,
    ⟨some 70, Go.Op.binOp Go.BinOp.eql 3 (Go.Operand.tmp 69) (Go.Operand.const (Go.Value.int Go.IntKind.i64 1)) 3, some (67, true), false⟩,
    ⟨some 71, Go.Op.pick (Go.Operand.tmp 67) (Go.Operand.tmp 70) (Go.Operand.const (Go.Value.bool false)), none, false⟩,
    ⟨some 0, Go.Op.assign (Go.Operand.tmp 71), none, false⟩] [0]) (.ret))))))))
theorem Try.comp10 : ∃ c, Try.f10.body = some c ∧ compile c = erase Try.C10 := ⟨_, rfl, by kernel_rfl⟩
theorem Try.rs10 : Try.f10.results.toList = [Go.ResultVar.tmp 0] := by kernel_rfl
theorem Try.nt10 : Try.f10.ntmps = 72 := by kernel_rfl
theorem Try.en10 : ∀ vs w, (callFunc 10 vs).run Try.prog w = .ok (.enter 10 vs) w := enters_of Try.func10 (by kernel_rfl) rfl
theorem Try.ctr10 {bx : Boxes} {Kc : V → Boxes → Prop} (h : FinB bx → pw Try.prog Try.C10 (retQ Try.prog [Go.ResultVar.tmp 0] Kc) ⟨72, slk [], bx⟩) : AbsCall Try.prog 10 [] bx Kc := abs_of (by kernel_rfl) Try.func10 Try.comp10 Try.en10 Try.nt10 Try.rs10 (fun hb => by rw [initSt_0]; exact h hb)
noncomputable def Try.L11_0 : PC := .seq (.seq (.reg false [⟨some 19, Go.Op.move (Go.Operand.tmp 6), none, false⟩,
    ⟨some 20, Go.Op.move (Go.Operand.tmp 1), none, false⟩,
    ⟨some 21, Go.Op.call { callee := Go.Callee.builtin Go.Builtin.len, args := #[Go.Operand.tmp 20], argTypes := #[22] }, none, false⟩,
    ⟨some 22, Go.Op.binOp Go.BinOp.lss 3 (Go.Operand.tmp 19) (Go.Operand.tmp 21) 3, none, false⟩] [1, 5, 6, 22]) (.cond (Go.Operand.tmp 22) (.skip) (.exit 0))) (.seq (.block 1 (.seq (.reg false [⟨some 26, Go.Op.move (Go.Operand.tmp 5), none, false⟩,
    ⟨some 27, Go.Op.move (Go.Operand.tmp 1), none, false⟩,
    ⟨some 28, Go.Op.move (Go.Operand.tmp 6), none, false⟩,
    ⟨some 29, Go.Op.indexAddr 22 (Go.Operand.tmp 27) (Go.Operand.tmp 28), none, false⟩,
    ⟨some 30, Go.Op.load 3 (Go.Operand.tmp 29), none, false⟩,
    ⟨some 31, Go.Op.call { callee := Go.Callee.value (Go.Operand.func 17), args := #[Go.Operand.tmp 26, Go.Operand.tmp 30], argTypes := #[24, 3] }, none, false⟩,
    ⟨some 25, Go.Op.move (Go.Operand.tmp 31), none, false⟩,
    ⟨some 32, Go.Op.extract (Go.Operand.tmp 25) 0, none, false⟩,
    ⟨some 33, Go.Op.extract (Go.Operand.tmp 25) 1, none, false⟩,
    ⟨some 7, Go.Op.assign (Go.Operand.tmp 32), none, false⟩,
    ⟨some 8, Go.Op.assign (Go.Operand.tmp 33), none, false⟩] [1, 5, 6, 8]) (.seq (.reg false [⟨some 34, Go.Op.move (Go.Operand.tmp 8), none, false⟩,
    ⟨some 35, Go.Op.binOp Go.BinOp.neq 29 (Go.Operand.tmp 34) (Go.Operand.const (Go.Value.int Go.IntKind.i64 0)) 29, none, false⟩] [1, 5, 6, 35]) (.cond (Go.Operand.tmp 35) (.seq (.reg false [⟨some 4, Go.Op.assign (Go.Operand.const (Go.Value.pointer none)), none, false⟩] [4]) (.ret)) (.skip))))) (.reg false [⟨some 23, Go.Op.move (Go.Operand.tmp 6), none, false⟩,
    ⟨some 24, Go.Op.binOp Go.BinOp.add 3 (Go.Operand.tmp 23) (Go.Operand.const (Go.Value.int Go.IntKind.i64 1)) 3, none, false⟩,
    ⟨some 6, Go.Op.assign (Go.Operand.tmp 24), none, false⟩] [1, 5, 6]))
noncomputable def Try.C11 : PC := .seq (.reg false [⟨some 4, Go.Op.assign (Go.Operand.const (Go.Value.pointer none)), none, false⟩] [0, 1]) (.seq (.reg false [⟨some 9, Go.Op.move (Go.Operand.tmp 0), none, false⟩,
    ⟨some 10, Go.Op.call { callee := Go.Callee.value (Go.Operand.func 12), args := #[Go.Operand.tmp 9], argTypes := #[5] }, none, false⟩,
    ⟨some 11, Go.Op.call { callee := Go.Callee.value (Go.Operand.func 31), args := #[Go.Operand.tmp 10], argTypes := #[26] }, none, false⟩,
    ⟨some 5, Go.Op.assign (Go.Operand.tmp 11), none, false⟩] [1, 5]) (.seq (.seq (.reg false [⟨some 12, Go.Op.move (Go.Operand.tmp 5), none, false⟩,
    ⟨some 13, Go.Op.binOp Go.BinOp.eql 24 (Go.Operand.tmp 12) (Go.Operand.const (Go.Value.pointer none)) 24, none, false⟩,
    ⟨some 14, Go.Op.move (Go.Operand.tmp 13), none, false⟩,
    ⟨some 15, Go.Op.move (Go.Operand.tmp 1), some (14, false), false⟩,
    ⟨some 16, Go.Op.call { callee := Go.Callee.builtin Go.Builtin.len, args := #[Go.Operand.tmp 15], argTypes := #[22] }, some (14, false), false⟩,
    ⟨some 17, Go.Op.binOp Go.BinOp.gtr 3 (Go.Operand.tmp 16) (Go.Operand.const (Go.Value.int Go.IntKind.i64 300)) 3, some (14, false), false⟩,
    ⟨some 18, Go.Op.pick (Go.Operand.tmp 14) (Go.Operand.const (Go.Value.bool true)) (Go.Operand.tmp 17), none, false⟩] [1, 5, 18]) (.cond (Go.Operand.tmp 18) (.seq (.reg false [⟨some 4, Go.Op.assign (Go.Operand.const (Go.Value.pointer none)), none, false⟩] [4]) (.ret)) (.skip))) (.seq (.seq (.reg false [⟨some 6, Go.Op.assign (Go.Operand.const (Go.Value.int Go.IntKind.i64 0)), none, false⟩] [1, 5, 6]) (.block 0 (.loop Try.L11_0))) (.seq (.reg false [⟨some 36, Go.Op.move (Go.Operand.tmp 5), none, false⟩,
    ⟨some 4, Go.Op.assign (Go.Operand.tmp 36), none, false⟩] [4]) (.ret)))))
theorem Try.comp11 : ∃ c, Try.f11.body = some c ∧ compile c = erase Try.C11 := ⟨_, rfl, by kernel_rfl⟩
theorem Try.rs11 : Try.f11.results.toList = [Go.ResultVar.tmp 4] := by kernel_rfl
theorem Try.nt11 : Try.f11.ntmps = 37 := by kernel_rfl
theorem Try.en11 : ∀ vs w, (callFunc 11 vs).run Try.prog w = .ok (.enter 11 vs) w := enters_of Try.func11 (by kernel_rfl) rfl
theorem Try.ctr11 {a0 a1 : V} {bx : Boxes} {Kc : V → Boxes → Prop} (h : FinB bx → pw Try.prog Try.C11 (retQ Try.prog [Go.ResultVar.tmp 4] Kc) ⟨37, slk [(0, a0), (1, a1)], bx⟩) : AbsCall Try.prog 11 [a0, a1] bx Kc := abs_of (by kernel_rfl) Try.func11 Try.comp11 Try.en11 Try.nt11 Try.rs11 (fun hb => by rw [initSt_2]; exact h hb)
noncomputable def Try.C12 : PC := .seq (.reg false [⟨some 2, Go.Op.assign (Go.Operand.const Go.Value.nilFunc), none, false⟩] [0]) (.seq (.seq (.reg false [⟨some 3, Go.Op.move (Go.Operand.tmp 0), none, false⟩,
    ⟨some 4, Go.Op.binOp Go.BinOp.rem 5 (Go.Operand.tmp 3) (Go.Operand.const (Go.Value.int Go.IntKind.u8 2)) 5, none, false⟩,
    ⟨some 5, Go.Op.binOp Go.BinOp.eql 5 (Go.Operand.tmp 4) (Go.Operand.const (Go.Value.int Go.IntKind.u8 1)) 5, none, false⟩] [5]) (.cond (Go.Operand.tmp 5) (.seq (.reg false [⟨some 2, Go.Op.assign (Go.Operand.func 36), none, false⟩] [2]) (.ret)) (.skip))) (.seq (.reg false [⟨some 2, Go.Op.assign (Go.Operand.func 28), none, false⟩] [2]) (.ret)))
theorem Try.comp12 : ∃ c, Try.f12.body = some c ∧ compile c = erase Try.C12 := ⟨_, rfl, by kernel_rfl⟩
theorem Try.rs12 : Try.f12.results.toList = [Go.ResultVar.tmp 2] := by kernel_rfl
theorem Try.nt12 : Try.f12.ntmps = 6 := by kernel_rfl
theorem Try.en12 : ∀ vs w, (callFunc 12 vs).run Try.prog w = .ok (.enter 12 vs) w := enters_of Try.func12 (by kernel_rfl) rfl
theorem Try.ctr12 {a0 : V} {bx : Boxes} {Kc : V → Boxes → Prop} (h : FinB bx → pw Try.prog Try.C12 (retQ Try.prog [Go.ResultVar.tmp 2] Kc) ⟨6, slk [(0, a0)], bx⟩) : AbsCall Try.prog 12 [a0] bx Kc := abs_of (by kernel_rfl) Try.func12 Try.comp12 Try.en12 Try.nt12 Try.rs12 (fun hb => by rw [initSt_1]; exact h hb)
noncomputable def Try.C13 : PC := .seq (.reg false [⟨some 2, Go.Op.assign (Go.Operand.const (Go.Value.int Go.IntKind.i64 0)), none, false⟩,
    ⟨some 3, Go.Op.assign (Go.Operand.const (Go.Value.int Go.IntKind.i64 0)), none, false⟩,
    ⟨some 4, Go.Op.assign (Go.Operand.const (Go.Value.int Go.IntKind.i64 0)), none, false⟩] [0]) (.seq (.reg false [⟨some 6, Go.Op.move (Go.Operand.tmp 0), none, false⟩,
    ⟨some 7, Go.Op.call { callee := Go.Callee.value (Go.Operand.func 35), args := #[Go.Operand.tmp 6], argTypes := #[24] }, none, false⟩,
    ⟨some 5, Go.Op.move (Go.Operand.tmp 7), none, false⟩,
    ⟨some 8, Go.Op.extract (Go.Operand.tmp 5) 0, none, false⟩,
    ⟨some 9, Go.Op.extract (Go.Operand.tmp 5) 1, none, false⟩,
    ⟨some 10, Go.Op.extract (Go.Operand.tmp 5) 2, none, false⟩,
    ⟨some 2, Go.Op.assign (Go.Operand.tmp 8), none, false⟩,
    ⟨some 3, Go.Op.assign (Go.Operand.tmp 9), none, false⟩,
    ⟨some 4, Go.Op.assign (Go.Operand.tmp 10), none, false⟩] [0, 2, 3, 4]) (.seq (.seq (.reg false [⟨some 11, Go.Op.move (Go.Operand.tmp 4), none, false⟩,
    ⟨some 12, Go.Op.binOp Go.BinOp.neq 29 (Go.Operand.tmp 11) (Go.Operand.const (Go.Value.int Go.IntKind.i64 0)) 29, none, false⟩] [0, 2, 3, 4, 12]) (.cond (Go.Operand.tmp 12) (.seq (.reg false [⟨some 13, Go.Op.move (Go.Operand.tmp 3), none, false⟩,
    ⟨some 14, Go.Op.move (Go.Operand.tmp 4), none, false⟩,
    ⟨some 2, Go.Op.assign (Go.Operand.const (Go.Value.int Go.IntKind.i64 0)), none, false⟩,
    ⟨some 3, Go.Op.assign (Go.Operand.tmp 13), none, false⟩,
    ⟨some 4, Go.Op.assign (Go.Operand.tmp 14), none, false⟩] [2, 3, 4]) (.ret)) (.skip))) (.seq (.reg false [⟨some 15, Go.Op.move (Go.Operand.tmp 0), none, false⟩,
    ⟨some 16, Go.Op.nilCheck (Go.Operand.tmp 15), none, false⟩,
    ⟨some 17, Go.Op.fieldAddr 79 (Go.Operand.tmp 16) 0, none, false⟩,
    ⟨some 18, Go.Op.makeInterface 83 (Go.Operand.tmp 17), none, false⟩,
    ⟨some 19, Go.Op.call { callee := Go.Callee.value (Go.Operand.func 37), args := #[Go.Operand.tmp 18], argTypes := #[117] }, none, false⟩] [0, 2, 3]) (.seq (.reg false [⟨some 20, Go.Op.move (Go.Operand.tmp 0), none, false⟩,
    ⟨some 21, Go.Op.nilCheck (Go.Operand.tmp 20), none, false⟩,
    ⟨some 22, Go.Op.fieldAddr 79 (Go.Operand.tmp 21) 1, none, false⟩,
    ⟨some 23, Go.Op.load 77 (Go.Operand.tmp 22), none, false⟩,
    ⟨some 24, Go.Op.move (Go.Operand.tmp 2), none, false⟩,
    ⟨none, Go.Op.call { callee := Go.Callee.builtin Go.Builtin.delete, args := #[Go.Operand.tmp 23, Go.Operand.tmp 24], argTypes := #[77, 2] }, none, false⟩] [2, 3]) (.seq (.reg false [⟨some 25, Go.Op.move (Go.Operand.tmp 2), none, false⟩,
    ⟨some 26, Go.Op.move (Go.Operand.tmp 3), none, false⟩,
    ⟨some 2, Go.Op.assign (Go.Operand.tmp 25), none, false⟩,
    ⟨some 3, Go.Op.assign (Go.Operand.tmp 26), none, false⟩,
    ⟨some 4, Go.Op.assign (Go.Operand.const (Go.Value.int Go.IntKind.i64 0)), none, false⟩] [2, 3, 4]) (.ret))))))
theorem Try.comp13 : ∃ c, Try.f13.body = some c ∧ compile c = erase Try.C13 := ⟨_, rfl, by kernel_rfl⟩
theorem Try.rs13 : Try.f13.results.toList = [Go.ResultVar.tmp 2, Go.ResultVar.tmp 3, Go.ResultVar.tmp 4] := by kernel_rfl
theorem Try.nt13 : Try.f13.ntmps = 27 := by kernel_rfl
theorem Try.en13 : ∀ vs w, (callFunc 13 vs).run Try.prog w = .ok (.enter 13 vs) w := enters_of Try.func13 (by kernel_rfl) rfl
theorem Try.ctr13 {a0 : V} {bx : Boxes} {Kc : V → Boxes → Prop} (h : FinB bx → pw Try.prog Try.C13 (retQ Try.prog [Go.ResultVar.tmp 2, Go.ResultVar.tmp 3, Go.ResultVar.tmp 4] Kc) ⟨27, slk [(0, a0)], bx⟩) : AbsCall Try.prog 13 [a0] bx Kc := abs_of (by kernel_rfl) Try.func13 Try.comp13 Try.en13 Try.nt13 Try.rs13 (fun hb => by rw [initSt_1]; exact h hb)
noncomputable def Try.C14 : PC := .seq (.reg false [⟨some 2, Go.Op.assign (Go.Operand.const (Go.Value.int Go.IntKind.i64 0)), none, false⟩] [0]) (.seq (.seq (.reg false [⟨some 3, Go.Op.move (Go.Operand.tmp 0), none, false⟩,
    ⟨some 4, Go.Op.call { callee := Go.Callee.value (Go.Operand.func 38), args := #[Go.Operand.tmp 3], argTypes := #[24] }, none, false⟩,
    ⟨some 5, Go.Op.unOp Go.UnOp.not 4 (Go.Operand.tmp 4), none, false⟩] [0, 5]) (.cond (Go.Operand.tmp 5) (.seq (.reg false [⟨some 2, Go.Op.assign (Go.Operand.const (Go.Value.int Go.IntKind.i64 0)), none, false⟩] [2]) (.ret)) (.skip))) (.seq (.reg false [⟨some 6, Go.Op.move (Go.Operand.tmp 0), none, false⟩,
    ⟨some 7, Go.Op.nilCheck (Go.Operand.tmp 6), none, false⟩,
    ⟨some 8, Go.Op.fieldAddr 79 (Go.Operand.tmp 7) 0, none, false⟩,
    ⟨some 9, Go.Op.fieldAddr 76 (Go.Operand.tmp 8) 0, none, false⟩,
    ⟨some 10, Go.Op.load 74 (Go.Operand.tmp 9), none, false⟩,
    ⟨some 11, Go.Op.call { callee := Go.Callee.builtin Go.Builtin.len, args := #[Go.Operand.tmp 10], argTypes := #[74] }, none, false⟩,
    ⟨some 2, Go.Op.assign (Go.Operand.tmp 11), none, false⟩] [2]) (.ret)))
theorem Try.comp14 : ∃ c, Try.f14.body = some c ∧ compile c = erase Try.C14 := ⟨_, rfl, by kernel_rfl⟩
theorem Try.rs14 : Try.f14.results.toList = [Go.ResultVar.tmp 2] := by kernel_rfl
theorem Try.nt14 : Try.f14.ntmps = 12 := by kernel_rfl
theorem Try.en14 : ∀ vs w, (callFunc 14 vs).run Try.prog w = .ok (.enter 14 vs) w := enters_of Try.func14 (by kernel_rfl) rfl
theorem Try.ctr14 {a0 : V} {bx : Boxes} {Kc : V → Boxes → Prop} (h : FinB bx → pw Try.prog Try.C14 (retQ Try.prog [Go.ResultVar.tmp 2] Kc) ⟨12, slk [(0, a0)], bx⟩) : AbsCall Try.prog 14 [a0] bx Kc := abs_of (by kernel_rfl) Try.func14 Try.comp14 Try.en14 Try.nt14 Try.rs14 (fun hb => by rw [initSt_1]; exact h hb)
noncomputable def Try.C15 : PC := .seq (.reg false [⟨some 1, Go.Op.box 24 (Go.Operand.tmp 0), none, true⟩,
    ⟨some 2, Go.Op.assign (Go.Operand.const Go.Value.nilFunc), none, false⟩] [1]) (.seq (.reg false [⟨some 3, Go.Op.makeFunc (Go.Fn.func 39) #[] #[Go.Operand.tmp 1], none, false⟩,
    ⟨some 2, Go.Op.assign (Go.Operand.tmp 3), none, false⟩] [2]) (.ret))
theorem Try.comp15 : ∃ c, Try.f15.body = some c ∧ compile c = erase Try.C15 := ⟨_, rfl, by kernel_rfl⟩
theorem Try.rs15 : Try.f15.results.toList = [Go.ResultVar.tmp 2] := by kernel_rfl
theorem Try.nt15 : Try.f15.ntmps = 4 := by kernel_rfl
theorem Try.en15 : ∀ vs w, (callFunc 15 vs).run Try.prog w = .ok (.enter 15 vs) w := enters_of Try.func15 (by kernel_rfl) rfl
theorem Try.ctr15 {a0 : V} {bx : Boxes} {Kc : V → Boxes → Prop} (h : FinB bx → pw Try.prog Try.C15 (retQ Try.prog [Go.ResultVar.tmp 2] Kc) ⟨4, slk [(0, a0)], bx⟩) : AbsCall Try.prog 15 [a0] bx Kc := abs_of (by kernel_rfl) Try.func15 Try.comp15 Try.en15 Try.nt15 Try.rs15 (fun hb => by rw [initSt_1]; exact h hb)
noncomputable def Try.C16 : PC := .seq (.reg false [⟨some 4, Go.Op.assign (Go.Operand.const (Go.Value.int Go.IntKind.i64 0)), none, false⟩,
    ⟨some 5, Go.Op.assign (Go.Operand.const (Go.Value.int Go.IntKind.i64 0)), none, false⟩] [0, 1, 4]) (.seq (.reg false [⟨some 8, Go.Op.move (Go.Operand.tmp 0), none, false⟩,
    ⟨some 9, Go.Op.move (Go.Operand.tmp 1), none, false⟩,
    ⟨some 10, Go.Op.call { callee := Go.Callee.value (Go.Operand.func 41), args := #[Go.Operand.tmp 8, Go.Operand.tmp 9], argTypes := #[24, 2] }, none, false⟩,
    ⟨some 7, Go.Op.move (Go.Operand.tmp 10), none, false⟩,
    ⟨some 11, Go.Op.extract (Go.Operand.tmp 7) 0, none, false⟩,
    ⟨some 12, Go.Op.extract (Go.Operand.tmp 7) 1, none, false⟩,
    ⟨some 6, Go.Op.assign (Go.Operand.tmp 11), none, false⟩,
    ⟨some 5, Go.Op.assign (Go.Operand.tmp 12), none, false⟩] [0, 1, 4, 5, 6]) (.seq (.seq (.reg false [⟨some 13, Go.Op.move (Go.Operand.tmp 5), none, false⟩,
    ⟨some 14, Go.Op.binOp Go.BinOp.neq 29 (Go.Operand.tmp 13) (Go.Operand.const (Go.Value.int Go.IntKind.i64 0)) 29, none, false⟩] [0, 1, 4, 5, 6, 14]) (.cond (Go.Operand.tmp 14) (.seq (.reg false [⟨some 15, Go.Op.move (Go.Operand.tmp 4), none, false⟩,
    ⟨some 16, Go.Op.move (Go.Operand.tmp 5), none, false⟩,
    ⟨some 4, Go.Op.assign (Go.Operand.tmp 15), none, false⟩,
    ⟨some 5, Go.Op.assign (Go.Operand.tmp 16), none, false⟩] [4, 5]) (.ret)) (.skip))) (.seq (.regB [⟨some 17, Go.Op.move (Go.Operand.tmp 0), none, false⟩,
    ⟨some 18, Go.Op.nilCheck (Go.Operand.tmp 17), none, false⟩,
    ⟨some 19, Go.Op.fieldAddr 79 (Go.Operand.tmp 18) 0, none, false⟩,
    ⟨some 20, Go.Op.makeInterface 83 (Go.Operand.tmp 19), none, false⟩,
    ⟨some 21, Go.Op.move (Go.Operand.tmp 6), none, false⟩,
    ⟨some 22, Go.Op.nilCheck (Go.Operand.tmp 21), none, false⟩,
    ⟨some 23, Go.Op.fieldAddr 90 (Go.Operand.tmp 22) 2, none, false⟩,
    ⟨some 24, Go.Op.load 3 (Go.Operand.tmp 23), none, false⟩,
    ⟨some 25, Go.Op.call { callee := Go.Callee.value (Go.Operand.func 42), args := #[Go.Operand.tmp 20, Go.Operand.tmp 24], argTypes := #[117, 3] }, none, false⟩] [0, 1, 6]) (.seq (.reg false [⟨some 26, Go.Op.move (Go.Operand.tmp 0), none, false⟩,
    ⟨some 27, Go.Op.nilCheck (Go.Operand.tmp 26), none, false⟩,
    ⟨some 28, Go.Op.fieldAddr 79 (Go.Operand.tmp 27) 1, none, false⟩,
    ⟨some 29, Go.Op.load 77 (Go.Operand.tmp 28), none, false⟩,
    ⟨some 30, Go.Op.move (Go.Operand.tmp 1), none, false⟩,
    ⟨none, Go.Op.call { callee := Go.Callee.builtin Go.Builtin.delete, args := #[Go.Operand.tmp 29, Go.Operand.tmp 30], argTypes := #[77, 2] }, none, false⟩] [6]) (.seq (.reg false [⟨some 31, Go.Op.move (Go.Operand.tmp 6), none, false⟩,
    ⟨some 32, Go.Op.nilCheck (Go.Operand.tmp 31), none, false⟩,
    ⟨some 33, Go.Op.fieldAddr 90 (Go.Operand.tmp 32) 1, none, false⟩,
    ⟨some 34, Go.Op.load 3 (Go.Operand.tmp 33), none, false⟩,
    ⟨some 4, Go.Op.assign (Go.Operand.tmp 34), none, false⟩,
    ⟨some 5, Go.Op.assign (Go.Operand.const (Go.Value.int Go.IntKind.i64 0)), none, false⟩] [4, 5]) (.ret))))))
theorem Try.comp16 : ∃ c, Try.f16.body = some c ∧ compile c = erase Try.C16 := ⟨_, rfl, by kernel_rfl⟩
theorem Try.rs16 : Try.f16.results.toList = [Go.ResultVar.tmp 4, Go.ResultVar.tmp 5] := by kernel_rfl
theorem Try.nt16 : Try.f16.ntmps = 35 := by kernel_rfl
theorem Try.en16 : ∀ vs w, (callFunc 16 vs).run Try.prog w = .ok (.enter 16 vs) w := enters_of Try.func16 (by kernel_rfl) rfl
theorem Try.ctr16 {a0 a1 : V} {bx : Boxes} {Kc : V → Boxes → Prop} (h : FinB bx → pw Try.prog Try.C16 (retQ Try.prog [Go.ResultVar.tmp 4, Go.ResultVar.tmp 5] Kc) ⟨35, slk [(0, a0), (1, a1)], bx⟩) : AbsCall Try.prog 16 [a0, a1] bx Kc := abs_of (by kernel_rfl) Try.func16 Try.comp16 Try.en16 Try.nt16 Try.rs16 (fun hb => by rw [initSt_2]; exact h hb)
noncomputable def Try.C17 : PC := .seq (.reg false [⟨some 4, Go.Op.assign (Go.Operand.const (Go.Value.int Go.IntKind.i64 0)), none, false⟩,
    ⟨some 5, Go.Op.assign (Go.Operand.const (Go.Value.int Go.IntKind.i64 0)), none, false⟩] [0, 1]) (.seq (.block 0 (.seq (.reg false [⟨some 8, Go.Op.move (Go.Operand.tmp 0), none, false⟩,
    ⟨some 9, Go.Op.call { callee := Go.Callee.value (Go.Operand.func 38), args := #[Go.Operand.tmp 8], argTypes := #[24] }, none, false⟩,
    ⟨some 10, Go.Op.unOp Go.UnOp.not 4 (Go.Operand.tmp 9), none, false⟩,
    ⟨some 7, Go.Op.assign (Go.Operand.tmp 10), none, false⟩] [0, 1, 7]) (.cond (Go.Operand.tmp 7) (.seq (.reg false [⟨some 4, Go.Op.assign (Go.Operand.const (Go.Value.int Go.IntKind.i64 0)), none, false⟩,
    ⟨some 5, Go.Op.assign (Go.Operand.const (Go.Value.int Go.IntKind.i64 1)), none, false⟩] [4, 5]) (.ret)) (.seq (.reg false [⟨some 12, Go.Op.move (Go.Operand.tmp 0), none, false⟩,
    ⟨some 13, Go.Op.nilCheck (Go.Operand.tmp 12), none, false⟩,
    ⟨some 14, Go.Op.fieldAddr 79 (Go.Operand.tmp 13) 0, none, false⟩,
    ⟨some 15, Go.Op.fieldAddr 76 (Go.Operand.tmp 14) 0, none, false⟩,
    ⟨some 16, Go.Op.load 74 (Go.Operand.tmp 15), none, false⟩,
    ⟨some 17, Go.Op.call { callee := Go.Callee.builtin Go.Builtin.len, args := #[Go.Operand.tmp 16], argTypes := #[74] }, none, false⟩,
    ⟨some 18, Go.Op.binOp Go.BinOp.geq 3 (Go.Operand.tmp 17) (Go.Operand.const (Go.Value.int Go.IntKind.i64 5000)) 3, none, false⟩,
    ⟨some 19, Go.Op.move (Go.Operand.tmp 18), none, false⟩,
    ⟨some 20, Go.Op.move (Go.Operand.tmp 0), some (19, false), false⟩,
    ⟨some 21, Go.Op.nilCheck (Go.Operand.tmp 20), some (19, false), false⟩,
    ⟨some 22, Go.Op.fieldAddr 79 (Go.Operand.tmp 21) 2, some (19, false), false⟩,
    ⟨some 23, Go.Op.load 2 (Go.Operand.tmp 22), some (19, false), false⟩,
    ⟨some 24, Go.Op.binOp Go.BinOp.geq 2 (Go.Operand.tmp 23) (Go.Operand.const (Go.Value.int Go.IntKind.i64 1000000000000000)) 2, some (19, false), false⟩,
    ⟨some 25, Go.Op.pick (Go.Operand.tmp 19) (Go.Operand.const (Go.Value.bool true)) (Go.Operand.tmp 24), none, false⟩,
    ⟨some 11, Go.Op.assign (Go.Operand.tmp 25), none, false⟩] [0, 1, 11]) (.cond (Go.Operand.tmp 11) (.seq (.reg false [⟨some 4, Go.Op.assign (Go.Operand.const (Go.Value.int Go.IntKind.i64 0)), none, false⟩,
    ⟨some 5, Go.Op.assign (Go.Operand.const (Go.Value.int Go.IntKind.i64 5)), none, false⟩] [4, 5]) (.ret)) (.skip)))))) (.seq (.reg false [⟨some 26, Go.Op.move (Go.Operand.tmp 0), none, false⟩,
    ⟨some 27, Go.Op.nilCheck (Go.Operand.tmp 26), none, false⟩,
    ⟨some 28, Go.Op.fieldAddr 79 (Go.Operand.tmp 27) 2, none, false⟩,
    ⟨some 29, Go.Op.load 2 (Go.Operand.tmp 28), none, false⟩,
    ⟨some 30, Go.Op.move (Go.Operand.tmp 1), none, false⟩,
    ⟨some 31, Go.Op.build 90 #[(0, Go.Operand.tmp 29), (1, Go.Operand.tmp 30)], none, false⟩,
    ⟨some 32, Go.Op.box 90 (Go.Operand.tmp 31), none, false⟩,
    ⟨some 6, Go.Op.assign (Go.Operand.tmp 32), none, false⟩] [0, 6]) (.seq (.reg false [⟨some 33, Go.Op.move (Go.Operand.tmp 0), none, false⟩,
    ⟨some 34, Go.Op.nilCheck (Go.Operand.tmp 33), none, false⟩,
    ⟨some 35, Go.Op.fieldAddr 79 (Go.Operand.tmp 34) 2, none, false⟩,
    ⟨some 36, Go.Op.load 2 (Go.Operand.tmp 35), none, false⟩,
    ⟨some 37, Go.Op.binOp Go.BinOp.add 2 (Go.Operand.tmp 36) (Go.Operand.const (Go.Value.int Go.IntKind.i64 1)) 2, none, false⟩,
    ⟨some 38, Go.Op.nilCheck (Go.Operand.tmp 33), none, false⟩,
    ⟨some 39, Go.Op.fieldAddr 79 (Go.Operand.tmp 38) 2, none, false⟩,
    ⟨none, Go.Op.store 2 (Go.Operand.tmp 39) (Go.Operand.tmp 37), none, false⟩] [0, 6]) (.seq (.reg true [⟨some 40, Go.Op.move (Go.Operand.tmp 0), none, false⟩,
    ⟨some 41, Go.Op.nilCheck (Go.Operand.tmp 40), none, false⟩,
    ⟨some 42, Go.Op.fieldAddr 79 (Go.Operand.tmp 41) 1, none, false⟩,
    ⟨some 43, Go.Op.load 77 (Go.Operand.tmp 42), none, false⟩,
    ⟨some 44, Go.Op.move (Go.Operand.tmp 6), none, false⟩,
    ⟨some 45, Go.Op.nilCheck (Go.Operand.tmp 44), none, false⟩,
    ⟨some 46, Go.Op.fieldAddr 90 (Go.Operand.tmp 45) 0, none, false⟩,
    ⟨some 47, Go.Op.load 2 (Go.Operand.tmp 46), none, false⟩,
    ⟨some 48, Go.Op.move (Go.Operand.tmp 6), none, false⟩,
    ⟨none, Go.Op.mapUpdate 77 (Go.Operand.tmp 43) (Go.Operand.tmp 47) (Go.Operand.tmp 48), none, false⟩] [0, 6]) (.seq (.reg false [⟨some 49, Go.Op.move (Go.Operand.tmp 0), none, false⟩,
    ⟨some 50, Go.Op.nilCheck (Go.Operand.tmp 49), none, false⟩,
    ⟨some 51, Go.Op.fieldAddr 79 (Go.Operand.tmp 50) 0, none, false⟩,
    ⟨some 52, Go.Op.makeInterface 83 (Go.Operand.tmp 51), none, false⟩,
    ⟨some 53, Go.Op.move (Go.Operand.tmp 6), none, false⟩,
    ⟨some 54, Go.Op.makeInterface 85 (Go.Operand.tmp 53), none, false⟩,
    ⟨some 55, Go.Op.call { callee := Go.Callee.value (Go.Operand.func 43), args := #[Go.Operand.tmp 52, Go.Operand.tmp 54], argTypes := #[117, 20] }, none, false⟩] [6]) (.seq (.reg false [⟨some 56, Go.Op.move (Go.Operand.tmp 6), none, false⟩,
    ⟨some 57, Go.Op.nilCheck (Go.Operand.tmp 56), none, false⟩,
    ⟨some 58, Go.Op.fieldAddr 90 (Go.Operand.tmp 57) 0, none, false⟩,
    ⟨some 59, Go.Op.load 2 (Go.Operand.tmp 58), none, false⟩,
    ⟨some 4, Go.Op.assign (Go.Operand.tmp 59), none, false⟩,
    ⟨some 5, Go.Op.assign (Go.Operand.const (Go.Value.int Go.IntKind.i64 0)), none, false⟩] [4, 5]) (.ret)))))))
theorem Try.comp17 : ∃ c, Try.f17.body = some c ∧ compile c = erase Try.C17 := ⟨_, rfl, by kernel_rfl⟩
theorem Try.rs17 : Try.f17.results.toList = [Go.ResultVar.tmp 4, Go.ResultVar.tmp 5] := by kernel_rfl
theorem Try.nt17 : Try.f17.ntmps = 60 := by kernel_rfl
theorem Try.en17 : ∀ vs w, (callFunc 17 vs).run Try.prog w = .ok (.enter 17 vs) w := enters_of Try.func17 (by kernel_rfl) rfl
theorem Try.ctr17 {a0 a1 : V} {bx : Boxes} {Kc : V → Boxes → Prop} (h : FinB bx → pw Try.prog Try.C17 (retQ Try.prog [Go.ResultVar.tmp 4, Go.ResultVar.tmp 5] Kc) ⟨60, slk [(0, a0), (1, a1)], bx⟩) : AbsCall Try.prog 17 [a0, a1] bx Kc := abs_of (by kernel_rfl) Try.func17 Try.comp17 Try.en17 Try.nt17 Try.rs17 (fun hb => by rw [initSt_2]; exact h hb)
noncomputable def Try.C18 : PC := .seq (.reg false [⟨some 6, Go.Op.assign (Go.Operand.const (Go.Value.int Go.IntKind.i64 0)), none, false⟩] [0, 1, 2]) (.seq (.reg false [⟨some 10, Go.Op.move (Go.Operand.tmp 0), none, false⟩,
    ⟨some 11, Go.Op.move (Go.Operand.tmp 1), none, false⟩,
    ⟨some 12, Go.Op.call { callee := Go.Callee.value (Go.Operand.func 41), args := #[Go.Operand.tmp 10, Go.Operand.tmp 11], argTypes := #[24, 2] }, none, false⟩,
    ⟨some 9, Go.Op.move (Go.Operand.tmp 12), none, false⟩,
    ⟨some 13, Go.Op.extract (Go.Operand.tmp 9) 0, none, false⟩,
    ⟨some 14, Go.Op.extract (Go.Operand.tmp 9) 1, none, false⟩,
    ⟨some 7, Go.Op.assign (Go.Operand.tmp 13), none, false⟩,
    ⟨some 8, Go.Op.assign (Go.Operand.tmp 14), none, false⟩] [0, 2, 7, 8]) (.seq (.seq (.reg false [⟨some 15, Go.Op.move (Go.Operand.tmp 8), none, false⟩,
    ⟨some 16, Go.Op.binOp Go.BinOp.neq 29 (Go.Operand.tmp 15) (Go.Operand.const (Go.Value.int Go.IntKind.i64 0)) 29, none, false⟩] [0, 2, 7, 8, 16]) (.cond (Go.Operand.tmp 16) (.seq (.reg false [⟨some 17, Go.Op.move (Go.Operand.tmp 8), none, false⟩,
    ⟨some 6, Go.Op.assign (Go.Operand.tmp 17), none, false⟩] [6]) (.ret)) (.skip))) (.seq (.reg false [⟨some 18, Go.Op.move (Go.Operand.tmp 7), none, false⟩,
    ⟨some 19, Go.Op.move (Go.Operand.tmp 2), none, false⟩,
    ⟨some 20, Go.Op.nilCheck (Go.Operand.tmp 18), none, false⟩,
    ⟨some 21, Go.Op.fieldAddr 90 (Go.Operand.tmp 20) 1, none, false⟩,
    ⟨none, Go.Op.store 3 (Go.Operand.tmp 21) (Go.Operand.tmp 19), none, false⟩] [0, 7]) (.seq (.regB [⟨some 22, Go.Op.move (Go.Operand.tmp 0), none, false⟩,
    ⟨some 23, Go.Op.nilCheck (Go.Operand.tmp 22), none, false⟩,
    ⟨some 24, Go.Op.fieldAddr 79 (Go.Operand.tmp 23) 0, none, false⟩,
    ⟨some 25, Go.Op.makeInterface 83 (Go.Operand.tmp 24), none, false⟩,
    ⟨some 26, Go.Op.move (Go.Operand.tmp 7), none, false⟩,
    ⟨some 27, Go.Op.nilCheck (Go.Operand.tmp 26), none, false⟩,
    ⟨some 28, Go.Op.fieldAddr 90 (Go.Operand.tmp 27) 2, none, false⟩,
    ⟨some 29, Go.Op.load 3 (Go.Operand.tmp 28), none, false⟩,
    ⟨some 30, Go.Op.call { callee := Go.Callee.value (Go.Operand.func 44), args := #[Go.Operand.tmp 25, Go.Operand.tmp 29], argTypes := #[117, 3] }, none, false⟩] []) (.seq (.reg false [⟨some 6, Go.Op.assign (Go.Operand.const (Go.Value.int Go.IntKind.i64 0)), none, false⟩] [6]) (.ret))))))
theorem Try.comp18 : ∃ c, Try.f18.body = some c ∧ compile c = erase Try.C18 := ⟨_, rfl, by kernel_rfl⟩
theorem Try.rs18 : Try.f18.results.toList = [Go.ResultVar.tmp 6] := by kernel_rfl
theorem Try.nt18 : Try.f18.ntmps = 31 := by kernel_rfl
theorem Try.en18 : ∀ vs w, (callFunc 18 vs).run Try.prog w = .ok (.enter 18 vs) w := enters_of Try.func18 (by kernel_rfl) rfl
theorem Try.ctr18 {a0 a1 a2 : V} {bx : Boxes} {Kc : V → Boxes → Prop} (h : FinB bx → pw Try.prog Try.C18 (retQ Try.prog [Go.ResultVar.tmp 6] Kc) ⟨31, slk [(0, a0), (1, a1), (2, a2)], bx⟩) : AbsCall Try.prog 18 [a0, a1, a2] bx Kc := abs_of (by kernel_rfl) Try.func18 Try.comp18 Try.en18 Try.nt18 Try.rs18 (fun hb => by rw [initSt_3]; exact h hb)
noncomputable def Try.L19_0 : PC := .seq (.seq (.reg false [⟨some 10, Go.Op.move (Go.Operand.tmp 3), none, false⟩,
    ⟨some 11, Go.Op.binOp Go.BinOp.lss 3 (Go.Operand.tmp 10) (Go.Operand.const (Go.Value.int Go.IntKind.i64 3)) 3, none, false⟩] [1, 2, 3, 11]) (.cond (Go.Operand.tmp 11) (.skip) (.exit 0))) (.seq (.block 1 (.seq (.reg false [⟨some 15, Go.Op.move (Go.Operand.tmp 1), none, false⟩,
    ⟨some 16, Go.Op.move (Go.Operand.tmp 3), none, false⟩,
    ⟨some 17, Go.Op.indexAddr 93 (Go.Operand.tmp 2) (Go.Operand.tmp 16), none, false⟩,
    ⟨some 18, Go.Op.load 3 (Go.Operand.tmp 17), none, false⟩,
    ⟨some 19, Go.Op.call { callee := Go.Callee.value (Go.Operand.func 17), args := #[Go.Operand.tmp 15, Go.Operand.tmp 18], argTypes := #[24, 3] }, none, false⟩,
    ⟨some 14, Go.Op.move (Go.Operand.tmp 19), none, false⟩,
    ⟨some 20, Go.Op.extract (Go.Operand.tmp 14) 0, none, false⟩,
    ⟨some 21, Go.Op.extract (Go.Operand.tmp 14) 1, none, false⟩,
    ⟨some 4, Go.Op.assign (Go.Operand.tmp 20), none, false⟩,
    ⟨some 5, Go.Op.assign (Go.Operand.tmp 21), none, false⟩] [1, 2, 3, 4, 5]) (.seq (.reg false [⟨some 22, Go.Op.move (Go.Operand.tmp 5), none, false⟩,
    ⟨some 23, Go.Op.binOp Go.BinOp.neq 29 (Go.Operand.tmp 22) (Go.Operand.const (Go.Value.int Go.IntKind.i64 0)) 29, none, false⟩,
    ⟨some 24, Go.Op.move (Go.Operand.tmp 23), none, false⟩,
    ⟨some 25, Go.Op.move (Go.Operand.tmp 4), some (24, false), false⟩,
    ⟨some 26, Go.Op.move (Go.Operand.tmp 3), some (24, false), false⟩,
    ⟨some 27, Go.Op.binOp Go.BinOp.add 3 (Go.Operand.tmp 26) (Go.Operand.const (Go.Value.int Go.IntKind.i64 1)) 3, some (24, false), false⟩,
    ⟨some 28, Go.Op.binOp Go.BinOp.neq 2 (Go.Operand.tmp 25) (Go.Operand.tmp 27) 2, some (24, false), false⟩,
    ⟨some 29, Go.Op.pick (Go.Operand.tmp 24) (Go.Operand.const (Go.Value.bool true)) (Go.Operand.tmp 28), none, false⟩] [1, 2, 3, 29]) (.cond (Go.Operand.tmp 29) (.seq (.reg false [⟨some 0, Go.Op.assign (Go.Operand.const (Go.Value.pointer none)), none, false⟩] [0]) (.ret)) (.skip))))) (.reg false [⟨some 12, Go.Op.move (Go.Operand.tmp 3), none, false⟩,
    ⟨some 13, Go.Op.binOp Go.BinOp.add 3 (Go.Operand.tmp 12) (Go.Operand.const (Go.Value.int Go.IntKind.i64 1)) 3, none, false⟩,
    ⟨some 3, Go.Op.assign (Go.Operand.tmp 13), none, false⟩] [1, 2, 3]))
noncomputable def Try.C19 : PC := .seq (.reg false [⟨some 0, Go.Op.assign (Go.Operand.const (Go.Value.pointer none)), none, false⟩] []) (.seq (.reg false [⟨some 6, Go.Op.call { callee := Go.Callee.value (Go.Operand.func 31), args := #[Go.Operand.func 28], argTypes := #[26] }, none, false⟩,
    ⟨some 1, Go.Op.assign (Go.Operand.tmp 6), none, false⟩] [1]) (.seq (.seq (.reg false [⟨some 7, Go.Op.move (Go.Operand.tmp 1), none, false⟩,
    ⟨some 8, Go.Op.binOp Go.BinOp.eql 24 (Go.Operand.tmp 7) (Go.Operand.const (Go.Value.pointer none)) 24, none, false⟩] [1, 8]) (.cond (Go.Operand.tmp 8) (.seq (.reg false [⟨some 0, Go.Op.assign (Go.Operand.const (Go.Value.pointer none)), none, false⟩] [0]) (.ret)) (.skip))) (.seq (.reg false [⟨some 9, Go.Op.build 93 #[(0, Go.Operand.const (Go.Value.int Go.IntKind.i64 5)), (1, Go.Operand.const (Go.Value.int Go.IntKind.i64 3)), (2, Go.Operand.const (Go.Value.int Go.IntKind.i64 3))], none, false⟩,
    ⟨some 2, Go.Op.alloc 93, none, false⟩,
    ⟨none, Go.Op.store 93 (Go.Operand.tmp 2) (Go.Operand.tmp 9), none, false⟩] [1, 2]) (.fz 2 (.seq (.seq (.reg false [⟨some 3, Go.Op.assign (Go.Operand.const (Go.Value.int Go.IntKind.i64 0)), none, false⟩] [1, 2, 3]) (.block 0 (.loop Try.L19_0))) (.seq (.reg false [⟨some 30, Go.Op.move (Go.Operand.tmp 1), none, false⟩,
    ⟨some 0, Go.Op.assign (Go.Operand.tmp 30), none, false⟩] [0]) (.ret)))))))
theorem Try.comp19 : ∃ c, Try.f19.body = some c ∧ compile c = erase Try.C19 := ⟨_, rfl, by kernel_rfl⟩
theorem Try.rs19 : Try.f19.results.toList = [Go.ResultVar.tmp 0] := by kernel_rfl
theorem Try.nt19 : Try.f19.ntmps = 31 := by kernel_rfl
theorem Try.en19 : ∀ vs w, (callFunc 19 vs).run Try.prog w = .ok (.enter 19 vs) w := enters_of Try.func19 (by kernel_rfl) rfl
theorem Try.ctr19 {bx : Boxes} {Kc : V → Boxes → Prop} (h : FinB bx → pw Try.prog Try.C19 (retQ Try.prog [Go.ResultVar.tmp 0] Kc) ⟨31, slk [], bx⟩) : AbsCall Try.prog 19 [] bx Kc := abs_of (by kernel_rfl) Try.func19 Try.comp19 Try.en19 Try.nt19 Try.rs19 (fun hb => by rw [initSt_0]; exact h hb)
noncomputable def Try.L20_0 : PC := .seq (.seq (.reg false [⟨some 11, Go.Op.move (Go.Operand.tmp 5), none, false⟩,
    ⟨some 12, Go.Op.move (Go.Operand.tmp 0), none, false⟩,
    ⟨some 13, Go.Op.call { callee := Go.Callee.builtin Go.Builtin.len, args := #[Go.Operand.tmp 12], argTypes := #[46] }, none, false⟩,
    ⟨some 14, Go.Op.binOp Go.BinOp.lss 3 (Go.Operand.tmp 11) (Go.Operand.tmp 13) 3, none, false⟩] [0, 1, 5, 14]) (.cond (Go.Operand.tmp 14) (.skip) (.exit 0))) (.seq (.block 1 (.seq (.reg true [⟨some 17, Go.Op.move (Go.Operand.tmp 0), none, false⟩,
    ⟨some 18, Go.Op.move (Go.Operand.tmp 5), none, false⟩,
    ⟨some 19, Go.Op.indexAddr 46 (Go.Operand.tmp 17) (Go.Operand.tmp 18), none, false⟩,
    ⟨some 20, Go.Op.load 49 (Go.Operand.tmp 19), none, false⟩,
    ⟨some 21, Go.Op.move (Go.Operand.tmp 1), none, false⟩,
    ⟨some 22, Go.Op.move (Go.Operand.tmp 5), none, false⟩,
    ⟨some 23, Go.Op.indexAddr 46 (Go.Operand.tmp 21) (Go.Operand.tmp 22), none, false⟩,
    ⟨some 24, Go.Op.load 49 (Go.Operand.tmp 23), none, false⟩,
    ⟨some 25, Go.Op.binOp Go.BinOp.neq 49 (Go.Operand.tmp 20) (Go.Operand.tmp 24) 49, none, false⟩] [0, 1, 5, 25]) (.cond (Go.Operand.tmp 25) (.seq (.reg false [⟨some 4, Go.Op.assign (Go.Operand.const (Go.Value.bool false)), none, false⟩] [4]) (.ret)) (.skip)))) (.reg false [⟨some 15, Go.Op.move (Go.Operand.tmp 5), none, false⟩,
    ⟨some 16, Go.Op.binOp Go.BinOp.add 3 (Go.Operand.tmp 15) (Go.Operand.const (Go.Value.int Go.IntKind.i64 1)) 3, none, false⟩,
    ⟨some 5, Go.Op.assign (Go.Operand.tmp 16), none, false⟩] [0, 1, 5]))
noncomputable def Try.C20 : PC := .seq (.reg false [⟨some 4, Go.Op.assign (Go.Operand.const (Go.Value.bool false)), none, false⟩] [0, 1]) (.seq (.seq (.reg false [⟨some 6, Go.Op.move (Go.Operand.tmp 0), none, false⟩,
    ⟨some 7, Go.Op.call { callee := Go.Callee.builtin Go.Builtin.len, args := #[Go.Operand.tmp 6], argTypes := #[46] }, none, false⟩,
    ⟨some 8, Go.Op.move (Go.Operand.tmp 1), none, false⟩,
    ⟨some 9, Go.Op.call { callee := Go.Callee.builtin Go.Builtin.len, args := #[Go.Operand.tmp 8], argTypes := #[46] }, none, false⟩,
    ⟨some 10, Go.Op.binOp Go.BinOp.neq 3 (Go.Operand.tmp 7) (Go.Operand.tmp 9) 3, none, false⟩] [0, 1, 10]) (.cond (Go.Operand.tmp 10) (.seq (.reg false [⟨some 4, Go.Op.assign (Go.Operand.const (Go.Value.bool false)), none, false⟩] [4]) (.ret)) (.skip))) (.seq (.seq (.reg false [⟨some 5, Go.Op.assign (Go.Operand.const (Go.Value.int Go.IntKind.i64 0)), none, false⟩] [0, 1, 5]) (.block 0 (.loop Try.L20_0))) (.seq (.reg false [⟨some 4, Go.Op.assign (Go.Operand.const (Go.Value.bool true)), none, false⟩] [4]) (.ret))))
theorem Try.comp20 : ∃ c, Try.f20.body = some c ∧ compile c = erase Try.C20 := ⟨_, rfl, by kernel_rfl⟩
theorem Try.rs20 : Try.f20.results.toList = [Go.ResultVar.tmp 4] := by kernel_rfl
theorem Try.nt20 : Try.f20.ntmps = 26 := by kernel_rfl
theorem Try.en20 : ∀ vs w, (callFunc 20 vs).run Try.prog w = .ok (.enter 20 vs) w := enters_of Try.func20 (by kernel_rfl) rfl
theorem Try.ctr20 {a0 a1 : V} {bx : Boxes} {Kc : V → Boxes → Prop} (h : FinB bx → pw Try.prog Try.C20 (retQ Try.prog [Go.ResultVar.tmp 4] Kc) ⟨26, slk [(0, a0), (1, a1)], bx⟩) : AbsCall Try.prog 20 [a0, a1] bx Kc := abs_of (by kernel_rfl) Try.func20 Try.comp20 Try.en20 Try.nt20 Try.rs20 (fun hb => by rw [initSt_2]; exact h hb)
noncomputable def Try.L21_0a : PC := .seq (.reg false [⟨some 4, Go.Op.assign (Go.Operand.tmp 8), none, false⟩] [3, 4, 9]) (.reg false [⟨some 5, Go.Op.assign (Go.Operand.tmp 9), none, false⟩] [3, 4, 5])
noncomputable def Try.L21_0b : PC := .block 1 (.seq (.reg false [⟨some 10, Go.Op.load 46 (Go.Operand.tmp 3), none, false⟩,
    ⟨some 11, Go.Op.move (Go.Operand.tmp 4), none, false⟩,
    ⟨some 12, Go.Op.move (Go.Operand.tmp 5), none, false⟩,
    ⟨some 13, Go.Op.build 49 #[(0, Go.Operand.tmp 11), (1, Go.Operand.tmp 12)], none, false⟩,
    ⟨some 14, Go.Op.buildSlice 46 1 #[(0, Go.Operand.tmp 13)], none, false⟩,
    ⟨some 15, Go.Op.call { callee := Go.Callee.builtin Go.Builtin.append, args := #[Go.Operand.tmp 10, Go.Operand.tmp 14], argTypes := #[46, 46] }, none, false⟩,
    ⟨none, Go.Op.store 46 (Go.Operand.tmp 3) (Go.Operand.tmp 15), none, false⟩] [3]) (.seq (.reg false [⟨some 16, Go.Op.load 46 (Go.Operand.tmp 3), none, false⟩,
    ⟨some 17, Go.Op.call { callee := Go.Callee.builtin Go.Builtin.len, args := #[Go.Operand.tmp 16], argTypes := #[46] }, none, false⟩,
    ⟨some 18, Go.Op.binOp Go.BinOp.gtr 3 (Go.Operand.tmp 17) (Go.Operand.const (Go.Value.int Go.IntKind.i64 5000)) 3, none, false⟩] [18]) (.cond (Go.Operand.tmp 18) (.exit 0) (.skip))))
noncomputable def Try.C21 : PC := .seq (.reg false [⟨some 2, Go.Op.assign (Go.Operand.const (Go.Value.slice none 0 0)), none, false⟩] [0, 2]) (.seq (.reg false [⟨some 3, Go.Op.alloc 46, none, false⟩] [0, 2, 3]) (.seq (.seq (.reg false [⟨some 6, Go.Op.move (Go.Operand.tmp 0), none, false⟩,
    ⟨some 7, Go.Op.call { callee := Go.Callee.value (Go.Operand.func 15), args := #[Go.Operand.tmp 6], argTypes := #[24] }, none, false⟩] [2, 3, 7]) (.block 0 (.rangeFunc (Go.Operand.tmp 7) #[8, 9] Try.L21_0a Try.L21_0b))) (.seq (.reg false [⟨some 19, Go.Op.load 46 (Go.Operand.tmp 3), none, false⟩,
    ⟨some 2, Go.Op.assign (Go.Operand.tmp 19), none, false⟩] [2]) (.ret))))
theorem Try.comp21 : ∃ c, Try.f21.body = some c ∧ compile c = erase Try.C21 := ⟨_, rfl, by kernel_rfl⟩
theorem Try.rs21 : Try.f21.results.toList = [Go.ResultVar.tmp 2] := by kernel_rfl
theorem Try.nt21 : Try.f21.ntmps = 20 := by kernel_rfl
theorem Try.en21 : ∀ vs w, (callFunc 21 vs).run Try.prog w = .ok (.enter 21 vs) w := enters_of Try.func21 (by kernel_rfl) rfl
theorem Try.ctr21 {a0 : V} {bx : Boxes} {Kc : V → Boxes → Prop} (h : FinB bx → pw Try.prog Try.C21 (retQ Try.prog [Go.ResultVar.tmp 2] Kc) ⟨20, slk [(0, a0)], bx⟩) : AbsCall Try.prog 21 [a0] bx Kc := abs_of (by kernel_rfl) Try.func21 Try.comp21 Try.en21 Try.nt21 Try.rs21 (fun hb => by rw [initSt_1]; exact h hb)
noncomputable def Try.C22 : PC := .seq (.reg false [⟨some 4, Go.Op.assign (Go.Operand.const (Go.Value.int Go.IntKind.i64 0)), none, false⟩,
    ⟨some 5, Go.Op.assign (Go.Operand.const (Go.Value.int Go.IntKind.i64 0)), none, false⟩] [0, 1, 4]) (.seq (.reg false [⟨some 8, Go.Op.move (Go.Operand.tmp 0), none, false⟩,
    ⟨some 9, Go.Op.move (Go.Operand.tmp 1), none, false⟩,
    ⟨some 10, Go.Op.call { callee := Go.Callee.value (Go.Operand.func 41), args := #[Go.Operand.tmp 8, Go.Operand.tmp 9], argTypes := #[24, 2] }, none, false⟩,
    ⟨some 7, Go.Op.move (Go.Operand.tmp 10), none, false⟩,
    ⟨some 11, Go.Op.extract (Go.Operand.tmp 7) 0, none, false⟩,
    ⟨some 12, Go.Op.extract (Go.Operand.tmp 7) 1, none, false⟩,
    ⟨some 6, Go.Op.assign (Go.Operand.tmp 11), none, false⟩,
    ⟨some 5, Go.Op.assign (Go.Operand.tmp 12), none, false⟩] [4, 5, 6]) (.seq (.seq (.reg false [⟨some 13, Go.Op.move (Go.Operand.tmp 5), none, false⟩,
    ⟨some 14, Go.Op.binOp Go.BinOp.neq 29 (Go.Operand.tmp 13) (Go.Operand.const (Go.Value.int Go.IntKind.i64 0)) 29, none, false⟩] [4, 5, 6, 14]) (.cond (Go.Operand.tmp 14) (.seq (.reg false [⟨some 15, Go.Op.move (Go.Operand.tmp 4), none, false⟩,
    ⟨some 16, Go.Op.move (Go.Operand.tmp 5), none, false⟩,
    ⟨some 4, Go.Op.assign (Go.Operand.tmp 15), none, false⟩,
    ⟨some 5, Go.Op.assign (Go.Operand.tmp 16), none, false⟩] [4, 5]) (.ret)) (.skip))) (.seq (.reg false [⟨some 17, Go.Op.move (Go.Operand.tmp 6), none, false⟩,
    ⟨some 18, Go.Op.nilCheck (Go.Operand.tmp 17), none, false⟩,
    ⟨some 19, Go.Op.fieldAddr 90 (Go.Operand.tmp 18) 1, none, false⟩,
    ⟨some 20, Go.Op.load 3 (Go.Operand.tmp 19), none, false⟩,
    ⟨some 4, Go.Op.assign (Go.Operand.tmp 20), none, false⟩,
    ⟨some 5, Go.Op.assign (Go.Operand.const (Go.Value.int Go.IntKind.i64 0)), none, false⟩] [4, 5]) (.ret))))
theorem Try.comp22 : ∃ c, Try.f22.body = some c ∧ compile c = erase Try.C22 := ⟨_, rfl, by kernel_rfl⟩
theorem Try.rs22 : Try.f22.results.toList = [Go.ResultVar.tmp 4, Go.ResultVar.tmp 5] := by kernel_rfl
theorem Try.nt22 : Try.f22.ntmps = 21 := by kernel_rfl
theorem Try.en22 : ∀ vs w, (callFunc 22 vs).run Try.prog w = .ok (.enter 22 vs) w := enters_of Try.func22 (by kernel_rfl) rfl
theorem Try.ctr22 {a0 a1 : V} {bx : Boxes} {Kc : V → Boxes → Prop} (h : FinB bx → pw Try.prog Try.C22 (retQ Try.prog [Go.ResultVar.tmp 4, Go.ResultVar.tmp 5] Kc) ⟨21, slk [(0, a0), (1, a1)], bx⟩) : AbsCall Try.prog 22 [a0, a1] bx Kc := abs_of (by kernel_rfl) Try.func22 Try.comp22 Try.en22 Try.nt22 Try.rs22 (fun hb => by rw [initSt_2]; exact h hb)
noncomputable def Try.C23 : PC := .seq (.reg false [⟨some 2, Go.Op.alloc 52, none, false⟩] [0, 2]) (.seq (.seq (.reg false [⟨some 3, Go.Op.move (Go.Operand.tmp 0), none, false⟩,
    ⟨some 4, Go.Op.call { callee := Go.Callee.value (Go.Operand.func 38), args := #[Go.Operand.tmp 3], argTypes := #[24] }, none, false⟩,
    ⟨some 5, Go.Op.unOp Go.UnOp.not 4 (Go.Operand.tmp 4), none, false⟩] [0, 2, 5]) (.cond (Go.Operand.tmp 5) (.seq (.reg false [⟨some 6, Go.Op.build 52 #[], none, false⟩,
    ⟨none, Go.Op.store 52 (Go.Operand.tmp 2) (Go.Operand.tmp 6), none, false⟩] [2]) (.ret)) (.skip))) (.seq (.reg true [⟨some 7, Go.Op.move (Go.Operand.tmp 0), none, false⟩,
    ⟨some 8, Go.Op.nilCheck (Go.Operand.tmp 7), none, false⟩,
    ⟨some 9, Go.Op.fieldAddr 79 (Go.Operand.tmp 8) 2, none, false⟩,
    ⟨some 10, Go.Op.load 2 (Go.Operand.tmp 9), none, false⟩,
    ⟨some 11, Go.Op.move (Go.Operand.tmp 0), none, false⟩,
    ⟨some 12, Go.Op.call { callee := Go.Callee.value (Go.Operand.func 40), args := #[Go.Operand.tmp 11], argTypes := #[24] }, none, false⟩,
    ⟨some 13, Go.Op.build 52 #[(0, Go.Operand.tmp 10), (1, Go.Operand.tmp 12)], none, false⟩,
    ⟨none, Go.Op.store 52 (Go.Operand.tmp 2) (Go.Operand.tmp 13), none, false⟩] [2]) (.ret)))
theorem Try.comp23 : ∃ c, Try.f23.body = some c ∧ compile c = erase Try.C23 := ⟨_, rfl, by kernel_rfl⟩
theorem Try.rs23 : Try.f23.results.toList = [Go.ResultVar.cell 2 52] := by kernel_rfl
theorem Try.nt23 : Try.f23.ntmps = 14 := by kernel_rfl
theorem Try.en23 : ∀ vs w, (callFunc 23 vs).run Try.prog w = .ok (.enter 23 vs) w := enters_of Try.func23 (by kernel_rfl) rfl
theorem Try.ctr23 {a0 : V} {bx : Boxes} {Kc : V → Boxes → Prop} (h : FinB bx → pw Try.prog Try.C23 (retQ Try.prog [Go.ResultVar.cell 2 52] Kc) ⟨14, slk [(0, a0)], bx⟩) : AbsCall Try.prog 23 [a0] bx Kc := abs_of (by kernel_rfl) Try.func23 Try.comp23 Try.en23 Try.nt23 Try.rs23 (fun hb => by rw [initSt_1]; exact h hb)
noncomputable def Try.C28 : PC := .seq (.reg false [⟨some 4, Go.Op.assign (Go.Operand.const (Go.Value.bool false)), none, false⟩] [0, 1]) (.seq (.reg false [⟨some 5, Go.Op.move (Go.Operand.tmp 0), none, false⟩,
    ⟨some 6, Go.Op.move (Go.Operand.tmp 1), none, false⟩,
    ⟨some 7, Go.Op.binOp Go.BinOp.lss 3 (Go.Operand.tmp 5) (Go.Operand.tmp 6) 3, none, false⟩,
    ⟨some 4, Go.Op.assign (Go.Operand.tmp 7), none, false⟩] [4]) (.ret))
theorem Try.comp28 : ∃ c, Try.f28.body = some c ∧ compile c = erase Try.C28 := ⟨_, rfl, by kernel_rfl⟩
theorem Try.rs28 : Try.f28.results.toList = [Go.ResultVar.tmp 4] := by kernel_rfl
theorem Try.nt28 : Try.f28.ntmps = 8 := by kernel_rfl
theorem Try.en28 : ∀ vs w, (callFunc 28 vs).run Try.prog w = .ok (.enter 28 vs) w := enters_of Try.func28 (by kernel_rfl) rfl
theorem Try.ctr28 {a0 a1 : V} {bx : Boxes} {Kc : V → Boxes → Prop} (h : FinB bx → pw Try.prog Try.C28 (retQ Try.prog [Go.ResultVar.tmp 4] Kc) ⟨8, slk [(0, a0), (1, a1)], bx⟩) : AbsCall Try.prog 28 [a0, a1] bx Kc := abs_of (by kernel_rfl) Try.func28 Try.comp28 Try.en28 Try.nt28 Try.rs28 (fun hb => by rw [initSt_2]; exact h hb)
noncomputable def Try.C31 : PC := .seq (.reg false [⟨some 2, Go.Op.assign (Go.Operand.const (Go.Value.pointer none)), none, false⟩] [0]) (.seq (.seq (.reg false [⟨some 3, Go.Op.move (Go.Operand.tmp 0), none, false⟩,
    ⟨some 4, Go.Op.binOp Go.BinOp.eql 26 (Go.Operand.tmp 3) (Go.Operand.const Go.Value.nilFunc) 26, none, false⟩] [0, 4]) (.cond (Go.Operand.tmp 4) (.seq (.reg false [⟨some 2, Go.Op.assign (Go.Operand.const (Go.Value.pointer none)), none, false⟩] [2]) (.ret)) (.skip))) (.seq (.reg false [⟨some 5, Go.Op.move (Go.Operand.tmp 0), none, false⟩,
    ⟨some 6, Go.Op.build 76 #[(1, Go.Operand.tmp 5)], none, false⟩,
    ⟨some 7, Go.Op.makeMap 77 none, none, false⟩,
    ⟨some 8, Go.Op.build 79 #[(0, Go.Operand.tmp 6), (1, Go.Operand.tmp 7), (2, Go.Operand.const (Go.Value.int Go.IntKind.i64 1))], none, false⟩,
    ⟨some 9, Go.Op.box 79 (Go.Operand.tmp 8), none, false⟩,
    ⟨some 2, Go.Op.assign (Go.Operand.tmp 9), none, false⟩] [2]) (.ret)))
theorem Try.comp31 : ∃ c, Try.f31.body = some c ∧ compile c = erase Try.C31 := ⟨_, rfl, by kernel_rfl⟩
theorem Try.rs31 : Try.f31.results.toList = [Go.ResultVar.tmp 2] := by kernel_rfl
theorem Try.nt31 : Try.f31.ntmps = 10 := by kernel_rfl
theorem Try.en31 : ∀ vs w, (callFunc 31 vs).run Try.prog w = .ok (.enter 31 vs) w := enters_of Try.func31 (by kernel_rfl) rfl
theorem Try.ctr31 {a0 : V} {bx : Boxes} {Kc : V → Boxes → Prop} (h : FinB bx → pw Try.prog Try.C31 (retQ Try.prog [Go.ResultVar.tmp 2] Kc) ⟨10, slk [(0, a0)], bx⟩) : AbsCall Try.prog 31 [a0] bx Kc := abs_of (by kernel_rfl) Try.func31 Try.comp31 Try.en31 Try.nt31 Try.rs31 (fun hb => by rw [initSt_1]; exact h hb)
noncomputable def Try.C35 : PC := .seq (.reg false [⟨some 2, Go.Op.assign (Go.Operand.const (Go.Value.int Go.IntKind.i64 0)), none, false⟩,
    ⟨some 3, Go.Op.assign (Go.Operand.const (Go.Value.int Go.IntKind.i64 0)), none, false⟩,
    ⟨some 4, Go.Op.assign (Go.Operand.const (Go.Value.int Go.IntKind.i64 0)), none, false⟩] [0, 3]) (.seq (.block 0 (.seq (.reg false [⟨some 7, Go.Op.move (Go.Operand.tmp 0), none, false⟩,
    ⟨some 8, Go.Op.call { callee := Go.Callee.value (Go.Operand.func 38), args := #[Go.Operand.tmp 7], argTypes := #[24] }, none, false⟩,
    ⟨some 9, Go.Op.unOp Go.UnOp.not 4 (Go.Operand.tmp 8), none, false⟩,
    ⟨some 6, Go.Op.assign (Go.Operand.tmp 9), none, false⟩] [0, 3, 6]) (.cond (Go.Operand.tmp 6) (.seq (.reg false [⟨some 10, Go.Op.move (Go.Operand.tmp 3), none, false⟩,
    ⟨some 2, Go.Op.assign (Go.Operand.const (Go.Value.int Go.IntKind.i64 0)), none, false⟩,
    ⟨some 3, Go.Op.assign (Go.Operand.tmp 10), none, false⟩,
    ⟨some 4, Go.Op.assign (Go.Operand.const (Go.Value.int Go.IntKind.i64 1)), none, false⟩] [2, 3, 4]) (.ret)) (.seq (.reg false [⟨some 12, Go.Op.move (Go.Operand.tmp 0), none, false⟩,
    ⟨some 13, Go.Op.nilCheck (Go.Operand.tmp 12), none, false⟩,
    ⟨some 14, Go.Op.fieldAddr 79 (Go.Operand.tmp 13) 0, none, false⟩,
    ⟨some 15, Go.Op.fieldAddr 76 (Go.Operand.tmp 14) 0, none, false⟩,
    ⟨some 16, Go.Op.load 74 (Go.Operand.tmp 15), none, false⟩,
    ⟨some 17, Go.Op.call { callee := Go.Callee.builtin Go.Builtin.len, args := #[Go.Operand.tmp 16], argTypes := #[74] }, none, false⟩,
    ⟨some 18, Go.Op.binOp Go.BinOp.eql 3 (Go.Operand.tmp 17) (Go.Operand.const (Go.Value.int Go.IntKind.i64 0)) 3, none, false⟩,
    ⟨some 11, Go.Op.assign (Go.Operand.tmp 18), none, false⟩] [0, 3, 11]) (.cond (Go.Operand.tmp 11) (.seq (.reg false [⟨some 19, Go.Op.move (Go.Operand.tmp 3), none, false⟩,
    ⟨some 2, Go.Op.assign (Go.Operand.const (Go.Value.int Go.IntKind.i64 0)), none, false⟩,
    ⟨some 3, Go.Op.assign (Go.Operand.tmp 19), none, false⟩,
    ⟨some 4, Go.Op.assign (Go.Operand.const (Go.Value.int Go.IntKind.i64 4)), none, false⟩] [2, 3, 4]) (.ret)) (.skip)))))) (.seq (.reg false [⟨some 20, Go.Op.move (Go.Operand.tmp 0), none, false⟩,
    ⟨some 21, Go.Op.nilCheck (Go.Operand.tmp 20), none, false⟩,
    ⟨some 22, Go.Op.fieldAddr 79 (Go.Operand.tmp 21) 0, none, false⟩,
    ⟨some 23, Go.Op.fieldAddr 76 (Go.Operand.tmp 22) 0, none, false⟩,
    ⟨some 24, Go.Op.load 74 (Go.Operand.tmp 23), none, false⟩,
    ⟨some 25, Go.Op.indexAddr 74 (Go.Operand.tmp 24) (Go.Operand.const (Go.Value.int Go.IntKind.i64 0)), none, false⟩,
    ⟨some 26, Go.Op.load 85 (Go.Operand.tmp 25), none, false⟩,
    ⟨some 5, Go.Op.assign (Go.Operand.tmp 26), none, false⟩] [5]) (.seq (.reg true [⟨some 27, Go.Op.move (Go.Operand.tmp 5), none, false⟩,
    ⟨some 28, Go.Op.nilCheck (Go.Operand.tmp 27), none, false⟩,
    ⟨some 29, Go.Op.fieldAddr 90 (Go.Operand.tmp 28) 0, none, false⟩,
    ⟨some 30, Go.Op.load 2 (Go.Operand.tmp 29), none, false⟩,
    ⟨some 31, Go.Op.move (Go.Operand.tmp 5), none, false⟩,
    ⟨some 32, Go.Op.nilCheck (Go.Operand.tmp 31), none, false⟩,
    ⟨some 33, Go.Op.fieldAddr 90 (Go.Operand.tmp 32) 1, none, false⟩,
    ⟨some 34, Go.Op.load 3 (Go.Operand.tmp 33), none, false⟩,
    ⟨some 2, Go.Op.assign (Go.Operand.tmp 30), none, false⟩,
    ⟨some 3, Go.Op.assign (Go.Operand.tmp 34), none, false⟩,
    ⟨some 4, Go.Op.assign (Go.Operand.const (Go.Value.int Go.IntKind.i64 0)), none, false⟩] [2, 3, 4]) (.ret))))
theorem Try.comp35 : ∃ c, Try.f35.body = some c ∧ compile c = erase Try.C35 := ⟨_, rfl, by kernel_rfl⟩
theorem Try.rs35 : Try.f35.results.toList = [Go.ResultVar.tmp 2, Go.ResultVar.tmp 3, Go.ResultVar.tmp 4] := by kernel_rfl
theorem Try.nt35 : Try.f35.ntmps = 35 := by kernel_rfl
theorem Try.en35 : ∀ vs w, (callFunc 35 vs).run Try.prog w = .ok (.enter 35 vs) w := enters_of Try.func35 (by kernel_rfl) rfl
theorem Try.ctr35 {a0 : V} {bx : Boxes} {Kc : V → Boxes → Prop} (h : FinB bx → pw Try.prog Try.C35 (retQ Try.prog [Go.ResultVar.tmp 2, Go.ResultVar.tmp 3, Go.ResultVar.tmp 4] Kc) ⟨35, slk [(0, a0)], bx⟩) : AbsCall Try.prog 35 [a0] bx Kc := abs_of (by kernel_rfl) Try.func35 Try.comp35 Try.en35 Try.nt35 Try.rs35 (fun hb => by rw [initSt_1]; exact h hb)
noncomputable def Try.C36 : PC := .seq (.reg false [⟨some 4, Go.Op.assign (Go.Operand.const (Go.Value.bool false)), none, false⟩] [0, 1]) (.seq (.reg false [⟨some 5, Go.Op.move (Go.Operand.tmp 0), none, false⟩,
    ⟨some 6, Go.Op.call { callee := Go.Callee.builtin Go.Builtin.max, args := #[Go.Operand.tmp 5, Go.Operand.const (Go.Value.int Go.IntKind.i64 0)], argTypes := #[3, 3] }, none, false⟩,
    ⟨some 7, Go.Op.binOp Go.BinOp.rem 3 (Go.Operand.tmp 6) (Go.Operand.const (Go.Value.int Go.IntKind.i64 10)) 3, none, false⟩,
    ⟨some 8, Go.Op.move (Go.Operand.tmp 1), none, false⟩,
    ⟨some 9, Go.Op.call { callee := Go.Callee.builtin Go.Builtin.max, args := #[Go.Operand.tmp 8, Go.Operand.const (Go.Value.int Go.IntKind.i64 0)], argTypes := #[3, 3] }, none, false⟩,
    ⟨some 10, Go.Op.binOp Go.BinOp.rem 3 (Go.Operand.tmp 9) (Go.Operand.const (Go.Value.int Go.IntKind.i64 10)) 3, none, false⟩,
    ⟨some 11, Go.Op.binOp Go.BinOp.gtr 3 (Go.Operand.tmp 7) (Go.Operand.tmp 10) 3, none, false⟩,
    ⟨some 4, Go.Op.assign (Go.Operand.tmp 11), none, false⟩] [4]) (.ret))
theorem Try.comp36 : ∃ c, Try.f36.body = some c ∧ compile c = erase Try.C36 := ⟨_, rfl, by kernel_rfl⟩
theorem Try.rs36 : Try.f36.results.toList = [Go.ResultVar.tmp 4] := by kernel_rfl
theorem Try.nt36 : Try.f36.ntmps = 12 := by kernel_rfl
theorem Try.en36 : ∀ vs w, (callFunc 36 vs).run Try.prog w = .ok (.enter 36 vs) w := enters_of Try.func36 (by kernel_rfl) rfl
theorem Try.ctr36 {a0 a1 : V} {bx : Boxes} {Kc : V → Boxes → Prop} (h : FinB bx → pw Try.prog Try.C36 (retQ Try.prog [Go.ResultVar.tmp 4] Kc) ⟨12, slk [(0, a0), (1, a1)], bx⟩) : AbsCall Try.prog 36 [a0, a1] bx Kc := abs_of (by kernel_rfl) Try.func36 Try.comp36 Try.en36 Try.nt36 Try.rs36 (fun hb => by rw [initSt_2]; exact h hb)
noncomputable def Try.C37 : PC := .seq (.reg false [⟨some 2, Go.Op.assign (Go.Operand.const Go.Value.nilIface), none, false⟩] [0]) (.seq (.reg false [⟨some 4, Go.Op.move (Go.Operand.tmp 0), none, false⟩,
    ⟨some 5, Go.Op.call { callee := Go.Callee.invoke (Go.Operand.tmp 4) "Len", args := #[], argTypes := #[] }, none, false⟩,
    ⟨some 6, Go.Op.binOp Go.BinOp.sub 3 (Go.Operand.tmp 5) (Go.Operand.const (Go.Value.int Go.IntKind.i64 1)) 3, none, false⟩,
    ⟨some 3, Go.Op.assign (Go.Operand.tmp 6), none, false⟩] [0, 3]) (.seq (.reg false [⟨some 7, Go.Op.move (Go.Operand.tmp 0), none, false⟩,
    ⟨some 8, Go.Op.move (Go.Operand.tmp 3), none, false⟩,
    ⟨some 9, Go.Op.call { callee := Go.Callee.invoke (Go.Operand.tmp 7) "Swap", args := #[Go.Operand.const (Go.Value.int Go.IntKind.i64 0), Go.Operand.tmp 8], argTypes := #[3, 3] }, none, false⟩] [0, 3]) (.seq (.reg false [⟨some 10, Go.Op.move (Go.Operand.tmp 0), none, false⟩,
    ⟨some 11, Go.Op.move (Go.Operand.tmp 3), none, false⟩,
    ⟨some 12, Go.Op.call { callee := Go.Callee.value (Go.Operand.func 55), args := #[Go.Operand.tmp 10, Go.Operand.const (Go.Value.int Go.IntKind.i64 0), Go.Operand.tmp 11], argTypes := #[117, 3, 3] }, none, false⟩] [0]) (.seq (.reg false [⟨some 13, Go.Op.move (Go.Operand.tmp 0), none, false⟩,
    ⟨some 14, Go.Op.call { callee := Go.Callee.invoke (Go.Operand.tmp 13) "Pop", args := #[], argTypes := #[] }, none, false⟩,
    ⟨some 2, Go.Op.assign (Go.Operand.tmp 14), none, false⟩] [2]) (.ret)))))
theorem Try.comp37 : ∃ c, Try.f37.body = some c ∧ compile c = erase Try.C37 := ⟨_, rfl, by kernel_rfl⟩
theorem Try.rs37 : Try.f37.results.toList = [Go.ResultVar.tmp 2] := by kernel_rfl
theorem Try.nt37 : Try.f37.ntmps = 15 := by kernel_rfl
theorem Try.en37 : ∀ vs w, (callFunc 37 vs).run Try.prog w = .ok (.enter 37 vs) w := enters_of Try.func37 (by kernel_rfl) rfl
theorem Try.ctr37 {a0 : V} {bx : Boxes} {Kc : V → Boxes → Prop} (h : FinB bx → pw Try.prog Try.C37 (retQ Try.prog [Go.ResultVar.tmp 2] Kc) ⟨15, slk [(0, a0)], bx⟩) : AbsCall Try.prog 37 [a0] bx Kc := abs_of (by kernel_rfl) Try.func37 Try.comp37 Try.en37 Try.nt37 Try.rs37 (fun hb => by rw [initSt_1]; exact h hb)
noncomputable def Try.C38 : PC := .seq (.reg false [⟨some 2, Go.Op.assign (Go.Operand.const (Go.Value.bool false)), none, false⟩] [0]) (.seq (.reg false [⟨some 3, Go.Op.move (Go.Operand.tmp 0), none, false⟩,
    ⟨some 4, Go.Op.binOp Go.BinOp.neq 24 (Go.Operand.tmp 3) (Go.Operand.const (Go.Value.pointer none)) 24, none, false⟩,
    ⟨some 5, Go.Op.move (Go.Operand.tmp 4), none, false⟩,
    ⟨some 6, Go.Op.move (Go.Operand.tmp 0), some (5, true), false⟩,
    ⟨some 7, Go.Op.nilCheck (Go.Operand.tmp 6), some (5, true), false⟩,
    ⟨some 8, Go.Op.fieldAddr 79 (Go.Operand.tmp 7) 1, some (5, true), false⟩,
    ⟨some 9, Go.Op.load 77 (Go.Operand.tmp 8), some (5, true), false⟩,
    ⟨some 10, Go.Op.binOp Go.BinOp.neq 77 (Go.Operand.tmp 9) (Go.Operand.const (Go.Value.map none)) 77, some (5, true), false⟩,
    ⟨some 11, Go.Op.pick (Go.Operand.tmp 5) (Go.Operand.tmp 10) (Go.Operand.const (Go.Value.bool false)), none, false⟩,
    ⟨some 2, Go.Op.assign (Go.Operand.tmp 11), none, false⟩] [2]) (.ret))
theorem Try.comp38 : ∃ c, Try.f38.body = some c ∧ compile c = erase Try.C38 := ⟨_, rfl, by kernel_rfl⟩
theorem Try.rs38 : Try.f38.results.toList = [Go.ResultVar.tmp 2] := by kernel_rfl
theorem Try.nt38 : Try.f38.ntmps = 12 := by kernel_rfl
theorem Try.en38 : ∀ vs w, (callFunc 38 vs).run Try.prog w = .ok (.enter 38 vs) w := enters_of Try.func38 (by kernel_rfl) rfl
theorem Try.ctr38 {a0 : V} {bx : Boxes} {Kc : V → Boxes → Prop} (h : FinB bx → pw Try.prog Try.C38 (retQ Try.prog [Go.ResultVar.tmp 2] Kc) ⟨12, slk [(0, a0)], bx⟩) : AbsCall Try.prog 38 [a0] bx Kc := abs_of (by kernel_rfl) Try.func38 Try.comp38 Try.en38 Try.nt38 Try.rs38 (fun hb => by rw [initSt_1]; exact h hb)
noncomputable def Try.L39_0 : PC := .seq (.reg false [⟨some 12, Go.Op.binOp Go.BinOp.lss 3 (Go.Operand.tmp 11) (Go.Operand.tmp 10) 3, none, false⟩] [0, 9, 10, 11, 12]) (.seq (.cond (Go.Operand.tmp 12) (.skip) (.exit 0)) (.seq (.block 1 (.seq (.reg false [⟨some 13, Go.Op.indexAddr 46 (Go.Operand.tmp 9) (Go.Operand.tmp 11), none, false⟩,
    ⟨some 14, Go.Op.load 49 (Go.Operand.tmp 13), none, false⟩,
    ⟨some 4, Go.Op.alloc 49, none, false⟩,
    ⟨none, Go.Op.store 49 (Go.Operand.tmp 4) (Go.Operand.tmp 14), none, false⟩] [0, 4, 9, 10, 11]) (.fz 4 (.seq (.reg false [⟨some 15, Go.Op.move (Go.Operand.tmp 0), none, false⟩,
    ⟨some 16, Go.Op.fieldAddr 49 (Go.Operand.tmp 4) 0, none, false⟩,
    ⟨some 17, Go.Op.load 2 (Go.Operand.tmp 16), none, false⟩,
    ⟨some 18, Go.Op.fieldAddr 49 (Go.Operand.tmp 4) 1, none, false⟩,
    ⟨some 19, Go.Op.load 3 (Go.Operand.tmp 18), none, false⟩,
    ⟨some 20, Go.Op.call { callee := Go.Callee.value (Go.Operand.tmp 15), args := #[Go.Operand.tmp 17, Go.Operand.tmp 19], argTypes := #[2, 3] }, none, false⟩,
    ⟨some 21, Go.Op.unOp Go.UnOp.not 4 (Go.Operand.tmp 20), none, false⟩] [0, 9, 10, 11, 21]) (.cond (Go.Operand.tmp 21) (.ret) (.skip)))))) (.reg false [⟨some 22, Go.Op.binOp Go.BinOp.add 3 (Go.Operand.tmp 11) (Go.Operand.const (Go.Value.int Go.IntKind.i64 1)) 3, none, false⟩,
    ⟨some 11, Go.Op.move (Go.Operand.tmp 22), none, false⟩] [0, 9, 10, 11])))
noncomputable def Try.C39 : PC := .seq (.seq (.reg false [⟨some 5, Go.Op.load 24 (Go.Operand.tmp 1), none, false⟩,
    ⟨some 6, Go.Op.call { callee := Go.Callee.value (Go.Operand.func 38), args := #[Go.Operand.tmp 5], argTypes := #[24] }, none, false⟩,
    ⟨some 7, Go.Op.unOp Go.UnOp.not 4 (Go.Operand.tmp 6), none, false⟩] [0, 1, 7]) (.cond (Go.Operand.tmp 7) (.ret) (.skip))) (.seq (.reg false [⟨some 8, Go.Op.load 24 (Go.Operand.tmp 1), none, false⟩,
    ⟨some 9, Go.Op.call { callee := Go.Callee.value (Go.Operand.func 40), args := #[Go.Operand.tmp 8], argTypes := #[24] }, none, false⟩,
    ⟨some 10, Go.Op.call { callee := Go.Callee.builtin Go.Builtin.len, args := #[Go.Operand.tmp 9], argTypes := #[46] }, none, false⟩,
    ⟨some 11, Go.Op.move (Go.Operand.const (Go.Value.int Go.IntKind.i64 0)), none, false⟩] [0, 9, 10, 11]) (.block 0 (.loop Try.L39_0)))
theorem Try.comp39 : ∃ c, Try.f39.body = some c ∧ compile c = erase Try.C39 := ⟨_, rfl, by kernel_rfl⟩
theorem Try.rs39 : Try.f39.results.toList = [] := by kernel_rfl
theorem Try.nt39 : Try.f39.ntmps = 23 := by kernel_rfl
theorem Try.en39 : ∀ vs w, (callFunc 39 vs).run Try.prog w = .ok (.enter 39 vs) w := enters_of Try.func39 (by kernel_rfl) rfl
theorem Try.ctr39 {a0 a1 : V} {bx : Boxes} {Kc : V → Boxes → Prop} (h : FinB bx → pw Try.prog Try.C39 (retQ Try.prog [] Kc) ⟨23, slk [(0, a0), (1, a1)], bx⟩) : AbsCall Try.prog 39 [a0, a1] bx Kc := abs_of (by kernel_rfl) Try.func39 Try.comp39 Try.en39 Try.nt39 Try.rs39 (fun hb => by rw [initSt_2]; exact h hb)
noncomputable def Try.L40_0 : PC := .seq (.reg false [⟨some 19, Go.Op.binOp Go.BinOp.lss 3 (Go.Operand.tmp 18) (Go.Operand.tmp 17) 3, none, false⟩] [4, 16, 17, 18, 19]) (.seq (.cond (Go.Operand.tmp 19) (.skip) (.exit 0)) (.seq (.block 1 (.seq (.reg false [⟨some 20, Go.Op.indexAddr 74 (Go.Operand.tmp 16) (Go.Operand.tmp 18), none, false⟩,
    ⟨some 21, Go.Op.load 85 (Go.Operand.tmp 20), none, false⟩,
    ⟨some 6, Go.Op.assign (Go.Operand.tmp 21), none, false⟩] [4, 6, 16, 17, 18]) (.reg true [⟨some 22, Go.Op.move (Go.Operand.tmp 4), none, false⟩,
    ⟨some 23, Go.Op.move (Go.Operand.tmp 6), none, false⟩,
    ⟨some 24, Go.Op.nilCheck (Go.Operand.tmp 23), none, false⟩,
    ⟨some 25, Go.Op.fieldAddr 90 (Go.Operand.tmp 24) 0, none, false⟩,
    ⟨some 26, Go.Op.load 2 (Go.Operand.tmp 25), none, false⟩,
    ⟨some 27, Go.Op.move (Go.Operand.tmp 6), none, false⟩,
    ⟨some 28, Go.Op.nilCheck (Go.Operand.tmp 27), none, false⟩,
    ⟨some 29, Go.Op.fieldAddr 90 (Go.Operand.tmp 28) 1, none, false⟩,
    ⟨some 30, Go.Op.load 3 (Go.Operand.tmp 29), none, false⟩,
    ⟨some 31, Go.Op.build 49 #[(0, Go.Operand.tmp 26), (1, Go.Operand.tmp 30)], none, false⟩,
    ⟨some 32, Go.Op.buildSlice 46 1 #[(0, Go.Operand.tmp 31)], none, false⟩,
    ⟨some 33, Go.Op.call { callee := Go.Callee.builtin Go.Builtin.append, args := #[Go.Operand.tmp 22, Go.Operand.tmp 32], argTypes := #[46, 46] }, none, false⟩,
    ⟨some 4, Go.Op.assign (Go.Operand.tmp 33), none, false⟩] [4, 16, 17, 18]))) (.reg false [⟨some 34, Go.Op.binOp Go.BinOp.add 3 (Go.Operand.tmp 18) (Go.Operand.const (Go.Value.int Go.IntKind.i64 1)) 3, none, false⟩,
    ⟨some 18, Go.Op.move (Go.Operand.tmp 34), none, false⟩] [4, 16, 17, 18])))
noncomputable def Try.C40 : PC := .seq (.reg false [⟨some 1, Go.Op.box 24 (Go.Operand.tmp 0), none, true⟩,
    ⟨some 2, Go.Op.assign (Go.Operand.const (Go.Value.slice none 0 0)), none, false⟩] [1]) (.seq (.reg false [⟨some 7, Go.Op.load 24 (Go.Operand.tmp 1), none, false⟩,
    ⟨some 8, Go.Op.nilCheck (Go.Operand.tmp 7), none, false⟩,
    ⟨some 9, Go.Op.fieldAddr 79 (Go.Operand.tmp 8) 0, none, false⟩,
    ⟨some 10, Go.Op.fieldAddr 76 (Go.Operand.tmp 9) 0, none, false⟩,
    ⟨some 11, Go.Op.load 74 (Go.Operand.tmp 10), none, false⟩,
    ⟨some 12, Go.Op.call { callee := Go.Callee.value (Go.Operand.func 56), args := #[Go.Operand.tmp 11], argTypes := #[74] }, none, false⟩,
    ⟨some 3, Go.Op.assign (Go.Operand.tmp 12), none, false⟩] [1, 3]) (.seq (.reg false [⟨some 13, Go.Op.move (Go.Operand.tmp 3), none, false⟩,
    ⟨some 14, Go.Op.makeFunc (Go.Fn.func 58) #[] #[Go.Operand.tmp 1], none, false⟩,
    ⟨some 15, Go.Op.call { callee := Go.Callee.value (Go.Operand.func 57), args := #[Go.Operand.tmp 13, Go.Operand.tmp 14], argTypes := #[74, 124] }, none, false⟩] [3]) (.seq (.reg false [⟨some 4, Go.Op.assign (Go.Operand.const (Go.Value.slice none 0 0)), none, false⟩] [3, 4]) (.seq (.seq (.reg false [⟨some 16, Go.Op.move (Go.Operand.tmp 3), none, false⟩,
    ⟨some 17, Go.Op.call { callee := Go.Callee.builtin Go.Builtin.len, args := #[Go.Operand.tmp 16], argTypes := #[74] }, none, false⟩,
    ⟨some 18, Go.Op.move (Go.Operand.const (Go.Value.int Go.IntKind.i64 0)), none, false⟩] [4, 16, 17, 18]) (.block 0 (.loop Try.L40_0))) (.seq (.reg false [⟨some 35, Go.Op.move (Go.Operand.tmp 4), none, false⟩,
    ⟨some 2, Go.Op.assign (Go.Operand.tmp 35), none, false⟩] [2]) (.ret))))))
theorem Try.comp40 : ∃ c, Try.f40.body = some c ∧ compile c = erase Try.C40 := ⟨_, rfl, by kernel_rfl⟩
theorem Try.rs40 : Try.f40.results.toList = [Go.ResultVar.tmp 2] := by kernel_rfl
theorem Try.nt40 : Try.f40.ntmps = 36 := by kernel_rfl
theorem Try.en40 : ∀ vs w, (callFunc 40 vs).run Try.prog w = .ok (.enter 40 vs) w := enters_of Try.func40 (by kernel_rfl) rfl
theorem Try.ctr40 {a0 : V} {bx : Boxes} {Kc : V → Boxes → Prop} (h : FinB bx → pw Try.prog Try.C40 (retQ Try.prog [Go.ResultVar.tmp 2] Kc) ⟨36, slk [(0, a0)], bx⟩) : AbsCall Try.prog 40 [a0] bx Kc := abs_of (by kernel_rfl) Try.func40 Try.comp40 Try.en40 Try.nt40 Try.rs40 (fun hb => by rw [initSt_1]; exact h hb)
noncomputable def Try.C41 : PC := .seq (.reg false [⟨some 4, Go.Op.assign (Go.Operand.const (Go.Value.pointer none)), none, false⟩,
    ⟨some 5, Go.Op.assign (Go.Operand.const (Go.Value.int Go.IntKind.i64 0)), none, false⟩] [0, 1]) (.seq (.seq (.reg false [⟨some 8, Go.Op.move (Go.Operand.tmp 0), none, false⟩,
    ⟨some 9, Go.Op.call { callee := Go.Callee.value (Go.Operand.func 38), args := #[Go.Operand.tmp 8], argTypes := #[24] }, none, false⟩,
    ⟨some 10, Go.Op.unOp Go.UnOp.not 4 (Go.Operand.tmp 9), none, false⟩] [0, 1, 10]) (.cond (Go.Operand.tmp 10) (.seq (.reg false [⟨some 4, Go.Op.assign (Go.Operand.const (Go.Value.pointer none)), none, false⟩,
    ⟨some 5, Go.Op.assign (Go.Operand.const (Go.Value.int Go.IntKind.i64 1)), none, false⟩] [4, 5]) (.ret)) (.skip))) (.seq (.reg false [⟨some 12, Go.Op.move (Go.Operand.tmp 0), none, false⟩,
    ⟨some 13, Go.Op.nilCheck (Go.Operand.tmp 12), none, false⟩,
    ⟨some 14, Go.Op.fieldAddr 79 (Go.Operand.tmp 13) 1, none, false⟩,
    ⟨some 15, Go.Op.load 77 (Go.Operand.tmp 14), none, false⟩,
    ⟨some 16, Go.Op.move (Go.Operand.tmp 1), none, false⟩,
    ⟨some 17, Go.Op.lookup 77 (Go.Operand.tmp 15) (Go.Operand.tmp 16) true, none, false⟩,
    ⟨some 11, Go.Op.move (Go.Operand.tmp 17), none, false⟩,
    ⟨some 18, Go.Op.extract (Go.Operand.tmp 11) 0, none, false⟩,
    ⟨some 19, Go.Op.extract (Go.Operand.tmp 11) 1, none, false⟩,
    ⟨some 6, Go.Op.assign (Go.Operand.tmp 18), none, false⟩,
    ⟨some 7, Go.Op.assign (Go.Operand.tmp 19), none, false⟩] [6, 7]) (.seq (.seq (.reg false [⟨some 20, Go.Op.move (Go.Operand.tmp 7), none, false⟩,
    ⟨some 21, Go.Op.unOp Go.UnOp.not 4 (Go.Operand.tmp 20), none, false⟩] [6, 21]) (.cond (Go.Operand.tmp 21) (.seq (.reg false [⟨some 4, Go.Op.assign (Go.Operand.const (Go.Value.pointer none)), none, false⟩,
    ⟨some 5, Go.Op.assign (Go.Operand.const (Go.Value.int Go.IntKind.i64 4)), none, false⟩] [4, 5]) (.ret)) (.skip))) (.seq (.reg false [⟨some 22, Go.Op.move (Go.Operand.tmp 6), none, false⟩,
    ⟨some 4, Go.Op.assign (Go.Operand.tmp 22), none, false⟩,
    ⟨some 5, Go.Op.assign (Go.Operand.const (Go.Value.int Go.IntKind.i64 0)), none, false⟩] [4, 5]) (.ret)))))
theorem Try.comp41 : ∃ c, Try.f41.body = some c ∧ compile c = erase Try.C41 := ⟨_, rfl, by kernel_rfl⟩
theorem Try.rs41 : Try.f41.results.toList = [Go.ResultVar.tmp 4, Go.ResultVar.tmp 5] := by kernel_rfl
theorem Try.nt41 : Try.f41.ntmps = 23 := by kernel_rfl
theorem Try.en41 : ∀ vs w, (callFunc 41 vs).run Try.prog w = .ok (.enter 41 vs) w := enters_of Try.func41 (by kernel_rfl) rfl
theorem Try.ctr41 {a0 a1 : V} {bx : Boxes} {Kc : V → Boxes → Prop} (h : FinB bx → pw Try.prog Try.C41 (retQ Try.prog [Go.ResultVar.tmp 4, Go.ResultVar.tmp 5] Kc) ⟨23, slk [(0, a0), (1, a1)], bx⟩) : AbsCall Try.prog 41 [a0, a1] bx Kc := abs_of (by kernel_rfl) Try.func41 Try.comp41 Try.en41 Try.nt41 Try.rs41 (fun hb => by rw [initSt_2]; exact h hb)
noncomputable def Try.C42 : PC := .seq (.reg false [⟨some 4, Go.Op.assign (Go.Operand.const Go.Value.nilIface), none, false⟩] [0, 1]) (.seq (.reg false [⟨some 6, Go.Op.move (Go.Operand.tmp 0), none, false⟩,
    ⟨some 7, Go.Op.call { callee := Go.Callee.invoke (Go.Operand.tmp 6) "Len", args := #[], argTypes := #[] }, none, false⟩,
    ⟨some 8, Go.Op.binOp Go.BinOp.sub 3 (Go.Operand.tmp 7) (Go.Operand.const (Go.Value.int Go.IntKind.i64 1)) 3, none, false⟩,
    ⟨some 5, Go.Op.assign (Go.Operand.tmp 8), none, false⟩] [0, 1, 5]) (.seq (.seq (.reg false [⟨some 9, Go.Op.move (Go.Operand.tmp 5), none, false⟩,
    ⟨some 10, Go.Op.move (Go.Operand.tmp 1), none, false⟩,
    ⟨some 11, Go.Op.binOp Go.BinOp.neq 3 (Go.Operand.tmp 9) (Go.Operand.tmp 10) 3, none, false⟩] [0, 1, 5, 11]) (.cond (Go.Operand.tmp 11) (.seq (.reg false [⟨some 12, Go.Op.move (Go.Operand.tmp 0), none, false⟩,
    ⟨some 13, Go.Op.move (Go.Operand.tmp 1), none, false⟩,
    ⟨some 14, Go.Op.move (Go.Operand.tmp 5), none, false⟩,
    ⟨some 15, Go.Op.call { callee := Go.Callee.invoke (Go.Operand.tmp 12) "Swap", args := #[Go.Operand.tmp 13, Go.Operand.tmp 14], argTypes := #[3, 3] }, none, false⟩] [0, 1, 5]) (.seq (.reg false [⟨some 16, Go.Op.move (Go.Operand.tmp 0), none, false⟩,
    ⟨some 17, Go.Op.move (Go.Operand.tmp 1), none, false⟩,
    ⟨some 18, Go.Op.move (Go.Operand.tmp 5), none, false⟩,
    ⟨some 19, Go.Op.call { callee := Go.Callee.value (Go.Operand.func 55), args := #[Go.Operand.tmp 16, Go.Operand.tmp 17, Go.Operand.tmp 18], argTypes := #[117, 3, 3] }, none, false⟩,
    ⟨some 20, Go.Op.unOp Go.UnOp.not 4 (Go.Operand.tmp 19), none, false⟩] [0, 1, 20]) (.cond (Go.Operand.tmp 20) (.reg false [⟨some 21, Go.Op.move (Go.Operand.tmp 0), none, false⟩,
    ⟨some 22, Go.Op.move (Go.Operand.tmp 1), none, false⟩,
    ⟨some 23, Go.Op.call { callee := Go.Callee.value (Go.Operand.func 60), args := #[Go.Operand.tmp 21, Go.Operand.tmp 22], argTypes := #[117, 3] }, none, false⟩] [0]) (.skip)))) (.skip))) (.seq (.reg false [⟨some 24, Go.Op.move (Go.Operand.tmp 0), none, false⟩,
    ⟨some 25, Go.Op.call { callee := Go.Callee.invoke (Go.Operand.tmp 24) "Pop", args := #[], argTypes := #[] }, none, false⟩,
    ⟨some 4, Go.Op.assign (Go.Operand.tmp 25), none, false⟩] [4]) (.ret))))
theorem Try.comp42 : ∃ c, Try.f42.body = some c ∧ compile c = erase Try.C42 := ⟨_, rfl, by kernel_rfl⟩
theorem Try.rs42 : Try.f42.results.toList = [Go.ResultVar.tmp 4] := by kernel_rfl
theorem Try.nt42 : Try.f42.ntmps = 26 := by kernel_rfl
theorem Try.en42 : ∀ vs w, (callFunc 42 vs).run Try.prog w = .ok (.enter 42 vs) w := enters_of Try.func42 (by kernel_rfl) rfl
theorem Try.ctr42 {a0 a1 : V} {bx : Boxes} {Kc : V → Boxes → Prop} (h : FinB bx → pw Try.prog Try.C42 (retQ Try.prog [Go.ResultVar.tmp 4] Kc) ⟨26, slk [(0, a0), (1, a1)], bx⟩) : AbsCall Try.prog 42 [a0, a1] bx Kc := abs_of (by kernel_rfl) Try.func42 Try.comp42 Try.en42 Try.nt42 Try.rs42 (fun hb => by rw [initSt_2]; exact h hb)
noncomputable def Try.C43 : PC := .seq (.reg false [⟨some 4, Go.Op.move (Go.Operand.tmp 0), none, false⟩,
    ⟨some 5, Go.Op.move (Go.Operand.tmp 1), none, false⟩,
    ⟨some 6, Go.Op.call { callee := Go.Callee.invoke (Go.Operand.tmp 4) "Push", args := #[Go.Operand.tmp 5], argTypes := #[20] }, none, false⟩] [0]) (.reg false [⟨some 7, Go.Op.move (Go.Operand.tmp 0), none, false⟩,
    ⟨some 8, Go.Op.move (Go.Operand.tmp 0), none, false⟩,
    ⟨some 9, Go.Op.call { callee := Go.Callee.invoke (Go.Operand.tmp 8) "Len", args := #[], argTypes := #[] }, none, false⟩,
    ⟨some 10, Go.Op.binOp Go.BinOp.sub 3 (Go.Operand.tmp 9) (Go.Operand.const (Go.Value.int Go.IntKind.i64 1)) 3, none, false⟩,
    ⟨some 11, Go.Op.call { callee := Go.Callee.value (Go.Operand.func 60), args := #[Go.Operand.tmp 7, Go.Operand.tmp 10], argTypes := #[117, 3] }, none, false⟩] [])
theorem Try.comp43 : ∃ c, Try.f43.body = some c ∧ compile c = erase Try.C43 := ⟨_, rfl, by kernel_rfl⟩
theorem Try.rs43 : Try.f43.results.toList = [] := by kernel_rfl
theorem Try.nt43 : Try.f43.ntmps = 12 := by kernel_rfl
theorem Try.en43 : ∀ vs w, (callFunc 43 vs).run Try.prog w = .ok (.enter 43 vs) w := enters_of Try.func43 (by kernel_rfl) rfl
theorem Try.ctr43 {a0 a1 : V} {bx : Boxes} {Kc : V → Boxes → Prop} (h : FinB bx → pw Try.prog Try.C43 (retQ Try.prog [] Kc) ⟨12, slk [(0, a0), (1, a1)], bx⟩) : AbsCall Try.prog 43 [a0, a1] bx Kc := abs_of (by kernel_rfl) Try.func43 Try.comp43 Try.en43 Try.nt43 Try.rs43 (fun hb => by rw [initSt_2]; exact h hb)
noncomputable def Try.C44 : PC := .seq (.reg false [⟨some 4, Go.Op.move (Go.Operand.tmp 0), none, false⟩,
    ⟨some 5, Go.Op.move (Go.Operand.tmp 1), none, false⟩,
    ⟨some 6, Go.Op.move (Go.Operand.tmp 0), none, false⟩,
    ⟨some 7, Go.Op.call { callee := Go.Callee.invoke (Go.Operand.tmp 6) "Len", args := #[], argTypes := #[] }, none, false⟩,
    ⟨some 8, Go.Op.call { callee := Go.Callee.value (Go.Operand.func 55), args := #[Go.Operand.tmp 4, Go.Operand.tmp 5, Go.Operand.tmp 7], argTypes := #[117, 3, 3] }, none, false⟩,
    ⟨some 9, Go.Op.unOp Go.UnOp.not 4 (Go.Operand.tmp 8), none, false⟩] [0, 1, 9]) (.cond (Go.Operand.tmp 9) (.reg false [⟨some 10, Go.Op.move (Go.Operand.tmp 0), none, false⟩,
    ⟨some 11, Go.Op.move (Go.Operand.tmp 1), none, false⟩,
    ⟨some 12, Go.Op.call { callee := Go.Callee.value (Go.Operand.func 60), args := #[Go.Operand.tmp 10, Go.Operand.tmp 11], argTypes := #[117, 3] }, none, false⟩] []) (.skip))
theorem Try.comp44 : ∃ c, Try.f44.body = some c ∧ compile c = erase Try.C44 := ⟨_, rfl, by kernel_rfl⟩
theorem Try.rs44 : Try.f44.results.toList = [] := by kernel_rfl
theorem Try.nt44 : Try.f44.ntmps = 13 := by kernel_rfl
theorem Try.en44 : ∀ vs w, (callFunc 44 vs).run Try.prog w = .ok (.enter 44 vs) w := enters_of Try.func44 (by kernel_rfl) rfl
theorem Try.ctr44 {a0 a1 : V} {bx : Boxes} {Kc : V → Boxes → Prop} (h : FinB bx → pw Try.prog Try.C44 (retQ Try.prog [] Kc) ⟨13, slk [(0, a0), (1, a1)], bx⟩) : AbsCall Try.prog 44 [a0, a1] bx Kc := abs_of (by kernel_rfl) Try.func44 Try.comp44 Try.en44 Try.nt44 Try.rs44 (fun hb => by rw [initSt_2]; exact h hb)
noncomputable def Try.C46 : PC := .seq (.reg false [⟨some 6, Go.Op.assign (Go.Operand.const (Go.Value.bool false)), none, false⟩] [0, 1, 2]) (.seq (.reg true [⟨some 7, Go.Op.move (Go.Operand.tmp 0), none, false⟩,
    ⟨some 8, Go.Op.move (Go.Operand.tmp 0), none, false⟩,
    ⟨some 9, Go.Op.nilCheck (Go.Operand.tmp 8), none, false⟩,
    ⟨some 10, Go.Op.fieldAddr 76 (Go.Operand.tmp 9) 0, none, false⟩,
    ⟨some 11, Go.Op.load 74 (Go.Operand.tmp 10), none, false⟩,
    ⟨some 12, Go.Op.move (Go.Operand.tmp 1), none, false⟩,
    ⟨some 13, Go.Op.indexAddr 74 (Go.Operand.tmp 11) (Go.Operand.tmp 12), none, false⟩,
    ⟨some 14, Go.Op.load 85 (Go.Operand.tmp 13), none, false⟩,
    ⟨some 15, Go.Op.move (Go.Operand.tmp 0), none, false⟩,
    ⟨some 16, Go.Op.nilCheck (Go.Operand.tmp 15), none, false⟩,
    ⟨some 17, Go.Op.fieldAddr 76 (Go.Operand.tmp 16) 0, none, false⟩,
    ⟨some 18, Go.Op.load 74 (Go.Operand.tmp 17), none, false⟩,
    ⟨some 19, Go.Op.move (Go.Operand.tmp 2), none, false⟩,
    ⟨some 20, Go.Op.indexAddr 74 (Go.Operand.tmp 18) (Go.Operand.tmp 19), none, false⟩,
    ⟨some 21, Go.Op.load 85 (Go.Operand.tmp 20), none, false⟩,
    ⟨some 22, Go.Op.call { callee := Go.Callee.value (Go.Operand.func 59), args := #[Go.Operand.tmp 7, Go.Operand.tmp 14, Go.Operand.tmp 21], argTypes := #[83, 85, 85] }, none, false⟩,
    ⟨some 6, Go.Op.assign (Go.Operand.tmp 22), none, false⟩] [6]) (.ret))
theorem Try.comp46 : ∃ c, Try.f46.body = some c ∧ compile c = erase Try.C46 := ⟨_, rfl, by kernel_rfl⟩
theorem Try.rs46 : Try.f46.results.toList = [Go.ResultVar.tmp 6] := by kernel_rfl
theorem Try.nt46 : Try.f46.ntmps = 23 := by kernel_rfl
theorem Try.en46 : ∀ vs w, (callFunc 46 vs).run Try.prog w = .ok (.enter 46 vs) w := enters_of Try.func46 (by kernel_rfl) rfl
theorem Try.ctr46 {a0 a1 a2 : V} {bx : Boxes} {Kc : V → Boxes → Prop} (h : FinB bx → pw Try.prog Try.C46 (retQ Try.prog [Go.ResultVar.tmp 6] Kc) ⟨23, slk [(0, a0), (1, a1), (2, a2)], bx⟩) : AbsCall Try.prog 46 [a0, a1, a2] bx Kc := abs_of (by kernel_rfl) Try.func46 Try.comp46 Try.en46 Try.nt46 Try.rs46 (fun hb => by rw [initSt_3]; exact h hb)
noncomputable def Try.L55_0 : PC := .block 1 (.seq (.reg false [⟨some 12, Go.Op.move (Go.Operand.tmp 7), none, false⟩,
    ⟨some 13, Go.Op.binOp Go.BinOp.mul 3 (Go.Operand.const (Go.Value.int Go.IntKind.i64 2)) (Go.Operand.tmp 12) 3, none, false⟩,
    ⟨some 14, Go.Op.binOp Go.BinOp.add 3 (Go.Operand.tmp 13) (Go.Operand.const (Go.Value.int Go.IntKind.i64 1)) 3, none, false⟩,
    ⟨some 8, Go.Op.assign (Go.Operand.tmp 14), none, false⟩] [0, 1, 2, 7, 8]) (.seq (.seq (.reg false [⟨some 15, Go.Op.move (Go.Operand.tmp 8), none, false⟩,
    ⟨some 16, Go.Op.move (Go.Operand.tmp 2), none, false⟩,
    ⟨some 17, Go.Op.binOp Go.BinOp.geq 3 (Go.Operand.tmp 15) (Go.Operand.tmp 16) 3, none, false⟩,
    ⟨some 18, Go.Op.move (Go.Operand.tmp 17), none, false⟩,
    ⟨some 19, Go.Op.move (Go.Operand.tmp 8), some (18, false), false⟩,
    ⟨some 20, Go.Op.binOp Go.BinOp.lss 3 (Go.Operand.tmp 19) (Go.Operand.const (Go.Value.int Go.IntKind.i64 0)) 3, some (18, false), false⟩,
    ⟨some 21, Go.Op.pick (Go.Operand.tmp 18) (Go.Operand.const (Go.Value.bool true)) (Go.Operand.tmp 20), none, false⟩] [0, 1, 2, 7, 8, 21]) (.cond (Go.Operand.tmp 21) (.exit 0) (.skip))) (.seq (.reg false [⟨some 22, Go.Op.move (Go.Operand.tmp 8), none, false⟩,
    ⟨some 9, Go.Op.assign (Go.Operand.tmp 22), none, false⟩] [0, 1, 2, 7, 8, 9]) (.seq (.seq (.reg false [⟨some 23, Go.Op.move (Go.Operand.tmp 8), none, false⟩,
    ⟨some 24, Go.Op.binOp Go.BinOp.add 3 (Go.Operand.tmp 23) (Go.Operand.const (Go.Value.int Go.IntKind.i64 1)) 3, none, false⟩,
    ⟨some 10, Go.Op.assign (Go.Operand.tmp 24), none, false⟩] [0, 1, 2, 7, 8, 9, 10]) (.seq (.reg false [⟨some 25, Go.Op.move (Go.Operand.tmp 10), none, false⟩,
    ⟨some 26, Go.Op.move (Go.Operand.tmp 2), none, false⟩,
    ⟨some 27, Go.Op.binOp Go.BinOp.lss 3 (Go.Operand.tmp 25) (Go.Operand.tmp 26) 3, none, false⟩,
    ⟨some 28, Go.Op.move (Go.Operand.tmp 27), none, false⟩,
    ⟨some 29, Go.Op.move (Go.Operand.tmp 0), some (28, true), false⟩,
    ⟨some 30, Go.Op.move (Go.Operand.tmp 10), some (28, true), false⟩,
    ⟨some 31, Go.Op.move (Go.Operand.tmp 8), some (28, true), false⟩,
    ⟨some 32, Go.Op.call { callee := Go.Callee.invoke (Go.Operand.tmp 29) "Less", args := #[Go.Operand.tmp 30, Go.Operand.tmp 31], argTypes := #[3, 3] }, some (28, true), false⟩,
    ⟨some 33, Go.Op.pick (Go.Operand.tmp 28) (Go.Operand.tmp 32) (Go.Operand.const (Go.Value.bool false)), none, false⟩] [0, 1, 2, 7, 9, 10, 33]) (.cond (Go.Operand.tmp 33) (.reg false [⟨some 34, Go.Op.move (Go.Operand.tmp 10), none, false⟩,
    ⟨some 9, Go.Op.assign (Go.Operand.tmp 34), none, false⟩] [0, 1, 2, 7, 9]) (.skip)))) (.seq (.seq (.reg false [⟨some 35, Go.Op.move (Go.Operand.tmp 0), none, false⟩,
    ⟨some 36, Go.Op.move (Go.Operand.tmp 9), none, false⟩,
    ⟨some 37, Go.Op.move (Go.Operand.tmp 7), none, false⟩,
    ⟨some 38, Go.Op.call { callee := Go.Callee.invoke (Go.Operand.tmp 35) "Less", args := #[Go.Operand.tmp 36, Go.Operand.tmp 37], argTypes := #[3, 3] }, none, false⟩,
    ⟨some 39, Go.Op.unOp Go.UnOp.not 4 (Go.Operand.tmp 38), none, false⟩] [0, 1, 2, 7, 9, 39]) (.cond (Go.Operand.tmp 39) (.exit 0) (.skip))) (.seq (.reg false [⟨some 40, Go.Op.move (Go.Operand.tmp 0), none, false⟩,
    ⟨some 41, Go.Op.move (Go.Operand.tmp 7), none, false⟩,
    ⟨some 42, Go.Op.move (Go.Operand.tmp 9), none, false⟩,
    ⟨some 43, Go.Op.call { callee := Go.Callee.invoke (Go.Operand.tmp 40) "Swap", args := #[Go.Operand.tmp 41, Go.Operand.tmp 42], argTypes := #[3, 3] }, none, false⟩] [0, 1, 2, 9]) (.reg false [⟨some 44, Go.Op.move (Go.Operand.tmp 9), none, false⟩,
    ⟨some 7, Go.Op.assign (Go.Operand.tmp 44), none, false⟩] [0, 1, 2, 7])))))))
noncomputable def Try.C55 : PC := .seq (.reg false [⟨some 6, Go.Op.assign (Go.Operand.const (Go.Value.bool false)), none, false⟩] [0, 1, 2]) (.seq (.reg false [⟨some 11, Go.Op.move (Go.Operand.tmp 1), none, false⟩,
    ⟨some 7, Go.Op.assign (Go.Operand.tmp 11), none, false⟩] [0, 1, 2, 7]) (.seq (.block 0 (.loop Try.L55_0)) (.seq (.reg false [⟨some 45, Go.Op.move (Go.Operand.tmp 7), none, false⟩,
    ⟨some 46, Go.Op.move (Go.Operand.tmp 1), none, false⟩,
    ⟨some 47, Go.Op.binOp Go.BinOp.gtr 3 (Go.Operand.tmp 45) (Go.Operand.tmp 46) 3, none, false⟩,
    ⟨some 6, Go.Op.assign (Go.Operand.tmp 47), none, false⟩] [6]) (.ret))))
theorem Try.comp55 : ∃ c, Try.f55.body = some c ∧ compile c = erase Try.C55 := ⟨_, rfl, by kernel_rfl⟩
theorem Try.rs55 : Try.f55.results.toList = [Go.ResultVar.tmp 6] := by kernel_rfl
theorem Try.nt55 : Try.f55.ntmps = 48 := by kernel_rfl
theorem Try.en55 : ∀ vs w, (callFunc 55 vs).run Try.prog w = .ok (.enter 55 vs) w := enters_of Try.func55 (by kernel_rfl) rfl
theorem Try.ctr55 {a0 a1 a2 : V} {bx : Boxes} {Kc : V → Boxes → Prop} (h : FinB bx → pw Try.prog Try.C55 (retQ Try.prog [Go.ResultVar.tmp 6] Kc) ⟨48, slk [(0, a0), (1, a1), (2, a2)], bx⟩) : AbsCall Try.prog 55 [a0, a1, a2] bx Kc := abs_of (by kernel_rfl) Try.func55 Try.comp55 Try.en55 Try.nt55 Try.rs55 (fun hb => by rw [initSt_3]; exact h hb)
noncomputable def Try.C56 : PC := .seq (.reg false [⟨some 2, Go.Op.assign (Go.Operand.const (Go.Value.slice none 0 0)), none, false⟩] [0]) (.seq (.seq (.reg false [⟨some 3, Go.Op.move (Go.Operand.tmp 0), none, false⟩,
    ⟨some 4, Go.Op.binOp Go.BinOp.eql 74 (Go.Operand.tmp 3) (Go.Operand.const (Go.Value.slice none 0 0)) 74, none, true⟩] [0, 4]) (.cond (Go.Operand.tmp 4) (.seq (.reg false [⟨some 2, Go.Op.assign (Go.Operand.const (Go.Value.slice none 0 0)), none, false⟩] [2]) (.ret)) (.skip))) (.seq (.reg false [⟨some 5, Go.Op.buildSlice 74 0 #[], none, false⟩,
    ⟨some 6, Go.Op.move (Go.Operand.tmp 0), none, false⟩,
    ⟨some 7, Go.Op.call { callee := Go.Callee.builtin Go.Builtin.append, args := #[Go.Operand.tmp 5, Go.Operand.tmp 6], argTypes := #[74, 74] }, none, false⟩,
    ⟨some 2, Go.Op.assign (Go.Operand.tmp 7), none, false⟩] [2]) (.ret)))
theorem Try.comp56 : ∃ c, Try.f56.body = some c ∧ compile c = erase Try.C56 := ⟨_, rfl, by kernel_rfl⟩
theorem Try.rs56 : Try.f56.results.toList = [Go.ResultVar.tmp 2] := by kernel_rfl
theorem Try.nt56 : Try.f56.ntmps = 8 := by kernel_rfl
theorem Try.en56 : ∀ vs w, (callFunc 56 vs).run Try.prog w = .ok (.enter 56 vs) w := enters_of Try.func56 (by kernel_rfl) rfl
theorem Try.ctr56 {a0 : V} {bx : Boxes} {Kc : V → Boxes → Prop} (h : FinB bx → pw Try.prog Try.C56 (retQ Try.prog [Go.ResultVar.tmp 2] Kc) ⟨8, slk [(0, a0)], bx⟩) : AbsCall Try.prog 56 [a0] bx Kc := abs_of (by kernel_rfl) Try.func56 Try.comp56 Try.en56 Try.nt56 Try.rs56 (fun hb => by rw [initSt_1]; exact h hb)
theorem Try.en58 : ∀ vs w, (callFunc 58 vs).run Try.prog w = .ok (.enter 58 vs) w := enters_of Try.func58 (by kernel_rfl) rfl
noncomputable def Try.C59 : PC := .seq (.reg false [⟨some 6, Go.Op.assign (Go.Operand.const (Go.Value.bool false)), none, false⟩] [0, 1, 2]) (.seq (.block 0 (.seq (.reg true [⟨some 8, Go.Op.move (Go.Operand.tmp 0), none, false⟩,
    ⟨some 9, Go.Op.nilCheck (Go.Operand.tmp 8), none, false⟩,
    ⟨some 10, Go.Op.fieldAddr 76 (Go.Operand.tmp 9) 1, none, false⟩,
    ⟨some 11, Go.Op.load 26 (Go.Operand.tmp 10), none, false⟩,
    ⟨some 12, Go.Op.move (Go.Operand.tmp 1), none, false⟩,
    ⟨some 13, Go.Op.nilCheck (Go.Operand.tmp 12), none, false⟩,
    ⟨some 14, Go.Op.fieldAddr 90 (Go.Operand.tmp 13) 1, none, false⟩,
    ⟨some 15, Go.Op.load 3 (Go.Operand.tmp 14), none, false⟩,
    ⟨some 16, Go.Op.move (Go.Operand.tmp 2), none, false⟩,
    ⟨some 17, Go.Op.nilCheck (Go.Operand.tmp 16), none, false⟩,
    ⟨some 18, Go.Op.fieldAddr 90 (Go.Operand.tmp 17) 1, none, false⟩,
    ⟨some 19, Go.Op.load 3 (Go.Operand.tmp 18), none, false⟩,
    ⟨some 20, Go.Op.call { callee := Go.Callee.value (Go.Operand.tmp 11), args := #[Go.Operand.tmp 15, Go.Operand.tmp 19], argTypes := #[3, 3] }, none, false⟩,
    ⟨some 7, Go.Op.assign (Go.Operand.tmp 20), none, false⟩] [0, 1, 2, 7]) (.cond (Go.Operand.tmp 7) (.seq (.reg false [⟨some 6, Go.Op.assign (Go.Operand.const (Go.Value.bool true)), none, false⟩] [6]) (.ret)) (.seq (.reg true [⟨some 22, Go.Op.move (Go.Operand.tmp 0), none, false⟩,
    ⟨some 23, Go.Op.nilCheck (Go.Operand.tmp 22), none, false⟩,
    ⟨some 24, Go.Op.fieldAddr 76 (Go.Operand.tmp 23) 1, none, false⟩,
    ⟨some 25, Go.Op.load 26 (Go.Operand.tmp 24), none, false⟩,
    ⟨some 26, Go.Op.move (Go.Operand.tmp 2), none, false⟩,
    ⟨some 27, Go.Op.nilCheck (Go.Operand.tmp 26), none, false⟩,
    ⟨some 28, Go.Op.fieldAddr 90 (Go.Operand.tmp 27) 1, none, false⟩,
    ⟨some 29, Go.Op.load 3 (Go.Operand.tmp 28), none, false⟩,
    ⟨some 30, Go.Op.move (Go.Operand.tmp 1), none, false⟩,
    ⟨some 31, Go.Op.nilCheck (Go.Operand.tmp 30), none, false⟩,
    ⟨some 32, Go.Op.fieldAddr 90 (Go.Operand.tmp 31) 1, none, false⟩,
    ⟨some 33, Go.Op.load 3 (Go.Operand.tmp 32), none, false⟩,
    ⟨some 34, Go.Op.call { callee := Go.Callee.value (Go.Operand.tmp 25), args := #[Go.Operand.tmp 29, Go.Operand.tmp 33], argTypes := #[3, 3] }, none, false⟩,
    ⟨some 21, Go.Op.assign (Go.Operand.tmp 34), none, false⟩] [1, 2, 21]) (.cond (Go.Operand.tmp 21) (.seq (.reg false [⟨some 6, Go.Op.assign (Go.Operand.const (Go.Value.bool false)), none, false⟩] [6]) (.ret)) (.skip)))))) (.seq (.reg true [⟨some 35, Go.Op.move (Go.Operand.tmp 1), none, false⟩,
    ⟨some 36, Go.Op.nilCheck (Go.Operand.tmp 35), none, false⟩,
    ⟨some 37, Go.Op.fieldAddr 90 (Go.Operand.tmp 36) 0, none, false⟩,
    ⟨some 38, Go.Op.load 2 (Go.Operand.tmp 37), none, false⟩,
    ⟨some 39, Go.Op.move (Go.Operand.tmp 2), none, false⟩,
    ⟨some 40, Go.Op.nilCheck (Go.Operand.tmp 39), none, false⟩,
    ⟨some 41, Go.Op.fieldAddr 90 (Go.Operand.tmp 40) 0, none, false⟩,
    ⟨some 42, Go.Op.load 2 (Go.Operand.tmp 41), none, false⟩,
    ⟨some 43, Go.Op.binOp Go.BinOp.lss 2 (Go.Operand.tmp 38) (Go.Operand.tmp 42) 2, none, false⟩,
    ⟨some 6, Go.Op.assign (Go.Operand.tmp 43), none, false⟩] [6]) (.ret)))
theorem Try.comp59 : ∃ c, Try.f59.body = some c ∧ compile c = erase Try.C59 := ⟨_, rfl, by kernel_rfl⟩
theorem Try.rs59 : Try.f59.results.toList = [Go.ResultVar.tmp 6] := by kernel_rfl
theorem Try.nt59 : Try.f59.ntmps = 44 := by kernel_rfl
theorem Try.en59 : ∀ vs w, (callFunc 59 vs).run Try.prog w = .ok (.enter 59 vs) w := enters_of Try.func59 (by kernel_rfl) rfl
theorem Try.ctr59 {a0 a1 a2 : V} {bx : Boxes} {Kc : V → Boxes → Prop} (h : FinB bx → pw Try.prog Try.C59 (retQ Try.prog [Go.ResultVar.tmp 6] Kc) ⟨44, slk [(0, a0), (1, a1), (2, a2)], bx⟩) : AbsCall Try.prog 59 [a0, a1, a2] bx Kc := abs_of (by kernel_rfl) Try.func59 Try.comp59 Try.en59 Try.nt59 Try.rs59 (fun hb => by rw [initSt_3]; exact h hb)
noncomputable def Try.L60_0 : PC := .block 1 (.seq (.reg false [⟨some 5, Go.Op.move (Go.Operand.tmp 1), none, false⟩,
    ⟨some 6, Go.Op.binOp Go.BinOp.sub 3 (Go.Operand.tmp 5) (Go.Operand.const (Go.Value.int Go.IntKind.i64 1)) 3, none, false⟩,
    ⟨some 7, Go.Op.binOp Go.BinOp.quo 3 (Go.Operand.tmp 6) (Go.Operand.const (Go.Value.int Go.IntKind.i64 2)) 3, none, false⟩,
    ⟨some 4, Go.Op.assign (Go.Operand.tmp 7), none, false⟩] [0, 1, 4]) (.seq (.seq (.reg false [⟨some 8, Go.Op.move (Go.Operand.tmp 4), none, false⟩,
    ⟨some 9, Go.Op.move (Go.Operand.tmp 1), none, false⟩,
    ⟨some 10, Go.Op.binOp Go.BinOp.eql 3 (Go.Operand.tmp 8) (Go.Operand.tmp 9) 3, none, false⟩,
    ⟨some 11, Go.Op.move (Go.Operand.tmp 10), none, false⟩,
    ⟨some 12, Go.Op.move (Go.Operand.tmp 0), some (11, false), false⟩,
    ⟨some 13, Go.Op.move (Go.Operand.tmp 1), some (11, false), false⟩,
    ⟨some 14, Go.Op.move (Go.Operand.tmp 4), some (11, false), false⟩,
    ⟨some 15, Go.Op.call { callee := Go.Callee.invoke (Go.Operand.tmp 12) "Less", args := #[Go.Operand.tmp 13, Go.Operand.tmp 14], argTypes := #[3, 3] }, some (11, false), false⟩,
    ⟨some 16, Go.Op.unOp Go.UnOp.not 4 (Go.Operand.tmp 15), some (11, false), false⟩,
    ⟨some 17, Go.Op.pick (Go.Operand.tmp 11) (Go.Operand.const (Go.Value.bool true)) (Go.Operand.tmp 16), none, false⟩] [0, 1, 4, 17]) (.cond (Go.Operand.tmp 17) (.exit 0) (.skip))) (.seq (.reg false [⟨some 18, Go.Op.move (Go.Operand.tmp 0), none, false⟩,
    ⟨some 19, Go.Op.move (Go.Operand.tmp 4), none, false⟩,
    ⟨some 20, Go.Op.move (Go.Operand.tmp 1), none, false⟩,
    ⟨some 21, Go.Op.call { callee := Go.Callee.invoke (Go.Operand.tmp 18) "Swap", args := #[Go.Operand.tmp 19, Go.Operand.tmp 20], argTypes := #[3, 3] }, none, false⟩] [0, 4]) (.reg false [⟨some 22, Go.Op.move (Go.Operand.tmp 4), none, false⟩,
    ⟨some 1, Go.Op.assign (Go.Operand.tmp 22), none, false⟩] [0, 1]))))
noncomputable def Try.C60 : PC := .block 0 (.loop Try.L60_0)
theorem Try.comp60 : ∃ c, Try.f60.body = some c ∧ compile c = erase Try.C60 := ⟨_, rfl, by kernel_rfl⟩
theorem Try.rs60 : Try.f60.results.toList = [] := by kernel_rfl
theorem Try.nt60 : Try.f60.ntmps = 23 := by kernel_rfl
theorem Try.en60 : ∀ vs w, (callFunc 60 vs).run Try.prog w = .ok (.enter 60 vs) w := enters_of Try.func60 (by kernel_rfl) rfl
theorem Try.ctr60 {a0 a1 : V} {bx : Boxes} {Kc : V → Boxes → Prop} (h : FinB bx → pw Try.prog Try.C60 (retQ Try.prog [] Kc) ⟨23, slk [(0, a0), (1, a1)], bx⟩) : AbsCall Try.prog 60 [a0, a1] bx Kc := abs_of (by kernel_rfl) Try.func60 Try.comp60 Try.en60 Try.nt60 Try.rs60 (fun hb => by rw [initSt_2]; exact h hb)
noncomputable def Try.C106 : PC := .seq (.reg false [⟨some 2, Go.Op.assign (Go.Operand.const (Go.Value.int Go.IntKind.i64 0)), none, false⟩] [0]) (.seq (.reg false [⟨some 3, Go.Op.move (Go.Operand.tmp 0), none, false⟩,
    ⟨some 4, Go.Op.nilCheck (Go.Operand.tmp 3), none, false⟩,
    ⟨some 5, Go.Op.fieldAddr 76 (Go.Operand.tmp 4) 0, none, false⟩,
    ⟨some 6, Go.Op.load 74 (Go.Operand.tmp 5), none, false⟩,
    ⟨some 7, Go.Op.call { callee := Go.Callee.builtin Go.Builtin.len, args := #[Go.Operand.tmp 6], argTypes := #[74] }, none, false⟩,
    ⟨some 2, Go.Op.assign (Go.Operand.tmp 7), none, false⟩] [2]) (.ret))
theorem Try.comp106 : ∃ c, Try.f106.body = some c ∧ compile c = erase Try.C106 := ⟨_, rfl, by kernel_rfl⟩
theorem Try.rs106 : Try.f106.results.toList = [Go.ResultVar.tmp 2] := by kernel_rfl
theorem Try.nt106 : Try.f106.ntmps = 8 := by kernel_rfl
theorem Try.en106 : ∀ vs w, (callFunc 106 vs).run Try.prog w = .ok (.enter 106 vs) w := enters_of Try.func106 (by kernel_rfl) rfl
theorem Try.ctr106 {a0 : V} {bx : Boxes} {Kc : V → Boxes → Prop} (h : FinB bx → pw Try.prog Try.C106 (retQ Try.prog [Go.ResultVar.tmp 2] Kc) ⟨8, slk [(0, a0)], bx⟩) : AbsCall Try.prog 106 [a0] bx Kc := abs_of (by kernel_rfl) Try.func106 Try.comp106 Try.en106 Try.nt106 Try.rs106 (fun hb => by rw [initSt_1]; exact h hb)
noncomputable def Try.C107 : PC := .seq (.reg false [⟨some 2, Go.Op.assign (Go.Operand.const Go.Value.nilIface), none, false⟩] [0]) (.seq (.reg false [⟨some 5, Go.Op.move (Go.Operand.tmp 0), none, false⟩,
    ⟨some 6, Go.Op.nilCheck (Go.Operand.tmp 5), none, false⟩,
    ⟨some 7, Go.Op.fieldAddr 76 (Go.Operand.tmp 6) 0, none, false⟩,
    ⟨some 8, Go.Op.load 74 (Go.Operand.tmp 7), none, false⟩,
    ⟨some 9, Go.Op.call { callee := Go.Callee.builtin Go.Builtin.len, args := #[Go.Operand.tmp 8], argTypes := #[74] }, none, false⟩,
    ⟨some 10, Go.Op.binOp Go.BinOp.sub 3 (Go.Operand.tmp 9) (Go.Operand.const (Go.Value.int Go.IntKind.i64 1)) 3, none, false⟩,
    ⟨some 3, Go.Op.assign (Go.Operand.tmp 10), none, false⟩] [0, 3]) (.seq (.reg false [⟨some 11, Go.Op.move (Go.Operand.tmp 0), none, false⟩,
    ⟨some 12, Go.Op.nilCheck (Go.Operand.tmp 11), none, false⟩,
    ⟨some 13, Go.Op.fieldAddr 76 (Go.Operand.tmp 12) 0, none, false⟩,
    ⟨some 14, Go.Op.load 74 (Go.Operand.tmp 13), none, false⟩,
    ⟨some 15, Go.Op.move (Go.Operand.tmp 3), none, false⟩,
    ⟨some 16, Go.Op.indexAddr 74 (Go.Operand.tmp 14) (Go.Operand.tmp 15), none, false⟩,
    ⟨some 17, Go.Op.load 85 (Go.Operand.tmp 16), none, false⟩,
    ⟨some 4, Go.Op.assign (Go.Operand.tmp 17), none, false⟩] [0, 3, 4]) (.seq (.reg false [⟨some 18, Go.Op.move (Go.Operand.tmp 0), none, false⟩,
    ⟨some 19, Go.Op.nilCheck (Go.Operand.tmp 18), none, false⟩,
    ⟨some 20, Go.Op.fieldAddr 76 (Go.Operand.tmp 19) 0, none, false⟩,
    ⟨some 21, Go.Op.load 74 (Go.Operand.tmp 20), none, false⟩,
    ⟨some 22, Go.Op.move (Go.Operand.tmp 3), none, false⟩,
    ⟨some 23, Go.Op.indexAddr 74 (Go.Operand.tmp 21) (Go.Operand.tmp 22), none, false⟩,
    ⟨none, Go.Op.store 85 (Go.Operand.tmp 23) (Go.Operand.const (Go.Value.pointer none)), none, false⟩] [0, 3, 4]) (.seq (.reg false [⟨some 24, Go.Op.move (Go.Operand.tmp 0), none, false⟩,
    ⟨some 25, Go.Op.move (Go.Operand.tmp 0), none, false⟩,
    ⟨some 26, Go.Op.nilCheck (Go.Operand.tmp 25), none, false⟩,
    ⟨some 27, Go.Op.fieldAddr 76 (Go.Operand.tmp 26) 0, none, false⟩,
    ⟨some 28, Go.Op.load 74 (Go.Operand.tmp 27), none, false⟩,
    ⟨some 29, Go.Op.move (Go.Operand.tmp 3), none, false⟩,
    ⟨some 30, Go.Op.slice 74 (Go.Operand.tmp 28) none (some (Go.Operand.tmp 29)) none, none, false⟩,
    ⟨some 31, Go.Op.nilCheck (Go.Operand.tmp 24), none, false⟩,
    ⟨some 32, Go.Op.fieldAddr 76 (Go.Operand.tmp 31) 0, none, false⟩,
    ⟨none, Go.Op.store 74 (Go.Operand.tmp 32) (Go.Operand.tmp 30), none, false⟩] [4]) (.seq (.reg false [⟨some 33, Go.Op.move (Go.Operand.tmp 4), none, false⟩,
    ⟨some 34, Go.Op.makeInterface 85 (Go.Operand.tmp 33), none, false⟩,
    ⟨some 2, Go.Op.assign (Go.Operand.tmp 34), none, false⟩] [2]) (.ret))))))
theorem Try.comp107 : ∃ c, Try.f107.body = some c ∧ compile c = erase Try.C107 := ⟨_, rfl, by kernel_rfl⟩
theorem Try.rs107 : Try.f107.results.toList = [Go.ResultVar.tmp 2] := by kernel_rfl
theorem Try.nt107 : Try.f107.ntmps = 35 := by kernel_rfl
theorem Try.en107 : ∀ vs w, (callFunc 107 vs).run Try.prog w = .ok (.enter 107 vs) w := enters_of Try.func107 (by kernel_rfl) rfl
theorem Try.ctr107 {a0 : V} {bx : Boxes} {Kc : V → Boxes → Prop} (h : FinB bx → pw Try.prog Try.C107 (retQ Try.prog [Go.ResultVar.tmp 2] Kc) ⟨35, slk [(0, a0)], bx⟩) : AbsCall Try.prog 107 [a0] bx Kc := abs_of (by kernel_rfl) Try.func107 Try.comp107 Try.en107 Try.nt107 Try.rs107 (fun hb => by rw [initSt_1]; exact h hb)
noncomputable def Try.C108 : PC := .seq (.reg false [⟨some 5, Go.Op.move (Go.Operand.tmp 1), none, false⟩,
    ⟨some 6, Go.Op.typeAssert (Go.Operand.tmp 5) 20 85 false, none, false⟩,
    ⟨some 4, Go.Op.assign (Go.Operand.tmp 6), none, false⟩] [0, 4]) (.seq (.reg false [⟨some 7, Go.Op.move (Go.Operand.tmp 4), none, false⟩,
    ⟨some 8, Go.Op.move (Go.Operand.tmp 0), none, false⟩,
    ⟨some 9, Go.Op.nilCheck (Go.Operand.tmp 8), none, false⟩,
    ⟨some 10, Go.Op.fieldAddr 76 (Go.Operand.tmp 9) 0, none, false⟩,
    ⟨some 11, Go.Op.load 74 (Go.Operand.tmp 10), none, false⟩,
    ⟨some 12, Go.Op.call { callee := Go.Callee.builtin Go.Builtin.len, args := #[Go.Operand.tmp 11], argTypes := #[74] }, none, false⟩,
    ⟨some 13, Go.Op.nilCheck (Go.Operand.tmp 7), none, false⟩,
    ⟨some 14, Go.Op.fieldAddr 90 (Go.Operand.tmp 13) 2, none, false⟩,
    ⟨none, Go.Op.store 3 (Go.Operand.tmp 14) (Go.Operand.tmp 12), none, false⟩] [0, 4]) (.reg false [⟨some 15, Go.Op.move (Go.Operand.tmp 0), none, false⟩,
    ⟨some 16, Go.Op.move (Go.Operand.tmp 0), none, false⟩,
    ⟨some 17, Go.Op.nilCheck (Go.Operand.tmp 16), none, false⟩,
    ⟨some 18, Go.Op.fieldAddr 76 (Go.Operand.tmp 17) 0, none, false⟩,
    ⟨some 19, Go.Op.load 74 (Go.Operand.tmp 18), none, false⟩,
    ⟨some 20, Go.Op.move (Go.Operand.tmp 4), none, false⟩,
    ⟨some 21, Go.Op.buildSlice 74 1 #[(0, Go.Operand.tmp 20)], none, false⟩,
    ⟨some 22, Go.Op.call { callee := Go.Callee.builtin Go.Builtin.append, args := #[Go.Operand.tmp 19, Go.Operand.tmp 21], argTypes := #[74, 74] }, none, false⟩,
    ⟨some 23, Go.Op.nilCheck (Go.Operand.tmp 15), none, false⟩,
    ⟨some 24, Go.Op.fieldAddr 76 (Go.Operand.tmp 23) 0, none, false⟩,
    ⟨none, Go.Op.store 74 (Go.Operand.tmp 24) (Go.Operand.tmp 22), none, false⟩] []))
theorem Try.comp108 : ∃ c, Try.f108.body = some c ∧ compile c = erase Try.C108 := ⟨_, rfl, by kernel_rfl⟩
theorem Try.rs108 : Try.f108.results.toList = [] := by kernel_rfl
theorem Try.nt108 : Try.f108.ntmps = 25 := by kernel_rfl
theorem Try.en108 : ∀ vs w, (callFunc 108 vs).run Try.prog w = .ok (.enter 108 vs) w := enters_of Try.func108 (by kernel_rfl) rfl
theorem Try.ctr108 {a0 a1 : V} {bx : Boxes} {Kc : V → Boxes → Prop} (h : FinB bx → pw Try.prog Try.C108 (retQ Try.prog [] Kc) ⟨25, slk [(0, a0), (1, a1)], bx⟩) : AbsCall Try.prog 108 [a0, a1] bx Kc := abs_of (by kernel_rfl) Try.func108 Try.comp108 Try.en108 Try.nt108 Try.rs108 (fun hb => by rw [initSt_2]; exact h hb)
noncomputable def Try.C109 : PC := .seq (.reg true [⟨some 6, Go.Op.move (Go.Operand.tmp 0), none, false⟩,
    ⟨some 7, Go.Op.nilCheck (Go.Operand.tmp 6), none, false⟩,
    ⟨some 8, Go.Op.fieldAddr 76 (Go.Operand.tmp 7) 0, none, false⟩,
    ⟨some 9, Go.Op.load 74 (Go.Operand.tmp 8), none, false⟩,
    ⟨some 10, Go.Op.move (Go.Operand.tmp 1), none, false⟩,
    ⟨some 11, Go.Op.move (Go.Operand.tmp 0), none, false⟩,
    ⟨some 12, Go.Op.nilCheck (Go.Operand.tmp 11), none, false⟩,
    ⟨some 13, Go.Op.fieldAddr 76 (Go.Operand.tmp 12) 0, none, false⟩,
    ⟨some 14, Go.Op.load 74 (Go.Operand.tmp 13), none, false⟩,
    ⟨some 15, Go.Op.move (Go.Operand.tmp 2), none, false⟩,
    ⟨some 16, Go.Op.move (Go.Operand.tmp 0), none, false⟩,
    ⟨some 17, Go.Op.nilCheck (Go.Operand.tmp 16), none, false⟩,
    ⟨some 18, Go.Op.fieldAddr 76 (Go.Operand.tmp 17) 0, none, false⟩,
    ⟨some 19, Go.Op.load 74 (Go.Operand.tmp 18), none, false⟩,
    ⟨some 20, Go.Op.move (Go.Operand.tmp 2), none, false⟩,
    ⟨some 21, Go.Op.indexAddr 74 (Go.Operand.tmp 19) (Go.Operand.tmp 20), none, false⟩,
    ⟨some 22, Go.Op.load 85 (Go.Operand.tmp 21), none, false⟩,
    ⟨some 23, Go.Op.move (Go.Operand.tmp 0), none, false⟩,
    ⟨some 24, Go.Op.nilCheck (Go.Operand.tmp 23), none, false⟩,
    ⟨some 25, Go.Op.fieldAddr 76 (Go.Operand.tmp 24) 0, none, false⟩,
    ⟨some 26, Go.Op.load 74 (Go.Operand.tmp 25), none, false⟩,
    ⟨some 27, Go.Op.move (Go.Operand.tmp 1), none, false⟩,
    ⟨some 28, Go.Op.indexAddr 74 (Go.Operand.tmp 26) (Go.Operand.tmp 27), none, false⟩,
    ⟨some 29, Go.Op.load 85 (Go.Operand.tmp 28), none, false⟩,
    ⟨some 30, Go.Op.indexAddr 74 (Go.Operand.tmp 9) (Go.Operand.tmp 10), none, false⟩,
    ⟨none, Go.Op.store 85 (Go.Operand.tmp 30) (Go.Operand.tmp 22), none, false⟩,
    ⟨some 31, Go.Op.indexAddr 74 (Go.Operand.tmp 14) (Go.Operand.tmp 15), none, false⟩,
    ⟨none, Go.Op.store 85 (Go.Operand.tmp 31) (Go.Operand.tmp 29), none, false⟩] [0, 1, 2]) (.reg true [⟨some 32, Go.Op.move (Go.Operand.tmp 0), none, false⟩,
    ⟨some 33, Go.Op.nilCheck (Go.Operand.tmp 32), none, false⟩,
    ⟨some 34, Go.Op.fieldAddr 76 (Go.Operand.tmp 33) 0, none, false⟩,
    ⟨some 35, Go.Op.load 74 (Go.Operand.tmp 34), none, false⟩,
    ⟨some 36, Go.Op.move (Go.Operand.tmp 1), none, false⟩,
    ⟨some 37, Go.Op.indexAddr 74 (Go.Operand.tmp 35) (Go.Operand.tmp 36), none, false⟩,
    ⟨some 38, Go.Op.load 85 (Go.Operand.tmp 37), none, false⟩,
    ⟨some 39, Go.Op.move (Go.Operand.tmp 0), none, false⟩,
    ⟨some 40, Go.Op.nilCheck (Go.Operand.tmp 39), none, false⟩,
    ⟨some 41, Go.Op.fieldAddr 76 (Go.Operand.tmp 40) 0, none, false⟩,
    ⟨some 42, Go.Op.load 74 (Go.Operand.tmp 41), none, false⟩,
    ⟨some 43, Go.Op.move (Go.Operand.tmp 2), none, false⟩,
    ⟨some 44, Go.Op.indexAddr 74 (Go.Operand.tmp 42) (Go.Operand.tmp 43), none, false⟩,
    ⟨some 45, Go.Op.load 85 (Go.Operand.tmp 44), none, false⟩,
    ⟨some 46, Go.Op.move (Go.Operand.tmp 1), none, false⟩,
    ⟨some 47, Go.Op.move (Go.Operand.tmp 2), none, false⟩,
    ⟨some 48, Go.Op.nilCheck (Go.Operand.tmp 38), none, false⟩,
    ⟨some 49, Go.Op.fieldAddr 90 (Go.Operand.tmp 48) 2, none, false⟩,
    ⟨none, Go.Op.store 3 (Go.Operand.tmp 49) (Go.Operand.tmp 46), none, false⟩,
    ⟨some 50, Go.Op.nilCheck (Go.Operand.tmp 45), none, false⟩,
    ⟨some 51, Go.Op.fieldAddr 90 (Go.Operand.tmp 50) 2, none, false⟩,
    ⟨none, Go.Op.store 3 (Go.Operand.tmp 51) (Go.Operand.tmp 47), none, false⟩] [])
theorem Try.comp109 : ∃ c, Try.f109.body = some c ∧ compile c = erase Try.C109 := ⟨_, rfl, by kernel_rfl⟩
theorem Try.rs109 : Try.f109.results.toList = [] := by kernel_rfl
theorem Try.nt109 : Try.f109.ntmps = 52 := by kernel_rfl
theorem Try.en109 : ∀ vs w, (callFunc 109 vs).run Try.prog w = .ok (.enter 109 vs) w := enters_of Try.func109 (by kernel_rfl) rfl
theorem Try.ctr109 {a0 a1 a2 : V} {bx : Boxes} {Kc : V → Boxes → Prop} (h : FinB bx → pw Try.prog Try.C109 (retQ Try.prog [] Kc) ⟨52, slk [(0, a0), (1, a1), (2, a2)], bx⟩) : AbsCall Try.prog 109 [a0, a1, a2] bx Kc := abs_of (by kernel_rfl) Try.func109 Try.comp109 Try.en109 Try.nt109 Try.rs109 (fun hb => by rw [initSt_3]; exact h hb)
end Go.Proofs
