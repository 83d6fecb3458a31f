/- Texts of the proof, put together: Pe. -/
import Derived.Test.YtkjhfnlnbjmahaaGreatDoorGg
import Derived.Test.YtkjhfnlnbjmahaaGreatDoorGd

set_option maxRecDepth 100000
namespace Go.Proofs
open Go Go.Pl
variable {a0 a1 a2 a3 a4 a5 a6 a7 a8 a9 : V} {bx : Boxes} {Kc : V → Boxes → Prop}
noncomputable def Tryz.C43 : PC := .seq (.reg false [⟨some 2, .assign (.const (.slice none 0 0)), none, false⟩] [0]) (.seq (.reg false [⟨some 4, .move (.tmp 0), none, false⟩, ⟨some 5, .call ⟨.value (.func 80), #[.tmp 4], #[62]⟩, none, false⟩, ⟨some 3, .assign (.tmp 5), none, false⟩] [3]) (.seq (.reg false [⟨some 6, .move (.tmp 3), none, false⟩, ⟨some 7, .call ⟨.value (.func 81), #[.tmp 6], #[25]⟩, none, false⟩] [3]) (.seq (.reg false [⟨some 8, .move (.tmp 3), none, false⟩, ⟨some 2, .assign (.tmp 8), none, false⟩] [2]) (.ret))))
theorem Tryz.comp43 : ∃ c, Tryz.f43.body = some c ∧ compile c = erase Tryz.C43 := ⟨_, rfl, by kernel_rfl⟩
theorem Tryz.rs43 : Tryz.f43.results.toList = [.tmp 2] := by kernel_rfl
theorem Tryz.nt43 : Tryz.f43.ntmps = 9 := by kernel_rfl
theorem Tryz.en43 : ∀ vs w, (callFunc 43 vs).run Tryz.prog w = .ok (.enter 43 vs) w := enters_of Tryz.func43 (by kernel_rfl) rfl
theorem Tryz.ctr43 (h : FinB bx → pw Tryz.prog Tryz.C43 (retQ Tryz.prog [.tmp 2] Kc) ⟨9, slk [(0, a0)], bx⟩) : AbsCall Tryz.prog 43 [a0] bx Kc := abs_of (by kernel_rfl) Tryz.func43 Tryz.comp43 Tryz.en43 Tryz.nt43 Tryz.rs43 (fun hb => by rw [initSt_1]; exact h hb)
noncomputable def Tryz.C44 : PC := .seq (.reg false [⟨some 1, .box 57 (.tmp 0), none, true⟩, ⟨some 2, .assign (.const .nilFunc), none, false⟩] [1]) (.seq (.reg false [⟨some 3, .makeFunc (.func 82) #[] #[.tmp 1], none, false⟩, ⟨some 2, .assign (.tmp 3), none, false⟩] [2]) (.ret))
theorem Tryz.comp44 : ∃ c, Tryz.f44.body = some c ∧ compile c = erase Tryz.C44 := ⟨_, rfl, by kernel_rfl⟩
theorem Tryz.rs44 : Tryz.f44.results.toList = [.tmp 2] := by kernel_rfl
theorem Tryz.nt44 : Tryz.f44.ntmps = 4 := by kernel_rfl
theorem Tryz.en44 : ∀ vs w, (callFunc 44 vs).run Tryz.prog w = .ok (.enter 44 vs) w := enters_of Tryz.func44 (by kernel_rfl) rfl
theorem Tryz.ctr44 (h : FinB bx → pw Tryz.prog Tryz.C44 (retQ Tryz.prog [.tmp 2] Kc) ⟨4, slk [(0, a0)], bx⟩) : AbsCall Tryz.prog 44 [a0] bx Kc := abs_of (by kernel_rfl) Tryz.func44 Tryz.comp44 Tryz.en44 Tryz.nt44 Tryz.rs44 (fun hb => by rw [initSt_1]; exact h hb)
noncomputable def Tryz.L50_0 : PC := .seq (.reg false [⟨some 18, .next (.tmp 17) false, none, false⟩, ⟨some 19, .extract (.tmp 18) 0, none, false⟩] [1, 2, 17, 19]) (.seq (.cond (.tmp 19) (.skip) (.exit 0)) (.block 1 (.seq (.reg false [⟨some 20, .entry (.tmp 17), none, false⟩, ⟨some 21, .extract (.tmp 20) 0, none, false⟩, ⟨some 22, .extract (.tmp 20) 1, none, false⟩, ⟨some 7, .assign (.tmp 21), none, false⟩, ⟨some 8, .assign (.tmp 22), none, false⟩] [1, 2, 7, 8, 17]) (.seq (.reg false [⟨some 24, .move (.tmp 1), none, false⟩, ⟨some 25, .move (.tmp 7), none, false⟩, ⟨some 26, .lookup 69 (.tmp 24) (.tmp 25) true, none, false⟩, ⟨some 23, .move (.tmp 26), none, false⟩, ⟨some 27, .extract (.tmp 23) 0, none, false⟩, ⟨some 28, .extract (.tmp 23) 1, none, false⟩, ⟨some 9, .assign (.tmp 27), none, false⟩, ⟨some 10, .assign (.tmp 28), none, false⟩] [1, 2, 8, 9, 10, 17]) (.seq (.reg false [⟨some 29, .move (.tmp 10), none, false⟩, ⟨some 30, .unOp .not 4 (.tmp 29), none, false⟩, ⟨some 31, .move (.tmp 30), none, false⟩, ⟨some 32, .move (.tmp 2), some (31, false), false⟩, ⟨some 33, .move (.tmp 8), some (31, false), false⟩, ⟨some 34, .move (.tmp 9), some (31, false), false⟩, ⟨some 35, .call ⟨.value (.tmp 32), #[.tmp 33, .tmp 34], #[25, 25]⟩, some (31, false), false⟩, ⟨some 36, .unOp .not 4 (.tmp 35), some (31, false), false⟩, ⟨some 37, .pick (.tmp 31) (.const (.bool true)) (.tmp 36), none, false⟩] [1, 2, 17, 37]) (.cond (.tmp 37) (.seq (.reg false [⟨some 6, .assign (.const (.bool false)), none, false⟩] [6]) (.ret)) (.skip)))))))
noncomputable def Tryz.C50 : PC := .seq (.reg false [⟨some 6, .assign (.const (.bool false)), none, false⟩] [0, 1, 2]) (.seq (.seq (.reg false [⟨some 11, .move (.tmp 0), none, false⟩, ⟨some 12, .call ⟨.builtin .len, #[.tmp 11], #[69]⟩, none, false⟩, ⟨some 13, .move (.tmp 1), none, false⟩, ⟨some 14, .call ⟨.builtin .len, #[.tmp 13], #[69]⟩, none, false⟩, ⟨some 15, .binOp .neq 3 (.tmp 12) (.tmp 14) 3, none, false⟩] [0, 1, 2, 15]) (.cond (.tmp 15) (.seq (.reg false [⟨some 6, .assign (.const (.bool false)), none, false⟩] [6]) (.ret)) (.skip))) (.seq (.seq (.reg false [⟨some 16, .move (.tmp 0), none, false⟩, ⟨some 17, .range 69 (.tmp 16), none, false⟩] [1, 2, 17]) (.block 0 (.loop Tryz.L50_0))) (.seq (.reg false [⟨some 6, .assign (.const (.bool true)), none, false⟩] [6]) (.ret))))
theorem Tryz.comp50 : ∃ c, Tryz.f50.body = some c ∧ compile c = erase Tryz.C50 := ⟨_, rfl, by kernel_rfl⟩
theorem Tryz.rs50 : Tryz.f50.results.toList = [.tmp 6] := by kernel_rfl
theorem Tryz.nt50 : Tryz.f50.ntmps = 38 := by kernel_rfl
theorem Tryz.en50 : ∀ vs w, (callFunc 50 vs).run Tryz.prog w = .ok (.enter 50 vs) w := enters_of Tryz.func50 (by kernel_rfl) rfl
theorem Tryz.ctr50 (h : FinB bx → pw Tryz.prog Tryz.C50 (retQ Tryz.prog [.tmp 6] Kc) ⟨38, slk [(0, a0), (1, a1), (2, a2)], bx⟩) : AbsCall Tryz.prog 50 [a0, a1, a2] bx Kc := abs_of (by kernel_rfl) Tryz.func50 Tryz.comp50 Tryz.en50 Tryz.nt50 Tryz.rs50 (fun hb => by rw [initSt_3]; exact h hb)
noncomputable def Tryz.C80 : PC := .seq (.reg false [⟨some 2, .assign (.const (.slice none 0 0)), none, false⟩] [0]) (.seq (.reg false [⟨some 3, .move (.tmp 0), none, false⟩, ⟨some 4, .call ⟨.value (.func 113), #[.const (.slice none 0 0), .tmp 3], #[25, 62]⟩, none, false⟩, ⟨some 2, .assign (.tmp 4), none, false⟩] [2]) (.ret))
theorem Tryz.comp80 : ∃ c, Tryz.f80.body = some c ∧ compile c = erase Tryz.C80 := ⟨_, rfl, by kernel_rfl⟩
theorem Tryz.rs80 : Tryz.f80.results.toList = [.tmp 2] := by kernel_rfl
theorem Tryz.nt80 : Tryz.f80.ntmps = 5 := by kernel_rfl
theorem Tryz.en80 : ∀ vs w, (callFunc 80 vs).run Tryz.prog w = .ok (.enter 80 vs) w := enters_of Tryz.func80 (by kernel_rfl) rfl
theorem Tryz.ctr80 (h : FinB bx → pw Tryz.prog Tryz.C80 (retQ Tryz.prog [.tmp 2] Kc) ⟨5, slk [(0, a0)], bx⟩) : AbsCall Tryz.prog 80 [a0] bx Kc := abs_of (by kernel_rfl) Tryz.func80 Tryz.comp80 Tryz.en80 Tryz.nt80 Tryz.rs80 (fun hb => by rw [initSt_1]; exact h hb)
noncomputable def Tryz.L82_0 : PC := .seq (.reg false [⟨some 6, .next (.tmp 5) false, none, false⟩, ⟨some 7, .extract (.tmp 6) 0, none, false⟩] [0, 5, 7]) (.seq (.cond (.tmp 7) (.skip) (.exit 0)) (.block 1 (.seq (.reg false [⟨some 8, .entry (.tmp 5), none, false⟩, ⟨some 9, .extract (.tmp 8) 0, none, false⟩, ⟨some 3, .assign (.tmp 9), none, false⟩] [0, 3, 5]) (.seq (.reg false [⟨some 10, .move (.tmp 0), none, false⟩, ⟨some 11, .move (.tmp 3), none, false⟩, ⟨some 12, .call ⟨.value (.tmp 10), #[.tmp 11], #[9]⟩, none, false⟩, ⟨some 13, .unOp .not 4 (.tmp 12), none, false⟩] [0, 5, 13]) (.cond (.tmp 13) (.ret) (.skip))))))
noncomputable def Tryz.C82 : PC := .seq (.reg false [⟨some 4, .load 57 (.tmp 1), none, false⟩, ⟨some 5, .range 57 (.tmp 4), none, false⟩] [0, 5]) (.block 0 (.loop Tryz.L82_0))
theorem Tryz.comp82 : ∃ c, Tryz.f82.body = some c ∧ compile c = erase Tryz.C82 := ⟨_, rfl, by kernel_rfl⟩
theorem Tryz.rs82 : Tryz.f82.results.toList = [] := by kernel_rfl
theorem Tryz.nt82 : Tryz.f82.ntmps = 14 := by kernel_rfl
theorem Tryz.en82 : ∀ vs w, (callFunc 82 vs).run Tryz.prog w = .ok (.enter 82 vs) w := enters_of Tryz.func82 (by kernel_rfl) rfl
theorem Tryz.ctr82 (h : FinB bx → pw Tryz.prog Tryz.C82 (retQ Tryz.prog [] Kc) ⟨14, slk [(0, a0), (1, a1)], bx⟩) : AbsCall Tryz.prog 82 [a0, a1] bx Kc := abs_of (by kernel_rfl) Tryz.func82 Tryz.comp82 Tryz.en82 Tryz.nt82 Tryz.rs82 (fun hb => by rw [initSt_2]; exact h hb)
noncomputable def Tryz.L113_0a : PC := .reg false [⟨some 5, .assign (.tmp 7), none, false⟩] [2, 5]
noncomputable def Tryz.L113_0b : PC := .block 1 (.reg false [⟨some 8, .load 25 (.tmp 2), none, false⟩, ⟨some 9, .move (.tmp 5), none, false⟩, ⟨some 10, .buildSlice 25 1 #[(0, .tmp 9)], none, false⟩, ⟨some 11, .call ⟨.builtin .append, #[.tmp 8, .tmp 10], #[25, 25]⟩, none, false⟩, ⟨none, .store 25 (.tmp 2) (.tmp 11), none, false⟩] [])
noncomputable def Tryz.C113 : PC := .seq (.reg false [⟨some 2, .box 25 (.tmp 0), none, false⟩, ⟨some 4, .assign (.const (.slice none 0 0)), none, false⟩] [1, 2, 4]) (.seq (.seq (.reg false [⟨some 6, .move (.tmp 1), none, false⟩] [2, 4, 6]) (.block 0 (.rangeFunc (.tmp 6) #[7] Tryz.L113_0a Tryz.L113_0b))) (.seq (.reg false [⟨some 12, .load 25 (.tmp 2), none, false⟩, ⟨some 4, .assign (.tmp 12), none, false⟩] [4]) (.ret)))
theorem Tryz.comp113 : ∃ c, Tryz.f113.body = some c ∧ compile c = erase Tryz.C113 := ⟨_, rfl, by kernel_rfl⟩
theorem Tryz.rs113 : Tryz.f113.results.toList = [.tmp 4] := by kernel_rfl
theorem Tryz.nt113 : Tryz.f113.ntmps = 13 := by kernel_rfl
theorem Tryz.en113 : ∀ vs w, (callFunc 113 vs).run Tryz.prog w = .ok (.enter 113 vs) w := enters_of Tryz.func113 (by kernel_rfl) rfl
theorem Tryz.ctr113 (h : FinB bx → pw Tryz.prog Tryz.C113 (retQ Tryz.prog [.tmp 4] Kc) ⟨13, slk [(0, a0), (1, a1)], bx⟩) : AbsCall Tryz.prog 113 [a0, a1] bx Kc := abs_of (by kernel_rfl) Tryz.func113 Tryz.comp113 Tryz.en113 Tryz.nt113 Tryz.rs113 (fun hb => by rw [initSt_2]; exact h hb)
end Go.Proofs
