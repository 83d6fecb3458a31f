/- Texts of the proof, put together: Ty. -/
import Derived.Test.YtkjhfnlnbjmahaaGreatDoorProg
import Derived.Test.YtkjhfnlnbjmahaaGreatDoorGb

set_option maxRecDepth 100000
namespace Go.Proofs
open Go Go.Pl
@[go_sem] theorem Tryz.knd3 : knd Tryz.prog 3 = .int .i64 := by kernel_rfl
@[go_sem] theorem Tryz.knd4 : knd Tryz.prog 4 = .bool := by kernel_rfl
@[go_sem] theorem Tryz.tzero4 : tzero Tryz.prog 4 = some (.bool false) := by kernel_rfl
@[go_sem] theorem Tryz.knd5 : knd Tryz.prog 5 = .int .u8 := by kernel_rfl
@[go_sem] theorem Tryz.tsz5 : tsz Tryz.prog 5 = 1 := by kernel_rfl
@[go_sem] theorem Tryz.tby5 : tby Tryz.prog 5 = 1 := by kernel_rfl
@[go_sem] theorem Tryz.tagg5 : tagg Tryz.prog 5 = false := by kernel_rfl
@[go_sem] theorem Tryz.tyOk5 : tyOk Tryz.prog 5 = true := by kernel_rfl
@[go_sem] theorem Tryz.tzero5 : tzero Tryz.prog 5 = some (.int .u8 0) := by kernel_rfl
@[go_sem] theorem Tryz.knd9 : knd Tryz.prog 9 = .str := by kernel_rfl
@[go_sem] theorem Tryz.tsz9 : tsz Tryz.prog 9 = 1 := by kernel_rfl
@[go_sem] theorem Tryz.tby9 : tby Tryz.prog 9 = 16 := by kernel_rfl
@[go_sem] theorem Tryz.tagg9 : tagg Tryz.prog 9 = false := by kernel_rfl
@[go_sem] theorem Tryz.tyOk9 : tyOk Tryz.prog 9 = true := by kernel_rfl
@[go_sem] theorem Tryz.tzero9 : tzero Tryz.prog 9 = some (.string ⟨#[]⟩) := by kernel_rfl
@[go_sem] theorem Tryz.knd22 : knd Tryz.prog 22 = .slice 38 := by kernel_rfl
@[go_sem] theorem Tryz.tsz22 : tsz Tryz.prog 22 = 1 := by kernel_rfl
@[go_sem] theorem Tryz.tagg22 : tagg Tryz.prog 22 = false := by kernel_rfl
@[go_sem] theorem Tryz.tyOk22 : tyOk Tryz.prog 22 = true := by kernel_rfl
@[go_sem] theorem Tryz.tzero22 : tzero Tryz.prog 22 = some (.slice none 0 0) := by kernel_rfl
@[go_sem] theorem Tryz.knd25 : knd Tryz.prog 25 = .slice 9 := by kernel_rfl
@[go_sem] theorem Tryz.tsz25 : tsz Tryz.prog 25 = 1 := by kernel_rfl
@[go_sem] theorem Tryz.tagg25 : tagg Tryz.prog 25 = false := by kernel_rfl
@[go_sem] theorem Tryz.tyOk25 : tyOk Tryz.prog 25 = true := by kernel_rfl
@[go_sem] theorem Tryz.tzero25 : tzero Tryz.prog 25 = some (.slice none 0 0) := by kernel_rfl
@[go_sem] theorem Tryz.tsz26 : tsz Tryz.prog 26 = 1 := by kernel_rfl
@[go_sem] theorem Tryz.tagg26 : tagg Tryz.prog 26 = false := by kernel_rfl
@[go_sem] theorem Tryz.tyOk26 : tyOk Tryz.prog 26 = true := by kernel_rfl
@[go_sem] theorem Tryz.tzero26 : tzero Tryz.prog 26 = some (.int .i64 0) := by kernel_rfl
@[go_sem] theorem Tryz.knd38 : knd Tryz.prog 38 = .strct := by kernel_rfl
@[go_sem] theorem Tryz.tsz38 : tsz Tryz.prog 38 = 2 := by kernel_rfl
@[go_sem] theorem Tryz.tby38 : tby Tryz.prog 38 = 32 := by kernel_rfl
@[go_sem] theorem Tryz.tagg38 : tagg Tryz.prog 38 = true := by kernel_rfl
@[go_sem] theorem Tryz.tyOk38 : tyOk Tryz.prog 38 = true := by kernel_rfl
@[go_sem] theorem Tryz.tzero38 : tzero Tryz.prog 38 = some (.agg #[.string ⟨#[]⟩, .string ⟨#[]⟩]) := by kernel_rfl
@[go_sem] theorem Tryz.bok38 : builtOk Tryz.prog 38 = true := by kernel_rfl
@[go_sem] theorem Tryz.plc38_0 : placeV Tryz.prog 38 0 = some (0, 1) := by kernel_rfl
@[go_sem] theorem Tryz.fld38_0 : fld Tryz.prog 38 0 = some (0, 9) := by kernel_rfl
@[go_sem] theorem Tryz.plc38_1 : placeV Tryz.prog 38 1 = some (1, 1) := by kernel_rfl
@[go_sem] theorem Tryz.fld38_1 : fld Tryz.prog 38 1 = some (1, 9) := by kernel_rfl
@[go_sem] theorem Tryz.eqOk38 : eqOk Tryz.prog 38 = true := by kernel_rfl
@[go_sem] theorem Tryz.fkinds38 : fkinds Tryz.prog 38 = [.str, .str] := by kernel_rfl
@[go_sem] theorem Tryz.knd43 : knd Tryz.prog 43 = .slice 5 := by kernel_rfl
@[go_sem] theorem Tryz.tsz43 : tsz Tryz.prog 43 = 1 := by kernel_rfl
@[go_sem] theorem Tryz.tagg43 : tagg Tryz.prog 43 = false := by kernel_rfl
@[go_sem] theorem Tryz.tyOk43 : tyOk Tryz.prog 43 = true := by kernel_rfl
@[go_sem] theorem Tryz.knd57 : knd Tryz.prog 57 = .map 9 4 := by kernel_rfl
@[go_sem] theorem Tryz.tsz57 : tsz Tryz.prog 57 = 1 := by kernel_rfl
@[go_sem] theorem Tryz.tagg57 : tagg Tryz.prog 57 = false := by kernel_rfl
@[go_sem] theorem Tryz.tyOk57 : tyOk Tryz.prog 57 = true := by kernel_rfl
@[go_sem] theorem Tryz.tzero57 : tzero Tryz.prog 57 = some (.map none) := by kernel_rfl
@[go_sem] theorem Tryz.knd68 : knd Tryz.prog 68 = .slice 22 := by kernel_rfl
@[go_sem] theorem Tryz.knd69 : knd Tryz.prog 69 = .map 9 25 := by kernel_rfl
@[go_sem] theorem Tryz.tsz82 : tsz Tryz.prog 82 = 2 := by kernel_rfl
@[go_sem] theorem Tryz.tyOk82 : tyOk Tryz.prog 82 = true := by kernel_rfl
@[go_sem] theorem Tryz.tzero82 : tzero Tryz.prog 82 = some (.agg #[.pointer none, .slice none 0 0]) := by kernel_rfl
@[go_sem] theorem Tryz.fld82_1 : fld Tryz.prog 82 1 = some (1, 43) := by kernel_rfl
end Go.Proofs
