/- Texts of the proof, put together: Ty. -/
import Derived.Test.YtfibpdlpnbnooaaDoorProg
import Derived.Test.YtfibpdlpnbnooaaDoorGb

set_option maxRecDepth 100000
namespace Go.Proofs
open Go Go.Pl
@[go_sem] theorem Tryd.knd2 : knd Tryd.prog 2 = .int .i64 := by kernel_rfl
@[go_sem] theorem Tryd.knd3 : knd Tryd.prog 3 = .int .i64 := by kernel_rfl
@[go_sem] theorem Tryd.tsz3 : tsz Tryd.prog 3 = 1 := by kernel_rfl
@[go_sem] theorem Tryd.tby3 : tby Tryd.prog 3 = 8 := by kernel_rfl
@[go_sem] theorem Tryd.tagg3 : tagg Tryd.prog 3 = false := by kernel_rfl
@[go_sem] theorem Tryd.tyOk3 : tyOk Tryd.prog 3 = true := by kernel_rfl
@[go_sem] theorem Tryd.tzero3 : tzero Tryd.prog 3 = some (.int .i64 0) := by kernel_rfl
@[go_sem] theorem Tryd.knd4 : knd Tryd.prog 4 = .bool := by kernel_rfl
@[go_sem] theorem Tryd.knd5 : knd Tryd.prog 5 = .int .u8 := by kernel_rfl
@[go_sem] theorem Tryd.tsz5 : tsz Tryd.prog 5 = 1 := by kernel_rfl
@[go_sem] theorem Tryd.tby5 : tby Tryd.prog 5 = 1 := by kernel_rfl
@[go_sem] theorem Tryd.tagg5 : tagg Tryd.prog 5 = false := by kernel_rfl
@[go_sem] theorem Tryd.tyOk5 : tyOk Tryd.prog 5 = true := by kernel_rfl
@[go_sem] theorem Tryd.tzero5 : tzero Tryd.prog 5 = some (.int .u8 0) := by kernel_rfl
@[go_sem] theorem Tryd.knd9 : knd Tryd.prog 9 = .str := by kernel_rfl
@[go_sem] theorem Tryd.tsz9 : tsz Tryd.prog 9 = 1 := by kernel_rfl
@[go_sem] theorem Tryd.tagg9 : tagg Tryd.prog 9 = false := by kernel_rfl
@[go_sem] theorem Tryd.tyOk9 : tyOk Tryd.prog 9 = true := by kernel_rfl
@[go_sem] theorem Tryd.knd22 : knd Tryd.prog 22 = .slice 5 := by kernel_rfl
@[go_sem] theorem Tryd.tsz22 : tsz Tryd.prog 22 = 1 := by kernel_rfl
@[go_sem] theorem Tryd.tagg22 : tagg Tryd.prog 22 = false := by kernel_rfl
@[go_sem] theorem Tryd.tyOk22 : tyOk Tryd.prog 22 = true := by kernel_rfl
@[go_sem] theorem Tryd.knd24 : knd Tryd.prog 24 = .slice 34 := by kernel_rfl
@[go_sem] theorem Tryd.tsz24 : tsz Tryd.prog 24 = 1 := by kernel_rfl
@[go_sem] theorem Tryd.tagg24 : tagg Tryd.prog 24 = false := by kernel_rfl
@[go_sem] theorem Tryd.tyOk24 : tyOk Tryd.prog 24 = true := by kernel_rfl
@[go_sem] theorem Tryd.knd32 : knd Tryd.prog 32 = .slice 3 := by kernel_rfl
@[go_sem] theorem Tryd.tsz34 : tsz Tryd.prog 34 = 2 := by kernel_rfl
@[go_sem] theorem Tryd.tby34 : tby Tryd.prog 34 = 32 := by kernel_rfl
@[go_sem] theorem Tryd.tagg34 : tagg Tryd.prog 34 = true := by kernel_rfl
@[go_sem] theorem Tryd.tyOk34 : tyOk Tryd.prog 34 = true := by kernel_rfl
@[go_sem] theorem Tryd.tzero34 : tzero Tryd.prog 34 = some (.agg #[.string ⟨#[]⟩, .string ⟨#[]⟩]) := by kernel_rfl
@[go_sem] theorem Tryd.bok34 : builtOk Tryd.prog 34 = true := by kernel_rfl
@[go_sem] theorem Tryd.plc34_0 : placeV Tryd.prog 34 0 = some (0, 1) := by kernel_rfl
@[go_sem] theorem Tryd.fld34_0 : fld Tryd.prog 34 0 = some (0, 9) := by kernel_rfl
@[go_sem] theorem Tryd.plc34_1 : placeV Tryd.prog 34 1 = some (1, 1) := by kernel_rfl
@[go_sem] theorem Tryd.fld34_1 : fld Tryd.prog 34 1 = some (1, 9) := by kernel_rfl
@[go_sem] theorem Tryd.eqOk34 : eqOk Tryd.prog 34 = true := by kernel_rfl
@[go_sem] theorem Tryd.fkinds34 : fkinds Tryd.prog 34 = [.str, .str] := by kernel_rfl
@[go_sem] theorem Tryd.tsz38 : tsz Tryd.prog 38 = 5 := by kernel_rfl
@[go_sem] theorem Tryd.tagg38 : tagg Tryd.prog 38 = true := by kernel_rfl
@[go_sem] theorem Tryd.tyOk38 : tyOk Tryd.prog 38 = true := by kernel_rfl
@[go_sem] theorem Tryd.tzero38 : tzero Tryd.prog 38 = some (.agg #[.int .i64 0, .string ⟨#[]⟩, .string ⟨#[]⟩, .int .i64 0, .slice none 0 0]) := by kernel_rfl
@[go_sem] theorem Tryd.bok38 : builtOk Tryd.prog 38 = true := by kernel_rfl
@[go_sem] theorem Tryd.fld38_0 : fld Tryd.prog 38 0 = some (0, 3) := by kernel_rfl
@[go_sem] theorem Tryd.fld38_1 : fld Tryd.prog 38 1 = some (1, 9) := by kernel_rfl
@[go_sem] theorem Tryd.fld38_2 : fld Tryd.prog 38 2 = some (2, 9) := by kernel_rfl
@[go_sem] theorem Tryd.fld38_3 : fld Tryd.prog 38 3 = some (3, 3) := by kernel_rfl
@[go_sem] theorem Tryd.fld38_4 : fld Tryd.prog 38 4 = some (4, 24) := by kernel_rfl
@[go_sem] theorem Tryd.tsz49 : tsz Tryd.prog 49 = 1 := by kernel_rfl
@[go_sem] theorem Tryd.tagg49 : tagg Tryd.prog 49 = false := by kernel_rfl
@[go_sem] theorem Tryd.tyOk49 : tyOk Tryd.prog 49 = true := by kernel_rfl
@[go_sem] theorem Tryd.knd50 : knd Tryd.prog 50 = .arr 4 49 := by kernel_rfl
@[go_sem] theorem Tryd.tsz50 : tsz Tryd.prog 50 = 4 := by kernel_rfl
@[go_sem] theorem Tryd.tyOk50 : tyOk Tryd.prog 50 = true := by kernel_rfl
@[go_sem] theorem Tryd.tzero50 : tzero Tryd.prog 50 = some (.agg #[.nilFunc, .nilFunc, .nilFunc, .nilFunc]) := by kernel_rfl
@[go_sem] theorem Tryd.bok50 : builtOk Tryd.prog 50 = true := by kernel_rfl
@[go_sem] theorem Tryd.plc50 (i : Nat) : placeV Tryd.prog 50 i = some (i * 1, 1) := by kernel_rfl
@[go_sem] theorem Tryd.tsz52 : tsz Tryd.prog 52 = 9 := by kernel_rfl
@[go_sem] theorem Tryd.tyOk52 : tyOk Tryd.prog 52 = true := by kernel_rfl
@[go_sem] theorem Tryd.tzero52 : tzero Tryd.prog 52 = some (.agg #[.int .i64 0, .string ⟨#[]⟩, .string ⟨#[]⟩, .int .i64 0, .slice none 0 0, .slice none 0 0, .slice none 0 0, .int .i64 0, .int .i64 0]) := by kernel_rfl
@[go_sem] theorem Tryd.bok52 : builtOk Tryd.prog 52 = true := by kernel_rfl
@[go_sem] theorem Tryd.plc52_0 : placeV Tryd.prog 52 0 = some (0, 5) := by kernel_rfl
@[go_sem] theorem Tryd.fld52_0 : fld Tryd.prog 52 0 = some (0, 38) := by kernel_rfl
@[go_sem] theorem Tryd.fld52_1 : fld Tryd.prog 52 1 = some (5, 22) := by kernel_rfl
@[go_sem] theorem Tryd.fld52_2 : fld Tryd.prog 52 2 = some (6, 22) := by kernel_rfl
@[go_sem] theorem Tryd.fld52_3 : fld Tryd.prog 52 3 = some (7, 3) := by kernel_rfl
@[go_sem] theorem Tryd.fld52_4 : fld Tryd.prog 52 4 = some (8, 3) := by kernel_rfl
@[go_sem] theorem Tryd.tsz56 : tsz Tryd.prog 56 = 2 := by kernel_rfl
@[go_sem] theorem Tryd.tyOk56 : tyOk Tryd.prog 56 = true := by kernel_rfl
@[go_sem] theorem Tryd.tzero56 : tzero Tryd.prog 56 = some (.agg #[.pointer none, .slice none 0 0]) := by kernel_rfl
@[go_sem] theorem Tryd.fld56_1 : fld Tryd.prog 56 1 = some (1, 22) := by kernel_rfl
@[go_sem] theorem Tryd.knd69 : knd Tryd.prog 69 = .int .u64 := by kernel_rfl
@[go_sem] theorem Tryd.tsz87 : tsz Tryd.prog 87 = 24 := by kernel_rfl
@[go_sem] theorem Tryd.tyOk87 : tyOk Tryd.prog 87 = true := by kernel_rfl
@[go_sem] theorem Tryd.tzero87 : tzero Tryd.prog 87 = some (.agg #[.int .u8 0, .int .u8 0, .int .u8 0, .int .u8 0, .int .u8 0, .int .u8 0, .int .u8 0, .int .u8 0, .int .u8 0, .int .u8 0, .int .u8 0, .int .u8 0, .int .u8 0, .int .u8 0, .int .u8 0, .int .u8 0, .int .u8 0, .int .u8 0, .int .u8 0, .int .u8 0, .int .u8 0, .int .u8 0, .int .u8 0, .int .u8 0]) := by kernel_rfl
@[go_sem] theorem Tryd.knd114 : knd Tryd.prog 114 = .int .u32 := by kernel_rfl
@[go_sem] theorem Tryd.knd115 : knd Tryd.prog 115 = .arr 65 5 := by kernel_rfl
@[go_sem] theorem Tryd.tsz115 : tsz Tryd.prog 115 = 65 := by kernel_rfl
@[go_sem] theorem Tryd.tyOk115 : tyOk Tryd.prog 115 = true := by kernel_rfl
@[go_sem] theorem Tryd.tzero115 : tzero Tryd.prog 115 = some (.agg #[.int .u8 0, .int .u8 0, .int .u8 0, .int .u8 0, .int .u8 0, .int .u8 0, .int .u8 0, .int .u8 0, .int .u8 0, .int .u8 0, .int .u8 0, .int .u8 0, .int .u8 0, .int .u8 0, .int .u8 0, .int .u8 0, .int .u8 0, .int .u8 0, .int .u8 0, .int .u8 0, .int .u8 0, .int .u8 0, .int .u8 0, .int .u8 0, .int .u8 0, .int .u8 0, .int .u8 0, .int .u8 0, .int .u8 0, .int .u8 0, .int .u8 0, .int .u8 0, .int .u8 0, .int .u8 0, .int .u8 0, .int .u8 0, .int .u8 0, .int .u8 0, .int .u8 0, .int .u8 0, .int .u8 0, .int .u8 0, .int .u8 0, .int .u8 0, .int .u8 0, .int .u8 0, .int .u8 0, .int .u8 0, .int .u8 0, .int .u8 0, .int .u8 0, .int .u8 0, .int .u8 0, .int .u8 0, .int .u8 0, .int .u8 0, .int .u8 0, .int .u8 0, .int .u8 0, .int .u8 0, .int .u8 0, .int .u8 0, .int .u8 0, .int .u8 0, .int .u8 0]) := by kernel_rfl
@[go_sem] theorem Tryd.knd117 : knd Tryd.prog 117 = .int .u64 := by kernel_rfl
@[go_sem] theorem Tryd.knd138 : knd Tryd.prog 138 = .arr 64 5 := by kernel_rfl
end Go.Proofs
