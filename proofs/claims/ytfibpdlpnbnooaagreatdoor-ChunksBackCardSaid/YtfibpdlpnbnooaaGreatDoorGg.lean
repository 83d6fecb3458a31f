/- Texts of the proof, put together: Ty. -/
import Derived.Test.YtfibpdlpnbnooaaGreatDoorProg
import Derived.Test.YtfibpdlpnbnooaaGreatDoorGb

set_option maxRecDepth 100000
namespace Go.Proofs
open Go Go.Pl
@[go_sem] theorem Tryz.knd2 : knd Tryz.prog 2 = .int .i64 := by kernel_rfl
@[go_sem] theorem Tryz.knd3 : knd Tryz.prog 3 = .int .i64 := by kernel_rfl
@[go_sem] theorem Tryz.tsz3 : tsz Tryz.prog 3 = 1 := by kernel_rfl
@[go_sem] theorem Tryz.tby3 : tby Tryz.prog 3 = 8 := by kernel_rfl
@[go_sem] theorem Tryz.tagg3 : tagg Tryz.prog 3 = false := by kernel_rfl
@[go_sem] theorem Tryz.tyOk3 : tyOk Tryz.prog 3 = true := by kernel_rfl
@[go_sem] theorem Tryz.tzero3 : tzero Tryz.prog 3 = some (.int .i64 0) := by kernel_rfl
@[go_sem] theorem Tryz.knd4 : knd Tryz.prog 4 = .bool := by kernel_rfl
@[go_sem] theorem Tryz.knd5 : knd Tryz.prog 5 = .int .u8 := by kernel_rfl
@[go_sem] theorem Tryz.tsz5 : tsz Tryz.prog 5 = 1 := by kernel_rfl
@[go_sem] theorem Tryz.tby5 : tby Tryz.prog 5 = 1 := by kernel_rfl
@[go_sem] theorem Tryz.tagg5 : tagg Tryz.prog 5 = false := by kernel_rfl
@[go_sem] theorem Tryz.tyOk5 : tyOk Tryz.prog 5 = true := by kernel_rfl
@[go_sem] theorem Tryz.tzero5 : tzero Tryz.prog 5 = some (.int .u8 0) := by kernel_rfl
@[go_sem] theorem Tryz.knd9 : knd Tryz.prog 9 = .str := by kernel_rfl
@[go_sem] theorem Tryz.tsz9 : tsz Tryz.prog 9 = 1 := by kernel_rfl
@[go_sem] theorem Tryz.tagg9 : tagg Tryz.prog 9 = false := by kernel_rfl
@[go_sem] theorem Tryz.tyOk9 : tyOk Tryz.prog 9 = true := by kernel_rfl
@[go_sem] theorem Tryz.knd22 : knd Tryz.prog 22 = .slice 5 := by kernel_rfl
@[go_sem] theorem Tryz.tsz22 : tsz Tryz.prog 22 = 1 := by kernel_rfl
@[go_sem] theorem Tryz.tagg22 : tagg Tryz.prog 22 = false := by kernel_rfl
@[go_sem] theorem Tryz.tyOk22 : tyOk Tryz.prog 22 = true := by kernel_rfl
@[go_sem] theorem Tryz.knd24 : knd Tryz.prog 24 = .slice 41 := by kernel_rfl
@[go_sem] theorem Tryz.tsz24 : tsz Tryz.prog 24 = 1 := by kernel_rfl
@[go_sem] theorem Tryz.tagg24 : tagg Tryz.prog 24 = false := by kernel_rfl
@[go_sem] theorem Tryz.tyOk24 : tyOk Tryz.prog 24 = true := by kernel_rfl
@[go_sem] theorem Tryz.knd31 : knd Tryz.prog 31 = .slice 3 := by kernel_rfl
@[go_sem] theorem Tryz.tagg31 : tagg Tryz.prog 31 = false := by kernel_rfl
@[go_sem] theorem Tryz.knd41 : knd Tryz.prog 41 = .strct := by kernel_rfl
@[go_sem] theorem Tryz.tsz41 : tsz Tryz.prog 41 = 2 := by kernel_rfl
@[go_sem] theorem Tryz.tby41 : tby Tryz.prog 41 = 32 := by kernel_rfl
@[go_sem] theorem Tryz.tagg41 : tagg Tryz.prog 41 = true := by kernel_rfl
@[go_sem] theorem Tryz.tyOk41 : tyOk Tryz.prog 41 = true := by kernel_rfl
@[go_sem] theorem Tryz.tzero41 : tzero Tryz.prog 41 = some (.agg #[.string ⟨#[]⟩, .string ⟨#[]⟩]) := by kernel_rfl
@[go_sem] theorem Tryz.bok41 : builtOk Tryz.prog 41 = true := by kernel_rfl
@[go_sem] theorem Tryz.plc41_0 : placeV Tryz.prog 41 0 = some (0, 1) := by kernel_rfl
@[go_sem] theorem Tryz.fld41_0 : fld Tryz.prog 41 0 = some (0, 9) := by kernel_rfl
@[go_sem] theorem Tryz.plc41_1 : placeV Tryz.prog 41 1 = some (1, 1) := by kernel_rfl
@[go_sem] theorem Tryz.fld41_1 : fld Tryz.prog 41 1 = some (1, 9) := by kernel_rfl
@[go_sem] theorem Tryz.eqOk41 : eqOk Tryz.prog 41 = true := by kernel_rfl
@[go_sem] theorem Tryz.fkinds41 : fkinds Tryz.prog 41 = [.str, .str] := by kernel_rfl
@[go_sem] theorem Tryz.tsz44 : tsz Tryz.prog 44 = 5 := by kernel_rfl
@[go_sem] theorem Tryz.tagg44 : tagg Tryz.prog 44 = true := by kernel_rfl
@[go_sem] theorem Tryz.tyOk44 : tyOk Tryz.prog 44 = true := by kernel_rfl
@[go_sem] theorem Tryz.tzero44 : tzero Tryz.prog 44 = some (.agg #[.int .i64 0, .string ⟨#[]⟩, .string ⟨#[]⟩, .int .i64 0, .slice none 0 0]) := by kernel_rfl
@[go_sem] theorem Tryz.bok44 : builtOk Tryz.prog 44 = true := by kernel_rfl
@[go_sem] theorem Tryz.fld44_0 : fld Tryz.prog 44 0 = some (0, 3) := by kernel_rfl
@[go_sem] theorem Tryz.fld44_1 : fld Tryz.prog 44 1 = some (1, 9) := by kernel_rfl
@[go_sem] theorem Tryz.fld44_2 : fld Tryz.prog 44 2 = some (2, 9) := by kernel_rfl
@[go_sem] theorem Tryz.fld44_3 : fld Tryz.prog 44 3 = some (3, 3) := by kernel_rfl
@[go_sem] theorem Tryz.fld44_4 : fld Tryz.prog 44 4 = some (4, 24) := by kernel_rfl
@[go_sem] theorem Tryz.knd54 : knd Tryz.prog 54 = .arr 5 9 := by kernel_rfl
@[go_sem] theorem Tryz.tsz54 : tsz Tryz.prog 54 = 5 := by kernel_rfl
@[go_sem] theorem Tryz.tyOk54 : tyOk Tryz.prog 54 = true := by kernel_rfl
@[go_sem] theorem Tryz.tzero54 : tzero Tryz.prog 54 = some (.agg #[.string ⟨#[]⟩, .string ⟨#[]⟩, .string ⟨#[]⟩, .string ⟨#[]⟩, .string ⟨#[]⟩]) := by kernel_rfl
@[go_sem] theorem Tryz.bok54 : builtOk Tryz.prog 54 = true := by kernel_rfl
@[go_sem] theorem Tryz.plc54 (i : Nat) : placeV Tryz.prog 54 i = some (i * 1, 1) := by kernel_rfl
@[go_sem] theorem Tryz.tsz58 : tsz Tryz.prog 58 = 1 := by kernel_rfl
@[go_sem] theorem Tryz.tagg58 : tagg Tryz.prog 58 = false := by kernel_rfl
@[go_sem] theorem Tryz.tyOk58 : tyOk Tryz.prog 58 = true := by kernel_rfl
@[go_sem] theorem Tryz.knd59 : knd Tryz.prog 59 = .arr 4 58 := by kernel_rfl
@[go_sem] theorem Tryz.tsz59 : tsz Tryz.prog 59 = 4 := by kernel_rfl
@[go_sem] theorem Tryz.tyOk59 : tyOk Tryz.prog 59 = true := by kernel_rfl
@[go_sem] theorem Tryz.tzero59 : tzero Tryz.prog 59 = some (.agg #[.nilFunc, .nilFunc, .nilFunc, .nilFunc]) := by kernel_rfl
@[go_sem] theorem Tryz.bok59 : builtOk Tryz.prog 59 = true := by kernel_rfl
@[go_sem] theorem Tryz.plc59 (i : Nat) : placeV Tryz.prog 59 i = some (i * 1, 1) := by kernel_rfl
@[go_sem] theorem Tryz.tsz61 : tsz Tryz.prog 61 = 9 := by kernel_rfl
@[go_sem] theorem Tryz.tyOk61 : tyOk Tryz.prog 61 = true := by kernel_rfl
@[go_sem] theorem Tryz.tzero61 : tzero Tryz.prog 61 = some (.agg #[.int .i64 0, .string ⟨#[]⟩, .string ⟨#[]⟩, .int .i64 0, .slice none 0 0, .slice none 0 0, .slice none 0 0, .int .i64 0, .int .i64 0]) := by kernel_rfl
@[go_sem] theorem Tryz.bok61 : builtOk Tryz.prog 61 = true := by kernel_rfl
@[go_sem] theorem Tryz.plc61_0 : placeV Tryz.prog 61 0 = some (0, 5) := by kernel_rfl
@[go_sem] theorem Tryz.fld61_0 : fld Tryz.prog 61 0 = some (0, 44) := by kernel_rfl
@[go_sem] theorem Tryz.fld61_1 : fld Tryz.prog 61 1 = some (5, 22) := by kernel_rfl
@[go_sem] theorem Tryz.fld61_2 : fld Tryz.prog 61 2 = some (6, 22) := by kernel_rfl
@[go_sem] theorem Tryz.fld61_3 : fld Tryz.prog 61 3 = some (7, 3) := by kernel_rfl
@[go_sem] theorem Tryz.fld61_4 : fld Tryz.prog 61 4 = some (8, 3) := by kernel_rfl
@[go_sem] theorem Tryz.tsz67 : tsz Tryz.prog 67 = 2 := by kernel_rfl
@[go_sem] theorem Tryz.tyOk67 : tyOk Tryz.prog 67 = true := by kernel_rfl
@[go_sem] theorem Tryz.tzero67 : tzero Tryz.prog 67 = some (.agg #[.pointer none, .slice none 0 0]) := by kernel_rfl
@[go_sem] theorem Tryz.fld67_1 : fld Tryz.prog 67 1 = some (1, 22) := by kernel_rfl
@[go_sem] theorem Tryz.knd84 : knd Tryz.prog 84 = .int .u64 := by kernel_rfl
@[go_sem] theorem Tryz.tsz103 : tsz Tryz.prog 103 = 24 := by kernel_rfl
@[go_sem] theorem Tryz.tyOk103 : tyOk Tryz.prog 103 = true := by kernel_rfl
@[go_sem] theorem Tryz.tzero103 : tzero Tryz.prog 103 = some (.agg #[.int .u8 0, .int .u8 0, .int .u8 0, .int .u8 0, .int .u8 0, .int .u8 0, .int .u8 0, .int .u8 0, .int .u8 0, .int .u8 0, .int .u8 0, .int .u8 0, .int .u8 0, .int .u8 0, .int .u8 0, .int .u8 0, .int .u8 0, .int .u8 0, .int .u8 0, .int .u8 0, .int .u8 0, .int .u8 0, .int .u8 0, .int .u8 0]) := by kernel_rfl
@[go_sem] theorem Tryz.knd129 : knd Tryz.prog 129 = .int .u32 := by kernel_rfl
@[go_sem] theorem Tryz.knd130 : knd Tryz.prog 130 = .arr 65 5 := by kernel_rfl
@[go_sem] theorem Tryz.tsz130 : tsz Tryz.prog 130 = 65 := by kernel_rfl
@[go_sem] theorem Tryz.tyOk130 : tyOk Tryz.prog 130 = true := by kernel_rfl
@[go_sem] theorem Tryz.tzero130 : tzero Tryz.prog 130 = some (.agg #[.int .u8 0, .int .u8 0, .int .u8 0, .int .u8 0, .int .u8 0, .int .u8 0, .int .u8 0, .int .u8 0, .int .u8 0, .int .u8 0, .int .u8 0, .int .u8 0, .int .u8 0, .int .u8 0, .int .u8 0, .int .u8 0, .int .u8 0, .int .u8 0, .int .u8 0, .int .u8 0, .int .u8 0, .int .u8 0, .int .u8 0, .int .u8 0, .int .u8 0, .int .u8 0, .int .u8 0, .int .u8 0, .int .u8 0, .int .u8 0, .int .u8 0, .int .u8 0, .int .u8 0, .int .u8 0, .int .u8 0, .int .u8 0, .int .u8 0, .int .u8 0, .int .u8 0, .int .u8 0, .int .u8 0, .int .u8 0, .int .u8 0, .int .u8 0, .int .u8 0, .int .u8 0, .int .u8 0, .int .u8 0, .int .u8 0, .int .u8 0, .int .u8 0, .int .u8 0, .int .u8 0, .int .u8 0, .int .u8 0, .int .u8 0, .int .u8 0, .int .u8 0, .int .u8 0, .int .u8 0, .int .u8 0, .int .u8 0, .int .u8 0, .int .u8 0, .int .u8 0]) := by kernel_rfl
@[go_sem] theorem Tryz.knd132 : knd Tryz.prog 132 = .int .u64 := by kernel_rfl
@[go_sem] theorem Tryz.knd152 : knd Tryz.prog 152 = .arr 64 5 := by kernel_rfl
end Go.Proofs
