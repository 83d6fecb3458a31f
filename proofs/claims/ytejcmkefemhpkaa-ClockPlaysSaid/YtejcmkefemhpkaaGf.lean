/- Texts of the proof, put together: Ty. -/
import Derived.Test.YtejcmkefemhpkaaProg
import Derived.Test.YtejcmkefemhpkaaGb

set_option maxRecDepth 100000
namespace Go.Proofs
open Go Go.Pl
@[go_sem] theorem Try.knd2 : knd Try.prog 2 = .int .i64 := by kernel_rfl
@[go_sem] theorem Try.tsz2 : tsz Try.prog 2 = 1 := by kernel_rfl
@[go_sem] theorem Try.tby2 : tby Try.prog 2 = 8 := by kernel_rfl
@[go_sem] theorem Try.tagg2 : tagg Try.prog 2 = false := by kernel_rfl
@[go_sem] theorem Try.tyOk2 : tyOk Try.prog 2 = true := by kernel_rfl
@[go_sem] theorem Try.tzero2 : tzero Try.prog 2 = some (.int .i64 0) := by kernel_rfl
@[go_sem] theorem Try.knd3 : knd Try.prog 3 = .int .i64 := by kernel_rfl
@[go_sem] theorem Try.tsz3 : tsz Try.prog 3 = 1 := by kernel_rfl
@[go_sem] theorem Try.tby3 : tby Try.prog 3 = 8 := by kernel_rfl
@[go_sem] theorem Try.tagg3 : tagg Try.prog 3 = false := by kernel_rfl
@[go_sem] theorem Try.tyOk3 : tyOk Try.prog 3 = true := by kernel_rfl
@[go_sem] theorem Try.tzero3 : tzero Try.prog 3 = some (.int .i64 0) := by kernel_rfl
@[go_sem] theorem Try.tzero4 : tzero Try.prog 4 = some (.bool false) := by kernel_rfl
@[go_sem] theorem Try.knd5 : knd Try.prog 5 = .int .u8 := by kernel_rfl
@[go_sem] theorem Try.tsz5 : tsz Try.prog 5 = 1 := by kernel_rfl
@[go_sem] theorem Try.tagg5 : tagg Try.prog 5 = false := by kernel_rfl
@[go_sem] theorem Try.tyOk5 : tyOk Try.prog 5 = true := by kernel_rfl
@[go_sem] theorem Try.knd22 : knd Try.prog 22 = .slice 35 := by kernel_rfl
@[go_sem] theorem Try.tsz22 : tsz Try.prog 22 = 1 := by kernel_rfl
@[go_sem] theorem Try.tagg22 : tagg Try.prog 22 = false := by kernel_rfl
@[go_sem] theorem Try.tyOk22 : tyOk Try.prog 22 = true := by kernel_rfl
@[go_sem] theorem Try.knd23 : knd Try.prog 23 = .slice 51 := by kernel_rfl
@[go_sem] theorem Try.tsz23 : tsz Try.prog 23 = 1 := by kernel_rfl
@[go_sem] theorem Try.tagg23 : tagg Try.prog 23 = false := by kernel_rfl
@[go_sem] theorem Try.tyOk23 : tyOk Try.prog 23 = true := by kernel_rfl
@[go_sem] theorem Try.tsz25 : tsz Try.prog 25 = 4 := by kernel_rfl
@[go_sem] theorem Try.tagg25 : tagg Try.prog 25 = true := by kernel_rfl
@[go_sem] theorem Try.tyOk25 : tyOk Try.prog 25 = true := by kernel_rfl
@[go_sem] theorem Try.tzero25 : tzero Try.prog 25 = some (.agg #[.int .i64 0, .int .i64 0, .slice none 0 0, .slice none 0 0]) := by kernel_rfl
@[go_sem] theorem Try.bok25 : builtOk Try.prog 25 = true := by kernel_rfl
@[go_sem] theorem Try.plc25_0 : placeV Try.prog 25 0 = some (0, 1) := by kernel_rfl
@[go_sem] theorem Try.fld25_0 : fld Try.prog 25 0 = some (0, 2) := by kernel_rfl
@[go_sem] theorem Try.plc25_1 : placeV Try.prog 25 1 = some (1, 1) := by kernel_rfl
@[go_sem] theorem Try.fld25_1 : fld Try.prog 25 1 = some (1, 2) := by kernel_rfl
@[go_sem] theorem Try.fld25_2 : fld Try.prog 25 2 = some (2, 22) := by kernel_rfl
@[go_sem] theorem Try.fld25_3 : fld Try.prog 25 3 = some (3, 23) := by kernel_rfl
@[go_sem] theorem Try.knd29 : knd Try.prog 29 = .slice 2 := by kernel_rfl
@[go_sem] theorem Try.knd31 : knd Try.prog 31 = .int .i64 := by kernel_rfl
@[go_sem] theorem Try.tsz31 : tsz Try.prog 31 = 1 := by kernel_rfl
@[go_sem] theorem Try.tagg31 : tagg Try.prog 31 = false := by kernel_rfl
@[go_sem] theorem Try.tyOk31 : tyOk Try.prog 31 = true := by kernel_rfl
@[go_sem] theorem Try.tzero31 : tzero Try.prog 31 = some (.int .i64 0) := by kernel_rfl
@[go_sem] theorem Try.tsz35 : tsz Try.prog 35 = 4 := by kernel_rfl
@[go_sem] theorem Try.tby35 : tby Try.prog 35 = 32 := by kernel_rfl
@[go_sem] theorem Try.tagg35 : tagg Try.prog 35 = true := by kernel_rfl
@[go_sem] theorem Try.tyOk35 : tyOk Try.prog 35 = true := by kernel_rfl
@[go_sem] theorem Try.tzero35 : tzero Try.prog 35 = some (.agg #[.int .i64 0, .int .i64 0, .int .i64 0, .int .i64 0]) := by kernel_rfl
@[go_sem] theorem Try.bok35 : builtOk Try.prog 35 = true := by kernel_rfl
@[go_sem] theorem Try.plc35_0 : placeV Try.prog 35 0 = some (0, 1) := by kernel_rfl
@[go_sem] theorem Try.fld35_0 : fld Try.prog 35 0 = some (0, 2) := by kernel_rfl
@[go_sem] theorem Try.plc35_1 : placeV Try.prog 35 1 = some (1, 1) := by kernel_rfl
@[go_sem] theorem Try.fld35_1 : fld Try.prog 35 1 = some (1, 2) := by kernel_rfl
@[go_sem] theorem Try.plc35_2 : placeV Try.prog 35 2 = some (2, 1) := by kernel_rfl
@[go_sem] theorem Try.fld35_2 : fld Try.prog 35 2 = some (2, 3) := by kernel_rfl
@[go_sem] theorem Try.plc35_3 : placeV Try.prog 35 3 = some (3, 1) := by kernel_rfl
@[go_sem] theorem Try.fld35_3 : fld Try.prog 35 3 = some (3, 2) := by kernel_rfl
@[go_sem] theorem Try.eqOk35 : eqOk Try.prog 35 = true := by kernel_rfl
@[go_sem] theorem Try.fkinds35 : fkinds Try.prog 35 = [.int .i64, .int .i64, .int .i64, .int .i64] := by kernel_rfl
@[go_sem] theorem Try.knd42 : knd Try.prog 42 = .slice 44 := by kernel_rfl
@[go_sem] theorem Try.tagg42 : tagg Try.prog 42 = false := by kernel_rfl
@[go_sem] theorem Try.knd44 : knd Try.prog 44 = .strct := by kernel_rfl
@[go_sem] theorem Try.tsz44 : tsz Try.prog 44 = 4 := by kernel_rfl
@[go_sem] theorem Try.tagg44 : tagg Try.prog 44 = true := by kernel_rfl
@[go_sem] theorem Try.tyOk44 : tyOk Try.prog 44 = true := by kernel_rfl
@[go_sem] theorem Try.fld44_0 : fld Try.prog 44 0 = some (0, 5) := by kernel_rfl
@[go_sem] theorem Try.fld44_1 : fld Try.prog 44 1 = some (1, 2) := by kernel_rfl
@[go_sem] theorem Try.fld44_2 : fld Try.prog 44 2 = some (2, 2) := by kernel_rfl
@[go_sem] theorem Try.fld44_3 : fld Try.prog 44 3 = some (3, 3) := by kernel_rfl
@[go_sem] theorem Try.tsz51 : tsz Try.prog 51 = 4 := by kernel_rfl
@[go_sem] theorem Try.tby51 : tby Try.prog 51 = 32 := by kernel_rfl
@[go_sem] theorem Try.tagg51 : tagg Try.prog 51 = true := by kernel_rfl
@[go_sem] theorem Try.tyOk51 : tyOk Try.prog 51 = true := by kernel_rfl
@[go_sem] theorem Try.tzero51 : tzero Try.prog 51 = some (.agg #[.int .i64 0, .int .i64 0, .int .i64 0, .int .i64 0]) := by kernel_rfl
@[go_sem] theorem Try.bok51 : builtOk Try.prog 51 = true := by kernel_rfl
@[go_sem] theorem Try.plc51_0 : placeV Try.prog 51 0 = some (0, 1) := by kernel_rfl
@[go_sem] theorem Try.fld51_0 : fld Try.prog 51 0 = some (0, 2) := by kernel_rfl
@[go_sem] theorem Try.plc51_1 : placeV Try.prog 51 1 = some (1, 1) := by kernel_rfl
@[go_sem] theorem Try.fld51_1 : fld Try.prog 51 1 = some (1, 2) := by kernel_rfl
@[go_sem] theorem Try.plc51_2 : placeV Try.prog 51 2 = some (2, 1) := by kernel_rfl
@[go_sem] theorem Try.fld51_2 : fld Try.prog 51 2 = some (2, 2) := by kernel_rfl
@[go_sem] theorem Try.fld51_3 : fld Try.prog 51 3 = some (3, 3) := by kernel_rfl
@[go_sem] theorem Try.eqOk51 : eqOk Try.prog 51 = true := by kernel_rfl
@[go_sem] theorem Try.fkinds51 : fkinds Try.prog 51 = [.int .i64, .int .i64, .int .i64, .int .i64] := by kernel_rfl
@[go_sem] theorem Try.knd72 : knd Try.prog 72 = .ptr 104 := by kernel_rfl
@[go_sem] theorem Try.knd75 : knd Try.prog 75 = .fn := by kernel_rfl
@[go_sem] theorem Try.tsz75 : tsz Try.prog 75 = 1 := by kernel_rfl
@[go_sem] theorem Try.tagg75 : tagg Try.prog 75 = false := by kernel_rfl
@[go_sem] theorem Try.tyOk75 : tyOk Try.prog 75 = true := by kernel_rfl
@[go_sem] theorem Try.knd79 : knd Try.prog 79 = .ptr 51 := by kernel_rfl
@[go_sem] theorem Try.tzero79 : tzero Try.prog 79 = some (.pointer none) := by kernel_rfl
@[go_sem] theorem Try.knd82 : knd Try.prog 82 = .slice 3 := by kernel_rfl
@[go_sem] theorem Try.knd85 : knd Try.prog 85 = .map 2 4 := by kernel_rfl
@[go_sem] theorem Try.knd87 : knd Try.prog 87 = .arr 4 2 := by kernel_rfl
@[go_sem] theorem Try.tsz87 : tsz Try.prog 87 = 4 := by kernel_rfl
@[go_sem] theorem Try.tyOk87 : tyOk Try.prog 87 = true := by kernel_rfl
@[go_sem] theorem Try.tzero87 : tzero Try.prog 87 = some (.agg #[.int .i64 0, .int .i64 0, .int .i64 0, .int .i64 0]) := by kernel_rfl
@[go_sem] theorem Try.bok87 : builtOk Try.prog 87 = true := by kernel_rfl
@[go_sem] theorem Try.plc87 (i : Nat) : placeV Try.prog 87 i = some (i * 1, 1) := by kernel_rfl
@[go_sem] theorem Try.knd99 : knd Try.prog 99 = .slice 107 := by kernel_rfl
@[go_sem] theorem Try.tsz99 : tsz Try.prog 99 = 1 := by kernel_rfl
@[go_sem] theorem Try.tagg99 : tagg Try.prog 99 = false := by kernel_rfl
@[go_sem] theorem Try.tyOk99 : tyOk Try.prog 99 = true := by kernel_rfl
@[go_sem] theorem Try.tsz101 : tsz Try.prog 101 = 2 := by kernel_rfl
@[go_sem] theorem Try.tzero101 : tzero Try.prog 101 = some (.agg #[.slice none 0 0, .nilFunc]) := by kernel_rfl
@[go_sem] theorem Try.bok101 : builtOk Try.prog 101 = true := by kernel_rfl
@[go_sem] theorem Try.fld101_0 : fld Try.prog 101 0 = some (0, 99) := by kernel_rfl
@[go_sem] theorem Try.plc101_1 : placeV Try.prog 101 1 = some (1, 1) := by kernel_rfl
@[go_sem] theorem Try.fld101_1 : fld Try.prog 101 1 = some (1, 75) := by kernel_rfl
@[go_sem] theorem Try.knd102 : knd Try.prog 102 = .map 2 107 := by kernel_rfl
@[go_sem] theorem Try.tsz102 : tsz Try.prog 102 = 1 := by kernel_rfl
@[go_sem] theorem Try.tagg102 : tagg Try.prog 102 = false := by kernel_rfl
@[go_sem] theorem Try.tyOk102 : tyOk Try.prog 102 = true := by kernel_rfl
@[go_sem] theorem Try.tsz104 : tsz Try.prog 104 = 4 := by kernel_rfl
@[go_sem] theorem Try.tyOk104 : tyOk Try.prog 104 = true := by kernel_rfl
@[go_sem] theorem Try.tzero104 : tzero Try.prog 104 = some (.agg #[.slice none 0 0, .nilFunc, .map none, .int .i64 0]) := by kernel_rfl
@[go_sem] theorem Try.bok104 : builtOk Try.prog 104 = true := by kernel_rfl
@[go_sem] theorem Try.plc104_0 : placeV Try.prog 104 0 = some (0, 2) := by kernel_rfl
@[go_sem] theorem Try.fld104_0 : fld Try.prog 104 0 = some (0, 101) := by kernel_rfl
@[go_sem] theorem Try.plc104_1 : placeV Try.prog 104 1 = some (2, 1) := by kernel_rfl
@[go_sem] theorem Try.fld104_1 : fld Try.prog 104 1 = some (2, 102) := by kernel_rfl
@[go_sem] theorem Try.plc104_2 : placeV Try.prog 104 2 = some (3, 1) := by kernel_rfl
@[go_sem] theorem Try.fld104_2 : fld Try.prog 104 2 = some (3, 2) := by kernel_rfl
@[go_sem] theorem Try.knd107 : knd Try.prog 107 = .ptr 109 := by kernel_rfl
@[go_sem] theorem Try.tsz107 : tsz Try.prog 107 = 1 := by kernel_rfl
@[go_sem] theorem Try.tby107 : tby Try.prog 107 = 8 := by kernel_rfl
@[go_sem] theorem Try.tagg107 : tagg Try.prog 107 = false := by kernel_rfl
@[go_sem] theorem Try.tyOk107 : tyOk Try.prog 107 = true := by kernel_rfl
@[go_sem] theorem Try.tzero107 : tzero Try.prog 107 = some (.pointer none) := by kernel_rfl
@[go_sem] theorem Try.tsz109 : tsz Try.prog 109 = 6 := by kernel_rfl
@[go_sem] theorem Try.tyOk109 : tyOk Try.prog 109 = true := by kernel_rfl
@[go_sem] theorem Try.tzero109 : tzero Try.prog 109 = some (.agg #[.int .i64 0, .int .i64 0, .int .i64 0, .int .i64 0, .int .i64 0, .int .i64 0]) := by kernel_rfl
@[go_sem] theorem Try.bok109 : builtOk Try.prog 109 = true := by kernel_rfl
@[go_sem] theorem Try.plc109_0 : placeV Try.prog 109 0 = some (0, 1) := by kernel_rfl
@[go_sem] theorem Try.fld109_0 : fld Try.prog 109 0 = some (0, 2) := by kernel_rfl
@[go_sem] theorem Try.plc109_1 : placeV Try.prog 109 1 = some (1, 4) := by kernel_rfl
@[go_sem] theorem Try.fld109_1 : fld Try.prog 109 1 = some (1, 35) := by kernel_rfl
@[go_sem] theorem Try.fld109_2 : fld Try.prog 109 2 = some (5, 3) := by kernel_rfl
@[go_sem] theorem Try.knd111 : knd Try.prog 111 = .ptr 101 := by kernel_rfl
@[go_sem] theorem Try.knd116 : knd Try.prog 116 = .map 2 79 := by kernel_rfl
@[go_sem] theorem Try.knd117 : knd Try.prog 117 = .slice 31 := by kernel_rfl
@[go_sem] theorem Try.knd118 : knd Try.prog 118 = .int .u64 := by kernel_rfl
end Go.Proofs
