/- Texts of the proof, put together: Ty. -/
import Derived.Test.YtbonmihbgcofpaaProg
import Derived.Test.YtbonmihbgcofpaaGb

set_option maxRecDepth 100000
namespace Go.Proofs
open Go Go.Pl
@[go_sem] theorem Try.knd2 : knd Try.prog 2 = .int .i64 := by kernel_rfl
@[go_sem] theorem Try.tsz2 : tsz Try.prog 2 = 1 := by kernel_rfl
@[go_sem] theorem Try.tagg2 : tagg Try.prog 2 = false := by kernel_rfl
@[go_sem] theorem Try.tyOk2 : tyOk Try.prog 2 = true := by kernel_rfl
@[go_sem] theorem Try.knd3 : knd Try.prog 3 = .int .i64 := by kernel_rfl
@[go_sem] theorem Try.tsz3 : tsz Try.prog 3 = 1 := by kernel_rfl
@[go_sem] theorem Try.tby3 : tby Try.prog 3 = 8 := by kernel_rfl
@[go_sem] theorem Try.tagg3 : tagg Try.prog 3 = false := by kernel_rfl
@[go_sem] theorem Try.tyOk3 : tyOk Try.prog 3 = true := by kernel_rfl
@[go_sem] theorem Try.tzero3 : tzero Try.prog 3 = some (.int .i64 0) := by kernel_rfl
@[go_sem] theorem Try.knd5 : knd Try.prog 5 = .int .u8 := by kernel_rfl
@[go_sem] theorem Try.tsz5 : tsz Try.prog 5 = 1 := by kernel_rfl
@[go_sem] theorem Try.tagg5 : tagg Try.prog 5 = false := by kernel_rfl
@[go_sem] theorem Try.tyOk5 : tyOk Try.prog 5 = true := by kernel_rfl
@[go_sem] theorem Try.tsz9 : tsz Try.prog 9 = 1 := by kernel_rfl
@[go_sem] theorem Try.tagg9 : tagg Try.prog 9 = false := by kernel_rfl
@[go_sem] theorem Try.tyOk9 : tyOk Try.prog 9 = true := by kernel_rfl
@[go_sem] theorem Try.knd22 : knd Try.prog 22 = .slice 3 := by kernel_rfl
@[go_sem] theorem Try.tagg22 : tagg Try.prog 22 = false := by kernel_rfl
@[go_sem] theorem Try.knd24 : knd Try.prog 24 = .ptr 79 := by kernel_rfl
@[go_sem] theorem Try.tsz24 : tsz Try.prog 24 = 1 := by kernel_rfl
@[go_sem] theorem Try.tagg24 : tagg Try.prog 24 = false := by kernel_rfl
@[go_sem] theorem Try.tyOk24 : tyOk Try.prog 24 = true := by kernel_rfl
@[go_sem] theorem Try.knd26 : knd Try.prog 26 = .fn := by kernel_rfl
@[go_sem] theorem Try.tsz26 : tsz Try.prog 26 = 1 := by kernel_rfl
@[go_sem] theorem Try.tagg26 : tagg Try.prog 26 = false := by kernel_rfl
@[go_sem] theorem Try.tyOk26 : tyOk Try.prog 26 = true := by kernel_rfl
@[go_sem] theorem Try.knd34 : knd Try.prog 34 = .slice 5 := by kernel_rfl
@[go_sem] theorem Try.tagg34 : tagg Try.prog 34 = false := by kernel_rfl
@[go_sem] theorem Try.knd46 : knd Try.prog 46 = .slice 49 := by kernel_rfl
@[go_sem] theorem Try.tsz46 : tsz Try.prog 46 = 1 := by kernel_rfl
@[go_sem] theorem Try.tagg46 : tagg Try.prog 46 = false := by kernel_rfl
@[go_sem] theorem Try.tyOk46 : tyOk Try.prog 46 = true := by kernel_rfl
@[go_sem] theorem Try.tsz49 : tsz Try.prog 49 = 2 := by kernel_rfl
@[go_sem] theorem Try.tby49 : tby Try.prog 49 = 16 := by kernel_rfl
@[go_sem] theorem Try.tagg49 : tagg Try.prog 49 = true := by kernel_rfl
@[go_sem] theorem Try.tyOk49 : tyOk Try.prog 49 = true := by kernel_rfl
@[go_sem] theorem Try.tzero49 : tzero Try.prog 49 = some (.agg #[.int .i64 0, .int .i64 0]) := by kernel_rfl
@[go_sem] theorem Try.bok49 : builtOk Try.prog 49 = true := by kernel_rfl
@[go_sem] theorem Try.plc49_0 : placeV Try.prog 49 0 = some (0, 1) := by kernel_rfl
@[go_sem] theorem Try.fld49_0 : fld Try.prog 49 0 = some (0, 2) := by kernel_rfl
@[go_sem] theorem Try.plc49_1 : placeV Try.prog 49 1 = some (1, 1) := by kernel_rfl
@[go_sem] theorem Try.fld49_1 : fld Try.prog 49 1 = some (1, 3) := by kernel_rfl
@[go_sem] theorem Try.tsz52 : tsz Try.prog 52 = 2 := by kernel_rfl
@[go_sem] theorem Try.tagg52 : tagg Try.prog 52 = true := by kernel_rfl
@[go_sem] theorem Try.tyOk52 : tyOk Try.prog 52 = true := by kernel_rfl
@[go_sem] theorem Try.tzero52 : tzero Try.prog 52 = some (.agg #[.int .i64 0, .slice none 0 0]) := by kernel_rfl
@[go_sem] theorem Try.bok52 : builtOk Try.prog 52 = true := by kernel_rfl
@[go_sem] theorem Try.plc52_0 : placeV Try.prog 52 0 = some (0, 1) := by kernel_rfl
@[go_sem] theorem Try.fld52_0 : fld Try.prog 52 0 = some (0, 2) := by kernel_rfl
@[go_sem] theorem Try.plc52_1 : placeV Try.prog 52 1 = some (1, 1) := by kernel_rfl
@[go_sem] theorem Try.fld52_1 : fld Try.prog 52 1 = some (1, 46) := by kernel_rfl
@[go_sem] theorem Try.knd55 : knd Try.prog 55 = .ptr 99 := by kernel_rfl
@[go_sem] theorem Try.tsz58 : tsz Try.prog 58 = 2 := by kernel_rfl
@[go_sem] theorem Try.tagg58 : tagg Try.prog 58 = true := by kernel_rfl
@[go_sem] theorem Try.tyOk58 : tyOk Try.prog 58 = true := by kernel_rfl
@[go_sem] theorem Try.tzero58 : tzero Try.prog 58 = some (.agg #[.string ⟨#[]⟩, .int .i64 0]) := by kernel_rfl
@[go_sem] theorem Try.bok58 : builtOk Try.prog 58 = true := by kernel_rfl
@[go_sem] theorem Try.plc58_0 : placeV Try.prog 58 0 = some (0, 1) := by kernel_rfl
@[go_sem] theorem Try.fld58_0 : fld Try.prog 58 0 = some (0, 9) := by kernel_rfl
@[go_sem] theorem Try.plc58_1 : placeV Try.prog 58 1 = some (1, 1) := by kernel_rfl
@[go_sem] theorem Try.fld58_1 : fld Try.prog 58 1 = some (1, 3) := by kernel_rfl
@[go_sem] theorem Try.knd59 : knd Try.prog 59 = .fn := by kernel_rfl
@[go_sem] theorem Try.tsz59 : tsz Try.prog 59 = 1 := by kernel_rfl
@[go_sem] theorem Try.tagg59 : tagg Try.prog 59 = false := by kernel_rfl
@[go_sem] theorem Try.tyOk59 : tyOk Try.prog 59 = true := by kernel_rfl
@[go_sem] theorem Try.knd74 : knd Try.prog 74 = .slice 85 := by kernel_rfl
@[go_sem] theorem Try.tsz74 : tsz Try.prog 74 = 1 := by kernel_rfl
@[go_sem] theorem Try.tagg74 : tagg Try.prog 74 = false := by kernel_rfl
@[go_sem] theorem Try.tyOk74 : tyOk Try.prog 74 = true := by kernel_rfl
@[go_sem] theorem Try.tsz76 : tsz Try.prog 76 = 2 := by kernel_rfl
@[go_sem] theorem Try.tzero76 : tzero Try.prog 76 = some (.agg #[.slice none 0 0, .nilFunc]) := by kernel_rfl
@[go_sem] theorem Try.bok76 : builtOk Try.prog 76 = true := by kernel_rfl
@[go_sem] theorem Try.fld76_0 : fld Try.prog 76 0 = some (0, 74) := by kernel_rfl
@[go_sem] theorem Try.plc76_1 : placeV Try.prog 76 1 = some (1, 1) := by kernel_rfl
@[go_sem] theorem Try.fld76_1 : fld Try.prog 76 1 = some (1, 26) := by kernel_rfl
@[go_sem] theorem Try.knd77 : knd Try.prog 77 = .map 2 85 := by kernel_rfl
@[go_sem] theorem Try.tsz77 : tsz Try.prog 77 = 1 := by kernel_rfl
@[go_sem] theorem Try.tagg77 : tagg Try.prog 77 = false := by kernel_rfl
@[go_sem] theorem Try.tyOk77 : tyOk Try.prog 77 = true := by kernel_rfl
@[go_sem] theorem Try.tsz79 : tsz Try.prog 79 = 4 := by kernel_rfl
@[go_sem] theorem Try.tyOk79 : tyOk Try.prog 79 = true := by kernel_rfl
@[go_sem] theorem Try.tzero79 : tzero Try.prog 79 = some (.agg #[.slice none 0 0, .nilFunc, .map none, .int .i64 0]) := by kernel_rfl
@[go_sem] theorem Try.bok79 : builtOk Try.prog 79 = true := by kernel_rfl
@[go_sem] theorem Try.plc79_0 : placeV Try.prog 79 0 = some (0, 2) := by kernel_rfl
@[go_sem] theorem Try.fld79_0 : fld Try.prog 79 0 = some (0, 76) := by kernel_rfl
@[go_sem] theorem Try.plc79_1 : placeV Try.prog 79 1 = some (2, 1) := by kernel_rfl
@[go_sem] theorem Try.fld79_1 : fld Try.prog 79 1 = some (2, 77) := by kernel_rfl
@[go_sem] theorem Try.plc79_2 : placeV Try.prog 79 2 = some (3, 1) := by kernel_rfl
@[go_sem] theorem Try.fld79_2 : fld Try.prog 79 2 = some (3, 2) := by kernel_rfl
@[go_sem] theorem Try.knd83 : knd Try.prog 83 = .ptr 76 := by kernel_rfl
@[go_sem] theorem Try.knd85 : knd Try.prog 85 = .ptr 90 := by kernel_rfl
@[go_sem] theorem Try.tsz85 : tsz Try.prog 85 = 1 := by kernel_rfl
@[go_sem] theorem Try.tby85 : tby Try.prog 85 = 8 := by kernel_rfl
@[go_sem] theorem Try.tagg85 : tagg Try.prog 85 = false := by kernel_rfl
@[go_sem] theorem Try.tyOk85 : tyOk Try.prog 85 = true := by kernel_rfl
@[go_sem] theorem Try.tzero85 : tzero Try.prog 85 = some (.pointer none) := by kernel_rfl
@[go_sem] theorem Try.tsz90 : tsz Try.prog 90 = 3 := by kernel_rfl
@[go_sem] theorem Try.tyOk90 : tyOk Try.prog 90 = true := by kernel_rfl
@[go_sem] theorem Try.tzero90 : tzero Try.prog 90 = some (.agg #[.int .i64 0, .int .i64 0, .int .i64 0]) := by kernel_rfl
@[go_sem] theorem Try.bok90 : builtOk Try.prog 90 = true := by kernel_rfl
@[go_sem] theorem Try.plc90_0 : placeV Try.prog 90 0 = some (0, 1) := by kernel_rfl
@[go_sem] theorem Try.fld90_0 : fld Try.prog 90 0 = some (0, 2) := by kernel_rfl
@[go_sem] theorem Try.plc90_1 : placeV Try.prog 90 1 = some (1, 1) := by kernel_rfl
@[go_sem] theorem Try.fld90_1 : fld Try.prog 90 1 = some (1, 3) := by kernel_rfl
@[go_sem] theorem Try.plc90_2 : placeV Try.prog 90 2 = some (2, 1) := by kernel_rfl
@[go_sem] theorem Try.fld90_2 : fld Try.prog 90 2 = some (2, 3) := by kernel_rfl
@[go_sem] theorem Try.knd93 : knd Try.prog 93 = .arr 3 3 := by kernel_rfl
@[go_sem] theorem Try.tsz93 : tsz Try.prog 93 = 3 := by kernel_rfl
@[go_sem] theorem Try.tyOk93 : tyOk Try.prog 93 = true := by kernel_rfl
@[go_sem] theorem Try.tzero93 : tzero Try.prog 93 = some (.agg #[.int .i64 0, .int .i64 0, .int .i64 0]) := by kernel_rfl
@[go_sem] theorem Try.bok93 : builtOk Try.prog 93 = true := by kernel_rfl
@[go_sem] theorem Try.plc93 (i : Nat) : placeV Try.prog 93 i = some (i * 1, 1) := by kernel_rfl
@[go_sem] theorem Try.knd94 : knd Try.prog 94 = .slice 100 := by kernel_rfl
@[go_sem] theorem Try.tsz94 : tsz Try.prog 94 = 1 := by kernel_rfl
@[go_sem] theorem Try.tagg94 : tagg Try.prog 94 = false := by kernel_rfl
@[go_sem] theorem Try.tyOk94 : tyOk Try.prog 94 = true := by kernel_rfl
@[go_sem] theorem Try.tsz96 : tsz Try.prog 96 = 2 := by kernel_rfl
@[go_sem] theorem Try.tzero96 : tzero Try.prog 96 = some (.agg #[.slice none 0 0, .nilFunc]) := by kernel_rfl
@[go_sem] theorem Try.bok96 : builtOk Try.prog 96 = true := by kernel_rfl
@[go_sem] theorem Try.fld96_0 : fld Try.prog 96 0 = some (0, 94) := by kernel_rfl
@[go_sem] theorem Try.plc96_1 : placeV Try.prog 96 1 = some (1, 1) := by kernel_rfl
@[go_sem] theorem Try.fld96_1 : fld Try.prog 96 1 = some (1, 59) := by kernel_rfl
@[go_sem] theorem Try.knd97 : knd Try.prog 97 = .map 2 100 := by kernel_rfl
@[go_sem] theorem Try.tsz97 : tsz Try.prog 97 = 1 := by kernel_rfl
@[go_sem] theorem Try.tagg97 : tagg Try.prog 97 = false := by kernel_rfl
@[go_sem] theorem Try.tyOk97 : tyOk Try.prog 97 = true := by kernel_rfl
@[go_sem] theorem Try.tsz99 : tsz Try.prog 99 = 4 := by kernel_rfl
@[go_sem] theorem Try.tyOk99 : tyOk Try.prog 99 = true := by kernel_rfl
@[go_sem] theorem Try.tzero99 : tzero Try.prog 99 = some (.agg #[.slice none 0 0, .nilFunc, .map none, .int .i64 0]) := by kernel_rfl
@[go_sem] theorem Try.bok99 : builtOk Try.prog 99 = true := by kernel_rfl
@[go_sem] theorem Try.plc99_0 : placeV Try.prog 99 0 = some (0, 2) := by kernel_rfl
@[go_sem] theorem Try.fld99_0 : fld Try.prog 99 0 = some (0, 96) := by kernel_rfl
@[go_sem] theorem Try.plc99_1 : placeV Try.prog 99 1 = some (2, 1) := by kernel_rfl
@[go_sem] theorem Try.fld99_1 : fld Try.prog 99 1 = some (2, 97) := by kernel_rfl
@[go_sem] theorem Try.plc99_2 : placeV Try.prog 99 2 = some (3, 1) := by kernel_rfl
@[go_sem] theorem Try.fld99_2 : fld Try.prog 99 2 = some (3, 2) := by kernel_rfl
@[go_sem] theorem Try.knd100 : knd Try.prog 100 = .ptr 102 := by kernel_rfl
@[go_sem] theorem Try.tsz100 : tsz Try.prog 100 = 1 := by kernel_rfl
@[go_sem] theorem Try.tby100 : tby Try.prog 100 = 8 := by kernel_rfl
@[go_sem] theorem Try.tagg100 : tagg Try.prog 100 = false := by kernel_rfl
@[go_sem] theorem Try.tyOk100 : tyOk Try.prog 100 = true := by kernel_rfl
@[go_sem] theorem Try.tzero100 : tzero Try.prog 100 = some (.pointer none) := by kernel_rfl
@[go_sem] theorem Try.tsz102 : tsz Try.prog 102 = 4 := by kernel_rfl
@[go_sem] theorem Try.tyOk102 : tyOk Try.prog 102 = true := by kernel_rfl
@[go_sem] theorem Try.tzero102 : tzero Try.prog 102 = some (.agg #[.int .i64 0, .string ⟨#[]⟩, .int .i64 0, .int .i64 0]) := by kernel_rfl
@[go_sem] theorem Try.bok102 : builtOk Try.prog 102 = true := by kernel_rfl
@[go_sem] theorem Try.plc102_0 : placeV Try.prog 102 0 = some (0, 1) := by kernel_rfl
@[go_sem] theorem Try.fld102_0 : fld Try.prog 102 0 = some (0, 2) := by kernel_rfl
@[go_sem] theorem Try.plc102_1 : placeV Try.prog 102 1 = some (1, 2) := by kernel_rfl
@[go_sem] theorem Try.fld102_1 : fld Try.prog 102 1 = some (1, 58) := by kernel_rfl
@[go_sem] theorem Try.fld102_2 : fld Try.prog 102 2 = some (3, 3) := by kernel_rfl
@[go_sem] theorem Try.knd103 : knd Try.prog 103 = .ptr 96 := by kernel_rfl
end Go.Proofs
