/- Texts of the proof, put together: Ty. -/
import Derived.Test.YtejcmkefemhpkaaProg
import Derived.Test.YtejcmkefemhpkaaGb

/- What the logic asks of the types: by program (gen_ty.py). -/
set_option maxRecDepth 100000
namespace Go.Proofs
open Go Go.Pl
@[go_sem] theorem Try.knd1 : knd Try.prog 1 = .fn := by kernel_rfl
@[go_sem] theorem Try.tsz1 : tsz Try.prog 1 = 1 := by kernel_rfl
@[go_sem] theorem Try.tby1 : tby Try.prog 1 = 8 := by kernel_rfl
@[go_sem] theorem Try.tagg1 : tagg Try.prog 1 = false := by kernel_rfl
@[go_sem] theorem Try.tyOk1 : tyOk Try.prog 1 = true := by kernel_rfl
@[go_sem] theorem Try.tzero1 : tzero Try.prog 1 = some (.nilFunc) := by kernel_rfl
@[go_sem] theorem Try.knd2 : knd Try.prog 2 = .int .i64 := by kernel_rfl
@[go_sem] theorem Try.tsz2 : tsz Try.prog 2 = 1 := by kernel_rfl
@[go_sem] theorem Try.tby2 : tby Try.prog 2 = 8 := by kernel_rfl
@[go_sem] theorem Try.tagg2 : tagg Try.prog 2 = false := by kernel_rfl
@[go_sem] theorem Try.tyOk2 : tyOk Try.prog 2 = true := by kernel_rfl
@[go_sem] theorem Try.tzero2 : tzero Try.prog 2 = some (.int .i64 0) := by kernel_rfl
@[go_sem] theorem Try.knd3 : knd Try.prog 3 = .int .i64 := by kernel_rfl
@[go_sem] theorem Try.tsz3 : tsz Try.prog 3 = 1 := by kernel_rfl
@[go_sem] theorem Try.tby3 : tby Try.prog 3 = 8 := by kernel_rfl
@[go_sem] theorem Try.tagg3 : tagg Try.prog 3 = false := by kernel_rfl
@[go_sem] theorem Try.tyOk3 : tyOk Try.prog 3 = true := by kernel_rfl
@[go_sem] theorem Try.tzero3 : tzero Try.prog 3 = some (.int .i64 0) := by kernel_rfl
@[go_sem] theorem Try.knd4 : knd Try.prog 4 = .bool := by kernel_rfl
@[go_sem] theorem Try.tsz4 : tsz Try.prog 4 = 1 := by kernel_rfl
@[go_sem] theorem Try.tby4 : tby Try.prog 4 = 1 := by kernel_rfl
@[go_sem] theorem Try.tagg4 : tagg Try.prog 4 = false := by kernel_rfl
@[go_sem] theorem Try.tyOk4 : tyOk Try.prog 4 = true := by kernel_rfl
@[go_sem] theorem Try.tzero4 : tzero Try.prog 4 = some (.bool false) := by kernel_rfl
@[go_sem] theorem Try.knd5 : knd Try.prog 5 = .int .u8 := by kernel_rfl
@[go_sem] theorem Try.tsz5 : tsz Try.prog 5 = 1 := by kernel_rfl
@[go_sem] theorem Try.tby5 : tby Try.prog 5 = 1 := by kernel_rfl
@[go_sem] theorem Try.tagg5 : tagg Try.prog 5 = false := by kernel_rfl
@[go_sem] theorem Try.tyOk5 : tyOk Try.prog 5 = true := by kernel_rfl
@[go_sem] theorem Try.tzero5 : tzero Try.prog 5 = some (.int .u8 0) := by kernel_rfl
@[go_sem] theorem Try.knd9 : knd Try.prog 9 = .str := by kernel_rfl
@[go_sem] theorem Try.tsz9 : tsz Try.prog 9 = 1 := by kernel_rfl
@[go_sem] theorem Try.tby9 : tby Try.prog 9 = 16 := by kernel_rfl
@[go_sem] theorem Try.tagg9 : tagg Try.prog 9 = false := by kernel_rfl
@[go_sem] theorem Try.tyOk9 : tyOk Try.prog 9 = true := by kernel_rfl
@[go_sem] theorem Try.tzero9 : tzero Try.prog 9 = some (.string ⟨#[]⟩) := by kernel_rfl
@[go_sem] theorem Try.knd12 : knd Try.prog 12 = .int .u64 := by kernel_rfl
@[go_sem] theorem Try.tsz12 : tsz Try.prog 12 = 1 := by kernel_rfl
@[go_sem] theorem Try.tby12 : tby Try.prog 12 = 8 := by kernel_rfl
@[go_sem] theorem Try.tagg12 : tagg Try.prog 12 = false := by kernel_rfl
@[go_sem] theorem Try.tyOk12 : tyOk Try.prog 12 = true := by kernel_rfl
@[go_sem] theorem Try.tzero12 : tzero Try.prog 12 = some (.int .u64 0) := by kernel_rfl
@[go_sem] theorem Try.knd13 : knd Try.prog 13 = .strct := by kernel_rfl
@[go_sem] theorem Try.tsz13 : tsz Try.prog 13 = 2 := by kernel_rfl
@[go_sem] theorem Try.tby13 : tby Try.prog 13 = 24 := by kernel_rfl
@[go_sem] theorem Try.tagg13 : tagg Try.prog 13 = true := by kernel_rfl
@[go_sem] theorem Try.tyOk13 : tyOk Try.prog 13 = true := by kernel_rfl
@[go_sem] theorem Try.tzero13 : tzero Try.prog 13 = some (.agg #[.string ⟨#[]⟩, .int .u64 0]) := by kernel_rfl
@[go_sem] theorem Try.bok13 : builtOk Try.prog 13 = true := by kernel_rfl
@[go_sem] theorem Try.plc13_0 : placeV Try.prog 13 0 = some (0, 1) := by kernel_rfl
@[go_sem] theorem Try.fld13_0 : fld Try.prog 13 0 = some (0, 9) := by kernel_rfl
@[go_sem] theorem Try.plc13_1 : placeV Try.prog 13 1 = some (1, 1) := by kernel_rfl
@[go_sem] theorem Try.fld13_1 : fld Try.prog 13 1 = some (1, 12) := by kernel_rfl
@[go_sem] theorem Try.knd15 : knd Try.prog 15 = .ptr 137 := by kernel_rfl
@[go_sem] theorem Try.tsz15 : tsz Try.prog 15 = 1 := by kernel_rfl
@[go_sem] theorem Try.tby15 : tby Try.prog 15 = 8 := by kernel_rfl
@[go_sem] theorem Try.tagg15 : tagg Try.prog 15 = false := by kernel_rfl
@[go_sem] theorem Try.tyOk15 : tyOk Try.prog 15 = true := by kernel_rfl
@[go_sem] theorem Try.tzero15 : tzero Try.prog 15 = some (.pointer none) := by kernel_rfl
@[go_sem] theorem Try.knd16 : knd Try.prog 16 = .ptr 140 := by kernel_rfl
@[go_sem] theorem Try.tsz16 : tsz Try.prog 16 = 1 := by kernel_rfl
@[go_sem] theorem Try.tby16 : tby Try.prog 16 = 8 := by kernel_rfl
@[go_sem] theorem Try.tagg16 : tagg Try.prog 16 = false := by kernel_rfl
@[go_sem] theorem Try.tyOk16 : tyOk Try.prog 16 = true := by kernel_rfl
@[go_sem] theorem Try.tzero16 : tzero Try.prog 16 = some (.pointer none) := by kernel_rfl
@[go_sem] theorem Try.knd20 : knd Try.prog 20 = .iface := by kernel_rfl
@[go_sem] theorem Try.tsz20 : tsz Try.prog 20 = 1 := by kernel_rfl
@[go_sem] theorem Try.tby20 : tby Try.prog 20 = 16 := by kernel_rfl
@[go_sem] theorem Try.tagg20 : tagg Try.prog 20 = false := by kernel_rfl
@[go_sem] theorem Try.tyOk20 : tyOk Try.prog 20 = true := by kernel_rfl
@[go_sem] theorem Try.tzero20 : tzero Try.prog 20 = some (.nilIface) := by kernel_rfl
@[go_sem] theorem Try.knd21 : knd Try.prog 21 = .int .i32 := by kernel_rfl
@[go_sem] theorem Try.tsz21 : tsz Try.prog 21 = 1 := by kernel_rfl
@[go_sem] theorem Try.tby21 : tby Try.prog 21 = 4 := by kernel_rfl
@[go_sem] theorem Try.tagg21 : tagg Try.prog 21 = false := by kernel_rfl
@[go_sem] theorem Try.tyOk21 : tyOk Try.prog 21 = true := by kernel_rfl
@[go_sem] theorem Try.tzero21 : tzero Try.prog 21 = some (.int .i32 0) := by kernel_rfl
@[go_sem] theorem Try.knd22 : knd Try.prog 22 = .slice 35 := by kernel_rfl
@[go_sem] theorem Try.tsz22 : tsz Try.prog 22 = 1 := by kernel_rfl
@[go_sem] theorem Try.tby22 : tby Try.prog 22 = 24 := by kernel_rfl
@[go_sem] theorem Try.tagg22 : tagg Try.prog 22 = false := by kernel_rfl
@[go_sem] theorem Try.tyOk22 : tyOk Try.prog 22 = true := by kernel_rfl
@[go_sem] theorem Try.tzero22 : tzero Try.prog 22 = some (.slice none 0 0) := by kernel_rfl
@[go_sem] theorem Try.knd23 : knd Try.prog 23 = .slice 51 := by kernel_rfl
@[go_sem] theorem Try.tsz23 : tsz Try.prog 23 = 1 := by kernel_rfl
@[go_sem] theorem Try.tby23 : tby Try.prog 23 = 24 := by kernel_rfl
@[go_sem] theorem Try.tagg23 : tagg Try.prog 23 = false := by kernel_rfl
@[go_sem] theorem Try.tyOk23 : tyOk Try.prog 23 = true := by kernel_rfl
@[go_sem] theorem Try.tzero23 : tzero Try.prog 23 = some (.slice none 0 0) := by kernel_rfl
@[go_sem] theorem Try.knd24 : knd Try.prog 24 = .strct := by kernel_rfl
@[go_sem] theorem Try.tsz24 : tsz Try.prog 24 = 4 := by kernel_rfl
@[go_sem] theorem Try.tby24 : tby Try.prog 24 = 64 := by kernel_rfl
@[go_sem] theorem Try.tagg24 : tagg Try.prog 24 = true := by kernel_rfl
@[go_sem] theorem Try.tyOk24 : tyOk Try.prog 24 = true := by kernel_rfl
@[go_sem] theorem Try.tzero24 : tzero Try.prog 24 = some (.agg #[.int .i64 0, .int .i64 0, .slice none 0 0, .slice none 0 0]) := by kernel_rfl
@[go_sem] theorem Try.bok24 : builtOk Try.prog 24 = true := by kernel_rfl
@[go_sem] theorem Try.plc24_0 : placeV Try.prog 24 0 = some (0, 1) := by kernel_rfl
@[go_sem] theorem Try.fld24_0 : fld Try.prog 24 0 = some (0, 2) := by kernel_rfl
@[go_sem] theorem Try.plc24_1 : placeV Try.prog 24 1 = some (1, 1) := by kernel_rfl
@[go_sem] theorem Try.fld24_1 : fld Try.prog 24 1 = some (1, 2) := by kernel_rfl
@[go_sem] theorem Try.plc24_2 : placeV Try.prog 24 2 = some (2, 1) := by kernel_rfl
@[go_sem] theorem Try.fld24_2 : fld Try.prog 24 2 = some (2, 22) := by kernel_rfl
@[go_sem] theorem Try.plc24_3 : placeV Try.prog 24 3 = some (3, 1) := by kernel_rfl
@[go_sem] theorem Try.fld24_3 : fld Try.prog 24 3 = some (3, 23) := by kernel_rfl
@[go_sem] theorem Try.knd25 : knd Try.prog 25 = .strct := by kernel_rfl
@[go_sem] theorem Try.tsz25 : tsz Try.prog 25 = 4 := by kernel_rfl
@[go_sem] theorem Try.tby25 : tby Try.prog 25 = 64 := by kernel_rfl
@[go_sem] theorem Try.tagg25 : tagg Try.prog 25 = true := by kernel_rfl
@[go_sem] theorem Try.tyOk25 : tyOk Try.prog 25 = true := by kernel_rfl
@[go_sem] theorem Try.tzero25 : tzero Try.prog 25 = some (.agg #[.int .i64 0, .int .i64 0, .slice none 0 0, .slice none 0 0]) := by kernel_rfl
@[go_sem] theorem Try.bok25 : builtOk Try.prog 25 = true := by kernel_rfl
@[go_sem] theorem Try.plc25_0 : placeV Try.prog 25 0 = some (0, 1) := by kernel_rfl
@[go_sem] theorem Try.fld25_0 : fld Try.prog 25 0 = some (0, 2) := by kernel_rfl
@[go_sem] theorem Try.plc25_1 : placeV Try.prog 25 1 = some (1, 1) := by kernel_rfl
@[go_sem] theorem Try.fld25_1 : fld Try.prog 25 1 = some (1, 2) := by kernel_rfl
@[go_sem] theorem Try.plc25_2 : placeV Try.prog 25 2 = some (2, 1) := by kernel_rfl
@[go_sem] theorem Try.fld25_2 : fld Try.prog 25 2 = some (2, 22) := by kernel_rfl
@[go_sem] theorem Try.plc25_3 : placeV Try.prog 25 3 = some (3, 1) := by kernel_rfl
@[go_sem] theorem Try.fld25_3 : fld Try.prog 25 3 = some (3, 23) := by kernel_rfl
@[go_sem] theorem Try.knd26 : knd Try.prog 26 = .slice 30 := by kernel_rfl
@[go_sem] theorem Try.tsz26 : tsz Try.prog 26 = 1 := by kernel_rfl
@[go_sem] theorem Try.tby26 : tby Try.prog 26 = 24 := by kernel_rfl
@[go_sem] theorem Try.tagg26 : tagg Try.prog 26 = false := by kernel_rfl
@[go_sem] theorem Try.tyOk26 : tyOk Try.prog 26 = true := by kernel_rfl
@[go_sem] theorem Try.tzero26 : tzero Try.prog 26 = some (.slice none 0 0) := by kernel_rfl
@[go_sem] theorem Try.knd27 : knd Try.prog 27 = .fn := by kernel_rfl
@[go_sem] theorem Try.tsz27 : tsz Try.prog 27 = 1 := by kernel_rfl
@[go_sem] theorem Try.tby27 : tby Try.prog 27 = 8 := by kernel_rfl
@[go_sem] theorem Try.tagg27 : tagg Try.prog 27 = false := by kernel_rfl
@[go_sem] theorem Try.tyOk27 : tyOk Try.prog 27 = true := by kernel_rfl
@[go_sem] theorem Try.tzero27 : tzero Try.prog 27 = some (.nilFunc) := by kernel_rfl
@[go_sem] theorem Try.knd28 : knd Try.prog 28 = .fn := by kernel_rfl
@[go_sem] theorem Try.tsz28 : tsz Try.prog 28 = 1 := by kernel_rfl
@[go_sem] theorem Try.tby28 : tby Try.prog 28 = 8 := by kernel_rfl
@[go_sem] theorem Try.tagg28 : tagg Try.prog 28 = false := by kernel_rfl
@[go_sem] theorem Try.tyOk28 : tyOk Try.prog 28 = true := by kernel_rfl
@[go_sem] theorem Try.tzero28 : tzero Try.prog 28 = some (.nilFunc) := by kernel_rfl
@[go_sem] theorem Try.knd29 : knd Try.prog 29 = .slice 2 := by kernel_rfl
@[go_sem] theorem Try.tsz29 : tsz Try.prog 29 = 1 := by kernel_rfl
@[go_sem] theorem Try.tby29 : tby Try.prog 29 = 24 := by kernel_rfl
@[go_sem] theorem Try.tagg29 : tagg Try.prog 29 = false := by kernel_rfl
@[go_sem] theorem Try.tyOk29 : tyOk Try.prog 29 = true := by kernel_rfl
@[go_sem] theorem Try.tzero29 : tzero Try.prog 29 = some (.slice none 0 0) := by kernel_rfl
@[go_sem] theorem Try.knd30 : knd Try.prog 30 = .int .u16 := by kernel_rfl
@[go_sem] theorem Try.tsz30 : tsz Try.prog 30 = 1 := by kernel_rfl
@[go_sem] theorem Try.tby30 : tby Try.prog 30 = 2 := by kernel_rfl
@[go_sem] theorem Try.tagg30 : tagg Try.prog 30 = false := by kernel_rfl
@[go_sem] theorem Try.tyOk30 : tyOk Try.prog 30 = true := by kernel_rfl
@[go_sem] theorem Try.tzero30 : tzero Try.prog 30 = some (.int .u16 0) := by kernel_rfl
@[go_sem] theorem Try.knd31 : knd Try.prog 31 = .int .i64 := by kernel_rfl
@[go_sem] theorem Try.tsz31 : tsz Try.prog 31 = 1 := by kernel_rfl
@[go_sem] theorem Try.tby31 : tby Try.prog 31 = 8 := by kernel_rfl
@[go_sem] theorem Try.tagg31 : tagg Try.prog 31 = false := by kernel_rfl
@[go_sem] theorem Try.tyOk31 : tyOk Try.prog 31 = true := by kernel_rfl
@[go_sem] theorem Try.tzero31 : tzero Try.prog 31 = some (.int .i64 0) := by kernel_rfl
@[go_sem] theorem Try.knd33 : knd Try.prog 33 = .fn := by kernel_rfl
@[go_sem] theorem Try.tsz33 : tsz Try.prog 33 = 1 := by kernel_rfl
@[go_sem] theorem Try.tby33 : tby Try.prog 33 = 8 := by kernel_rfl
@[go_sem] theorem Try.tagg33 : tagg Try.prog 33 = false := by kernel_rfl
@[go_sem] theorem Try.tyOk33 : tyOk Try.prog 33 = true := by kernel_rfl
@[go_sem] theorem Try.tzero33 : tzero Try.prog 33 = some (.nilFunc) := by kernel_rfl
@[go_sem] theorem Try.knd34 : knd Try.prog 34 = .strct := by kernel_rfl
@[go_sem] theorem Try.tsz34 : tsz Try.prog 34 = 4 := by kernel_rfl
@[go_sem] theorem Try.tby34 : tby Try.prog 34 = 32 := by kernel_rfl
@[go_sem] theorem Try.tagg34 : tagg Try.prog 34 = true := by kernel_rfl
@[go_sem] theorem Try.tyOk34 : tyOk Try.prog 34 = true := by kernel_rfl
@[go_sem] theorem Try.tzero34 : tzero Try.prog 34 = some (.agg #[.int .i64 0, .int .i64 0, .int .i64 0, .int .i64 0]) := by kernel_rfl
@[go_sem] theorem Try.bok34 : builtOk Try.prog 34 = true := by kernel_rfl
@[go_sem] theorem Try.plc34_0 : placeV Try.prog 34 0 = some (0, 1) := by kernel_rfl
@[go_sem] theorem Try.fld34_0 : fld Try.prog 34 0 = some (0, 2) := by kernel_rfl
@[go_sem] theorem Try.plc34_1 : placeV Try.prog 34 1 = some (1, 1) := by kernel_rfl
@[go_sem] theorem Try.fld34_1 : fld Try.prog 34 1 = some (1, 2) := by kernel_rfl
@[go_sem] theorem Try.plc34_2 : placeV Try.prog 34 2 = some (2, 1) := by kernel_rfl
@[go_sem] theorem Try.fld34_2 : fld Try.prog 34 2 = some (2, 3) := by kernel_rfl
@[go_sem] theorem Try.plc34_3 : placeV Try.prog 34 3 = some (3, 1) := by kernel_rfl
@[go_sem] theorem Try.fld34_3 : fld Try.prog 34 3 = some (3, 2) := by kernel_rfl
@[go_sem] theorem Try.knd35 : knd Try.prog 35 = .strct := by kernel_rfl
@[go_sem] theorem Try.tsz35 : tsz Try.prog 35 = 4 := by kernel_rfl
@[go_sem] theorem Try.tby35 : tby Try.prog 35 = 32 := by kernel_rfl
@[go_sem] theorem Try.tagg35 : tagg Try.prog 35 = true := by kernel_rfl
@[go_sem] theorem Try.tyOk35 : tyOk Try.prog 35 = true := by kernel_rfl
@[go_sem] theorem Try.tzero35 : tzero Try.prog 35 = some (.agg #[.int .i64 0, .int .i64 0, .int .i64 0, .int .i64 0]) := by kernel_rfl
@[go_sem] theorem Try.bok35 : builtOk Try.prog 35 = true := by kernel_rfl
@[go_sem] theorem Try.plc35_0 : placeV Try.prog 35 0 = some (0, 1) := by kernel_rfl
@[go_sem] theorem Try.fld35_0 : fld Try.prog 35 0 = some (0, 2) := by kernel_rfl
@[go_sem] theorem Try.plc35_1 : placeV Try.prog 35 1 = some (1, 1) := by kernel_rfl
@[go_sem] theorem Try.fld35_1 : fld Try.prog 35 1 = some (1, 2) := by kernel_rfl
@[go_sem] theorem Try.plc35_2 : placeV Try.prog 35 2 = some (2, 1) := by kernel_rfl
@[go_sem] theorem Try.fld35_2 : fld Try.prog 35 2 = some (2, 3) := by kernel_rfl
@[go_sem] theorem Try.plc35_3 : placeV Try.prog 35 3 = some (3, 1) := by kernel_rfl
@[go_sem] theorem Try.fld35_3 : fld Try.prog 35 3 = some (3, 2) := by kernel_rfl
@[go_sem] theorem Try.eqOk35 : eqOk Try.prog 35 = true := by kernel_rfl
@[go_sem] theorem Try.fkinds35 : fkinds Try.prog 35 = [.int .i64, .int .i64, .int .i64, .int .i64] := by kernel_rfl
@[go_sem] theorem Try.knd36 : knd Try.prog 36 = .fn := by kernel_rfl
@[go_sem] theorem Try.tsz36 : tsz Try.prog 36 = 1 := by kernel_rfl
@[go_sem] theorem Try.tby36 : tby Try.prog 36 = 8 := by kernel_rfl
@[go_sem] theorem Try.tagg36 : tagg Try.prog 36 = false := by kernel_rfl
@[go_sem] theorem Try.tyOk36 : tyOk Try.prog 36 = true := by kernel_rfl
@[go_sem] theorem Try.tzero36 : tzero Try.prog 36 = some (.nilFunc) := by kernel_rfl
@[go_sem] theorem Try.knd37 : knd Try.prog 37 = .fn := by kernel_rfl
@[go_sem] theorem Try.tsz37 : tsz Try.prog 37 = 1 := by kernel_rfl
@[go_sem] theorem Try.tby37 : tby Try.prog 37 = 8 := by kernel_rfl
@[go_sem] theorem Try.tagg37 : tagg Try.prog 37 = false := by kernel_rfl
@[go_sem] theorem Try.tyOk37 : tyOk Try.prog 37 = true := by kernel_rfl
@[go_sem] theorem Try.tzero37 : tzero Try.prog 37 = some (.nilFunc) := by kernel_rfl
@[go_sem] theorem Try.knd38 : knd Try.prog 38 = .fn := by kernel_rfl
@[go_sem] theorem Try.tsz38 : tsz Try.prog 38 = 1 := by kernel_rfl
@[go_sem] theorem Try.tby38 : tby Try.prog 38 = 8 := by kernel_rfl
@[go_sem] theorem Try.tagg38 : tagg Try.prog 38 = false := by kernel_rfl
@[go_sem] theorem Try.tyOk38 : tyOk Try.prog 38 = true := by kernel_rfl
@[go_sem] theorem Try.tzero38 : tzero Try.prog 38 = some (.nilFunc) := by kernel_rfl
@[go_sem] theorem Try.knd40 : knd Try.prog 40 = .fn := by kernel_rfl
@[go_sem] theorem Try.tsz40 : tsz Try.prog 40 = 1 := by kernel_rfl
@[go_sem] theorem Try.tby40 : tby Try.prog 40 = 8 := by kernel_rfl
@[go_sem] theorem Try.tagg40 : tagg Try.prog 40 = false := by kernel_rfl
@[go_sem] theorem Try.tyOk40 : tyOk Try.prog 40 = true := by kernel_rfl
@[go_sem] theorem Try.tzero40 : tzero Try.prog 40 = some (.nilFunc) := by kernel_rfl
@[go_sem] theorem Try.knd41 : knd Try.prog 41 = .fn := by kernel_rfl
@[go_sem] theorem Try.tsz41 : tsz Try.prog 41 = 1 := by kernel_rfl
@[go_sem] theorem Try.tby41 : tby Try.prog 41 = 8 := by kernel_rfl
@[go_sem] theorem Try.tagg41 : tagg Try.prog 41 = false := by kernel_rfl
@[go_sem] theorem Try.tyOk41 : tyOk Try.prog 41 = true := by kernel_rfl
@[go_sem] theorem Try.tzero41 : tzero Try.prog 41 = some (.nilFunc) := by kernel_rfl
@[go_sem] theorem Try.knd42 : knd Try.prog 42 = .slice 44 := by kernel_rfl
@[go_sem] theorem Try.tsz42 : tsz Try.prog 42 = 1 := by kernel_rfl
@[go_sem] theorem Try.tby42 : tby Try.prog 42 = 24 := by kernel_rfl
@[go_sem] theorem Try.tagg42 : tagg Try.prog 42 = false := by kernel_rfl
@[go_sem] theorem Try.tyOk42 : tyOk Try.prog 42 = true := by kernel_rfl
@[go_sem] theorem Try.tzero42 : tzero Try.prog 42 = some (.slice none 0 0) := by kernel_rfl
@[go_sem] theorem Try.knd43 : knd Try.prog 43 = .strct := by kernel_rfl
@[go_sem] theorem Try.tsz43 : tsz Try.prog 43 = 4 := by kernel_rfl
@[go_sem] theorem Try.tby43 : tby Try.prog 43 = 32 := by kernel_rfl
@[go_sem] theorem Try.tagg43 : tagg Try.prog 43 = true := by kernel_rfl
@[go_sem] theorem Try.tyOk43 : tyOk Try.prog 43 = true := by kernel_rfl
@[go_sem] theorem Try.tzero43 : tzero Try.prog 43 = some (.agg #[.int .u8 0, .int .i64 0, .int .i64 0, .int .i64 0]) := by kernel_rfl
@[go_sem] theorem Try.bok43 : builtOk Try.prog 43 = true := by kernel_rfl
@[go_sem] theorem Try.plc43_0 : placeV Try.prog 43 0 = some (0, 1) := by kernel_rfl
@[go_sem] theorem Try.fld43_0 : fld Try.prog 43 0 = some (0, 5) := by kernel_rfl
@[go_sem] theorem Try.plc43_1 : placeV Try.prog 43 1 = some (1, 1) := by kernel_rfl
@[go_sem] theorem Try.fld43_1 : fld Try.prog 43 1 = some (1, 2) := by kernel_rfl
@[go_sem] theorem Try.plc43_2 : placeV Try.prog 43 2 = some (2, 1) := by kernel_rfl
@[go_sem] theorem Try.fld43_2 : fld Try.prog 43 2 = some (2, 2) := by kernel_rfl
@[go_sem] theorem Try.plc43_3 : placeV Try.prog 43 3 = some (3, 1) := by kernel_rfl
@[go_sem] theorem Try.fld43_3 : fld Try.prog 43 3 = some (3, 3) := by kernel_rfl
@[go_sem] theorem Try.knd44 : knd Try.prog 44 = .strct := by kernel_rfl
@[go_sem] theorem Try.tsz44 : tsz Try.prog 44 = 4 := by kernel_rfl
@[go_sem] theorem Try.tby44 : tby Try.prog 44 = 32 := by kernel_rfl
@[go_sem] theorem Try.tagg44 : tagg Try.prog 44 = true := by kernel_rfl
@[go_sem] theorem Try.tyOk44 : tyOk Try.prog 44 = true := by kernel_rfl
@[go_sem] theorem Try.tzero44 : tzero Try.prog 44 = some (.agg #[.int .u8 0, .int .i64 0, .int .i64 0, .int .i64 0]) := by kernel_rfl
@[go_sem] theorem Try.bok44 : builtOk Try.prog 44 = true := by kernel_rfl
@[go_sem] theorem Try.plc44_0 : placeV Try.prog 44 0 = some (0, 1) := by kernel_rfl
@[go_sem] theorem Try.fld44_0 : fld Try.prog 44 0 = some (0, 5) := by kernel_rfl
@[go_sem] theorem Try.plc44_1 : placeV Try.prog 44 1 = some (1, 1) := by kernel_rfl
@[go_sem] theorem Try.fld44_1 : fld Try.prog 44 1 = some (1, 2) := by kernel_rfl
@[go_sem] theorem Try.plc44_2 : placeV Try.prog 44 2 = some (2, 1) := by kernel_rfl
@[go_sem] theorem Try.fld44_2 : fld Try.prog 44 2 = some (2, 2) := by kernel_rfl
@[go_sem] theorem Try.plc44_3 : placeV Try.prog 44 3 = some (3, 1) := by kernel_rfl
@[go_sem] theorem Try.fld44_3 : fld Try.prog 44 3 = some (3, 3) := by kernel_rfl
@[go_sem] theorem Try.eqOk44 : eqOk Try.prog 44 = true := by kernel_rfl
@[go_sem] theorem Try.fkinds44 : fkinds Try.prog 44 = [.int .u8, .int .i64, .int .i64, .int .i64] := by kernel_rfl
@[go_sem] theorem Try.knd46 : knd Try.prog 46 = .fn := by kernel_rfl
@[go_sem] theorem Try.tsz46 : tsz Try.prog 46 = 1 := by kernel_rfl
@[go_sem] theorem Try.tby46 : tby Try.prog 46 = 8 := by kernel_rfl
@[go_sem] theorem Try.tagg46 : tagg Try.prog 46 = false := by kernel_rfl
@[go_sem] theorem Try.tyOk46 : tyOk Try.prog 46 = true := by kernel_rfl
@[go_sem] theorem Try.tzero46 : tzero Try.prog 46 = some (.nilFunc) := by kernel_rfl
@[go_sem] theorem Try.knd48 : knd Try.prog 48 = .fn := by kernel_rfl
@[go_sem] theorem Try.tsz48 : tsz Try.prog 48 = 1 := by kernel_rfl
@[go_sem] theorem Try.tby48 : tby Try.prog 48 = 8 := by kernel_rfl
@[go_sem] theorem Try.tagg48 : tagg Try.prog 48 = false := by kernel_rfl
@[go_sem] theorem Try.tyOk48 : tyOk Try.prog 48 = true := by kernel_rfl
@[go_sem] theorem Try.tzero48 : tzero Try.prog 48 = some (.nilFunc) := by kernel_rfl
@[go_sem] theorem Try.knd49 : knd Try.prog 49 = .fn := by kernel_rfl
@[go_sem] theorem Try.tsz49 : tsz Try.prog 49 = 1 := by kernel_rfl
@[go_sem] theorem Try.tby49 : tby Try.prog 49 = 8 := by kernel_rfl
@[go_sem] theorem Try.tagg49 : tagg Try.prog 49 = false := by kernel_rfl
@[go_sem] theorem Try.tyOk49 : tyOk Try.prog 49 = true := by kernel_rfl
@[go_sem] theorem Try.tzero49 : tzero Try.prog 49 = some (.nilFunc) := by kernel_rfl
@[go_sem] theorem Try.knd50 : knd Try.prog 50 = .strct := by kernel_rfl
@[go_sem] theorem Try.tsz50 : tsz Try.prog 50 = 4 := by kernel_rfl
@[go_sem] theorem Try.tby50 : tby Try.prog 50 = 32 := by kernel_rfl
@[go_sem] theorem Try.tagg50 : tagg Try.prog 50 = true := by kernel_rfl
@[go_sem] theorem Try.tyOk50 : tyOk Try.prog 50 = true := by kernel_rfl
@[go_sem] theorem Try.tzero50 : tzero Try.prog 50 = some (.agg #[.int .i64 0, .int .i64 0, .int .i64 0, .int .i64 0]) := by kernel_rfl
@[go_sem] theorem Try.bok50 : builtOk Try.prog 50 = true := by kernel_rfl
@[go_sem] theorem Try.plc50_0 : placeV Try.prog 50 0 = some (0, 1) := by kernel_rfl
@[go_sem] theorem Try.fld50_0 : fld Try.prog 50 0 = some (0, 2) := by kernel_rfl
@[go_sem] theorem Try.plc50_1 : placeV Try.prog 50 1 = some (1, 1) := by kernel_rfl
@[go_sem] theorem Try.fld50_1 : fld Try.prog 50 1 = some (1, 2) := by kernel_rfl
@[go_sem] theorem Try.plc50_2 : placeV Try.prog 50 2 = some (2, 1) := by kernel_rfl
@[go_sem] theorem Try.fld50_2 : fld Try.prog 50 2 = some (2, 2) := by kernel_rfl
@[go_sem] theorem Try.plc50_3 : placeV Try.prog 50 3 = some (3, 1) := by kernel_rfl
@[go_sem] theorem Try.fld50_3 : fld Try.prog 50 3 = some (3, 3) := by kernel_rfl
@[go_sem] theorem Try.knd51 : knd Try.prog 51 = .strct := by kernel_rfl
@[go_sem] theorem Try.tsz51 : tsz Try.prog 51 = 4 := by kernel_rfl
@[go_sem] theorem Try.tby51 : tby Try.prog 51 = 32 := by kernel_rfl
@[go_sem] theorem Try.tagg51 : tagg Try.prog 51 = true := by kernel_rfl
@[go_sem] theorem Try.tyOk51 : tyOk Try.prog 51 = true := by kernel_rfl
@[go_sem] theorem Try.tzero51 : tzero Try.prog 51 = some (.agg #[.int .i64 0, .int .i64 0, .int .i64 0, .int .i64 0]) := by kernel_rfl
@[go_sem] theorem Try.bok51 : builtOk Try.prog 51 = true := by kernel_rfl
@[go_sem] theorem Try.plc51_0 : placeV Try.prog 51 0 = some (0, 1) := by kernel_rfl
@[go_sem] theorem Try.fld51_0 : fld Try.prog 51 0 = some (0, 2) := by kernel_rfl
@[go_sem] theorem Try.plc51_1 : placeV Try.prog 51 1 = some (1, 1) := by kernel_rfl
@[go_sem] theorem Try.fld51_1 : fld Try.prog 51 1 = some (1, 2) := by kernel_rfl
@[go_sem] theorem Try.plc51_2 : placeV Try.prog 51 2 = some (2, 1) := by kernel_rfl
@[go_sem] theorem Try.fld51_2 : fld Try.prog 51 2 = some (2, 2) := by kernel_rfl
@[go_sem] theorem Try.plc51_3 : placeV Try.prog 51 3 = some (3, 1) := by kernel_rfl
@[go_sem] theorem Try.fld51_3 : fld Try.prog 51 3 = some (3, 3) := by kernel_rfl
@[go_sem] theorem Try.eqOk51 : eqOk Try.prog 51 = true := by kernel_rfl
@[go_sem] theorem Try.fkinds51 : fkinds Try.prog 51 = [.int .i64, .int .i64, .int .i64, .int .i64] := by kernel_rfl
@[go_sem] theorem Try.knd53 : knd Try.prog 53 = .fn := by kernel_rfl
@[go_sem] theorem Try.tsz53 : tsz Try.prog 53 = 1 := by kernel_rfl
@[go_sem] theorem Try.tby53 : tby Try.prog 53 = 8 := by kernel_rfl
@[go_sem] theorem Try.tagg53 : tagg Try.prog 53 = false := by kernel_rfl
@[go_sem] theorem Try.tyOk53 : tyOk Try.prog 53 = true := by kernel_rfl
@[go_sem] theorem Try.tzero53 : tzero Try.prog 53 = some (.nilFunc) := by kernel_rfl
@[go_sem] theorem Try.knd55 : knd Try.prog 55 = .fn := by kernel_rfl
@[go_sem] theorem Try.tsz55 : tsz Try.prog 55 = 1 := by kernel_rfl
@[go_sem] theorem Try.tby55 : tby Try.prog 55 = 8 := by kernel_rfl
@[go_sem] theorem Try.tagg55 : tagg Try.prog 55 = false := by kernel_rfl
@[go_sem] theorem Try.tyOk55 : tyOk Try.prog 55 = true := by kernel_rfl
@[go_sem] theorem Try.tzero55 : tzero Try.prog 55 = some (.nilFunc) := by kernel_rfl
@[go_sem] theorem Try.knd56 : knd Try.prog 56 = .fn := by kernel_rfl
@[go_sem] theorem Try.tsz56 : tsz Try.prog 56 = 1 := by kernel_rfl
@[go_sem] theorem Try.tby56 : tby Try.prog 56 = 8 := by kernel_rfl
@[go_sem] theorem Try.tagg56 : tagg Try.prog 56 = false := by kernel_rfl
@[go_sem] theorem Try.tyOk56 : tyOk Try.prog 56 = true := by kernel_rfl
@[go_sem] theorem Try.tzero56 : tzero Try.prog 56 = some (.nilFunc) := by kernel_rfl
@[go_sem] theorem Try.knd58 : knd Try.prog 58 = .fn := by kernel_rfl
@[go_sem] theorem Try.tsz58 : tsz Try.prog 58 = 1 := by kernel_rfl
@[go_sem] theorem Try.tby58 : tby Try.prog 58 = 8 := by kernel_rfl
@[go_sem] theorem Try.tagg58 : tagg Try.prog 58 = false := by kernel_rfl
@[go_sem] theorem Try.tyOk58 : tyOk Try.prog 58 = true := by kernel_rfl
@[go_sem] theorem Try.tzero58 : tzero Try.prog 58 = some (.nilFunc) := by kernel_rfl
@[go_sem] theorem Try.knd59 : knd Try.prog 59 = .fn := by kernel_rfl
@[go_sem] theorem Try.tsz59 : tsz Try.prog 59 = 1 := by kernel_rfl
@[go_sem] theorem Try.tby59 : tby Try.prog 59 = 8 := by kernel_rfl
@[go_sem] theorem Try.tagg59 : tagg Try.prog 59 = false := by kernel_rfl
@[go_sem] theorem Try.tyOk59 : tyOk Try.prog 59 = true := by kernel_rfl
@[go_sem] theorem Try.tzero59 : tzero Try.prog 59 = some (.nilFunc) := by kernel_rfl
@[go_sem] theorem Try.knd60 : knd Try.prog 60 = .fn := by kernel_rfl
@[go_sem] theorem Try.tsz60 : tsz Try.prog 60 = 1 := by kernel_rfl
@[go_sem] theorem Try.tby60 : tby Try.prog 60 = 8 := by kernel_rfl
@[go_sem] theorem Try.tagg60 : tagg Try.prog 60 = false := by kernel_rfl
@[go_sem] theorem Try.tyOk60 : tyOk Try.prog 60 = true := by kernel_rfl
@[go_sem] theorem Try.tzero60 : tzero Try.prog 60 = some (.nilFunc) := by kernel_rfl
@[go_sem] theorem Try.knd62 : knd Try.prog 62 = .fn := by kernel_rfl
@[go_sem] theorem Try.tsz62 : tsz Try.prog 62 = 1 := by kernel_rfl
@[go_sem] theorem Try.tby62 : tby Try.prog 62 = 8 := by kernel_rfl
@[go_sem] theorem Try.tagg62 : tagg Try.prog 62 = false := by kernel_rfl
@[go_sem] theorem Try.tyOk62 : tyOk Try.prog 62 = true := by kernel_rfl
@[go_sem] theorem Try.tzero62 : tzero Try.prog 62 = some (.nilFunc) := by kernel_rfl
@[go_sem] theorem Try.knd63 : knd Try.prog 63 = .fn := by kernel_rfl
@[go_sem] theorem Try.tsz63 : tsz Try.prog 63 = 1 := by kernel_rfl
@[go_sem] theorem Try.tby63 : tby Try.prog 63 = 8 := by kernel_rfl
@[go_sem] theorem Try.tagg63 : tagg Try.prog 63 = false := by kernel_rfl
@[go_sem] theorem Try.tyOk63 : tyOk Try.prog 63 = true := by kernel_rfl
@[go_sem] theorem Try.tzero63 : tzero Try.prog 63 = some (.nilFunc) := by kernel_rfl
@[go_sem] theorem Try.knd65 : knd Try.prog 65 = .fn := by kernel_rfl
@[go_sem] theorem Try.tsz65 : tsz Try.prog 65 = 1 := by kernel_rfl
@[go_sem] theorem Try.tby65 : tby Try.prog 65 = 8 := by kernel_rfl
@[go_sem] theorem Try.tagg65 : tagg Try.prog 65 = false := by kernel_rfl
@[go_sem] theorem Try.tyOk65 : tyOk Try.prog 65 = true := by kernel_rfl
@[go_sem] theorem Try.tzero65 : tzero Try.prog 65 = some (.nilFunc) := by kernel_rfl
@[go_sem] theorem Try.knd66 : knd Try.prog 66 = .fn := by kernel_rfl
@[go_sem] theorem Try.tsz66 : tsz Try.prog 66 = 1 := by kernel_rfl
@[go_sem] theorem Try.tby66 : tby Try.prog 66 = 8 := by kernel_rfl
@[go_sem] theorem Try.tagg66 : tagg Try.prog 66 = false := by kernel_rfl
@[go_sem] theorem Try.tyOk66 : tyOk Try.prog 66 = true := by kernel_rfl
@[go_sem] theorem Try.tzero66 : tzero Try.prog 66 = some (.nilFunc) := by kernel_rfl
@[go_sem] theorem Try.knd67 : knd Try.prog 67 = .fn := by kernel_rfl
@[go_sem] theorem Try.tsz67 : tsz Try.prog 67 = 1 := by kernel_rfl
@[go_sem] theorem Try.tby67 : tby Try.prog 67 = 8 := by kernel_rfl
@[go_sem] theorem Try.tagg67 : tagg Try.prog 67 = false := by kernel_rfl
@[go_sem] theorem Try.tyOk67 : tyOk Try.prog 67 = true := by kernel_rfl
@[go_sem] theorem Try.tzero67 : tzero Try.prog 67 = some (.nilFunc) := by kernel_rfl
@[go_sem] theorem Try.knd68 : knd Try.prog 68 = .fn := by kernel_rfl
@[go_sem] theorem Try.tsz68 : tsz Try.prog 68 = 1 := by kernel_rfl
@[go_sem] theorem Try.tby68 : tby Try.prog 68 = 8 := by kernel_rfl
@[go_sem] theorem Try.tagg68 : tagg Try.prog 68 = false := by kernel_rfl
@[go_sem] theorem Try.tyOk68 : tyOk Try.prog 68 = true := by kernel_rfl
@[go_sem] theorem Try.tzero68 : tzero Try.prog 68 = some (.nilFunc) := by kernel_rfl
@[go_sem] theorem Try.knd69 : knd Try.prog 69 = .fn := by kernel_rfl
@[go_sem] theorem Try.tsz69 : tsz Try.prog 69 = 1 := by kernel_rfl
@[go_sem] theorem Try.tby69 : tby Try.prog 69 = 8 := by kernel_rfl
@[go_sem] theorem Try.tagg69 : tagg Try.prog 69 = false := by kernel_rfl
@[go_sem] theorem Try.tyOk69 : tyOk Try.prog 69 = true := by kernel_rfl
@[go_sem] theorem Try.tzero69 : tzero Try.prog 69 = some (.nilFunc) := by kernel_rfl
@[go_sem] theorem Try.knd70 : knd Try.prog 70 = .fn := by kernel_rfl
@[go_sem] theorem Try.tsz70 : tsz Try.prog 70 = 1 := by kernel_rfl
@[go_sem] theorem Try.tby70 : tby Try.prog 70 = 8 := by kernel_rfl
@[go_sem] theorem Try.tagg70 : tagg Try.prog 70 = false := by kernel_rfl
@[go_sem] theorem Try.tyOk70 : tyOk Try.prog 70 = true := by kernel_rfl
@[go_sem] theorem Try.tzero70 : tzero Try.prog 70 = some (.nilFunc) := by kernel_rfl
@[go_sem] theorem Try.knd71 : knd Try.prog 71 = .fn := by kernel_rfl
@[go_sem] theorem Try.tsz71 : tsz Try.prog 71 = 1 := by kernel_rfl
@[go_sem] theorem Try.tby71 : tby Try.prog 71 = 8 := by kernel_rfl
@[go_sem] theorem Try.tagg71 : tagg Try.prog 71 = false := by kernel_rfl
@[go_sem] theorem Try.tyOk71 : tyOk Try.prog 71 = true := by kernel_rfl
@[go_sem] theorem Try.tzero71 : tzero Try.prog 71 = some (.nilFunc) := by kernel_rfl
@[go_sem] theorem Try.knd72 : knd Try.prog 72 = .ptr 104 := by kernel_rfl
@[go_sem] theorem Try.tsz72 : tsz Try.prog 72 = 1 := by kernel_rfl
@[go_sem] theorem Try.tby72 : tby Try.prog 72 = 8 := by kernel_rfl
@[go_sem] theorem Try.tagg72 : tagg Try.prog 72 = false := by kernel_rfl
@[go_sem] theorem Try.tyOk72 : tyOk Try.prog 72 = true := by kernel_rfl
@[go_sem] theorem Try.tzero72 : tzero Try.prog 72 = some (.pointer none) := by kernel_rfl
@[go_sem] theorem Try.knd73 : knd Try.prog 73 = .fn := by kernel_rfl
@[go_sem] theorem Try.tsz73 : tsz Try.prog 73 = 1 := by kernel_rfl
@[go_sem] theorem Try.tby73 : tby Try.prog 73 = 8 := by kernel_rfl
@[go_sem] theorem Try.tagg73 : tagg Try.prog 73 = false := by kernel_rfl
@[go_sem] theorem Try.tyOk73 : tyOk Try.prog 73 = true := by kernel_rfl
@[go_sem] theorem Try.tzero73 : tzero Try.prog 73 = some (.nilFunc) := by kernel_rfl
@[go_sem] theorem Try.knd74 : knd Try.prog 74 = .fn := by kernel_rfl
@[go_sem] theorem Try.tsz74 : tsz Try.prog 74 = 1 := by kernel_rfl
@[go_sem] theorem Try.tby74 : tby Try.prog 74 = 8 := by kernel_rfl
@[go_sem] theorem Try.tagg74 : tagg Try.prog 74 = false := by kernel_rfl
@[go_sem] theorem Try.tyOk74 : tyOk Try.prog 74 = true := by kernel_rfl
@[go_sem] theorem Try.tzero74 : tzero Try.prog 74 = some (.nilFunc) := by kernel_rfl
@[go_sem] theorem Try.knd75 : knd Try.prog 75 = .fn := by kernel_rfl
@[go_sem] theorem Try.tsz75 : tsz Try.prog 75 = 1 := by kernel_rfl
@[go_sem] theorem Try.tby75 : tby Try.prog 75 = 8 := by kernel_rfl
@[go_sem] theorem Try.tagg75 : tagg Try.prog 75 = false := by kernel_rfl
@[go_sem] theorem Try.tyOk75 : tyOk Try.prog 75 = true := by kernel_rfl
@[go_sem] theorem Try.tzero75 : tzero Try.prog 75 = some (.nilFunc) := by kernel_rfl
@[go_sem] theorem Try.knd76 : knd Try.prog 76 = .fn := by kernel_rfl
@[go_sem] theorem Try.tsz76 : tsz Try.prog 76 = 1 := by kernel_rfl
@[go_sem] theorem Try.tby76 : tby Try.prog 76 = 8 := by kernel_rfl
@[go_sem] theorem Try.tagg76 : tagg Try.prog 76 = false := by kernel_rfl
@[go_sem] theorem Try.tyOk76 : tyOk Try.prog 76 = true := by kernel_rfl
@[go_sem] theorem Try.tzero76 : tzero Try.prog 76 = some (.nilFunc) := by kernel_rfl
@[go_sem] theorem Try.knd78 : knd Try.prog 78 = .fn := by kernel_rfl
@[go_sem] theorem Try.tsz78 : tsz Try.prog 78 = 1 := by kernel_rfl
@[go_sem] theorem Try.tby78 : tby Try.prog 78 = 8 := by kernel_rfl
@[go_sem] theorem Try.tagg78 : tagg Try.prog 78 = false := by kernel_rfl
@[go_sem] theorem Try.tyOk78 : tyOk Try.prog 78 = true := by kernel_rfl
@[go_sem] theorem Try.tzero78 : tzero Try.prog 78 = some (.nilFunc) := by kernel_rfl
@[go_sem] theorem Try.knd79 : knd Try.prog 79 = .ptr 51 := by kernel_rfl
@[go_sem] theorem Try.tsz79 : tsz Try.prog 79 = 1 := by kernel_rfl
@[go_sem] theorem Try.tby79 : tby Try.prog 79 = 8 := by kernel_rfl
@[go_sem] theorem Try.tagg79 : tagg Try.prog 79 = false := by kernel_rfl
@[go_sem] theorem Try.tyOk79 : tyOk Try.prog 79 = true := by kernel_rfl
@[go_sem] theorem Try.tzero79 : tzero Try.prog 79 = some (.pointer none) := by kernel_rfl
@[go_sem] theorem Try.knd80 : knd Try.prog 80 = .fn := by kernel_rfl
@[go_sem] theorem Try.tsz80 : tsz Try.prog 80 = 1 := by kernel_rfl
@[go_sem] theorem Try.tby80 : tby Try.prog 80 = 8 := by kernel_rfl
@[go_sem] theorem Try.tagg80 : tagg Try.prog 80 = false := by kernel_rfl
@[go_sem] theorem Try.tyOk80 : tyOk Try.prog 80 = true := by kernel_rfl
@[go_sem] theorem Try.tzero80 : tzero Try.prog 80 = some (.nilFunc) := by kernel_rfl
@[go_sem] theorem Try.knd81 : knd Try.prog 81 = .ptr 25 := by kernel_rfl
@[go_sem] theorem Try.tsz81 : tsz Try.prog 81 = 1 := by kernel_rfl
@[go_sem] theorem Try.tby81 : tby Try.prog 81 = 8 := by kernel_rfl
@[go_sem] theorem Try.tagg81 : tagg Try.prog 81 = false := by kernel_rfl
@[go_sem] theorem Try.tyOk81 : tyOk Try.prog 81 = true := by kernel_rfl
@[go_sem] theorem Try.tzero81 : tzero Try.prog 81 = some (.pointer none) := by kernel_rfl
@[go_sem] theorem Try.knd82 : knd Try.prog 82 = .slice 3 := by kernel_rfl
@[go_sem] theorem Try.tsz82 : tsz Try.prog 82 = 1 := by kernel_rfl
@[go_sem] theorem Try.tby82 : tby Try.prog 82 = 24 := by kernel_rfl
@[go_sem] theorem Try.tagg82 : tagg Try.prog 82 = false := by kernel_rfl
@[go_sem] theorem Try.tyOk82 : tyOk Try.prog 82 = true := by kernel_rfl
@[go_sem] theorem Try.tzero82 : tzero Try.prog 82 = some (.slice none 0 0) := by kernel_rfl
@[go_sem] theorem Try.knd83 : knd Try.prog 83 = .fn := by kernel_rfl
@[go_sem] theorem Try.tsz83 : tsz Try.prog 83 = 1 := by kernel_rfl
@[go_sem] theorem Try.tby83 : tby Try.prog 83 = 8 := by kernel_rfl
@[go_sem] theorem Try.tagg83 : tagg Try.prog 83 = false := by kernel_rfl
@[go_sem] theorem Try.tyOk83 : tyOk Try.prog 83 = true := by kernel_rfl
@[go_sem] theorem Try.tzero83 : tzero Try.prog 83 = some (.nilFunc) := by kernel_rfl
@[go_sem] theorem Try.knd84 : knd Try.prog 84 = .fn := by kernel_rfl
@[go_sem] theorem Try.tsz84 : tsz Try.prog 84 = 1 := by kernel_rfl
@[go_sem] theorem Try.tby84 : tby Try.prog 84 = 8 := by kernel_rfl
@[go_sem] theorem Try.tagg84 : tagg Try.prog 84 = false := by kernel_rfl
@[go_sem] theorem Try.tyOk84 : tyOk Try.prog 84 = true := by kernel_rfl
@[go_sem] theorem Try.tzero84 : tzero Try.prog 84 = some (.nilFunc) := by kernel_rfl
@[go_sem] theorem Try.knd85 : knd Try.prog 85 = .map 2 4 := by kernel_rfl
@[go_sem] theorem Try.tsz85 : tsz Try.prog 85 = 1 := by kernel_rfl
@[go_sem] theorem Try.tby85 : tby Try.prog 85 = 8 := by kernel_rfl
@[go_sem] theorem Try.tagg85 : tagg Try.prog 85 = false := by kernel_rfl
@[go_sem] theorem Try.tyOk85 : tyOk Try.prog 85 = true := by kernel_rfl
@[go_sem] theorem Try.tzero85 : tzero Try.prog 85 = some (.map none) := by kernel_rfl
@[go_sem] theorem Try.knd86 : knd Try.prog 86 = .fn := by kernel_rfl
@[go_sem] theorem Try.tsz86 : tsz Try.prog 86 = 1 := by kernel_rfl
@[go_sem] theorem Try.tby86 : tby Try.prog 86 = 8 := by kernel_rfl
@[go_sem] theorem Try.tagg86 : tagg Try.prog 86 = false := by kernel_rfl
@[go_sem] theorem Try.tyOk86 : tyOk Try.prog 86 = true := by kernel_rfl
@[go_sem] theorem Try.tzero86 : tzero Try.prog 86 = some (.nilFunc) := by kernel_rfl
@[go_sem] theorem Try.knd87 : knd Try.prog 87 = .arr 4 2 := by kernel_rfl
@[go_sem] theorem Try.tsz87 : tsz Try.prog 87 = 4 := by kernel_rfl
@[go_sem] theorem Try.tby87 : tby Try.prog 87 = 32 := by kernel_rfl
@[go_sem] theorem Try.tagg87 : tagg Try.prog 87 = true := by kernel_rfl
@[go_sem] theorem Try.tyOk87 : tyOk Try.prog 87 = true := by kernel_rfl
@[go_sem] theorem Try.tzero87 : tzero Try.prog 87 = some (.agg #[.int .i64 0, .int .i64 0, .int .i64 0, .int .i64 0]) := by kernel_rfl
@[go_sem] theorem Try.bok87 : builtOk Try.prog 87 = true := by kernel_rfl
@[go_sem] theorem Try.plc87 (i : Nat) : placeV Try.prog 87 i = some (i * 1, 1) := by kernel_rfl
@[go_sem] theorem Try.knd88 : knd Try.prog 88 = .fn := by kernel_rfl
@[go_sem] theorem Try.tsz88 : tsz Try.prog 88 = 1 := by kernel_rfl
@[go_sem] theorem Try.tby88 : tby Try.prog 88 = 8 := by kernel_rfl
@[go_sem] theorem Try.tagg88 : tagg Try.prog 88 = false := by kernel_rfl
@[go_sem] theorem Try.tyOk88 : tyOk Try.prog 88 = true := by kernel_rfl
@[go_sem] theorem Try.tzero88 : tzero Try.prog 88 = some (.nilFunc) := by kernel_rfl
@[go_sem] theorem Try.knd89 : knd Try.prog 89 = .fn := by kernel_rfl
@[go_sem] theorem Try.tsz89 : tsz Try.prog 89 = 1 := by kernel_rfl
@[go_sem] theorem Try.tby89 : tby Try.prog 89 = 8 := by kernel_rfl
@[go_sem] theorem Try.tagg89 : tagg Try.prog 89 = false := by kernel_rfl
@[go_sem] theorem Try.tyOk89 : tyOk Try.prog 89 = true := by kernel_rfl
@[go_sem] theorem Try.tzero89 : tzero Try.prog 89 = some (.nilFunc) := by kernel_rfl
@[go_sem] theorem Try.knd90 : knd Try.prog 90 = .fn := by kernel_rfl
@[go_sem] theorem Try.tsz90 : tsz Try.prog 90 = 1 := by kernel_rfl
@[go_sem] theorem Try.tby90 : tby Try.prog 90 = 8 := by kernel_rfl
@[go_sem] theorem Try.tagg90 : tagg Try.prog 90 = false := by kernel_rfl
@[go_sem] theorem Try.tyOk90 : tyOk Try.prog 90 = true := by kernel_rfl
@[go_sem] theorem Try.tzero90 : tzero Try.prog 90 = some (.nilFunc) := by kernel_rfl
@[go_sem] theorem Try.knd92 : knd Try.prog 92 = .fn := by kernel_rfl
@[go_sem] theorem Try.tsz92 : tsz Try.prog 92 = 1 := by kernel_rfl
@[go_sem] theorem Try.tby92 : tby Try.prog 92 = 8 := by kernel_rfl
@[go_sem] theorem Try.tagg92 : tagg Try.prog 92 = false := by kernel_rfl
@[go_sem] theorem Try.tyOk92 : tyOk Try.prog 92 = true := by kernel_rfl
@[go_sem] theorem Try.tzero92 : tzero Try.prog 92 = some (.nilFunc) := by kernel_rfl
@[go_sem] theorem Try.knd93 : knd Try.prog 93 = .fn := by kernel_rfl
@[go_sem] theorem Try.tsz93 : tsz Try.prog 93 = 1 := by kernel_rfl
@[go_sem] theorem Try.tby93 : tby Try.prog 93 = 8 := by kernel_rfl
@[go_sem] theorem Try.tagg93 : tagg Try.prog 93 = false := by kernel_rfl
@[go_sem] theorem Try.tyOk93 : tyOk Try.prog 93 = true := by kernel_rfl
@[go_sem] theorem Try.tzero93 : tzero Try.prog 93 = some (.nilFunc) := by kernel_rfl
@[go_sem] theorem Try.knd94 : knd Try.prog 94 = .fn := by kernel_rfl
@[go_sem] theorem Try.tsz94 : tsz Try.prog 94 = 1 := by kernel_rfl
@[go_sem] theorem Try.tby94 : tby Try.prog 94 = 8 := by kernel_rfl
@[go_sem] theorem Try.tagg94 : tagg Try.prog 94 = false := by kernel_rfl
@[go_sem] theorem Try.tyOk94 : tyOk Try.prog 94 = true := by kernel_rfl
@[go_sem] theorem Try.tzero94 : tzero Try.prog 94 = some (.nilFunc) := by kernel_rfl
@[go_sem] theorem Try.knd95 : knd Try.prog 95 = .fn := by kernel_rfl
@[go_sem] theorem Try.tsz95 : tsz Try.prog 95 = 1 := by kernel_rfl
@[go_sem] theorem Try.tby95 : tby Try.prog 95 = 8 := by kernel_rfl
@[go_sem] theorem Try.tagg95 : tagg Try.prog 95 = false := by kernel_rfl
@[go_sem] theorem Try.tyOk95 : tyOk Try.prog 95 = true := by kernel_rfl
@[go_sem] theorem Try.tzero95 : tzero Try.prog 95 = some (.nilFunc) := by kernel_rfl
@[go_sem] theorem Try.knd96 : knd Try.prog 96 = .fn := by kernel_rfl
@[go_sem] theorem Try.tsz96 : tsz Try.prog 96 = 1 := by kernel_rfl
@[go_sem] theorem Try.tby96 : tby Try.prog 96 = 8 := by kernel_rfl
@[go_sem] theorem Try.tagg96 : tagg Try.prog 96 = false := by kernel_rfl
@[go_sem] theorem Try.tyOk96 : tyOk Try.prog 96 = true := by kernel_rfl
@[go_sem] theorem Try.tzero96 : tzero Try.prog 96 = some (.nilFunc) := by kernel_rfl
@[go_sem] theorem Try.knd97 : knd Try.prog 97 = .fn := by kernel_rfl
@[go_sem] theorem Try.tsz97 : tsz Try.prog 97 = 1 := by kernel_rfl
@[go_sem] theorem Try.tby97 : tby Try.prog 97 = 8 := by kernel_rfl
@[go_sem] theorem Try.tagg97 : tagg Try.prog 97 = false := by kernel_rfl
@[go_sem] theorem Try.tyOk97 : tyOk Try.prog 97 = true := by kernel_rfl
@[go_sem] theorem Try.tzero97 : tzero Try.prog 97 = some (.nilFunc) := by kernel_rfl
@[go_sem] theorem Try.knd98 : knd Try.prog 98 = .fn := by kernel_rfl
@[go_sem] theorem Try.tsz98 : tsz Try.prog 98 = 1 := by kernel_rfl
@[go_sem] theorem Try.tby98 : tby Try.prog 98 = 8 := by kernel_rfl
@[go_sem] theorem Try.tagg98 : tagg Try.prog 98 = false := by kernel_rfl
@[go_sem] theorem Try.tyOk98 : tyOk Try.prog 98 = true := by kernel_rfl
@[go_sem] theorem Try.tzero98 : tzero Try.prog 98 = some (.nilFunc) := by kernel_rfl
@[go_sem] theorem Try.knd99 : knd Try.prog 99 = .slice 107 := by kernel_rfl
@[go_sem] theorem Try.tsz99 : tsz Try.prog 99 = 1 := by kernel_rfl
@[go_sem] theorem Try.tby99 : tby Try.prog 99 = 24 := by kernel_rfl
@[go_sem] theorem Try.tagg99 : tagg Try.prog 99 = false := by kernel_rfl
@[go_sem] theorem Try.tyOk99 : tyOk Try.prog 99 = true := by kernel_rfl
@[go_sem] theorem Try.tzero99 : tzero Try.prog 99 = some (.slice none 0 0) := by kernel_rfl
@[go_sem] theorem Try.knd100 : knd Try.prog 100 = .strct := by kernel_rfl
@[go_sem] theorem Try.tsz100 : tsz Try.prog 100 = 2 := by kernel_rfl
@[go_sem] theorem Try.tby100 : tby Try.prog 100 = 32 := by kernel_rfl
@[go_sem] theorem Try.tagg100 : tagg Try.prog 100 = true := by kernel_rfl
@[go_sem] theorem Try.tyOk100 : tyOk Try.prog 100 = true := by kernel_rfl
@[go_sem] theorem Try.tzero100 : tzero Try.prog 100 = some (.agg #[.slice none 0 0, .nilFunc]) := by kernel_rfl
@[go_sem] theorem Try.bok100 : builtOk Try.prog 100 = true := by kernel_rfl
@[go_sem] theorem Try.plc100_0 : placeV Try.prog 100 0 = some (0, 1) := by kernel_rfl
@[go_sem] theorem Try.fld100_0 : fld Try.prog 100 0 = some (0, 99) := by kernel_rfl
@[go_sem] theorem Try.plc100_1 : placeV Try.prog 100 1 = some (1, 1) := by kernel_rfl
@[go_sem] theorem Try.fld100_1 : fld Try.prog 100 1 = some (1, 75) := by kernel_rfl
@[go_sem] theorem Try.knd101 : knd Try.prog 101 = .strct := by kernel_rfl
@[go_sem] theorem Try.tsz101 : tsz Try.prog 101 = 2 := by kernel_rfl
@[go_sem] theorem Try.tby101 : tby Try.prog 101 = 32 := by kernel_rfl
@[go_sem] theorem Try.tagg101 : tagg Try.prog 101 = true := by kernel_rfl
@[go_sem] theorem Try.tyOk101 : tyOk Try.prog 101 = true := by kernel_rfl
@[go_sem] theorem Try.tzero101 : tzero Try.prog 101 = some (.agg #[.slice none 0 0, .nilFunc]) := by kernel_rfl
@[go_sem] theorem Try.bok101 : builtOk Try.prog 101 = true := by kernel_rfl
@[go_sem] theorem Try.plc101_0 : placeV Try.prog 101 0 = some (0, 1) := by kernel_rfl
@[go_sem] theorem Try.fld101_0 : fld Try.prog 101 0 = some (0, 99) := by kernel_rfl
@[go_sem] theorem Try.plc101_1 : placeV Try.prog 101 1 = some (1, 1) := by kernel_rfl
@[go_sem] theorem Try.fld101_1 : fld Try.prog 101 1 = some (1, 75) := by kernel_rfl
@[go_sem] theorem Try.knd102 : knd Try.prog 102 = .map 2 107 := by kernel_rfl
@[go_sem] theorem Try.tsz102 : tsz Try.prog 102 = 1 := by kernel_rfl
@[go_sem] theorem Try.tby102 : tby Try.prog 102 = 8 := by kernel_rfl
@[go_sem] theorem Try.tagg102 : tagg Try.prog 102 = false := by kernel_rfl
@[go_sem] theorem Try.tyOk102 : tyOk Try.prog 102 = true := by kernel_rfl
@[go_sem] theorem Try.tzero102 : tzero Try.prog 102 = some (.map none) := by kernel_rfl
@[go_sem] theorem Try.knd103 : knd Try.prog 103 = .strct := by kernel_rfl
@[go_sem] theorem Try.tsz103 : tsz Try.prog 103 = 4 := by kernel_rfl
@[go_sem] theorem Try.tby103 : tby Try.prog 103 = 48 := by kernel_rfl
@[go_sem] theorem Try.tagg103 : tagg Try.prog 103 = true := by kernel_rfl
@[go_sem] theorem Try.tyOk103 : tyOk Try.prog 103 = true := by kernel_rfl
@[go_sem] theorem Try.tzero103 : tzero Try.prog 103 = some (.agg #[.slice none 0 0, .nilFunc, .map none, .int .i64 0]) := by kernel_rfl
@[go_sem] theorem Try.bok103 : builtOk Try.prog 103 = true := by kernel_rfl
@[go_sem] theorem Try.plc103_0 : placeV Try.prog 103 0 = some (0, 2) := by kernel_rfl
@[go_sem] theorem Try.fld103_0 : fld Try.prog 103 0 = some (0, 101) := by kernel_rfl
@[go_sem] theorem Try.plc103_1 : placeV Try.prog 103 1 = some (2, 1) := by kernel_rfl
@[go_sem] theorem Try.fld103_1 : fld Try.prog 103 1 = some (2, 102) := by kernel_rfl
@[go_sem] theorem Try.plc103_2 : placeV Try.prog 103 2 = some (3, 1) := by kernel_rfl
@[go_sem] theorem Try.fld103_2 : fld Try.prog 103 2 = some (3, 2) := by kernel_rfl
@[go_sem] theorem Try.knd104 : knd Try.prog 104 = .strct := by kernel_rfl
@[go_sem] theorem Try.tsz104 : tsz Try.prog 104 = 4 := by kernel_rfl
@[go_sem] theorem Try.tby104 : tby Try.prog 104 = 48 := by kernel_rfl
@[go_sem] theorem Try.tagg104 : tagg Try.prog 104 = true := by kernel_rfl
@[go_sem] theorem Try.tyOk104 : tyOk Try.prog 104 = true := by kernel_rfl
@[go_sem] theorem Try.tzero104 : tzero Try.prog 104 = some (.agg #[.slice none 0 0, .nilFunc, .map none, .int .i64 0]) := by kernel_rfl
@[go_sem] theorem Try.bok104 : builtOk Try.prog 104 = true := by kernel_rfl
@[go_sem] theorem Try.plc104_0 : placeV Try.prog 104 0 = some (0, 2) := by kernel_rfl
@[go_sem] theorem Try.fld104_0 : fld Try.prog 104 0 = some (0, 101) := by kernel_rfl
@[go_sem] theorem Try.plc104_1 : placeV Try.prog 104 1 = some (2, 1) := by kernel_rfl
@[go_sem] theorem Try.fld104_1 : fld Try.prog 104 1 = some (2, 102) := by kernel_rfl
@[go_sem] theorem Try.plc104_2 : placeV Try.prog 104 2 = some (3, 1) := by kernel_rfl
@[go_sem] theorem Try.fld104_2 : fld Try.prog 104 2 = some (3, 2) := by kernel_rfl
@[go_sem] theorem Try.knd105 : knd Try.prog 105 = .fn := by kernel_rfl
@[go_sem] theorem Try.tsz105 : tsz Try.prog 105 = 1 := by kernel_rfl
@[go_sem] theorem Try.tby105 : tby Try.prog 105 = 8 := by kernel_rfl
@[go_sem] theorem Try.tagg105 : tagg Try.prog 105 = false := by kernel_rfl
@[go_sem] theorem Try.tyOk105 : tyOk Try.prog 105 = true := by kernel_rfl
@[go_sem] theorem Try.tzero105 : tzero Try.prog 105 = some (.nilFunc) := by kernel_rfl
@[go_sem] theorem Try.knd106 : knd Try.prog 106 = .fn := by kernel_rfl
@[go_sem] theorem Try.tsz106 : tsz Try.prog 106 = 1 := by kernel_rfl
@[go_sem] theorem Try.tby106 : tby Try.prog 106 = 8 := by kernel_rfl
@[go_sem] theorem Try.tagg106 : tagg Try.prog 106 = false := by kernel_rfl
@[go_sem] theorem Try.tyOk106 : tyOk Try.prog 106 = true := by kernel_rfl
@[go_sem] theorem Try.tzero106 : tzero Try.prog 106 = some (.nilFunc) := by kernel_rfl
@[go_sem] theorem Try.knd107 : knd Try.prog 107 = .ptr 109 := by kernel_rfl
@[go_sem] theorem Try.tsz107 : tsz Try.prog 107 = 1 := by kernel_rfl
@[go_sem] theorem Try.tby107 : tby Try.prog 107 = 8 := by kernel_rfl
@[go_sem] theorem Try.tagg107 : tagg Try.prog 107 = false := by kernel_rfl
@[go_sem] theorem Try.tyOk107 : tyOk Try.prog 107 = true := by kernel_rfl
@[go_sem] theorem Try.tzero107 : tzero Try.prog 107 = some (.pointer none) := by kernel_rfl
@[go_sem] theorem Try.knd108 : knd Try.prog 108 = .strct := by kernel_rfl
@[go_sem] theorem Try.tsz108 : tsz Try.prog 108 = 6 := by kernel_rfl
@[go_sem] theorem Try.tby108 : tby Try.prog 108 = 48 := by kernel_rfl
@[go_sem] theorem Try.tagg108 : tagg Try.prog 108 = true := by kernel_rfl
@[go_sem] theorem Try.tyOk108 : tyOk Try.prog 108 = true := by kernel_rfl
@[go_sem] theorem Try.tzero108 : tzero Try.prog 108 = some (.agg #[.int .i64 0, .int .i64 0, .int .i64 0, .int .i64 0, .int .i64 0, .int .i64 0]) := by kernel_rfl
@[go_sem] theorem Try.bok108 : builtOk Try.prog 108 = true := by kernel_rfl
@[go_sem] theorem Try.plc108_0 : placeV Try.prog 108 0 = some (0, 1) := by kernel_rfl
@[go_sem] theorem Try.fld108_0 : fld Try.prog 108 0 = some (0, 2) := by kernel_rfl
@[go_sem] theorem Try.plc108_1 : placeV Try.prog 108 1 = some (1, 4) := by kernel_rfl
@[go_sem] theorem Try.fld108_1 : fld Try.prog 108 1 = some (1, 35) := by kernel_rfl
@[go_sem] theorem Try.plc108_2 : placeV Try.prog 108 2 = some (5, 1) := by kernel_rfl
@[go_sem] theorem Try.fld108_2 : fld Try.prog 108 2 = some (5, 3) := by kernel_rfl
@[go_sem] theorem Try.knd109 : knd Try.prog 109 = .strct := by kernel_rfl
@[go_sem] theorem Try.tsz109 : tsz Try.prog 109 = 6 := by kernel_rfl
@[go_sem] theorem Try.tby109 : tby Try.prog 109 = 48 := by kernel_rfl
@[go_sem] theorem Try.tagg109 : tagg Try.prog 109 = true := by kernel_rfl
@[go_sem] theorem Try.tyOk109 : tyOk Try.prog 109 = true := by kernel_rfl
@[go_sem] theorem Try.tzero109 : tzero Try.prog 109 = some (.agg #[.int .i64 0, .int .i64 0, .int .i64 0, .int .i64 0, .int .i64 0, .int .i64 0]) := by kernel_rfl
@[go_sem] theorem Try.bok109 : builtOk Try.prog 109 = true := by kernel_rfl
@[go_sem] theorem Try.plc109_0 : placeV Try.prog 109 0 = some (0, 1) := by kernel_rfl
@[go_sem] theorem Try.fld109_0 : fld Try.prog 109 0 = some (0, 2) := by kernel_rfl
@[go_sem] theorem Try.plc109_1 : placeV Try.prog 109 1 = some (1, 4) := by kernel_rfl
@[go_sem] theorem Try.fld109_1 : fld Try.prog 109 1 = some (1, 35) := by kernel_rfl
@[go_sem] theorem Try.plc109_2 : placeV Try.prog 109 2 = some (5, 1) := by kernel_rfl
@[go_sem] theorem Try.fld109_2 : fld Try.prog 109 2 = some (5, 3) := by kernel_rfl
@[go_sem] theorem Try.knd110 : knd Try.prog 110 = .fn := by kernel_rfl
@[go_sem] theorem Try.tsz110 : tsz Try.prog 110 = 1 := by kernel_rfl
@[go_sem] theorem Try.tby110 : tby Try.prog 110 = 8 := by kernel_rfl
@[go_sem] theorem Try.tagg110 : tagg Try.prog 110 = false := by kernel_rfl
@[go_sem] theorem Try.tyOk110 : tyOk Try.prog 110 = true := by kernel_rfl
@[go_sem] theorem Try.tzero110 : tzero Try.prog 110 = some (.nilFunc) := by kernel_rfl
@[go_sem] theorem Try.knd111 : knd Try.prog 111 = .ptr 101 := by kernel_rfl
@[go_sem] theorem Try.tsz111 : tsz Try.prog 111 = 1 := by kernel_rfl
@[go_sem] theorem Try.tby111 : tby Try.prog 111 = 8 := by kernel_rfl
@[go_sem] theorem Try.tagg111 : tagg Try.prog 111 = false := by kernel_rfl
@[go_sem] theorem Try.tyOk111 : tyOk Try.prog 111 = true := by kernel_rfl
@[go_sem] theorem Try.tzero111 : tzero Try.prog 111 = some (.pointer none) := by kernel_rfl
@[go_sem] theorem Try.knd112 : knd Try.prog 112 = .fn := by kernel_rfl
@[go_sem] theorem Try.tsz112 : tsz Try.prog 112 = 1 := by kernel_rfl
@[go_sem] theorem Try.tby112 : tby Try.prog 112 = 8 := by kernel_rfl
@[go_sem] theorem Try.tagg112 : tagg Try.prog 112 = false := by kernel_rfl
@[go_sem] theorem Try.tyOk112 : tyOk Try.prog 112 = true := by kernel_rfl
@[go_sem] theorem Try.tzero112 : tzero Try.prog 112 = some (.nilFunc) := by kernel_rfl
@[go_sem] theorem Try.knd113 : knd Try.prog 113 = .fn := by kernel_rfl
@[go_sem] theorem Try.tsz113 : tsz Try.prog 113 = 1 := by kernel_rfl
@[go_sem] theorem Try.tby113 : tby Try.prog 113 = 8 := by kernel_rfl
@[go_sem] theorem Try.tagg113 : tagg Try.prog 113 = false := by kernel_rfl
@[go_sem] theorem Try.tyOk113 : tyOk Try.prog 113 = true := by kernel_rfl
@[go_sem] theorem Try.tzero113 : tzero Try.prog 113 = some (.nilFunc) := by kernel_rfl
@[go_sem] theorem Try.knd114 : knd Try.prog 114 = .fn := by kernel_rfl
@[go_sem] theorem Try.tsz114 : tsz Try.prog 114 = 1 := by kernel_rfl
@[go_sem] theorem Try.tby114 : tby Try.prog 114 = 8 := by kernel_rfl
@[go_sem] theorem Try.tagg114 : tagg Try.prog 114 = false := by kernel_rfl
@[go_sem] theorem Try.tyOk114 : tyOk Try.prog 114 = true := by kernel_rfl
@[go_sem] theorem Try.tzero114 : tzero Try.prog 114 = some (.nilFunc) := by kernel_rfl
@[go_sem] theorem Try.knd115 : knd Try.prog 115 = .fn := by kernel_rfl
@[go_sem] theorem Try.tsz115 : tsz Try.prog 115 = 1 := by kernel_rfl
@[go_sem] theorem Try.tby115 : tby Try.prog 115 = 8 := by kernel_rfl
@[go_sem] theorem Try.tagg115 : tagg Try.prog 115 = false := by kernel_rfl
@[go_sem] theorem Try.tyOk115 : tyOk Try.prog 115 = true := by kernel_rfl
@[go_sem] theorem Try.tzero115 : tzero Try.prog 115 = some (.nilFunc) := by kernel_rfl
@[go_sem] theorem Try.knd116 : knd Try.prog 116 = .map 2 79 := by kernel_rfl
@[go_sem] theorem Try.tsz116 : tsz Try.prog 116 = 1 := by kernel_rfl
@[go_sem] theorem Try.tby116 : tby Try.prog 116 = 8 := by kernel_rfl
@[go_sem] theorem Try.tagg116 : tagg Try.prog 116 = false := by kernel_rfl
@[go_sem] theorem Try.tyOk116 : tyOk Try.prog 116 = true := by kernel_rfl
@[go_sem] theorem Try.tzero116 : tzero Try.prog 116 = some (.map none) := by kernel_rfl
@[go_sem] theorem Try.knd117 : knd Try.prog 117 = .slice 31 := by kernel_rfl
@[go_sem] theorem Try.tsz117 : tsz Try.prog 117 = 1 := by kernel_rfl
@[go_sem] theorem Try.tby117 : tby Try.prog 117 = 24 := by kernel_rfl
@[go_sem] theorem Try.tagg117 : tagg Try.prog 117 = false := by kernel_rfl
@[go_sem] theorem Try.tyOk117 : tyOk Try.prog 117 = true := by kernel_rfl
@[go_sem] theorem Try.tzero117 : tzero Try.prog 117 = some (.slice none 0 0) := by kernel_rfl
@[go_sem] theorem Try.knd118 : knd Try.prog 118 = .int .u64 := by kernel_rfl
@[go_sem] theorem Try.tsz118 : tsz Try.prog 118 = 1 := by kernel_rfl
@[go_sem] theorem Try.tby118 : tby Try.prog 118 = 8 := by kernel_rfl
@[go_sem] theorem Try.tagg118 : tagg Try.prog 118 = false := by kernel_rfl
@[go_sem] theorem Try.tyOk118 : tyOk Try.prog 118 = true := by kernel_rfl
@[go_sem] theorem Try.tzero118 : tzero Try.prog 118 = some (.int .u64 0) := by kernel_rfl
@[go_sem] theorem Try.knd119 : knd Try.prog 119 = .fn := by kernel_rfl
@[go_sem] theorem Try.tsz119 : tsz Try.prog 119 = 1 := by kernel_rfl
@[go_sem] theorem Try.tby119 : tby Try.prog 119 = 8 := by kernel_rfl
@[go_sem] theorem Try.tagg119 : tagg Try.prog 119 = false := by kernel_rfl
@[go_sem] theorem Try.tyOk119 : tyOk Try.prog 119 = true := by kernel_rfl
@[go_sem] theorem Try.tzero119 : tzero Try.prog 119 = some (.nilFunc) := by kernel_rfl
@[go_sem] theorem Try.knd120 : knd Try.prog 120 = .fn := by kernel_rfl
@[go_sem] theorem Try.tsz120 : tsz Try.prog 120 = 1 := by kernel_rfl
@[go_sem] theorem Try.tby120 : tby Try.prog 120 = 8 := by kernel_rfl
@[go_sem] theorem Try.tagg120 : tagg Try.prog 120 = false := by kernel_rfl
@[go_sem] theorem Try.tyOk120 : tyOk Try.prog 120 = true := by kernel_rfl
@[go_sem] theorem Try.tzero120 : tzero Try.prog 120 = some (.nilFunc) := by kernel_rfl
@[go_sem] theorem Try.knd121 : knd Try.prog 121 = .fn := by kernel_rfl
@[go_sem] theorem Try.tsz121 : tsz Try.prog 121 = 1 := by kernel_rfl
@[go_sem] theorem Try.tby121 : tby Try.prog 121 = 8 := by kernel_rfl
@[go_sem] theorem Try.tagg121 : tagg Try.prog 121 = false := by kernel_rfl
@[go_sem] theorem Try.tyOk121 : tyOk Try.prog 121 = true := by kernel_rfl
@[go_sem] theorem Try.tzero121 : tzero Try.prog 121 = some (.nilFunc) := by kernel_rfl
@[go_sem] theorem Try.knd122 : knd Try.prog 122 = .fn := by kernel_rfl
@[go_sem] theorem Try.tsz122 : tsz Try.prog 122 = 1 := by kernel_rfl
@[go_sem] theorem Try.tby122 : tby Try.prog 122 = 8 := by kernel_rfl
@[go_sem] theorem Try.tagg122 : tagg Try.prog 122 = false := by kernel_rfl
@[go_sem] theorem Try.tyOk122 : tyOk Try.prog 122 = true := by kernel_rfl
@[go_sem] theorem Try.tzero122 : tzero Try.prog 122 = some (.nilFunc) := by kernel_rfl
@[go_sem] theorem Try.knd123 : knd Try.prog 123 = .fn := by kernel_rfl
@[go_sem] theorem Try.tsz123 : tsz Try.prog 123 = 1 := by kernel_rfl
@[go_sem] theorem Try.tby123 : tby Try.prog 123 = 8 := by kernel_rfl
@[go_sem] theorem Try.tagg123 : tagg Try.prog 123 = false := by kernel_rfl
@[go_sem] theorem Try.tyOk123 : tyOk Try.prog 123 = true := by kernel_rfl
@[go_sem] theorem Try.tzero123 : tzero Try.prog 123 = some (.nilFunc) := by kernel_rfl
@[go_sem] theorem Try.knd124 : knd Try.prog 124 = .fn := by kernel_rfl
@[go_sem] theorem Try.tsz124 : tsz Try.prog 124 = 1 := by kernel_rfl
@[go_sem] theorem Try.tby124 : tby Try.prog 124 = 8 := by kernel_rfl
@[go_sem] theorem Try.tagg124 : tagg Try.prog 124 = false := by kernel_rfl
@[go_sem] theorem Try.tyOk124 : tyOk Try.prog 124 = true := by kernel_rfl
@[go_sem] theorem Try.tzero124 : tzero Try.prog 124 = some (.nilFunc) := by kernel_rfl
@[go_sem] theorem Try.knd125 : knd Try.prog 125 = .iface := by kernel_rfl
@[go_sem] theorem Try.tsz125 : tsz Try.prog 125 = 1 := by kernel_rfl
@[go_sem] theorem Try.tby125 : tby Try.prog 125 = 16 := by kernel_rfl
@[go_sem] theorem Try.tagg125 : tagg Try.prog 125 = false := by kernel_rfl
@[go_sem] theorem Try.tyOk125 : tyOk Try.prog 125 = true := by kernel_rfl
@[go_sem] theorem Try.tzero125 : tzero Try.prog 125 = some (.nilIface) := by kernel_rfl
@[go_sem] theorem Try.knd126 : knd Try.prog 126 = .iface := by kernel_rfl
@[go_sem] theorem Try.tsz126 : tsz Try.prog 126 = 1 := by kernel_rfl
@[go_sem] theorem Try.tby126 : tby Try.prog 126 = 16 := by kernel_rfl
@[go_sem] theorem Try.tagg126 : tagg Try.prog 126 = false := by kernel_rfl
@[go_sem] theorem Try.tyOk126 : tyOk Try.prog 126 = true := by kernel_rfl
@[go_sem] theorem Try.tzero126 : tzero Try.prog 126 = some (.nilIface) := by kernel_rfl
@[go_sem] theorem Try.knd127 : knd Try.prog 127 = .fn := by kernel_rfl
@[go_sem] theorem Try.tsz127 : tsz Try.prog 127 = 1 := by kernel_rfl
@[go_sem] theorem Try.tby127 : tby Try.prog 127 = 8 := by kernel_rfl
@[go_sem] theorem Try.tagg127 : tagg Try.prog 127 = false := by kernel_rfl
@[go_sem] theorem Try.tyOk127 : tyOk Try.prog 127 = true := by kernel_rfl
@[go_sem] theorem Try.tzero127 : tzero Try.prog 127 = some (.nilFunc) := by kernel_rfl
@[go_sem] theorem Try.knd128 : knd Try.prog 128 = .fn := by kernel_rfl
@[go_sem] theorem Try.tsz128 : tsz Try.prog 128 = 1 := by kernel_rfl
@[go_sem] theorem Try.tby128 : tby Try.prog 128 = 8 := by kernel_rfl
@[go_sem] theorem Try.tagg128 : tagg Try.prog 128 = false := by kernel_rfl
@[go_sem] theorem Try.tyOk128 : tyOk Try.prog 128 = true := by kernel_rfl
@[go_sem] theorem Try.tzero128 : tzero Try.prog 128 = some (.nilFunc) := by kernel_rfl
@[go_sem] theorem Try.knd129 : knd Try.prog 129 = .fn := by kernel_rfl
@[go_sem] theorem Try.tsz129 : tsz Try.prog 129 = 1 := by kernel_rfl
@[go_sem] theorem Try.tby129 : tby Try.prog 129 = 8 := by kernel_rfl
@[go_sem] theorem Try.tagg129 : tagg Try.prog 129 = false := by kernel_rfl
@[go_sem] theorem Try.tyOk129 : tyOk Try.prog 129 = true := by kernel_rfl
@[go_sem] theorem Try.tzero129 : tzero Try.prog 129 = some (.nilFunc) := by kernel_rfl
@[go_sem] theorem Try.knd130 : knd Try.prog 130 = .fn := by kernel_rfl
@[go_sem] theorem Try.tsz130 : tsz Try.prog 130 = 1 := by kernel_rfl
@[go_sem] theorem Try.tby130 : tby Try.prog 130 = 8 := by kernel_rfl
@[go_sem] theorem Try.tagg130 : tagg Try.prog 130 = false := by kernel_rfl
@[go_sem] theorem Try.tyOk130 : tyOk Try.prog 130 = true := by kernel_rfl
@[go_sem] theorem Try.tzero130 : tzero Try.prog 130 = some (.nilFunc) := by kernel_rfl
@[go_sem] theorem Try.knd131 : knd Try.prog 131 = .fn := by kernel_rfl
@[go_sem] theorem Try.tsz131 : tsz Try.prog 131 = 1 := by kernel_rfl
@[go_sem] theorem Try.tby131 : tby Try.prog 131 = 8 := by kernel_rfl
@[go_sem] theorem Try.tagg131 : tagg Try.prog 131 = false := by kernel_rfl
@[go_sem] theorem Try.tyOk131 : tyOk Try.prog 131 = true := by kernel_rfl
@[go_sem] theorem Try.tzero131 : tzero Try.prog 131 = some (.nilFunc) := by kernel_rfl
@[go_sem] theorem Try.knd132 : knd Try.prog 132 = .fn := by kernel_rfl
@[go_sem] theorem Try.tsz132 : tsz Try.prog 132 = 1 := by kernel_rfl
@[go_sem] theorem Try.tby132 : tby Try.prog 132 = 8 := by kernel_rfl
@[go_sem] theorem Try.tagg132 : tagg Try.prog 132 = false := by kernel_rfl
@[go_sem] theorem Try.tyOk132 : tyOk Try.prog 132 = true := by kernel_rfl
@[go_sem] theorem Try.tzero132 : tzero Try.prog 132 = some (.nilFunc) := by kernel_rfl
@[go_sem] theorem Try.knd133 : knd Try.prog 133 = .fn := by kernel_rfl
@[go_sem] theorem Try.tsz133 : tsz Try.prog 133 = 1 := by kernel_rfl
@[go_sem] theorem Try.tby133 : tby Try.prog 133 = 8 := by kernel_rfl
@[go_sem] theorem Try.tagg133 : tagg Try.prog 133 = false := by kernel_rfl
@[go_sem] theorem Try.tyOk133 : tyOk Try.prog 133 = true := by kernel_rfl
@[go_sem] theorem Try.tzero133 : tzero Try.prog 133 = some (.nilFunc) := by kernel_rfl
@[go_sem] theorem Try.knd134 : knd Try.prog 134 = .fn := by kernel_rfl
@[go_sem] theorem Try.tsz134 : tsz Try.prog 134 = 1 := by kernel_rfl
@[go_sem] theorem Try.tby134 : tby Try.prog 134 = 8 := by kernel_rfl
@[go_sem] theorem Try.tagg134 : tagg Try.prog 134 = false := by kernel_rfl
@[go_sem] theorem Try.tyOk134 : tyOk Try.prog 134 = true := by kernel_rfl
@[go_sem] theorem Try.tzero134 : tzero Try.prog 134 = some (.nilFunc) := by kernel_rfl
@[go_sem] theorem Try.knd135 : knd Try.prog 135 = .fn := by kernel_rfl
@[go_sem] theorem Try.tsz135 : tsz Try.prog 135 = 1 := by kernel_rfl
@[go_sem] theorem Try.tby135 : tby Try.prog 135 = 8 := by kernel_rfl
@[go_sem] theorem Try.tagg135 : tagg Try.prog 135 = false := by kernel_rfl
@[go_sem] theorem Try.tyOk135 : tyOk Try.prog 135 = true := by kernel_rfl
@[go_sem] theorem Try.tzero135 : tzero Try.prog 135 = some (.nilFunc) := by kernel_rfl
@[go_sem] theorem Try.knd138 : knd Try.prog 138 = .arr 0 16 := by kernel_rfl
@[go_sem] theorem Try.tsz138 : tsz Try.prog 138 = 0 := by kernel_rfl
@[go_sem] theorem Try.tby138 : tby Try.prog 138 = 0 := by kernel_rfl
@[go_sem] theorem Try.tagg138 : tagg Try.prog 138 = true := by kernel_rfl
@[go_sem] theorem Try.tyOk138 : tyOk Try.prog 138 = true := by kernel_rfl
@[go_sem] theorem Try.tzero138 : tzero Try.prog 138 = some (.agg #[]) := by kernel_rfl
@[go_sem] theorem Try.bok138 : builtOk Try.prog 138 = true := by kernel_rfl
@[go_sem] theorem Try.plc138 (i : Nat) : placeV Try.prog 138 i = some (i * 1, 1) := by kernel_rfl
@[go_sem] theorem Try.knd139 : knd Try.prog 139 = .strct := by kernel_rfl
@[go_sem] theorem Try.tsz139 : tsz Try.prog 139 = 0 := by kernel_rfl
@[go_sem] theorem Try.tby139 : tby Try.prog 139 = 0 := by kernel_rfl
@[go_sem] theorem Try.tagg139 : tagg Try.prog 139 = true := by kernel_rfl
@[go_sem] theorem Try.tyOk139 : tyOk Try.prog 139 = true := by kernel_rfl
@[go_sem] theorem Try.tzero139 : tzero Try.prog 139 = some (.agg #[]) := by kernel_rfl
@[go_sem] theorem Try.bok139 : builtOk Try.prog 139 = true := by kernel_rfl
@[go_sem] theorem Try.plc139_0 : placeV Try.prog 139 0 = some (0, 0) := by kernel_rfl
@[go_sem] theorem Try.fld139_0 : fld Try.prog 139 0 = some (0, 138) := by kernel_rfl
@[go_sem] theorem Try.knd141 : knd Try.prog 141 = .int .u32 := by kernel_rfl
@[go_sem] theorem Try.tsz141 : tsz Try.prog 141 = 1 := by kernel_rfl
@[go_sem] theorem Try.tby141 : tby Try.prog 141 = 4 := by kernel_rfl
@[go_sem] theorem Try.tagg141 : tagg Try.prog 141 = false := by kernel_rfl
@[go_sem] theorem Try.tyOk141 : tyOk Try.prog 141 = true := by kernel_rfl
@[go_sem] theorem Try.tzero141 : tzero Try.prog 141 = some (.int .u32 0) := by kernel_rfl
@[go_sem] theorem Try.knd144 : knd Try.prog 144 = .fn := by kernel_rfl
@[go_sem] theorem Try.tsz144 : tsz Try.prog 144 = 1 := by kernel_rfl
@[go_sem] theorem Try.tby144 : tby Try.prog 144 = 8 := by kernel_rfl
@[go_sem] theorem Try.tagg144 : tagg Try.prog 144 = false := by kernel_rfl
@[go_sem] theorem Try.tyOk144 : tyOk Try.prog 144 = true := by kernel_rfl
@[go_sem] theorem Try.tzero144 : tzero Try.prog 144 = some (.nilFunc) := by kernel_rfl
@[go_sem] theorem Try.knd145 : knd Try.prog 145 = .ptr 5 := by kernel_rfl
@[go_sem] theorem Try.tsz145 : tsz Try.prog 145 = 1 := by kernel_rfl
@[go_sem] theorem Try.tby145 : tby Try.prog 145 = 8 := by kernel_rfl
@[go_sem] theorem Try.tagg145 : tagg Try.prog 145 = false := by kernel_rfl
@[go_sem] theorem Try.tyOk145 : tyOk Try.prog 145 = true := by kernel_rfl
@[go_sem] theorem Try.tzero145 : tzero Try.prog 145 = some (.pointer none) := by kernel_rfl
@[go_sem] theorem Try.knd150 : knd Try.prog 150 = .fn := by kernel_rfl
@[go_sem] theorem Try.tsz150 : tsz Try.prog 150 = 1 := by kernel_rfl
@[go_sem] theorem Try.tby150 : tby Try.prog 150 = 8 := by kernel_rfl
@[go_sem] theorem Try.tagg150 : tagg Try.prog 150 = false := by kernel_rfl
@[go_sem] theorem Try.tyOk150 : tyOk Try.prog 150 = true := by kernel_rfl
@[go_sem] theorem Try.tzero150 : tzero Try.prog 150 = some (.nilFunc) := by kernel_rfl
end Go.Proofs
