/- Texts of the proof, put together: Ty. -/
import Derived.Test.YtginkngmflmaoaaProg
import Derived.Test.YtginkngmflmaoaaHb

/- What the logic asks of the types: by program (gen_ty.py). -/
set_option maxRecDepth 100000
namespace Go.Proofs
open Go Go.Pl
@[go_sem] theorem Try.knd1 : knd Try.prog 1 = .fn := by kernel_rfl
@[go_sem] theorem Try.tsz1 : tsz Try.prog 1 = 1 := by kernel_rfl
@[go_sem] theorem Try.tby1 : tby Try.prog 1 = 8 := by kernel_rfl
@[go_sem] theorem Try.tagg1 : tagg Try.prog 1 = false := by kernel_rfl
@[go_sem] theorem Try.tyOk1 : tyOk Try.prog 1 = true := by kernel_rfl
@[go_sem] theorem Try.tzero1 : tzero Try.prog 1 = some (.nilFunc) := by kernel_rfl
@[go_sem] theorem Try.knd2 : knd Try.prog 2 = .int .i64 := by kernel_rfl
@[go_sem] theorem Try.tsz2 : tsz Try.prog 2 = 1 := by kernel_rfl
@[go_sem] theorem Try.tby2 : tby Try.prog 2 = 8 := by kernel_rfl
@[go_sem] theorem Try.tagg2 : tagg Try.prog 2 = false := by kernel_rfl
@[go_sem] theorem Try.tyOk2 : tyOk Try.prog 2 = true := by kernel_rfl
@[go_sem] theorem Try.tzero2 : tzero Try.prog 2 = some (.int .i64 0) := by kernel_rfl
@[go_sem] theorem Try.knd3 : knd Try.prog 3 = .int .i64 := by kernel_rfl
@[go_sem] theorem Try.tsz3 : tsz Try.prog 3 = 1 := by kernel_rfl
@[go_sem] theorem Try.tby3 : tby Try.prog 3 = 8 := by kernel_rfl
@[go_sem] theorem Try.tagg3 : tagg Try.prog 3 = false := by kernel_rfl
@[go_sem] theorem Try.tyOk3 : tyOk Try.prog 3 = true := by kernel_rfl
@[go_sem] theorem Try.tzero3 : tzero Try.prog 3 = some (.int .i64 0) := by kernel_rfl
@[go_sem] theorem Try.knd4 : knd Try.prog 4 = .bool := by kernel_rfl
@[go_sem] theorem Try.tsz4 : tsz Try.prog 4 = 1 := by kernel_rfl
@[go_sem] theorem Try.tby4 : tby Try.prog 4 = 1 := by kernel_rfl
@[go_sem] theorem Try.tagg4 : tagg Try.prog 4 = false := by kernel_rfl
@[go_sem] theorem Try.tyOk4 : tyOk Try.prog 4 = true := by kernel_rfl
@[go_sem] theorem Try.tzero4 : tzero Try.prog 4 = some (.bool false) := by kernel_rfl
@[go_sem] theorem Try.knd5 : knd Try.prog 5 = .int .u8 := by kernel_rfl
@[go_sem] theorem Try.tsz5 : tsz Try.prog 5 = 1 := by kernel_rfl
@[go_sem] theorem Try.tby5 : tby Try.prog 5 = 1 := by kernel_rfl
@[go_sem] theorem Try.tagg5 : tagg Try.prog 5 = false := by kernel_rfl
@[go_sem] theorem Try.tyOk5 : tyOk Try.prog 5 = true := by kernel_rfl
@[go_sem] theorem Try.tzero5 : tzero Try.prog 5 = some (.int .u8 0) := by kernel_rfl
@[go_sem] theorem Try.knd9 : knd Try.prog 9 = .str := by kernel_rfl
@[go_sem] theorem Try.tsz9 : tsz Try.prog 9 = 1 := by kernel_rfl
@[go_sem] theorem Try.tby9 : tby Try.prog 9 = 16 := by kernel_rfl
@[go_sem] theorem Try.tagg9 : tagg Try.prog 9 = false := by kernel_rfl
@[go_sem] theorem Try.tyOk9 : tyOk Try.prog 9 = true := by kernel_rfl
@[go_sem] theorem Try.tzero9 : tzero Try.prog 9 = some (.string ⟨#[]⟩) := by kernel_rfl
@[go_sem] theorem Try.knd12 : knd Try.prog 12 = .int .u64 := by kernel_rfl
@[go_sem] theorem Try.tsz12 : tsz Try.prog 12 = 1 := by kernel_rfl
@[go_sem] theorem Try.tby12 : tby Try.prog 12 = 8 := by kernel_rfl
@[go_sem] theorem Try.tagg12 : tagg Try.prog 12 = false := by kernel_rfl
@[go_sem] theorem Try.tyOk12 : tyOk Try.prog 12 = true := by kernel_rfl
@[go_sem] theorem Try.tzero12 : tzero Try.prog 12 = some (.int .u64 0) := by kernel_rfl
@[go_sem] theorem Try.knd13 : knd Try.prog 13 = .strct := by kernel_rfl
@[go_sem] theorem Try.tsz13 : tsz Try.prog 13 = 2 := by kernel_rfl
@[go_sem] theorem Try.tby13 : tby Try.prog 13 = 24 := by kernel_rfl
@[go_sem] theorem Try.tagg13 : tagg Try.prog 13 = true := by kernel_rfl
@[go_sem] theorem Try.tyOk13 : tyOk Try.prog 13 = true := by kernel_rfl
@[go_sem] theorem Try.tzero13 : tzero Try.prog 13 = some (.agg #[.string ⟨#[]⟩, .int .u64 0]) := by kernel_rfl
@[go_sem] theorem Try.bok13 : builtOk Try.prog 13 = true := by kernel_rfl
@[go_sem] theorem Try.plc13_0 : placeV Try.prog 13 0 = some (0, 1) := by kernel_rfl
@[go_sem] theorem Try.fld13_0 : fld Try.prog 13 0 = some (0, 9) := by kernel_rfl
@[go_sem] theorem Try.plc13_1 : placeV Try.prog 13 1 = some (1, 1) := by kernel_rfl
@[go_sem] theorem Try.fld13_1 : fld Try.prog 13 1 = some (1, 12) := by kernel_rfl
@[go_sem] theorem Try.knd15 : knd Try.prog 15 = .ptr 70 := by kernel_rfl
@[go_sem] theorem Try.tsz15 : tsz Try.prog 15 = 1 := by kernel_rfl
@[go_sem] theorem Try.tby15 : tby Try.prog 15 = 8 := by kernel_rfl
@[go_sem] theorem Try.tagg15 : tagg Try.prog 15 = false := by kernel_rfl
@[go_sem] theorem Try.tyOk15 : tyOk Try.prog 15 = true := by kernel_rfl
@[go_sem] theorem Try.tzero15 : tzero Try.prog 15 = some (.pointer none) := by kernel_rfl
@[go_sem] theorem Try.knd16 : knd Try.prog 16 = .ptr 73 := by kernel_rfl
@[go_sem] theorem Try.tsz16 : tsz Try.prog 16 = 1 := by kernel_rfl
@[go_sem] theorem Try.tby16 : tby Try.prog 16 = 8 := by kernel_rfl
@[go_sem] theorem Try.tagg16 : tagg Try.prog 16 = false := by kernel_rfl
@[go_sem] theorem Try.tyOk16 : tyOk Try.prog 16 = true := by kernel_rfl
@[go_sem] theorem Try.tzero16 : tzero Try.prog 16 = some (.pointer none) := by kernel_rfl
@[go_sem] theorem Try.knd20 : knd Try.prog 20 = .iface := by kernel_rfl
@[go_sem] theorem Try.tsz20 : tsz Try.prog 20 = 1 := by kernel_rfl
@[go_sem] theorem Try.tby20 : tby Try.prog 20 = 16 := by kernel_rfl
@[go_sem] theorem Try.tagg20 : tagg Try.prog 20 = false := by kernel_rfl
@[go_sem] theorem Try.tyOk20 : tyOk Try.prog 20 = true := by kernel_rfl
@[go_sem] theorem Try.tzero20 : tzero Try.prog 20 = some (.nilIface) := by kernel_rfl
@[go_sem] theorem Try.knd21 : knd Try.prog 21 = .int .i32 := by kernel_rfl
@[go_sem] theorem Try.tsz21 : tsz Try.prog 21 = 1 := by kernel_rfl
@[go_sem] theorem Try.tby21 : tby Try.prog 21 = 4 := by kernel_rfl
@[go_sem] theorem Try.tagg21 : tagg Try.prog 21 = false := by kernel_rfl
@[go_sem] theorem Try.tyOk21 : tyOk Try.prog 21 = true := by kernel_rfl
@[go_sem] theorem Try.tzero21 : tzero Try.prog 21 = some (.int .i32 0) := by kernel_rfl
@[go_sem] theorem Try.knd22 : knd Try.prog 22 = .slice 45 := by kernel_rfl
@[go_sem] theorem Try.tsz22 : tsz Try.prog 22 = 1 := by kernel_rfl
@[go_sem] theorem Try.tby22 : tby Try.prog 22 = 24 := by kernel_rfl
@[go_sem] theorem Try.tagg22 : tagg Try.prog 22 = false := by kernel_rfl
@[go_sem] theorem Try.tyOk22 : tyOk Try.prog 22 = true := by kernel_rfl
@[go_sem] theorem Try.tzero22 : tzero Try.prog 22 = some (.slice none 0 0) := by kernel_rfl
@[go_sem] theorem Try.knd23 : knd Try.prog 23 = .int .u32 := by kernel_rfl
@[go_sem] theorem Try.tsz23 : tsz Try.prog 23 = 1 := by kernel_rfl
@[go_sem] theorem Try.tby23 : tby Try.prog 23 = 4 := by kernel_rfl
@[go_sem] theorem Try.tagg23 : tagg Try.prog 23 = false := by kernel_rfl
@[go_sem] theorem Try.tyOk23 : tyOk Try.prog 23 = true := by kernel_rfl
@[go_sem] theorem Try.tzero23 : tzero Try.prog 23 = some (.int .u32 0) := by kernel_rfl
@[go_sem] theorem Try.knd24 : knd Try.prog 24 = .arr 2 23 := by kernel_rfl
@[go_sem] theorem Try.tsz24 : tsz Try.prog 24 = 2 := by kernel_rfl
@[go_sem] theorem Try.tby24 : tby Try.prog 24 = 8 := by kernel_rfl
@[go_sem] theorem Try.tagg24 : tagg Try.prog 24 = true := by kernel_rfl
@[go_sem] theorem Try.tyOk24 : tyOk Try.prog 24 = true := by kernel_rfl
@[go_sem] theorem Try.tzero24 : tzero Try.prog 24 = some (.agg #[.int .u32 0, .int .u32 0]) := by kernel_rfl
@[go_sem] theorem Try.bok24 : builtOk Try.prog 24 = true := by kernel_rfl
@[go_sem] theorem Try.plc24 (i : Nat) : placeV Try.prog 24 i = some (i * 1, 1) := by kernel_rfl
@[go_sem] theorem Try.knd25 : knd Try.prog 25 = .fn := by kernel_rfl
@[go_sem] theorem Try.tsz25 : tsz Try.prog 25 = 1 := by kernel_rfl
@[go_sem] theorem Try.tby25 : tby Try.prog 25 = 8 := by kernel_rfl
@[go_sem] theorem Try.tagg25 : tagg Try.prog 25 = false := by kernel_rfl
@[go_sem] theorem Try.tyOk25 : tyOk Try.prog 25 = true := by kernel_rfl
@[go_sem] theorem Try.tzero25 : tzero Try.prog 25 = some (.nilFunc) := by kernel_rfl
@[go_sem] theorem Try.knd26 : knd Try.prog 26 = .slice 3 := by kernel_rfl
@[go_sem] theorem Try.tsz26 : tsz Try.prog 26 = 1 := by kernel_rfl
@[go_sem] theorem Try.tby26 : tby Try.prog 26 = 24 := by kernel_rfl
@[go_sem] theorem Try.tagg26 : tagg Try.prog 26 = false := by kernel_rfl
@[go_sem] theorem Try.tyOk26 : tyOk Try.prog 26 = true := by kernel_rfl
@[go_sem] theorem Try.tzero26 : tzero Try.prog 26 = some (.slice none 0 0) := by kernel_rfl
@[go_sem] theorem Try.knd27 : knd Try.prog 27 = .int .i64 := by kernel_rfl
@[go_sem] theorem Try.tsz27 : tsz Try.prog 27 = 1 := by kernel_rfl
@[go_sem] theorem Try.tby27 : tby Try.prog 27 = 8 := by kernel_rfl
@[go_sem] theorem Try.tagg27 : tagg Try.prog 27 = false := by kernel_rfl
@[go_sem] theorem Try.tyOk27 : tyOk Try.prog 27 = true := by kernel_rfl
@[go_sem] theorem Try.tzero27 : tzero Try.prog 27 = some (.int .i64 0) := by kernel_rfl
@[go_sem] theorem Try.knd29 : knd Try.prog 29 = .fn := by kernel_rfl
@[go_sem] theorem Try.tsz29 : tsz Try.prog 29 = 1 := by kernel_rfl
@[go_sem] theorem Try.tby29 : tby Try.prog 29 = 8 := by kernel_rfl
@[go_sem] theorem Try.tagg29 : tagg Try.prog 29 = false := by kernel_rfl
@[go_sem] theorem Try.tyOk29 : tyOk Try.prog 29 = true := by kernel_rfl
@[go_sem] theorem Try.tzero29 : tzero Try.prog 29 = some (.nilFunc) := by kernel_rfl
@[go_sem] theorem Try.knd31 : knd Try.prog 31 = .fn := by kernel_rfl
@[go_sem] theorem Try.tsz31 : tsz Try.prog 31 = 1 := by kernel_rfl
@[go_sem] theorem Try.tby31 : tby Try.prog 31 = 8 := by kernel_rfl
@[go_sem] theorem Try.tagg31 : tagg Try.prog 31 = false := by kernel_rfl
@[go_sem] theorem Try.tyOk31 : tyOk Try.prog 31 = true := by kernel_rfl
@[go_sem] theorem Try.tzero31 : tzero Try.prog 31 = some (.nilFunc) := by kernel_rfl
@[go_sem] theorem Try.knd32 : knd Try.prog 32 = .fn := by kernel_rfl
@[go_sem] theorem Try.tsz32 : tsz Try.prog 32 = 1 := by kernel_rfl
@[go_sem] theorem Try.tby32 : tby Try.prog 32 = 8 := by kernel_rfl
@[go_sem] theorem Try.tagg32 : tagg Try.prog 32 = false := by kernel_rfl
@[go_sem] theorem Try.tyOk32 : tyOk Try.prog 32 = true := by kernel_rfl
@[go_sem] theorem Try.tzero32 : tzero Try.prog 32 = some (.nilFunc) := by kernel_rfl
@[go_sem] theorem Try.knd33 : knd Try.prog 33 = .fn := by kernel_rfl
@[go_sem] theorem Try.tsz33 : tsz Try.prog 33 = 1 := by kernel_rfl
@[go_sem] theorem Try.tby33 : tby Try.prog 33 = 8 := by kernel_rfl
@[go_sem] theorem Try.tagg33 : tagg Try.prog 33 = false := by kernel_rfl
@[go_sem] theorem Try.tyOk33 : tyOk Try.prog 33 = true := by kernel_rfl
@[go_sem] theorem Try.tzero33 : tzero Try.prog 33 = some (.nilFunc) := by kernel_rfl
@[go_sem] theorem Try.knd34 : knd Try.prog 34 = .fn := by kernel_rfl
@[go_sem] theorem Try.tsz34 : tsz Try.prog 34 = 1 := by kernel_rfl
@[go_sem] theorem Try.tby34 : tby Try.prog 34 = 8 := by kernel_rfl
@[go_sem] theorem Try.tagg34 : tagg Try.prog 34 = false := by kernel_rfl
@[go_sem] theorem Try.tyOk34 : tyOk Try.prog 34 = true := by kernel_rfl
@[go_sem] theorem Try.tzero34 : tzero Try.prog 34 = some (.nilFunc) := by kernel_rfl
@[go_sem] theorem Try.knd35 : knd Try.prog 35 = .fn := by kernel_rfl
@[go_sem] theorem Try.tsz35 : tsz Try.prog 35 = 1 := by kernel_rfl
@[go_sem] theorem Try.tby35 : tby Try.prog 35 = 8 := by kernel_rfl
@[go_sem] theorem Try.tagg35 : tagg Try.prog 35 = false := by kernel_rfl
@[go_sem] theorem Try.tyOk35 : tyOk Try.prog 35 = true := by kernel_rfl
@[go_sem] theorem Try.tzero35 : tzero Try.prog 35 = some (.nilFunc) := by kernel_rfl
@[go_sem] theorem Try.knd37 : knd Try.prog 37 = .fn := by kernel_rfl
@[go_sem] theorem Try.tsz37 : tsz Try.prog 37 = 1 := by kernel_rfl
@[go_sem] theorem Try.tby37 : tby Try.prog 37 = 8 := by kernel_rfl
@[go_sem] theorem Try.tagg37 : tagg Try.prog 37 = false := by kernel_rfl
@[go_sem] theorem Try.tyOk37 : tyOk Try.prog 37 = true := by kernel_rfl
@[go_sem] theorem Try.tzero37 : tzero Try.prog 37 = some (.nilFunc) := by kernel_rfl
@[go_sem] theorem Try.knd38 : knd Try.prog 38 = .fn := by kernel_rfl
@[go_sem] theorem Try.tsz38 : tsz Try.prog 38 = 1 := by kernel_rfl
@[go_sem] theorem Try.tby38 : tby Try.prog 38 = 8 := by kernel_rfl
@[go_sem] theorem Try.tagg38 : tagg Try.prog 38 = false := by kernel_rfl
@[go_sem] theorem Try.tyOk38 : tyOk Try.prog 38 = true := by kernel_rfl
@[go_sem] theorem Try.tzero38 : tzero Try.prog 38 = some (.nilFunc) := by kernel_rfl
@[go_sem] theorem Try.knd39 : knd Try.prog 39 = .fn := by kernel_rfl
@[go_sem] theorem Try.tsz39 : tsz Try.prog 39 = 1 := by kernel_rfl
@[go_sem] theorem Try.tby39 : tby Try.prog 39 = 8 := by kernel_rfl
@[go_sem] theorem Try.tagg39 : tagg Try.prog 39 = false := by kernel_rfl
@[go_sem] theorem Try.tyOk39 : tyOk Try.prog 39 = true := by kernel_rfl
@[go_sem] theorem Try.tzero39 : tzero Try.prog 39 = some (.nilFunc) := by kernel_rfl
@[go_sem] theorem Try.knd40 : knd Try.prog 40 = .fn := by kernel_rfl
@[go_sem] theorem Try.tsz40 : tsz Try.prog 40 = 1 := by kernel_rfl
@[go_sem] theorem Try.tby40 : tby Try.prog 40 = 8 := by kernel_rfl
@[go_sem] theorem Try.tagg40 : tagg Try.prog 40 = false := by kernel_rfl
@[go_sem] theorem Try.tyOk40 : tyOk Try.prog 40 = true := by kernel_rfl
@[go_sem] theorem Try.tzero40 : tzero Try.prog 40 = some (.nilFunc) := by kernel_rfl
@[go_sem] theorem Try.knd41 : knd Try.prog 41 = .arr 20 3 := by kernel_rfl
@[go_sem] theorem Try.tsz41 : tsz Try.prog 41 = 20 := by kernel_rfl
@[go_sem] theorem Try.tby41 : tby Try.prog 41 = 160 := by kernel_rfl
@[go_sem] theorem Try.tagg41 : tagg Try.prog 41 = true := by kernel_rfl
@[go_sem] theorem Try.tyOk41 : tyOk Try.prog 41 = true := by kernel_rfl
@[go_sem] theorem Try.tzero41 : tzero Try.prog 41 = some (.agg #[.int .i64 0, .int .i64 0, .int .i64 0, .int .i64 0, .int .i64 0, .int .i64 0, .int .i64 0, .int .i64 0, .int .i64 0, .int .i64 0, .int .i64 0, .int .i64 0, .int .i64 0, .int .i64 0, .int .i64 0, .int .i64 0, .int .i64 0, .int .i64 0, .int .i64 0, .int .i64 0]) := by kernel_rfl
@[go_sem] theorem Try.bok41 : builtOk Try.prog 41 = true := by kernel_rfl
@[go_sem] theorem Try.plc41 (i : Nat) : placeV Try.prog 41 i = some (i * 1, 1) := by kernel_rfl
@[go_sem] theorem Try.knd42 : knd Try.prog 42 = .fn := by kernel_rfl
@[go_sem] theorem Try.tsz42 : tsz Try.prog 42 = 1 := by kernel_rfl
@[go_sem] theorem Try.tby42 : tby Try.prog 42 = 8 := by kernel_rfl
@[go_sem] theorem Try.tagg42 : tagg Try.prog 42 = false := by kernel_rfl
@[go_sem] theorem Try.tyOk42 : tyOk Try.prog 42 = true := by kernel_rfl
@[go_sem] theorem Try.tzero42 : tzero Try.prog 42 = some (.nilFunc) := by kernel_rfl
@[go_sem] theorem Try.knd43 : knd Try.prog 43 = .fn := by kernel_rfl
@[go_sem] theorem Try.tsz43 : tsz Try.prog 43 = 1 := by kernel_rfl
@[go_sem] theorem Try.tby43 : tby Try.prog 43 = 8 := by kernel_rfl
@[go_sem] theorem Try.tagg43 : tagg Try.prog 43 = false := by kernel_rfl
@[go_sem] theorem Try.tyOk43 : tyOk Try.prog 43 = true := by kernel_rfl
@[go_sem] theorem Try.tzero43 : tzero Try.prog 43 = some (.nilFunc) := by kernel_rfl
@[go_sem] theorem Try.knd44 : knd Try.prog 44 = .strct := by kernel_rfl
@[go_sem] theorem Try.tsz44 : tsz Try.prog 44 = 5 := by kernel_rfl
@[go_sem] theorem Try.tby44 : tby Try.prog 44 = 32 := by kernel_rfl
@[go_sem] theorem Try.tagg44 : tagg Try.prog 44 = true := by kernel_rfl
@[go_sem] theorem Try.tyOk44 : tyOk Try.prog 44 = true := by kernel_rfl
@[go_sem] theorem Try.tzero44 : tzero Try.prog 44 = some (.agg #[.int .i64 0, .int .i64 0, .int .i64 0, .bool false, .bool false]) := by kernel_rfl
@[go_sem] theorem Try.bok44 : builtOk Try.prog 44 = true := by kernel_rfl
@[go_sem] theorem Try.plc44_0 : placeV Try.prog 44 0 = some (0, 1) := by kernel_rfl
@[go_sem] theorem Try.fld44_0 : fld Try.prog 44 0 = some (0, 3) := by kernel_rfl
@[go_sem] theorem Try.plc44_1 : placeV Try.prog 44 1 = some (1, 1) := by kernel_rfl
@[go_sem] theorem Try.fld44_1 : fld Try.prog 44 1 = some (1, 3) := by kernel_rfl
@[go_sem] theorem Try.plc44_2 : placeV Try.prog 44 2 = some (2, 1) := by kernel_rfl
@[go_sem] theorem Try.fld44_2 : fld Try.prog 44 2 = some (2, 3) := by kernel_rfl
@[go_sem] theorem Try.plc44_3 : placeV Try.prog 44 3 = some (3, 1) := by kernel_rfl
@[go_sem] theorem Try.fld44_3 : fld Try.prog 44 3 = some (3, 4) := by kernel_rfl
@[go_sem] theorem Try.plc44_4 : placeV Try.prog 44 4 = some (4, 1) := by kernel_rfl
@[go_sem] theorem Try.fld44_4 : fld Try.prog 44 4 = some (4, 4) := by kernel_rfl
@[go_sem] theorem Try.knd45 : knd Try.prog 45 = .strct := by kernel_rfl
@[go_sem] theorem Try.tsz45 : tsz Try.prog 45 = 5 := by kernel_rfl
@[go_sem] theorem Try.tby45 : tby Try.prog 45 = 32 := by kernel_rfl
@[go_sem] theorem Try.tagg45 : tagg Try.prog 45 = true := by kernel_rfl
@[go_sem] theorem Try.tyOk45 : tyOk Try.prog 45 = true := by kernel_rfl
@[go_sem] theorem Try.tzero45 : tzero Try.prog 45 = some (.agg #[.int .i64 0, .int .i64 0, .int .i64 0, .bool false, .bool false]) := by kernel_rfl
@[go_sem] theorem Try.bok45 : builtOk Try.prog 45 = true := by kernel_rfl
@[go_sem] theorem Try.plc45_0 : placeV Try.prog 45 0 = some (0, 1) := by kernel_rfl
@[go_sem] theorem Try.fld45_0 : fld Try.prog 45 0 = some (0, 3) := by kernel_rfl
@[go_sem] theorem Try.plc45_1 : placeV Try.prog 45 1 = some (1, 1) := by kernel_rfl
@[go_sem] theorem Try.fld45_1 : fld Try.prog 45 1 = some (1, 3) := by kernel_rfl
@[go_sem] theorem Try.plc45_2 : placeV Try.prog 45 2 = some (2, 1) := by kernel_rfl
@[go_sem] theorem Try.fld45_2 : fld Try.prog 45 2 = some (2, 3) := by kernel_rfl
@[go_sem] theorem Try.plc45_3 : placeV Try.prog 45 3 = some (3, 1) := by kernel_rfl
@[go_sem] theorem Try.fld45_3 : fld Try.prog 45 3 = some (3, 4) := by kernel_rfl
@[go_sem] theorem Try.plc45_4 : placeV Try.prog 45 4 = some (4, 1) := by kernel_rfl
@[go_sem] theorem Try.fld45_4 : fld Try.prog 45 4 = some (4, 4) := by kernel_rfl
@[go_sem] theorem Try.eqOk45 : eqOk Try.prog 45 = true := by kernel_rfl
@[go_sem] theorem Try.fkinds45 : fkinds Try.prog 45 = [.int .i64, .int .i64, .int .i64, .bool, .bool] := by kernel_rfl
@[go_sem] theorem Try.knd46 : knd Try.prog 46 = .arr 16 3 := by kernel_rfl
@[go_sem] theorem Try.tsz46 : tsz Try.prog 46 = 16 := by kernel_rfl
@[go_sem] theorem Try.tby46 : tby Try.prog 46 = 128 := by kernel_rfl
@[go_sem] theorem Try.tagg46 : tagg Try.prog 46 = true := by kernel_rfl
@[go_sem] theorem Try.tyOk46 : tyOk Try.prog 46 = true := by kernel_rfl
@[go_sem] theorem Try.tzero46 : tzero Try.prog 46 = some (.agg #[.int .i64 0, .int .i64 0, .int .i64 0, .int .i64 0, .int .i64 0, .int .i64 0, .int .i64 0, .int .i64 0, .int .i64 0, .int .i64 0, .int .i64 0, .int .i64 0, .int .i64 0, .int .i64 0, .int .i64 0, .int .i64 0]) := by kernel_rfl
@[go_sem] theorem Try.bok46 : builtOk Try.prog 46 = true := by kernel_rfl
@[go_sem] theorem Try.plc46 (i : Nat) : placeV Try.prog 46 i = some (i * 1, 1) := by kernel_rfl
@[go_sem] theorem Try.knd47 : knd Try.prog 47 = .fn := by kernel_rfl
@[go_sem] theorem Try.tsz47 : tsz Try.prog 47 = 1 := by kernel_rfl
@[go_sem] theorem Try.tby47 : tby Try.prog 47 = 8 := by kernel_rfl
@[go_sem] theorem Try.tagg47 : tagg Try.prog 47 = false := by kernel_rfl
@[go_sem] theorem Try.tyOk47 : tyOk Try.prog 47 = true := by kernel_rfl
@[go_sem] theorem Try.tzero47 : tzero Try.prog 47 = some (.nilFunc) := by kernel_rfl
@[go_sem] theorem Try.knd48 : knd Try.prog 48 = .fn := by kernel_rfl
@[go_sem] theorem Try.tsz48 : tsz Try.prog 48 = 1 := by kernel_rfl
@[go_sem] theorem Try.tby48 : tby Try.prog 48 = 8 := by kernel_rfl
@[go_sem] theorem Try.tagg48 : tagg Try.prog 48 = false := by kernel_rfl
@[go_sem] theorem Try.tyOk48 : tyOk Try.prog 48 = true := by kernel_rfl
@[go_sem] theorem Try.tzero48 : tzero Try.prog 48 = some (.nilFunc) := by kernel_rfl
@[go_sem] theorem Try.knd49 : knd Try.prog 49 = .fn := by kernel_rfl
@[go_sem] theorem Try.tsz49 : tsz Try.prog 49 = 1 := by kernel_rfl
@[go_sem] theorem Try.tby49 : tby Try.prog 49 = 8 := by kernel_rfl
@[go_sem] theorem Try.tagg49 : tagg Try.prog 49 = false := by kernel_rfl
@[go_sem] theorem Try.tyOk49 : tyOk Try.prog 49 = true := by kernel_rfl
@[go_sem] theorem Try.tzero49 : tzero Try.prog 49 = some (.nilFunc) := by kernel_rfl
@[go_sem] theorem Try.knd50 : knd Try.prog 50 = .fn := by kernel_rfl
@[go_sem] theorem Try.tsz50 : tsz Try.prog 50 = 1 := by kernel_rfl
@[go_sem] theorem Try.tby50 : tby Try.prog 50 = 8 := by kernel_rfl
@[go_sem] theorem Try.tagg50 : tagg Try.prog 50 = false := by kernel_rfl
@[go_sem] theorem Try.tyOk50 : tyOk Try.prog 50 = true := by kernel_rfl
@[go_sem] theorem Try.tzero50 : tzero Try.prog 50 = some (.nilFunc) := by kernel_rfl
@[go_sem] theorem Try.knd51 : knd Try.prog 51 = .fn := by kernel_rfl
@[go_sem] theorem Try.tsz51 : tsz Try.prog 51 = 1 := by kernel_rfl
@[go_sem] theorem Try.tby51 : tby Try.prog 51 = 8 := by kernel_rfl
@[go_sem] theorem Try.tagg51 : tagg Try.prog 51 = false := by kernel_rfl
@[go_sem] theorem Try.tyOk51 : tyOk Try.prog 51 = true := by kernel_rfl
@[go_sem] theorem Try.tzero51 : tzero Try.prog 51 = some (.nilFunc) := by kernel_rfl
@[go_sem] theorem Try.knd52 : knd Try.prog 52 = .fn := by kernel_rfl
@[go_sem] theorem Try.tsz52 : tsz Try.prog 52 = 1 := by kernel_rfl
@[go_sem] theorem Try.tby52 : tby Try.prog 52 = 8 := by kernel_rfl
@[go_sem] theorem Try.tagg52 : tagg Try.prog 52 = false := by kernel_rfl
@[go_sem] theorem Try.tyOk52 : tyOk Try.prog 52 = true := by kernel_rfl
@[go_sem] theorem Try.tzero52 : tzero Try.prog 52 = some (.nilFunc) := by kernel_rfl
@[go_sem] theorem Try.knd53 : knd Try.prog 53 = .fn := by kernel_rfl
@[go_sem] theorem Try.tsz53 : tsz Try.prog 53 = 1 := by kernel_rfl
@[go_sem] theorem Try.tby53 : tby Try.prog 53 = 8 := by kernel_rfl
@[go_sem] theorem Try.tagg53 : tagg Try.prog 53 = false := by kernel_rfl
@[go_sem] theorem Try.tyOk53 : tyOk Try.prog 53 = true := by kernel_rfl
@[go_sem] theorem Try.tzero53 : tzero Try.prog 53 = some (.nilFunc) := by kernel_rfl
@[go_sem] theorem Try.knd54 : knd Try.prog 54 = .fn := by kernel_rfl
@[go_sem] theorem Try.tsz54 : tsz Try.prog 54 = 1 := by kernel_rfl
@[go_sem] theorem Try.tby54 : tby Try.prog 54 = 8 := by kernel_rfl
@[go_sem] theorem Try.tagg54 : tagg Try.prog 54 = false := by kernel_rfl
@[go_sem] theorem Try.tyOk54 : tyOk Try.prog 54 = true := by kernel_rfl
@[go_sem] theorem Try.tzero54 : tzero Try.prog 54 = some (.nilFunc) := by kernel_rfl
@[go_sem] theorem Try.knd55 : knd Try.prog 55 = .fn := by kernel_rfl
@[go_sem] theorem Try.tsz55 : tsz Try.prog 55 = 1 := by kernel_rfl
@[go_sem] theorem Try.tby55 : tby Try.prog 55 = 8 := by kernel_rfl
@[go_sem] theorem Try.tagg55 : tagg Try.prog 55 = false := by kernel_rfl
@[go_sem] theorem Try.tyOk55 : tyOk Try.prog 55 = true := by kernel_rfl
@[go_sem] theorem Try.tzero55 : tzero Try.prog 55 = some (.nilFunc) := by kernel_rfl
@[go_sem] theorem Try.knd56 : knd Try.prog 56 = .fn := by kernel_rfl
@[go_sem] theorem Try.tsz56 : tsz Try.prog 56 = 1 := by kernel_rfl
@[go_sem] theorem Try.tby56 : tby Try.prog 56 = 8 := by kernel_rfl
@[go_sem] theorem Try.tagg56 : tagg Try.prog 56 = false := by kernel_rfl
@[go_sem] theorem Try.tyOk56 : tyOk Try.prog 56 = true := by kernel_rfl
@[go_sem] theorem Try.tzero56 : tzero Try.prog 56 = some (.nilFunc) := by kernel_rfl
@[go_sem] theorem Try.knd57 : knd Try.prog 57 = .fn := by kernel_rfl
@[go_sem] theorem Try.tsz57 : tsz Try.prog 57 = 1 := by kernel_rfl
@[go_sem] theorem Try.tby57 : tby Try.prog 57 = 8 := by kernel_rfl
@[go_sem] theorem Try.tagg57 : tagg Try.prog 57 = false := by kernel_rfl
@[go_sem] theorem Try.tyOk57 : tyOk Try.prog 57 = true := by kernel_rfl
@[go_sem] theorem Try.tzero57 : tzero Try.prog 57 = some (.nilFunc) := by kernel_rfl
@[go_sem] theorem Try.knd58 : knd Try.prog 58 = .fn := by kernel_rfl
@[go_sem] theorem Try.tsz58 : tsz Try.prog 58 = 1 := by kernel_rfl
@[go_sem] theorem Try.tby58 : tby Try.prog 58 = 8 := by kernel_rfl
@[go_sem] theorem Try.tagg58 : tagg Try.prog 58 = false := by kernel_rfl
@[go_sem] theorem Try.tyOk58 : tyOk Try.prog 58 = true := by kernel_rfl
@[go_sem] theorem Try.tzero58 : tzero Try.prog 58 = some (.nilFunc) := by kernel_rfl
@[go_sem] theorem Try.knd59 : knd Try.prog 59 = .fn := by kernel_rfl
@[go_sem] theorem Try.tsz59 : tsz Try.prog 59 = 1 := by kernel_rfl
@[go_sem] theorem Try.tby59 : tby Try.prog 59 = 8 := by kernel_rfl
@[go_sem] theorem Try.tagg59 : tagg Try.prog 59 = false := by kernel_rfl
@[go_sem] theorem Try.tyOk59 : tyOk Try.prog 59 = true := by kernel_rfl
@[go_sem] theorem Try.tzero59 : tzero Try.prog 59 = some (.nilFunc) := by kernel_rfl
@[go_sem] theorem Try.knd60 : knd Try.prog 60 = .fn := by kernel_rfl
@[go_sem] theorem Try.tsz60 : tsz Try.prog 60 = 1 := by kernel_rfl
@[go_sem] theorem Try.tby60 : tby Try.prog 60 = 8 := by kernel_rfl
@[go_sem] theorem Try.tagg60 : tagg Try.prog 60 = false := by kernel_rfl
@[go_sem] theorem Try.tyOk60 : tyOk Try.prog 60 = true := by kernel_rfl
@[go_sem] theorem Try.tzero60 : tzero Try.prog 60 = some (.nilFunc) := by kernel_rfl
@[go_sem] theorem Try.knd61 : knd Try.prog 61 = .fn := by kernel_rfl
@[go_sem] theorem Try.tsz61 : tsz Try.prog 61 = 1 := by kernel_rfl
@[go_sem] theorem Try.tby61 : tby Try.prog 61 = 8 := by kernel_rfl
@[go_sem] theorem Try.tagg61 : tagg Try.prog 61 = false := by kernel_rfl
@[go_sem] theorem Try.tyOk61 : tyOk Try.prog 61 = true := by kernel_rfl
@[go_sem] theorem Try.tzero61 : tzero Try.prog 61 = some (.nilFunc) := by kernel_rfl
@[go_sem] theorem Try.knd63 : knd Try.prog 63 = .fn := by kernel_rfl
@[go_sem] theorem Try.tsz63 : tsz Try.prog 63 = 1 := by kernel_rfl
@[go_sem] theorem Try.tby63 : tby Try.prog 63 = 8 := by kernel_rfl
@[go_sem] theorem Try.tagg63 : tagg Try.prog 63 = false := by kernel_rfl
@[go_sem] theorem Try.tyOk63 : tyOk Try.prog 63 = true := by kernel_rfl
@[go_sem] theorem Try.tzero63 : tzero Try.prog 63 = some (.nilFunc) := by kernel_rfl
@[go_sem] theorem Try.knd64 : knd Try.prog 64 = .fn := by kernel_rfl
@[go_sem] theorem Try.tsz64 : tsz Try.prog 64 = 1 := by kernel_rfl
@[go_sem] theorem Try.tby64 : tby Try.prog 64 = 8 := by kernel_rfl
@[go_sem] theorem Try.tagg64 : tagg Try.prog 64 = false := by kernel_rfl
@[go_sem] theorem Try.tyOk64 : tyOk Try.prog 64 = true := by kernel_rfl
@[go_sem] theorem Try.tzero64 : tzero Try.prog 64 = some (.nilFunc) := by kernel_rfl
@[go_sem] theorem Try.knd65 : knd Try.prog 65 = .fn := by kernel_rfl
@[go_sem] theorem Try.tsz65 : tsz Try.prog 65 = 1 := by kernel_rfl
@[go_sem] theorem Try.tby65 : tby Try.prog 65 = 8 := by kernel_rfl
@[go_sem] theorem Try.tagg65 : tagg Try.prog 65 = false := by kernel_rfl
@[go_sem] theorem Try.tyOk65 : tyOk Try.prog 65 = true := by kernel_rfl
@[go_sem] theorem Try.tzero65 : tzero Try.prog 65 = some (.nilFunc) := by kernel_rfl
@[go_sem] theorem Try.knd66 : knd Try.prog 66 = .fn := by kernel_rfl
@[go_sem] theorem Try.tsz66 : tsz Try.prog 66 = 1 := by kernel_rfl
@[go_sem] theorem Try.tby66 : tby Try.prog 66 = 8 := by kernel_rfl
@[go_sem] theorem Try.tagg66 : tagg Try.prog 66 = false := by kernel_rfl
@[go_sem] theorem Try.tyOk66 : tyOk Try.prog 66 = true := by kernel_rfl
@[go_sem] theorem Try.tzero66 : tzero Try.prog 66 = some (.nilFunc) := by kernel_rfl
@[go_sem] theorem Try.knd67 : knd Try.prog 67 = .fn := by kernel_rfl
@[go_sem] theorem Try.tsz67 : tsz Try.prog 67 = 1 := by kernel_rfl
@[go_sem] theorem Try.tby67 : tby Try.prog 67 = 8 := by kernel_rfl
@[go_sem] theorem Try.tagg67 : tagg Try.prog 67 = false := by kernel_rfl
@[go_sem] theorem Try.tyOk67 : tyOk Try.prog 67 = true := by kernel_rfl
@[go_sem] theorem Try.tzero67 : tzero Try.prog 67 = some (.nilFunc) := by kernel_rfl
@[go_sem] theorem Try.knd68 : knd Try.prog 68 = .fn := by kernel_rfl
@[go_sem] theorem Try.tsz68 : tsz Try.prog 68 = 1 := by kernel_rfl
@[go_sem] theorem Try.tby68 : tby Try.prog 68 = 8 := by kernel_rfl
@[go_sem] theorem Try.tagg68 : tagg Try.prog 68 = false := by kernel_rfl
@[go_sem] theorem Try.tyOk68 : tyOk Try.prog 68 = true := by kernel_rfl
@[go_sem] theorem Try.tzero68 : tzero Try.prog 68 = some (.nilFunc) := by kernel_rfl
@[go_sem] theorem Try.knd71 : knd Try.prog 71 = .arr 0 16 := by kernel_rfl
@[go_sem] theorem Try.tsz71 : tsz Try.prog 71 = 0 := by kernel_rfl
@[go_sem] theorem Try.tby71 : tby Try.prog 71 = 0 := by kernel_rfl
@[go_sem] theorem Try.tagg71 : tagg Try.prog 71 = true := by kernel_rfl
@[go_sem] theorem Try.tyOk71 : tyOk Try.prog 71 = true := by kernel_rfl
@[go_sem] theorem Try.tzero71 : tzero Try.prog 71 = some (.agg #[]) := by kernel_rfl
@[go_sem] theorem Try.bok71 : builtOk Try.prog 71 = true := by kernel_rfl
@[go_sem] theorem Try.plc71 (i : Nat) : placeV Try.prog 71 i = some (i * 1, 1) := by kernel_rfl
@[go_sem] theorem Try.knd72 : knd Try.prog 72 = .strct := by kernel_rfl
@[go_sem] theorem Try.tsz72 : tsz Try.prog 72 = 0 := by kernel_rfl
@[go_sem] theorem Try.tby72 : tby Try.prog 72 = 0 := by kernel_rfl
@[go_sem] theorem Try.tagg72 : tagg Try.prog 72 = true := by kernel_rfl
@[go_sem] theorem Try.tyOk72 : tyOk Try.prog 72 = true := by kernel_rfl
@[go_sem] theorem Try.tzero72 : tzero Try.prog 72 = some (.agg #[]) := by kernel_rfl
@[go_sem] theorem Try.bok72 : builtOk Try.prog 72 = true := by kernel_rfl
@[go_sem] theorem Try.plc72_0 : placeV Try.prog 72 0 = some (0, 0) := by kernel_rfl
@[go_sem] theorem Try.fld72_0 : fld Try.prog 72 0 = some (0, 71) := by kernel_rfl
@[go_sem] theorem Try.knd74 : knd Try.prog 74 = .fn := by kernel_rfl
@[go_sem] theorem Try.tsz74 : tsz Try.prog 74 = 1 := by kernel_rfl
@[go_sem] theorem Try.tby74 : tby Try.prog 74 = 8 := by kernel_rfl
@[go_sem] theorem Try.tagg74 : tagg Try.prog 74 = false := by kernel_rfl
@[go_sem] theorem Try.tyOk74 : tyOk Try.prog 74 = true := by kernel_rfl
@[go_sem] theorem Try.tzero74 : tzero Try.prog 74 = some (.nilFunc) := by kernel_rfl
@[go_sem] theorem Try.knd77 : knd Try.prog 77 = .fn := by kernel_rfl
@[go_sem] theorem Try.tsz77 : tsz Try.prog 77 = 1 := by kernel_rfl
@[go_sem] theorem Try.tby77 : tby Try.prog 77 = 8 := by kernel_rfl
@[go_sem] theorem Try.tagg77 : tagg Try.prog 77 = false := by kernel_rfl
@[go_sem] theorem Try.tyOk77 : tyOk Try.prog 77 = true := by kernel_rfl
@[go_sem] theorem Try.tzero77 : tzero Try.prog 77 = some (.nilFunc) := by kernel_rfl
@[go_sem] theorem Try.knd78 : knd Try.prog 78 = .ptr 5 := by kernel_rfl
@[go_sem] theorem Try.tsz78 : tsz Try.prog 78 = 1 := by kernel_rfl
@[go_sem] theorem Try.tby78 : tby Try.prog 78 = 8 := by kernel_rfl
@[go_sem] theorem Try.tagg78 : tagg Try.prog 78 = false := by kernel_rfl
@[go_sem] theorem Try.tyOk78 : tyOk Try.prog 78 = true := by kernel_rfl
@[go_sem] theorem Try.tzero78 : tzero Try.prog 78 = some (.pointer none) := by kernel_rfl
end Go.Proofs
