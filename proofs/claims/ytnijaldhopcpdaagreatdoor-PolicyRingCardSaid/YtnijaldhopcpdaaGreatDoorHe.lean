/- Texts of the proof, put together: Ty. -/
import Derived.Test.YtnijaldhopcpdaaGreatDoorProg
import Derived.Test.YtnijaldhopcpdaaGreatDoorHb

/- What the logic asks of the types: by program (gen_ty.py). -/
set_option maxRecDepth 100000
namespace Go.Proofs
open Go Go.Pl
@[go_sem] theorem Tryz.knd1 : knd Tryz.prog 1 = .fn := by kernel_rfl
@[go_sem] theorem Tryz.tsz1 : tsz Tryz.prog 1 = 1 := by kernel_rfl
@[go_sem] theorem Tryz.tby1 : tby Tryz.prog 1 = 8 := by kernel_rfl
@[go_sem] theorem Tryz.tagg1 : tagg Tryz.prog 1 = false := by kernel_rfl
@[go_sem] theorem Tryz.tyOk1 : tyOk Tryz.prog 1 = true := by kernel_rfl
@[go_sem] theorem Tryz.tzero1 : tzero Tryz.prog 1 = some (.nilFunc) := by kernel_rfl
@[go_sem] theorem Tryz.knd2 : knd Tryz.prog 2 = .int .i64 := by kernel_rfl
@[go_sem] theorem Tryz.tsz2 : tsz Tryz.prog 2 = 1 := by kernel_rfl
@[go_sem] theorem Tryz.tby2 : tby Tryz.prog 2 = 8 := by kernel_rfl
@[go_sem] theorem Tryz.tagg2 : tagg Tryz.prog 2 = false := by kernel_rfl
@[go_sem] theorem Tryz.tyOk2 : tyOk Tryz.prog 2 = true := by kernel_rfl
@[go_sem] theorem Tryz.tzero2 : tzero Tryz.prog 2 = some (.int .i64 0) := by kernel_rfl
@[go_sem] theorem Tryz.knd3 : knd Tryz.prog 3 = .int .i64 := by kernel_rfl
@[go_sem] theorem Tryz.tsz3 : tsz Tryz.prog 3 = 1 := by kernel_rfl
@[go_sem] theorem Tryz.tby3 : tby Tryz.prog 3 = 8 := by kernel_rfl
@[go_sem] theorem Tryz.tagg3 : tagg Tryz.prog 3 = false := by kernel_rfl
@[go_sem] theorem Tryz.tyOk3 : tyOk Tryz.prog 3 = true := by kernel_rfl
@[go_sem] theorem Tryz.tzero3 : tzero Tryz.prog 3 = some (.int .i64 0) := by kernel_rfl
@[go_sem] theorem Tryz.knd4 : knd Tryz.prog 4 = .bool := by kernel_rfl
@[go_sem] theorem Tryz.tsz4 : tsz Tryz.prog 4 = 1 := by kernel_rfl
@[go_sem] theorem Tryz.tby4 : tby Tryz.prog 4 = 1 := by kernel_rfl
@[go_sem] theorem Tryz.tagg4 : tagg Tryz.prog 4 = false := by kernel_rfl
@[go_sem] theorem Tryz.tyOk4 : tyOk Tryz.prog 4 = true := by kernel_rfl
@[go_sem] theorem Tryz.tzero4 : tzero Tryz.prog 4 = some (.bool false) := by kernel_rfl
@[go_sem] theorem Tryz.knd5 : knd Tryz.prog 5 = .int .u8 := by kernel_rfl
@[go_sem] theorem Tryz.tsz5 : tsz Tryz.prog 5 = 1 := by kernel_rfl
@[go_sem] theorem Tryz.tby5 : tby Tryz.prog 5 = 1 := by kernel_rfl
@[go_sem] theorem Tryz.tagg5 : tagg Tryz.prog 5 = false := by kernel_rfl
@[go_sem] theorem Tryz.tyOk5 : tyOk Tryz.prog 5 = true := by kernel_rfl
@[go_sem] theorem Tryz.tzero5 : tzero Tryz.prog 5 = some (.int .u8 0) := by kernel_rfl
@[go_sem] theorem Tryz.knd9 : knd Tryz.prog 9 = .str := by kernel_rfl
@[go_sem] theorem Tryz.tsz9 : tsz Tryz.prog 9 = 1 := by kernel_rfl
@[go_sem] theorem Tryz.tby9 : tby Tryz.prog 9 = 16 := by kernel_rfl
@[go_sem] theorem Tryz.tagg9 : tagg Tryz.prog 9 = false := by kernel_rfl
@[go_sem] theorem Tryz.tyOk9 : tyOk Tryz.prog 9 = true := by kernel_rfl
@[go_sem] theorem Tryz.tzero9 : tzero Tryz.prog 9 = some (.string ⟨#[]⟩) := by kernel_rfl
@[go_sem] theorem Tryz.knd12 : knd Tryz.prog 12 = .int .u64 := by kernel_rfl
@[go_sem] theorem Tryz.tsz12 : tsz Tryz.prog 12 = 1 := by kernel_rfl
@[go_sem] theorem Tryz.tby12 : tby Tryz.prog 12 = 8 := by kernel_rfl
@[go_sem] theorem Tryz.tagg12 : tagg Tryz.prog 12 = false := by kernel_rfl
@[go_sem] theorem Tryz.tyOk12 : tyOk Tryz.prog 12 = true := by kernel_rfl
@[go_sem] theorem Tryz.tzero12 : tzero Tryz.prog 12 = some (.int .u64 0) := by kernel_rfl
@[go_sem] theorem Tryz.knd13 : knd Tryz.prog 13 = .strct := by kernel_rfl
@[go_sem] theorem Tryz.tsz13 : tsz Tryz.prog 13 = 2 := by kernel_rfl
@[go_sem] theorem Tryz.tby13 : tby Tryz.prog 13 = 24 := by kernel_rfl
@[go_sem] theorem Tryz.tagg13 : tagg Tryz.prog 13 = true := by kernel_rfl
@[go_sem] theorem Tryz.tyOk13 : tyOk Tryz.prog 13 = true := by kernel_rfl
@[go_sem] theorem Tryz.tzero13 : tzero Tryz.prog 13 = some (.agg #[.string ⟨#[]⟩, .int .u64 0]) := by kernel_rfl
@[go_sem] theorem Tryz.bok13 : builtOk Tryz.prog 13 = true := by kernel_rfl
@[go_sem] theorem Tryz.plc13_0 : placeV Tryz.prog 13 0 = some (0, 1) := by kernel_rfl
@[go_sem] theorem Tryz.fld13_0 : fld Tryz.prog 13 0 = some (0, 9) := by kernel_rfl
@[go_sem] theorem Tryz.plc13_1 : placeV Tryz.prog 13 1 = some (1, 1) := by kernel_rfl
@[go_sem] theorem Tryz.fld13_1 : fld Tryz.prog 13 1 = some (1, 12) := by kernel_rfl
@[go_sem] theorem Tryz.knd15 : knd Tryz.prog 15 = .ptr 177 := by kernel_rfl
@[go_sem] theorem Tryz.tsz15 : tsz Tryz.prog 15 = 1 := by kernel_rfl
@[go_sem] theorem Tryz.tby15 : tby Tryz.prog 15 = 8 := by kernel_rfl
@[go_sem] theorem Tryz.tagg15 : tagg Tryz.prog 15 = false := by kernel_rfl
@[go_sem] theorem Tryz.tyOk15 : tyOk Tryz.prog 15 = true := by kernel_rfl
@[go_sem] theorem Tryz.tzero15 : tzero Tryz.prog 15 = some (.pointer none) := by kernel_rfl
@[go_sem] theorem Tryz.knd16 : knd Tryz.prog 16 = .ptr 180 := by kernel_rfl
@[go_sem] theorem Tryz.tsz16 : tsz Tryz.prog 16 = 1 := by kernel_rfl
@[go_sem] theorem Tryz.tby16 : tby Tryz.prog 16 = 8 := by kernel_rfl
@[go_sem] theorem Tryz.tagg16 : tagg Tryz.prog 16 = false := by kernel_rfl
@[go_sem] theorem Tryz.tyOk16 : tyOk Tryz.prog 16 = true := by kernel_rfl
@[go_sem] theorem Tryz.tzero16 : tzero Tryz.prog 16 = some (.pointer none) := by kernel_rfl
@[go_sem] theorem Tryz.knd20 : knd Tryz.prog 20 = .iface := by kernel_rfl
@[go_sem] theorem Tryz.tsz20 : tsz Tryz.prog 20 = 1 := by kernel_rfl
@[go_sem] theorem Tryz.tby20 : tby Tryz.prog 20 = 16 := by kernel_rfl
@[go_sem] theorem Tryz.tagg20 : tagg Tryz.prog 20 = false := by kernel_rfl
@[go_sem] theorem Tryz.tyOk20 : tyOk Tryz.prog 20 = true := by kernel_rfl
@[go_sem] theorem Tryz.tzero20 : tzero Tryz.prog 20 = some (.nilIface) := by kernel_rfl
@[go_sem] theorem Tryz.knd21 : knd Tryz.prog 21 = .int .i32 := by kernel_rfl
@[go_sem] theorem Tryz.tsz21 : tsz Tryz.prog 21 = 1 := by kernel_rfl
@[go_sem] theorem Tryz.tby21 : tby Tryz.prog 21 = 4 := by kernel_rfl
@[go_sem] theorem Tryz.tagg21 : tagg Tryz.prog 21 = false := by kernel_rfl
@[go_sem] theorem Tryz.tyOk21 : tyOk Tryz.prog 21 = true := by kernel_rfl
@[go_sem] theorem Tryz.tzero21 : tzero Tryz.prog 21 = some (.int .i32 0) := by kernel_rfl
@[go_sem] theorem Tryz.knd22 : knd Tryz.prog 22 = .slice 9 := by kernel_rfl
@[go_sem] theorem Tryz.tsz22 : tsz Tryz.prog 22 = 1 := by kernel_rfl
@[go_sem] theorem Tryz.tby22 : tby Tryz.prog 22 = 24 := by kernel_rfl
@[go_sem] theorem Tryz.tagg22 : tagg Tryz.prog 22 = false := by kernel_rfl
@[go_sem] theorem Tryz.tyOk22 : tyOk Tryz.prog 22 = true := by kernel_rfl
@[go_sem] theorem Tryz.tzero22 : tzero Tryz.prog 22 = some (.slice none 0 0) := by kernel_rfl
@[go_sem] theorem Tryz.knd23 : knd Tryz.prog 23 = .slice 3 := by kernel_rfl
@[go_sem] theorem Tryz.tsz23 : tsz Tryz.prog 23 = 1 := by kernel_rfl
@[go_sem] theorem Tryz.tby23 : tby Tryz.prog 23 = 24 := by kernel_rfl
@[go_sem] theorem Tryz.tagg23 : tagg Tryz.prog 23 = false := by kernel_rfl
@[go_sem] theorem Tryz.tyOk23 : tyOk Tryz.prog 23 = true := by kernel_rfl
@[go_sem] theorem Tryz.tzero23 : tzero Tryz.prog 23 = some (.slice none 0 0) := by kernel_rfl
@[go_sem] theorem Tryz.knd24 : knd Tryz.prog 24 = .slice 63 := by kernel_rfl
@[go_sem] theorem Tryz.tsz24 : tsz Tryz.prog 24 = 1 := by kernel_rfl
@[go_sem] theorem Tryz.tby24 : tby Tryz.prog 24 = 24 := by kernel_rfl
@[go_sem] theorem Tryz.tagg24 : tagg Tryz.prog 24 = false := by kernel_rfl
@[go_sem] theorem Tryz.tyOk24 : tyOk Tryz.prog 24 = true := by kernel_rfl
@[go_sem] theorem Tryz.tzero24 : tzero Tryz.prog 24 = some (.slice none 0 0) := by kernel_rfl
@[go_sem] theorem Tryz.knd25 : knd Tryz.prog 25 = .strct := by kernel_rfl
@[go_sem] theorem Tryz.tsz25 : tsz Tryz.prog 25 = 4 := by kernel_rfl
@[go_sem] theorem Tryz.tby25 : tby Tryz.prog 25 = 80 := by kernel_rfl
@[go_sem] theorem Tryz.tagg25 : tagg Tryz.prog 25 = true := by kernel_rfl
@[go_sem] theorem Tryz.tyOk25 : tyOk Tryz.prog 25 = true := by kernel_rfl
@[go_sem] theorem Tryz.tzero25 : tzero Tryz.prog 25 = some (.agg #[.slice none 0 0, .slice none 0 0, .int .i64 0, .slice none 0 0]) := by kernel_rfl
@[go_sem] theorem Tryz.bok25 : builtOk Tryz.prog 25 = true := by kernel_rfl
@[go_sem] theorem Tryz.plc25_0 : placeV Tryz.prog 25 0 = some (0, 1) := by kernel_rfl
@[go_sem] theorem Tryz.fld25_0 : fld Tryz.prog 25 0 = some (0, 22) := by kernel_rfl
@[go_sem] theorem Tryz.plc25_1 : placeV Tryz.prog 25 1 = some (1, 1) := by kernel_rfl
@[go_sem] theorem Tryz.fld25_1 : fld Tryz.prog 25 1 = some (1, 23) := by kernel_rfl
@[go_sem] theorem Tryz.plc25_2 : placeV Tryz.prog 25 2 = some (2, 1) := by kernel_rfl
@[go_sem] theorem Tryz.fld25_2 : fld Tryz.prog 25 2 = some (2, 3) := by kernel_rfl
@[go_sem] theorem Tryz.plc25_3 : placeV Tryz.prog 25 3 = some (3, 1) := by kernel_rfl
@[go_sem] theorem Tryz.fld25_3 : fld Tryz.prog 25 3 = some (3, 24) := by kernel_rfl
@[go_sem] theorem Tryz.knd26 : knd Tryz.prog 26 = .strct := by kernel_rfl
@[go_sem] theorem Tryz.tsz26 : tsz Tryz.prog 26 = 4 := by kernel_rfl
@[go_sem] theorem Tryz.tby26 : tby Tryz.prog 26 = 80 := by kernel_rfl
@[go_sem] theorem Tryz.tagg26 : tagg Tryz.prog 26 = true := by kernel_rfl
@[go_sem] theorem Tryz.tyOk26 : tyOk Tryz.prog 26 = true := by kernel_rfl
@[go_sem] theorem Tryz.tzero26 : tzero Tryz.prog 26 = some (.agg #[.slice none 0 0, .slice none 0 0, .int .i64 0, .slice none 0 0]) := by kernel_rfl
@[go_sem] theorem Tryz.bok26 : builtOk Tryz.prog 26 = true := by kernel_rfl
@[go_sem] theorem Tryz.plc26_0 : placeV Tryz.prog 26 0 = some (0, 1) := by kernel_rfl
@[go_sem] theorem Tryz.fld26_0 : fld Tryz.prog 26 0 = some (0, 22) := by kernel_rfl
@[go_sem] theorem Tryz.plc26_1 : placeV Tryz.prog 26 1 = some (1, 1) := by kernel_rfl
@[go_sem] theorem Tryz.fld26_1 : fld Tryz.prog 26 1 = some (1, 23) := by kernel_rfl
@[go_sem] theorem Tryz.plc26_2 : placeV Tryz.prog 26 2 = some (2, 1) := by kernel_rfl
@[go_sem] theorem Tryz.fld26_2 : fld Tryz.prog 26 2 = some (2, 3) := by kernel_rfl
@[go_sem] theorem Tryz.plc26_3 : placeV Tryz.prog 26 3 = some (3, 1) := by kernel_rfl
@[go_sem] theorem Tryz.fld26_3 : fld Tryz.prog 26 3 = some (3, 24) := by kernel_rfl
@[go_sem] theorem Tryz.knd27 : knd Tryz.prog 27 = .fn := by kernel_rfl
@[go_sem] theorem Tryz.tsz27 : tsz Tryz.prog 27 = 1 := by kernel_rfl
@[go_sem] theorem Tryz.tby27 : tby Tryz.prog 27 = 8 := by kernel_rfl
@[go_sem] theorem Tryz.tagg27 : tagg Tryz.prog 27 = false := by kernel_rfl
@[go_sem] theorem Tryz.tyOk27 : tyOk Tryz.prog 27 = true := by kernel_rfl
@[go_sem] theorem Tryz.tzero27 : tzero Tryz.prog 27 = some (.nilFunc) := by kernel_rfl
@[go_sem] theorem Tryz.knd28 : knd Tryz.prog 28 = .fn := by kernel_rfl
@[go_sem] theorem Tryz.tsz28 : tsz Tryz.prog 28 = 1 := by kernel_rfl
@[go_sem] theorem Tryz.tby28 : tby Tryz.prog 28 = 8 := by kernel_rfl
@[go_sem] theorem Tryz.tagg28 : tagg Tryz.prog 28 = false := by kernel_rfl
@[go_sem] theorem Tryz.tyOk28 : tyOk Tryz.prog 28 = true := by kernel_rfl
@[go_sem] theorem Tryz.tzero28 : tzero Tryz.prog 28 = some (.nilFunc) := by kernel_rfl
@[go_sem] theorem Tryz.knd29 : knd Tryz.prog 29 = .int .i64 := by kernel_rfl
@[go_sem] theorem Tryz.tsz29 : tsz Tryz.prog 29 = 1 := by kernel_rfl
@[go_sem] theorem Tryz.tby29 : tby Tryz.prog 29 = 8 := by kernel_rfl
@[go_sem] theorem Tryz.tagg29 : tagg Tryz.prog 29 = false := by kernel_rfl
@[go_sem] theorem Tryz.tyOk29 : tyOk Tryz.prog 29 = true := by kernel_rfl
@[go_sem] theorem Tryz.tzero29 : tzero Tryz.prog 29 = some (.int .i64 0) := by kernel_rfl
@[go_sem] theorem Tryz.knd31 : knd Tryz.prog 31 = .fn := by kernel_rfl
@[go_sem] theorem Tryz.tsz31 : tsz Tryz.prog 31 = 1 := by kernel_rfl
@[go_sem] theorem Tryz.tby31 : tby Tryz.prog 31 = 8 := by kernel_rfl
@[go_sem] theorem Tryz.tagg31 : tagg Tryz.prog 31 = false := by kernel_rfl
@[go_sem] theorem Tryz.tyOk31 : tyOk Tryz.prog 31 = true := by kernel_rfl
@[go_sem] theorem Tryz.tzero31 : tzero Tryz.prog 31 = some (.nilFunc) := by kernel_rfl
@[go_sem] theorem Tryz.knd32 : knd Tryz.prog 32 = .fn := by kernel_rfl
@[go_sem] theorem Tryz.tsz32 : tsz Tryz.prog 32 = 1 := by kernel_rfl
@[go_sem] theorem Tryz.tby32 : tby Tryz.prog 32 = 8 := by kernel_rfl
@[go_sem] theorem Tryz.tagg32 : tagg Tryz.prog 32 = false := by kernel_rfl
@[go_sem] theorem Tryz.tyOk32 : tyOk Tryz.prog 32 = true := by kernel_rfl
@[go_sem] theorem Tryz.tzero32 : tzero Tryz.prog 32 = some (.nilFunc) := by kernel_rfl
@[go_sem] theorem Tryz.knd33 : knd Tryz.prog 33 = .fn := by kernel_rfl
@[go_sem] theorem Tryz.tsz33 : tsz Tryz.prog 33 = 1 := by kernel_rfl
@[go_sem] theorem Tryz.tby33 : tby Tryz.prog 33 = 8 := by kernel_rfl
@[go_sem] theorem Tryz.tagg33 : tagg Tryz.prog 33 = false := by kernel_rfl
@[go_sem] theorem Tryz.tyOk33 : tyOk Tryz.prog 33 = true := by kernel_rfl
@[go_sem] theorem Tryz.tzero33 : tzero Tryz.prog 33 = some (.nilFunc) := by kernel_rfl
@[go_sem] theorem Tryz.knd34 : knd Tryz.prog 34 = .fn := by kernel_rfl
@[go_sem] theorem Tryz.tsz34 : tsz Tryz.prog 34 = 1 := by kernel_rfl
@[go_sem] theorem Tryz.tby34 : tby Tryz.prog 34 = 8 := by kernel_rfl
@[go_sem] theorem Tryz.tagg34 : tagg Tryz.prog 34 = false := by kernel_rfl
@[go_sem] theorem Tryz.tyOk34 : tyOk Tryz.prog 34 = true := by kernel_rfl
@[go_sem] theorem Tryz.tzero34 : tzero Tryz.prog 34 = some (.nilFunc) := by kernel_rfl
@[go_sem] theorem Tryz.knd35 : knd Tryz.prog 35 = .fn := by kernel_rfl
@[go_sem] theorem Tryz.tsz35 : tsz Tryz.prog 35 = 1 := by kernel_rfl
@[go_sem] theorem Tryz.tby35 : tby Tryz.prog 35 = 8 := by kernel_rfl
@[go_sem] theorem Tryz.tagg35 : tagg Tryz.prog 35 = false := by kernel_rfl
@[go_sem] theorem Tryz.tyOk35 : tyOk Tryz.prog 35 = true := by kernel_rfl
@[go_sem] theorem Tryz.tzero35 : tzero Tryz.prog 35 = some (.nilFunc) := by kernel_rfl
@[go_sem] theorem Tryz.knd37 : knd Tryz.prog 37 = .fn := by kernel_rfl
@[go_sem] theorem Tryz.tsz37 : tsz Tryz.prog 37 = 1 := by kernel_rfl
@[go_sem] theorem Tryz.tby37 : tby Tryz.prog 37 = 8 := by kernel_rfl
@[go_sem] theorem Tryz.tagg37 : tagg Tryz.prog 37 = false := by kernel_rfl
@[go_sem] theorem Tryz.tyOk37 : tyOk Tryz.prog 37 = true := by kernel_rfl
@[go_sem] theorem Tryz.tzero37 : tzero Tryz.prog 37 = some (.nilFunc) := by kernel_rfl
@[go_sem] theorem Tryz.knd38 : knd Tryz.prog 38 = .slice 42 := by kernel_rfl
@[go_sem] theorem Tryz.tsz38 : tsz Tryz.prog 38 = 1 := by kernel_rfl
@[go_sem] theorem Tryz.tby38 : tby Tryz.prog 38 = 24 := by kernel_rfl
@[go_sem] theorem Tryz.tagg38 : tagg Tryz.prog 38 = false := by kernel_rfl
@[go_sem] theorem Tryz.tyOk38 : tyOk Tryz.prog 38 = true := by kernel_rfl
@[go_sem] theorem Tryz.tzero38 : tzero Tryz.prog 38 = some (.slice none 0 0) := by kernel_rfl
@[go_sem] theorem Tryz.knd40 : knd Tryz.prog 40 = .fn := by kernel_rfl
@[go_sem] theorem Tryz.tsz40 : tsz Tryz.prog 40 = 1 := by kernel_rfl
@[go_sem] theorem Tryz.tby40 : tby Tryz.prog 40 = 8 := by kernel_rfl
@[go_sem] theorem Tryz.tagg40 : tagg Tryz.prog 40 = false := by kernel_rfl
@[go_sem] theorem Tryz.tyOk40 : tyOk Tryz.prog 40 = true := by kernel_rfl
@[go_sem] theorem Tryz.tzero40 : tzero Tryz.prog 40 = some (.nilFunc) := by kernel_rfl
@[go_sem] theorem Tryz.knd41 : knd Tryz.prog 41 = .fn := by kernel_rfl
@[go_sem] theorem Tryz.tsz41 : tsz Tryz.prog 41 = 1 := by kernel_rfl
@[go_sem] theorem Tryz.tby41 : tby Tryz.prog 41 = 8 := by kernel_rfl
@[go_sem] theorem Tryz.tagg41 : tagg Tryz.prog 41 = false := by kernel_rfl
@[go_sem] theorem Tryz.tyOk41 : tyOk Tryz.prog 41 = true := by kernel_rfl
@[go_sem] theorem Tryz.tzero41 : tzero Tryz.prog 41 = some (.nilFunc) := by kernel_rfl
@[go_sem] theorem Tryz.knd42 : knd Tryz.prog 42 = .int .u64 := by kernel_rfl
@[go_sem] theorem Tryz.tsz42 : tsz Tryz.prog 42 = 1 := by kernel_rfl
@[go_sem] theorem Tryz.tby42 : tby Tryz.prog 42 = 8 := by kernel_rfl
@[go_sem] theorem Tryz.tagg42 : tagg Tryz.prog 42 = false := by kernel_rfl
@[go_sem] theorem Tryz.tyOk42 : tyOk Tryz.prog 42 = true := by kernel_rfl
@[go_sem] theorem Tryz.tzero42 : tzero Tryz.prog 42 = some (.int .u64 0) := by kernel_rfl
@[go_sem] theorem Tryz.knd43 : knd Tryz.prog 43 = .fn := by kernel_rfl
@[go_sem] theorem Tryz.tsz43 : tsz Tryz.prog 43 = 1 := by kernel_rfl
@[go_sem] theorem Tryz.tby43 : tby Tryz.prog 43 = 8 := by kernel_rfl
@[go_sem] theorem Tryz.tagg43 : tagg Tryz.prog 43 = false := by kernel_rfl
@[go_sem] theorem Tryz.tyOk43 : tyOk Tryz.prog 43 = true := by kernel_rfl
@[go_sem] theorem Tryz.tzero43 : tzero Tryz.prog 43 = some (.nilFunc) := by kernel_rfl
@[go_sem] theorem Tryz.knd45 : knd Tryz.prog 45 = .fn := by kernel_rfl
@[go_sem] theorem Tryz.tsz45 : tsz Tryz.prog 45 = 1 := by kernel_rfl
@[go_sem] theorem Tryz.tby45 : tby Tryz.prog 45 = 8 := by kernel_rfl
@[go_sem] theorem Tryz.tagg45 : tagg Tryz.prog 45 = false := by kernel_rfl
@[go_sem] theorem Tryz.tyOk45 : tyOk Tryz.prog 45 = true := by kernel_rfl
@[go_sem] theorem Tryz.tzero45 : tzero Tryz.prog 45 = some (.nilFunc) := by kernel_rfl
@[go_sem] theorem Tryz.knd46 : knd Tryz.prog 46 = .fn := by kernel_rfl
@[go_sem] theorem Tryz.tsz46 : tsz Tryz.prog 46 = 1 := by kernel_rfl
@[go_sem] theorem Tryz.tby46 : tby Tryz.prog 46 = 8 := by kernel_rfl
@[go_sem] theorem Tryz.tagg46 : tagg Tryz.prog 46 = false := by kernel_rfl
@[go_sem] theorem Tryz.tyOk46 : tyOk Tryz.prog 46 = true := by kernel_rfl
@[go_sem] theorem Tryz.tzero46 : tzero Tryz.prog 46 = some (.nilFunc) := by kernel_rfl
@[go_sem] theorem Tryz.knd47 : knd Tryz.prog 47 = .fn := by kernel_rfl
@[go_sem] theorem Tryz.tsz47 : tsz Tryz.prog 47 = 1 := by kernel_rfl
@[go_sem] theorem Tryz.tby47 : tby Tryz.prog 47 = 8 := by kernel_rfl
@[go_sem] theorem Tryz.tagg47 : tagg Tryz.prog 47 = false := by kernel_rfl
@[go_sem] theorem Tryz.tyOk47 : tyOk Tryz.prog 47 = true := by kernel_rfl
@[go_sem] theorem Tryz.tzero47 : tzero Tryz.prog 47 = some (.nilFunc) := by kernel_rfl
@[go_sem] theorem Tryz.knd48 : knd Tryz.prog 48 = .slice 57 := by kernel_rfl
@[go_sem] theorem Tryz.tsz48 : tsz Tryz.prog 48 = 1 := by kernel_rfl
@[go_sem] theorem Tryz.tby48 : tby Tryz.prog 48 = 24 := by kernel_rfl
@[go_sem] theorem Tryz.tagg48 : tagg Tryz.prog 48 = false := by kernel_rfl
@[go_sem] theorem Tryz.tyOk48 : tyOk Tryz.prog 48 = true := by kernel_rfl
@[go_sem] theorem Tryz.tzero48 : tzero Tryz.prog 48 = some (.slice none 0 0) := by kernel_rfl
@[go_sem] theorem Tryz.knd49 : knd Tryz.prog 49 = .strct := by kernel_rfl
@[go_sem] theorem Tryz.tsz49 : tsz Tryz.prog 49 = 3 := by kernel_rfl
@[go_sem] theorem Tryz.tby49 : tby Tryz.prog 49 = 32 := by kernel_rfl
@[go_sem] theorem Tryz.tagg49 : tagg Tryz.prog 49 = true := by kernel_rfl
@[go_sem] theorem Tryz.tyOk49 : tyOk Tryz.prog 49 = true := by kernel_rfl
@[go_sem] theorem Tryz.tzero49 : tzero Tryz.prog 49 = some (.agg #[.string ⟨#[]⟩, .int .i64 0, .int .i64 0]) := by kernel_rfl
@[go_sem] theorem Tryz.bok49 : builtOk Tryz.prog 49 = true := by kernel_rfl
@[go_sem] theorem Tryz.plc49_0 : placeV Tryz.prog 49 0 = some (0, 1) := by kernel_rfl
@[go_sem] theorem Tryz.fld49_0 : fld Tryz.prog 49 0 = some (0, 9) := by kernel_rfl
@[go_sem] theorem Tryz.plc49_1 : placeV Tryz.prog 49 1 = some (1, 1) := by kernel_rfl
@[go_sem] theorem Tryz.fld49_1 : fld Tryz.prog 49 1 = some (1, 3) := by kernel_rfl
@[go_sem] theorem Tryz.plc49_2 : placeV Tryz.prog 49 2 = some (2, 1) := by kernel_rfl
@[go_sem] theorem Tryz.fld49_2 : fld Tryz.prog 49 2 = some (2, 3) := by kernel_rfl
@[go_sem] theorem Tryz.knd50 : knd Tryz.prog 50 = .strct := by kernel_rfl
@[go_sem] theorem Tryz.tsz50 : tsz Tryz.prog 50 = 3 := by kernel_rfl
@[go_sem] theorem Tryz.tby50 : tby Tryz.prog 50 = 32 := by kernel_rfl
@[go_sem] theorem Tryz.tagg50 : tagg Tryz.prog 50 = true := by kernel_rfl
@[go_sem] theorem Tryz.tyOk50 : tyOk Tryz.prog 50 = true := by kernel_rfl
@[go_sem] theorem Tryz.tzero50 : tzero Tryz.prog 50 = some (.agg #[.string ⟨#[]⟩, .int .i64 0, .int .i64 0]) := by kernel_rfl
@[go_sem] theorem Tryz.bok50 : builtOk Tryz.prog 50 = true := by kernel_rfl
@[go_sem] theorem Tryz.plc50_0 : placeV Tryz.prog 50 0 = some (0, 1) := by kernel_rfl
@[go_sem] theorem Tryz.fld50_0 : fld Tryz.prog 50 0 = some (0, 9) := by kernel_rfl
@[go_sem] theorem Tryz.plc50_1 : placeV Tryz.prog 50 1 = some (1, 1) := by kernel_rfl
@[go_sem] theorem Tryz.fld50_1 : fld Tryz.prog 50 1 = some (1, 3) := by kernel_rfl
@[go_sem] theorem Tryz.plc50_2 : placeV Tryz.prog 50 2 = some (2, 1) := by kernel_rfl
@[go_sem] theorem Tryz.fld50_2 : fld Tryz.prog 50 2 = some (2, 3) := by kernel_rfl
@[go_sem] theorem Tryz.eqOk50 : eqOk Tryz.prog 50 = true := by kernel_rfl
@[go_sem] theorem Tryz.fkinds50 : fkinds Tryz.prog 50 = [.str, .int .i64, .int .i64] := by kernel_rfl
@[go_sem] theorem Tryz.knd51 : knd Tryz.prog 51 = .fn := by kernel_rfl
@[go_sem] theorem Tryz.tsz51 : tsz Tryz.prog 51 = 1 := by kernel_rfl
@[go_sem] theorem Tryz.tby51 : tby Tryz.prog 51 = 8 := by kernel_rfl
@[go_sem] theorem Tryz.tagg51 : tagg Tryz.prog 51 = false := by kernel_rfl
@[go_sem] theorem Tryz.tyOk51 : tyOk Tryz.prog 51 = true := by kernel_rfl
@[go_sem] theorem Tryz.tzero51 : tzero Tryz.prog 51 = some (.nilFunc) := by kernel_rfl
@[go_sem] theorem Tryz.knd52 : knd Tryz.prog 52 = .fn := by kernel_rfl
@[go_sem] theorem Tryz.tsz52 : tsz Tryz.prog 52 = 1 := by kernel_rfl
@[go_sem] theorem Tryz.tby52 : tby Tryz.prog 52 = 8 := by kernel_rfl
@[go_sem] theorem Tryz.tagg52 : tagg Tryz.prog 52 = false := by kernel_rfl
@[go_sem] theorem Tryz.tyOk52 : tyOk Tryz.prog 52 = true := by kernel_rfl
@[go_sem] theorem Tryz.tzero52 : tzero Tryz.prog 52 = some (.nilFunc) := by kernel_rfl
@[go_sem] theorem Tryz.knd53 : knd Tryz.prog 53 = .fn := by kernel_rfl
@[go_sem] theorem Tryz.tsz53 : tsz Tryz.prog 53 = 1 := by kernel_rfl
@[go_sem] theorem Tryz.tby53 : tby Tryz.prog 53 = 8 := by kernel_rfl
@[go_sem] theorem Tryz.tagg53 : tagg Tryz.prog 53 = false := by kernel_rfl
@[go_sem] theorem Tryz.tyOk53 : tyOk Tryz.prog 53 = true := by kernel_rfl
@[go_sem] theorem Tryz.tzero53 : tzero Tryz.prog 53 = some (.nilFunc) := by kernel_rfl
@[go_sem] theorem Tryz.knd54 : knd Tryz.prog 54 = .fn := by kernel_rfl
@[go_sem] theorem Tryz.tsz54 : tsz Tryz.prog 54 = 1 := by kernel_rfl
@[go_sem] theorem Tryz.tby54 : tby Tryz.prog 54 = 8 := by kernel_rfl
@[go_sem] theorem Tryz.tagg54 : tagg Tryz.prog 54 = false := by kernel_rfl
@[go_sem] theorem Tryz.tyOk54 : tyOk Tryz.prog 54 = true := by kernel_rfl
@[go_sem] theorem Tryz.tzero54 : tzero Tryz.prog 54 = some (.nilFunc) := by kernel_rfl
@[go_sem] theorem Tryz.knd55 : knd Tryz.prog 55 = .fn := by kernel_rfl
@[go_sem] theorem Tryz.tsz55 : tsz Tryz.prog 55 = 1 := by kernel_rfl
@[go_sem] theorem Tryz.tby55 : tby Tryz.prog 55 = 8 := by kernel_rfl
@[go_sem] theorem Tryz.tagg55 : tagg Tryz.prog 55 = false := by kernel_rfl
@[go_sem] theorem Tryz.tyOk55 : tyOk Tryz.prog 55 = true := by kernel_rfl
@[go_sem] theorem Tryz.tzero55 : tzero Tryz.prog 55 = some (.nilFunc) := by kernel_rfl
@[go_sem] theorem Tryz.knd56 : knd Tryz.prog 56 = .strct := by kernel_rfl
@[go_sem] theorem Tryz.tsz56 : tsz Tryz.prog 56 = 5 := by kernel_rfl
@[go_sem] theorem Tryz.tby56 : tby Tryz.prog 56 = 32 := by kernel_rfl
@[go_sem] theorem Tryz.tagg56 : tagg Tryz.prog 56 = true := by kernel_rfl
@[go_sem] theorem Tryz.tyOk56 : tyOk Tryz.prog 56 = true := by kernel_rfl
@[go_sem] theorem Tryz.tzero56 : tzero Tryz.prog 56 = some (.agg #[.int .i64 0, .int .i64 0, .int .i64 0, .bool false, .bool false]) := by kernel_rfl
@[go_sem] theorem Tryz.bok56 : builtOk Tryz.prog 56 = true := by kernel_rfl
@[go_sem] theorem Tryz.plc56_0 : placeV Tryz.prog 56 0 = some (0, 1) := by kernel_rfl
@[go_sem] theorem Tryz.fld56_0 : fld Tryz.prog 56 0 = some (0, 3) := by kernel_rfl
@[go_sem] theorem Tryz.plc56_1 : placeV Tryz.prog 56 1 = some (1, 1) := by kernel_rfl
@[go_sem] theorem Tryz.fld56_1 : fld Tryz.prog 56 1 = some (1, 3) := by kernel_rfl
@[go_sem] theorem Tryz.plc56_2 : placeV Tryz.prog 56 2 = some (2, 1) := by kernel_rfl
@[go_sem] theorem Tryz.fld56_2 : fld Tryz.prog 56 2 = some (2, 3) := by kernel_rfl
@[go_sem] theorem Tryz.plc56_3 : placeV Tryz.prog 56 3 = some (3, 1) := by kernel_rfl
@[go_sem] theorem Tryz.fld56_3 : fld Tryz.prog 56 3 = some (3, 4) := by kernel_rfl
@[go_sem] theorem Tryz.plc56_4 : placeV Tryz.prog 56 4 = some (4, 1) := by kernel_rfl
@[go_sem] theorem Tryz.fld56_4 : fld Tryz.prog 56 4 = some (4, 4) := by kernel_rfl
@[go_sem] theorem Tryz.knd57 : knd Tryz.prog 57 = .strct := by kernel_rfl
@[go_sem] theorem Tryz.tsz57 : tsz Tryz.prog 57 = 5 := by kernel_rfl
@[go_sem] theorem Tryz.tby57 : tby Tryz.prog 57 = 32 := by kernel_rfl
@[go_sem] theorem Tryz.tagg57 : tagg Tryz.prog 57 = true := by kernel_rfl
@[go_sem] theorem Tryz.tyOk57 : tyOk Tryz.prog 57 = true := by kernel_rfl
@[go_sem] theorem Tryz.tzero57 : tzero Tryz.prog 57 = some (.agg #[.int .i64 0, .int .i64 0, .int .i64 0, .bool false, .bool false]) := by kernel_rfl
@[go_sem] theorem Tryz.bok57 : builtOk Tryz.prog 57 = true := by kernel_rfl
@[go_sem] theorem Tryz.plc57_0 : placeV Tryz.prog 57 0 = some (0, 1) := by kernel_rfl
@[go_sem] theorem Tryz.fld57_0 : fld Tryz.prog 57 0 = some (0, 3) := by kernel_rfl
@[go_sem] theorem Tryz.plc57_1 : placeV Tryz.prog 57 1 = some (1, 1) := by kernel_rfl
@[go_sem] theorem Tryz.fld57_1 : fld Tryz.prog 57 1 = some (1, 3) := by kernel_rfl
@[go_sem] theorem Tryz.plc57_2 : placeV Tryz.prog 57 2 = some (2, 1) := by kernel_rfl
@[go_sem] theorem Tryz.fld57_2 : fld Tryz.prog 57 2 = some (2, 3) := by kernel_rfl
@[go_sem] theorem Tryz.plc57_3 : placeV Tryz.prog 57 3 = some (3, 1) := by kernel_rfl
@[go_sem] theorem Tryz.fld57_3 : fld Tryz.prog 57 3 = some (3, 4) := by kernel_rfl
@[go_sem] theorem Tryz.plc57_4 : placeV Tryz.prog 57 4 = some (4, 1) := by kernel_rfl
@[go_sem] theorem Tryz.fld57_4 : fld Tryz.prog 57 4 = some (4, 4) := by kernel_rfl
@[go_sem] theorem Tryz.eqOk57 : eqOk Tryz.prog 57 = true := by kernel_rfl
@[go_sem] theorem Tryz.fkinds57 : fkinds Tryz.prog 57 = [.int .i64, .int .i64, .int .i64, .bool, .bool] := by kernel_rfl
@[go_sem] theorem Tryz.knd58 : knd Tryz.prog 58 = .int .u32 := by kernel_rfl
@[go_sem] theorem Tryz.tsz58 : tsz Tryz.prog 58 = 1 := by kernel_rfl
@[go_sem] theorem Tryz.tby58 : tby Tryz.prog 58 = 4 := by kernel_rfl
@[go_sem] theorem Tryz.tagg58 : tagg Tryz.prog 58 = false := by kernel_rfl
@[go_sem] theorem Tryz.tyOk58 : tyOk Tryz.prog 58 = true := by kernel_rfl
@[go_sem] theorem Tryz.tzero58 : tzero Tryz.prog 58 = some (.int .u32 0) := by kernel_rfl
@[go_sem] theorem Tryz.knd59 : knd Tryz.prog 59 = .fn := by kernel_rfl
@[go_sem] theorem Tryz.tsz59 : tsz Tryz.prog 59 = 1 := by kernel_rfl
@[go_sem] theorem Tryz.tby59 : tby Tryz.prog 59 = 8 := by kernel_rfl
@[go_sem] theorem Tryz.tagg59 : tagg Tryz.prog 59 = false := by kernel_rfl
@[go_sem] theorem Tryz.tyOk59 : tyOk Tryz.prog 59 = true := by kernel_rfl
@[go_sem] theorem Tryz.tzero59 : tzero Tryz.prog 59 = some (.nilFunc) := by kernel_rfl
@[go_sem] theorem Tryz.knd60 : knd Tryz.prog 60 = .slice 5 := by kernel_rfl
@[go_sem] theorem Tryz.tsz60 : tsz Tryz.prog 60 = 1 := by kernel_rfl
@[go_sem] theorem Tryz.tby60 : tby Tryz.prog 60 = 24 := by kernel_rfl
@[go_sem] theorem Tryz.tagg60 : tagg Tryz.prog 60 = false := by kernel_rfl
@[go_sem] theorem Tryz.tyOk60 : tyOk Tryz.prog 60 = true := by kernel_rfl
@[go_sem] theorem Tryz.tzero60 : tzero Tryz.prog 60 = some (.slice none 0 0) := by kernel_rfl
@[go_sem] theorem Tryz.knd61 : knd Tryz.prog 61 = .fn := by kernel_rfl
@[go_sem] theorem Tryz.tsz61 : tsz Tryz.prog 61 = 1 := by kernel_rfl
@[go_sem] theorem Tryz.tby61 : tby Tryz.prog 61 = 8 := by kernel_rfl
@[go_sem] theorem Tryz.tagg61 : tagg Tryz.prog 61 = false := by kernel_rfl
@[go_sem] theorem Tryz.tyOk61 : tyOk Tryz.prog 61 = true := by kernel_rfl
@[go_sem] theorem Tryz.tzero61 : tzero Tryz.prog 61 = some (.nilFunc) := by kernel_rfl
@[go_sem] theorem Tryz.knd62 : knd Tryz.prog 62 = .strct := by kernel_rfl
@[go_sem] theorem Tryz.tsz62 : tsz Tryz.prog 62 = 2 := by kernel_rfl
@[go_sem] theorem Tryz.tby62 : tby Tryz.prog 62 = 16 := by kernel_rfl
@[go_sem] theorem Tryz.tagg62 : tagg Tryz.prog 62 = true := by kernel_rfl
@[go_sem] theorem Tryz.tyOk62 : tyOk Tryz.prog 62 = true := by kernel_rfl
@[go_sem] theorem Tryz.tzero62 : tzero Tryz.prog 62 = some (.agg #[.int .u32 0, .int .i64 0]) := by kernel_rfl
@[go_sem] theorem Tryz.bok62 : builtOk Tryz.prog 62 = true := by kernel_rfl
@[go_sem] theorem Tryz.plc62_0 : placeV Tryz.prog 62 0 = some (0, 1) := by kernel_rfl
@[go_sem] theorem Tryz.fld62_0 : fld Tryz.prog 62 0 = some (0, 58) := by kernel_rfl
@[go_sem] theorem Tryz.plc62_1 : placeV Tryz.prog 62 1 = some (1, 1) := by kernel_rfl
@[go_sem] theorem Tryz.fld62_1 : fld Tryz.prog 62 1 = some (1, 3) := by kernel_rfl
@[go_sem] theorem Tryz.knd63 : knd Tryz.prog 63 = .strct := by kernel_rfl
@[go_sem] theorem Tryz.tsz63 : tsz Tryz.prog 63 = 2 := by kernel_rfl
@[go_sem] theorem Tryz.tby63 : tby Tryz.prog 63 = 16 := by kernel_rfl
@[go_sem] theorem Tryz.tagg63 : tagg Tryz.prog 63 = true := by kernel_rfl
@[go_sem] theorem Tryz.tyOk63 : tyOk Tryz.prog 63 = true := by kernel_rfl
@[go_sem] theorem Tryz.tzero63 : tzero Tryz.prog 63 = some (.agg #[.int .u32 0, .int .i64 0]) := by kernel_rfl
@[go_sem] theorem Tryz.bok63 : builtOk Tryz.prog 63 = true := by kernel_rfl
@[go_sem] theorem Tryz.plc63_0 : placeV Tryz.prog 63 0 = some (0, 1) := by kernel_rfl
@[go_sem] theorem Tryz.fld63_0 : fld Tryz.prog 63 0 = some (0, 58) := by kernel_rfl
@[go_sem] theorem Tryz.plc63_1 : placeV Tryz.prog 63 1 = some (1, 1) := by kernel_rfl
@[go_sem] theorem Tryz.fld63_1 : fld Tryz.prog 63 1 = some (1, 3) := by kernel_rfl
@[go_sem] theorem Tryz.eqOk63 : eqOk Tryz.prog 63 = true := by kernel_rfl
@[go_sem] theorem Tryz.fkinds63 : fkinds Tryz.prog 63 = [.int .u32, .int .i64] := by kernel_rfl
@[go_sem] theorem Tryz.knd64 : knd Tryz.prog 64 = .fn := by kernel_rfl
@[go_sem] theorem Tryz.tsz64 : tsz Tryz.prog 64 = 1 := by kernel_rfl
@[go_sem] theorem Tryz.tby64 : tby Tryz.prog 64 = 8 := by kernel_rfl
@[go_sem] theorem Tryz.tagg64 : tagg Tryz.prog 64 = false := by kernel_rfl
@[go_sem] theorem Tryz.tyOk64 : tyOk Tryz.prog 64 = true := by kernel_rfl
@[go_sem] theorem Tryz.tzero64 : tzero Tryz.prog 64 = some (.nilFunc) := by kernel_rfl
@[go_sem] theorem Tryz.knd65 : knd Tryz.prog 65 = .fn := by kernel_rfl
@[go_sem] theorem Tryz.tsz65 : tsz Tryz.prog 65 = 1 := by kernel_rfl
@[go_sem] theorem Tryz.tby65 : tby Tryz.prog 65 = 8 := by kernel_rfl
@[go_sem] theorem Tryz.tagg65 : tagg Tryz.prog 65 = false := by kernel_rfl
@[go_sem] theorem Tryz.tyOk65 : tyOk Tryz.prog 65 = true := by kernel_rfl
@[go_sem] theorem Tryz.tzero65 : tzero Tryz.prog 65 = some (.nilFunc) := by kernel_rfl
@[go_sem] theorem Tryz.knd66 : knd Tryz.prog 66 = .fn := by kernel_rfl
@[go_sem] theorem Tryz.tsz66 : tsz Tryz.prog 66 = 1 := by kernel_rfl
@[go_sem] theorem Tryz.tby66 : tby Tryz.prog 66 = 8 := by kernel_rfl
@[go_sem] theorem Tryz.tagg66 : tagg Tryz.prog 66 = false := by kernel_rfl
@[go_sem] theorem Tryz.tyOk66 : tyOk Tryz.prog 66 = true := by kernel_rfl
@[go_sem] theorem Tryz.tzero66 : tzero Tryz.prog 66 = some (.nilFunc) := by kernel_rfl
@[go_sem] theorem Tryz.knd67 : knd Tryz.prog 67 = .fn := by kernel_rfl
@[go_sem] theorem Tryz.tsz67 : tsz Tryz.prog 67 = 1 := by kernel_rfl
@[go_sem] theorem Tryz.tby67 : tby Tryz.prog 67 = 8 := by kernel_rfl
@[go_sem] theorem Tryz.tagg67 : tagg Tryz.prog 67 = false := by kernel_rfl
@[go_sem] theorem Tryz.tyOk67 : tyOk Tryz.prog 67 = true := by kernel_rfl
@[go_sem] theorem Tryz.tzero67 : tzero Tryz.prog 67 = some (.nilFunc) := by kernel_rfl
@[go_sem] theorem Tryz.knd68 : knd Tryz.prog 68 = .fn := by kernel_rfl
@[go_sem] theorem Tryz.tsz68 : tsz Tryz.prog 68 = 1 := by kernel_rfl
@[go_sem] theorem Tryz.tby68 : tby Tryz.prog 68 = 8 := by kernel_rfl
@[go_sem] theorem Tryz.tagg68 : tagg Tryz.prog 68 = false := by kernel_rfl
@[go_sem] theorem Tryz.tyOk68 : tyOk Tryz.prog 68 = true := by kernel_rfl
@[go_sem] theorem Tryz.tzero68 : tzero Tryz.prog 68 = some (.nilFunc) := by kernel_rfl
@[go_sem] theorem Tryz.knd69 : knd Tryz.prog 69 = .fn := by kernel_rfl
@[go_sem] theorem Tryz.tsz69 : tsz Tryz.prog 69 = 1 := by kernel_rfl
@[go_sem] theorem Tryz.tby69 : tby Tryz.prog 69 = 8 := by kernel_rfl
@[go_sem] theorem Tryz.tagg69 : tagg Tryz.prog 69 = false := by kernel_rfl
@[go_sem] theorem Tryz.tyOk69 : tyOk Tryz.prog 69 = true := by kernel_rfl
@[go_sem] theorem Tryz.tzero69 : tzero Tryz.prog 69 = some (.nilFunc) := by kernel_rfl
@[go_sem] theorem Tryz.knd70 : knd Tryz.prog 70 = .fn := by kernel_rfl
@[go_sem] theorem Tryz.tsz70 : tsz Tryz.prog 70 = 1 := by kernel_rfl
@[go_sem] theorem Tryz.tby70 : tby Tryz.prog 70 = 8 := by kernel_rfl
@[go_sem] theorem Tryz.tagg70 : tagg Tryz.prog 70 = false := by kernel_rfl
@[go_sem] theorem Tryz.tyOk70 : tyOk Tryz.prog 70 = true := by kernel_rfl
@[go_sem] theorem Tryz.tzero70 : tzero Tryz.prog 70 = some (.nilFunc) := by kernel_rfl
@[go_sem] theorem Tryz.knd71 : knd Tryz.prog 71 = .fn := by kernel_rfl
@[go_sem] theorem Tryz.tsz71 : tsz Tryz.prog 71 = 1 := by kernel_rfl
@[go_sem] theorem Tryz.tby71 : tby Tryz.prog 71 = 8 := by kernel_rfl
@[go_sem] theorem Tryz.tagg71 : tagg Tryz.prog 71 = false := by kernel_rfl
@[go_sem] theorem Tryz.tyOk71 : tyOk Tryz.prog 71 = true := by kernel_rfl
@[go_sem] theorem Tryz.tzero71 : tzero Tryz.prog 71 = some (.nilFunc) := by kernel_rfl
@[go_sem] theorem Tryz.knd72 : knd Tryz.prog 72 = .fn := by kernel_rfl
@[go_sem] theorem Tryz.tsz72 : tsz Tryz.prog 72 = 1 := by kernel_rfl
@[go_sem] theorem Tryz.tby72 : tby Tryz.prog 72 = 8 := by kernel_rfl
@[go_sem] theorem Tryz.tagg72 : tagg Tryz.prog 72 = false := by kernel_rfl
@[go_sem] theorem Tryz.tyOk72 : tyOk Tryz.prog 72 = true := by kernel_rfl
@[go_sem] theorem Tryz.tzero72 : tzero Tryz.prog 72 = some (.nilFunc) := by kernel_rfl
@[go_sem] theorem Tryz.knd73 : knd Tryz.prog 73 = .fn := by kernel_rfl
@[go_sem] theorem Tryz.tsz73 : tsz Tryz.prog 73 = 1 := by kernel_rfl
@[go_sem] theorem Tryz.tby73 : tby Tryz.prog 73 = 8 := by kernel_rfl
@[go_sem] theorem Tryz.tagg73 : tagg Tryz.prog 73 = false := by kernel_rfl
@[go_sem] theorem Tryz.tyOk73 : tyOk Tryz.prog 73 = true := by kernel_rfl
@[go_sem] theorem Tryz.tzero73 : tzero Tryz.prog 73 = some (.nilFunc) := by kernel_rfl
@[go_sem] theorem Tryz.knd74 : knd Tryz.prog 74 = .fn := by kernel_rfl
@[go_sem] theorem Tryz.tsz74 : tsz Tryz.prog 74 = 1 := by kernel_rfl
@[go_sem] theorem Tryz.tby74 : tby Tryz.prog 74 = 8 := by kernel_rfl
@[go_sem] theorem Tryz.tagg74 : tagg Tryz.prog 74 = false := by kernel_rfl
@[go_sem] theorem Tryz.tyOk74 : tyOk Tryz.prog 74 = true := by kernel_rfl
@[go_sem] theorem Tryz.tzero74 : tzero Tryz.prog 74 = some (.nilFunc) := by kernel_rfl
@[go_sem] theorem Tryz.knd75 : knd Tryz.prog 75 = .fn := by kernel_rfl
@[go_sem] theorem Tryz.tsz75 : tsz Tryz.prog 75 = 1 := by kernel_rfl
@[go_sem] theorem Tryz.tby75 : tby Tryz.prog 75 = 8 := by kernel_rfl
@[go_sem] theorem Tryz.tagg75 : tagg Tryz.prog 75 = false := by kernel_rfl
@[go_sem] theorem Tryz.tyOk75 : tyOk Tryz.prog 75 = true := by kernel_rfl
@[go_sem] theorem Tryz.tzero75 : tzero Tryz.prog 75 = some (.nilFunc) := by kernel_rfl
@[go_sem] theorem Tryz.knd76 : knd Tryz.prog 76 = .fn := by kernel_rfl
@[go_sem] theorem Tryz.tsz76 : tsz Tryz.prog 76 = 1 := by kernel_rfl
@[go_sem] theorem Tryz.tby76 : tby Tryz.prog 76 = 8 := by kernel_rfl
@[go_sem] theorem Tryz.tagg76 : tagg Tryz.prog 76 = false := by kernel_rfl
@[go_sem] theorem Tryz.tyOk76 : tyOk Tryz.prog 76 = true := by kernel_rfl
@[go_sem] theorem Tryz.tzero76 : tzero Tryz.prog 76 = some (.nilFunc) := by kernel_rfl
@[go_sem] theorem Tryz.knd77 : knd Tryz.prog 77 = .slice 26 := by kernel_rfl
@[go_sem] theorem Tryz.tsz77 : tsz Tryz.prog 77 = 1 := by kernel_rfl
@[go_sem] theorem Tryz.tby77 : tby Tryz.prog 77 = 24 := by kernel_rfl
@[go_sem] theorem Tryz.tagg77 : tagg Tryz.prog 77 = false := by kernel_rfl
@[go_sem] theorem Tryz.tyOk77 : tyOk Tryz.prog 77 = true := by kernel_rfl
@[go_sem] theorem Tryz.tzero77 : tzero Tryz.prog 77 = some (.slice none 0 0) := by kernel_rfl
@[go_sem] theorem Tryz.knd78 : knd Tryz.prog 78 = .fn := by kernel_rfl
@[go_sem] theorem Tryz.tsz78 : tsz Tryz.prog 78 = 1 := by kernel_rfl
@[go_sem] theorem Tryz.tby78 : tby Tryz.prog 78 = 8 := by kernel_rfl
@[go_sem] theorem Tryz.tagg78 : tagg Tryz.prog 78 = false := by kernel_rfl
@[go_sem] theorem Tryz.tyOk78 : tyOk Tryz.prog 78 = true := by kernel_rfl
@[go_sem] theorem Tryz.tzero78 : tzero Tryz.prog 78 = some (.nilFunc) := by kernel_rfl
@[go_sem] theorem Tryz.knd79 : knd Tryz.prog 79 = .fn := by kernel_rfl
@[go_sem] theorem Tryz.tsz79 : tsz Tryz.prog 79 = 1 := by kernel_rfl
@[go_sem] theorem Tryz.tby79 : tby Tryz.prog 79 = 8 := by kernel_rfl
@[go_sem] theorem Tryz.tagg79 : tagg Tryz.prog 79 = false := by kernel_rfl
@[go_sem] theorem Tryz.tyOk79 : tyOk Tryz.prog 79 = true := by kernel_rfl
@[go_sem] theorem Tryz.tzero79 : tzero Tryz.prog 79 = some (.nilFunc) := by kernel_rfl
@[go_sem] theorem Tryz.knd80 : knd Tryz.prog 80 = .fn := by kernel_rfl
@[go_sem] theorem Tryz.tsz80 : tsz Tryz.prog 80 = 1 := by kernel_rfl
@[go_sem] theorem Tryz.tby80 : tby Tryz.prog 80 = 8 := by kernel_rfl
@[go_sem] theorem Tryz.tagg80 : tagg Tryz.prog 80 = false := by kernel_rfl
@[go_sem] theorem Tryz.tyOk80 : tyOk Tryz.prog 80 = true := by kernel_rfl
@[go_sem] theorem Tryz.tzero80 : tzero Tryz.prog 80 = some (.nilFunc) := by kernel_rfl
@[go_sem] theorem Tryz.knd81 : knd Tryz.prog 81 = .fn := by kernel_rfl
@[go_sem] theorem Tryz.tsz81 : tsz Tryz.prog 81 = 1 := by kernel_rfl
@[go_sem] theorem Tryz.tby81 : tby Tryz.prog 81 = 8 := by kernel_rfl
@[go_sem] theorem Tryz.tagg81 : tagg Tryz.prog 81 = false := by kernel_rfl
@[go_sem] theorem Tryz.tyOk81 : tyOk Tryz.prog 81 = true := by kernel_rfl
@[go_sem] theorem Tryz.tzero81 : tzero Tryz.prog 81 = some (.nilFunc) := by kernel_rfl
@[go_sem] theorem Tryz.knd82 : knd Tryz.prog 82 = .fn := by kernel_rfl
@[go_sem] theorem Tryz.tsz82 : tsz Tryz.prog 82 = 1 := by kernel_rfl
@[go_sem] theorem Tryz.tby82 : tby Tryz.prog 82 = 8 := by kernel_rfl
@[go_sem] theorem Tryz.tagg82 : tagg Tryz.prog 82 = false := by kernel_rfl
@[go_sem] theorem Tryz.tyOk82 : tyOk Tryz.prog 82 = true := by kernel_rfl
@[go_sem] theorem Tryz.tzero82 : tzero Tryz.prog 82 = some (.nilFunc) := by kernel_rfl
@[go_sem] theorem Tryz.knd83 : knd Tryz.prog 83 = .fn := by kernel_rfl
@[go_sem] theorem Tryz.tsz83 : tsz Tryz.prog 83 = 1 := by kernel_rfl
@[go_sem] theorem Tryz.tby83 : tby Tryz.prog 83 = 8 := by kernel_rfl
@[go_sem] theorem Tryz.tagg83 : tagg Tryz.prog 83 = false := by kernel_rfl
@[go_sem] theorem Tryz.tyOk83 : tyOk Tryz.prog 83 = true := by kernel_rfl
@[go_sem] theorem Tryz.tzero83 : tzero Tryz.prog 83 = some (.nilFunc) := by kernel_rfl
@[go_sem] theorem Tryz.knd84 : knd Tryz.prog 84 = .fn := by kernel_rfl
@[go_sem] theorem Tryz.tsz84 : tsz Tryz.prog 84 = 1 := by kernel_rfl
@[go_sem] theorem Tryz.tby84 : tby Tryz.prog 84 = 8 := by kernel_rfl
@[go_sem] theorem Tryz.tagg84 : tagg Tryz.prog 84 = false := by kernel_rfl
@[go_sem] theorem Tryz.tyOk84 : tyOk Tryz.prog 84 = true := by kernel_rfl
@[go_sem] theorem Tryz.tzero84 : tzero Tryz.prog 84 = some (.nilFunc) := by kernel_rfl
@[go_sem] theorem Tryz.knd86 : knd Tryz.prog 86 = .fn := by kernel_rfl
@[go_sem] theorem Tryz.tsz86 : tsz Tryz.prog 86 = 1 := by kernel_rfl
@[go_sem] theorem Tryz.tby86 : tby Tryz.prog 86 = 8 := by kernel_rfl
@[go_sem] theorem Tryz.tagg86 : tagg Tryz.prog 86 = false := by kernel_rfl
@[go_sem] theorem Tryz.tyOk86 : tyOk Tryz.prog 86 = true := by kernel_rfl
@[go_sem] theorem Tryz.tzero86 : tzero Tryz.prog 86 = some (.nilFunc) := by kernel_rfl
@[go_sem] theorem Tryz.knd87 : knd Tryz.prog 87 = .fn := by kernel_rfl
@[go_sem] theorem Tryz.tsz87 : tsz Tryz.prog 87 = 1 := by kernel_rfl
@[go_sem] theorem Tryz.tby87 : tby Tryz.prog 87 = 8 := by kernel_rfl
@[go_sem] theorem Tryz.tagg87 : tagg Tryz.prog 87 = false := by kernel_rfl
@[go_sem] theorem Tryz.tyOk87 : tyOk Tryz.prog 87 = true := by kernel_rfl
@[go_sem] theorem Tryz.tzero87 : tzero Tryz.prog 87 = some (.nilFunc) := by kernel_rfl
@[go_sem] theorem Tryz.knd88 : knd Tryz.prog 88 = .fn := by kernel_rfl
@[go_sem] theorem Tryz.tsz88 : tsz Tryz.prog 88 = 1 := by kernel_rfl
@[go_sem] theorem Tryz.tby88 : tby Tryz.prog 88 = 8 := by kernel_rfl
@[go_sem] theorem Tryz.tagg88 : tagg Tryz.prog 88 = false := by kernel_rfl
@[go_sem] theorem Tryz.tyOk88 : tyOk Tryz.prog 88 = true := by kernel_rfl
@[go_sem] theorem Tryz.tzero88 : tzero Tryz.prog 88 = some (.nilFunc) := by kernel_rfl
@[go_sem] theorem Tryz.knd89 : knd Tryz.prog 89 = .fn := by kernel_rfl
@[go_sem] theorem Tryz.tsz89 : tsz Tryz.prog 89 = 1 := by kernel_rfl
@[go_sem] theorem Tryz.tby89 : tby Tryz.prog 89 = 8 := by kernel_rfl
@[go_sem] theorem Tryz.tagg89 : tagg Tryz.prog 89 = false := by kernel_rfl
@[go_sem] theorem Tryz.tyOk89 : tyOk Tryz.prog 89 = true := by kernel_rfl
@[go_sem] theorem Tryz.tzero89 : tzero Tryz.prog 89 = some (.nilFunc) := by kernel_rfl
@[go_sem] theorem Tryz.knd90 : knd Tryz.prog 90 = .fn := by kernel_rfl
@[go_sem] theorem Tryz.tsz90 : tsz Tryz.prog 90 = 1 := by kernel_rfl
@[go_sem] theorem Tryz.tby90 : tby Tryz.prog 90 = 8 := by kernel_rfl
@[go_sem] theorem Tryz.tagg90 : tagg Tryz.prog 90 = false := by kernel_rfl
@[go_sem] theorem Tryz.tyOk90 : tyOk Tryz.prog 90 = true := by kernel_rfl
@[go_sem] theorem Tryz.tzero90 : tzero Tryz.prog 90 = some (.nilFunc) := by kernel_rfl
@[go_sem] theorem Tryz.knd91 : knd Tryz.prog 91 = .fn := by kernel_rfl
@[go_sem] theorem Tryz.tsz91 : tsz Tryz.prog 91 = 1 := by kernel_rfl
@[go_sem] theorem Tryz.tby91 : tby Tryz.prog 91 = 8 := by kernel_rfl
@[go_sem] theorem Tryz.tagg91 : tagg Tryz.prog 91 = false := by kernel_rfl
@[go_sem] theorem Tryz.tyOk91 : tyOk Tryz.prog 91 = true := by kernel_rfl
@[go_sem] theorem Tryz.tzero91 : tzero Tryz.prog 91 = some (.nilFunc) := by kernel_rfl
@[go_sem] theorem Tryz.knd92 : knd Tryz.prog 92 = .fn := by kernel_rfl
@[go_sem] theorem Tryz.tsz92 : tsz Tryz.prog 92 = 1 := by kernel_rfl
@[go_sem] theorem Tryz.tby92 : tby Tryz.prog 92 = 8 := by kernel_rfl
@[go_sem] theorem Tryz.tagg92 : tagg Tryz.prog 92 = false := by kernel_rfl
@[go_sem] theorem Tryz.tyOk92 : tyOk Tryz.prog 92 = true := by kernel_rfl
@[go_sem] theorem Tryz.tzero92 : tzero Tryz.prog 92 = some (.nilFunc) := by kernel_rfl
@[go_sem] theorem Tryz.knd93 : knd Tryz.prog 93 = .fn := by kernel_rfl
@[go_sem] theorem Tryz.tsz93 : tsz Tryz.prog 93 = 1 := by kernel_rfl
@[go_sem] theorem Tryz.tby93 : tby Tryz.prog 93 = 8 := by kernel_rfl
@[go_sem] theorem Tryz.tagg93 : tagg Tryz.prog 93 = false := by kernel_rfl
@[go_sem] theorem Tryz.tyOk93 : tyOk Tryz.prog 93 = true := by kernel_rfl
@[go_sem] theorem Tryz.tzero93 : tzero Tryz.prog 93 = some (.nilFunc) := by kernel_rfl
@[go_sem] theorem Tryz.knd94 : knd Tryz.prog 94 = .fn := by kernel_rfl
@[go_sem] theorem Tryz.tsz94 : tsz Tryz.prog 94 = 1 := by kernel_rfl
@[go_sem] theorem Tryz.tby94 : tby Tryz.prog 94 = 8 := by kernel_rfl
@[go_sem] theorem Tryz.tagg94 : tagg Tryz.prog 94 = false := by kernel_rfl
@[go_sem] theorem Tryz.tyOk94 : tyOk Tryz.prog 94 = true := by kernel_rfl
@[go_sem] theorem Tryz.tzero94 : tzero Tryz.prog 94 = some (.nilFunc) := by kernel_rfl
@[go_sem] theorem Tryz.knd95 : knd Tryz.prog 95 = .fn := by kernel_rfl
@[go_sem] theorem Tryz.tsz95 : tsz Tryz.prog 95 = 1 := by kernel_rfl
@[go_sem] theorem Tryz.tby95 : tby Tryz.prog 95 = 8 := by kernel_rfl
@[go_sem] theorem Tryz.tagg95 : tagg Tryz.prog 95 = false := by kernel_rfl
@[go_sem] theorem Tryz.tyOk95 : tyOk Tryz.prog 95 = true := by kernel_rfl
@[go_sem] theorem Tryz.tzero95 : tzero Tryz.prog 95 = some (.nilFunc) := by kernel_rfl
@[go_sem] theorem Tryz.knd96 : knd Tryz.prog 96 = .fn := by kernel_rfl
@[go_sem] theorem Tryz.tsz96 : tsz Tryz.prog 96 = 1 := by kernel_rfl
@[go_sem] theorem Tryz.tby96 : tby Tryz.prog 96 = 8 := by kernel_rfl
@[go_sem] theorem Tryz.tagg96 : tagg Tryz.prog 96 = false := by kernel_rfl
@[go_sem] theorem Tryz.tyOk96 : tyOk Tryz.prog 96 = true := by kernel_rfl
@[go_sem] theorem Tryz.tzero96 : tzero Tryz.prog 96 = some (.nilFunc) := by kernel_rfl
@[go_sem] theorem Tryz.knd97 : knd Tryz.prog 97 = .fn := by kernel_rfl
@[go_sem] theorem Tryz.tsz97 : tsz Tryz.prog 97 = 1 := by kernel_rfl
@[go_sem] theorem Tryz.tby97 : tby Tryz.prog 97 = 8 := by kernel_rfl
@[go_sem] theorem Tryz.tagg97 : tagg Tryz.prog 97 = false := by kernel_rfl
@[go_sem] theorem Tryz.tyOk97 : tyOk Tryz.prog 97 = true := by kernel_rfl
@[go_sem] theorem Tryz.tzero97 : tzero Tryz.prog 97 = some (.nilFunc) := by kernel_rfl
@[go_sem] theorem Tryz.knd98 : knd Tryz.prog 98 = .fn := by kernel_rfl
@[go_sem] theorem Tryz.tsz98 : tsz Tryz.prog 98 = 1 := by kernel_rfl
@[go_sem] theorem Tryz.tby98 : tby Tryz.prog 98 = 8 := by kernel_rfl
@[go_sem] theorem Tryz.tagg98 : tagg Tryz.prog 98 = false := by kernel_rfl
@[go_sem] theorem Tryz.tyOk98 : tyOk Tryz.prog 98 = true := by kernel_rfl
@[go_sem] theorem Tryz.tzero98 : tzero Tryz.prog 98 = some (.nilFunc) := by kernel_rfl
@[go_sem] theorem Tryz.knd99 : knd Tryz.prog 99 = .fn := by kernel_rfl
@[go_sem] theorem Tryz.tsz99 : tsz Tryz.prog 99 = 1 := by kernel_rfl
@[go_sem] theorem Tryz.tby99 : tby Tryz.prog 99 = 8 := by kernel_rfl
@[go_sem] theorem Tryz.tagg99 : tagg Tryz.prog 99 = false := by kernel_rfl
@[go_sem] theorem Tryz.tyOk99 : tyOk Tryz.prog 99 = true := by kernel_rfl
@[go_sem] theorem Tryz.tzero99 : tzero Tryz.prog 99 = some (.nilFunc) := by kernel_rfl
@[go_sem] theorem Tryz.knd100 : knd Tryz.prog 100 = .fn := by kernel_rfl
@[go_sem] theorem Tryz.tsz100 : tsz Tryz.prog 100 = 1 := by kernel_rfl
@[go_sem] theorem Tryz.tby100 : tby Tryz.prog 100 = 8 := by kernel_rfl
@[go_sem] theorem Tryz.tagg100 : tagg Tryz.prog 100 = false := by kernel_rfl
@[go_sem] theorem Tryz.tyOk100 : tyOk Tryz.prog 100 = true := by kernel_rfl
@[go_sem] theorem Tryz.tzero100 : tzero Tryz.prog 100 = some (.nilFunc) := by kernel_rfl
@[go_sem] theorem Tryz.knd101 : knd Tryz.prog 101 = .fn := by kernel_rfl
@[go_sem] theorem Tryz.tsz101 : tsz Tryz.prog 101 = 1 := by kernel_rfl
@[go_sem] theorem Tryz.tby101 : tby Tryz.prog 101 = 8 := by kernel_rfl
@[go_sem] theorem Tryz.tagg101 : tagg Tryz.prog 101 = false := by kernel_rfl
@[go_sem] theorem Tryz.tyOk101 : tyOk Tryz.prog 101 = true := by kernel_rfl
@[go_sem] theorem Tryz.tzero101 : tzero Tryz.prog 101 = some (.nilFunc) := by kernel_rfl
@[go_sem] theorem Tryz.knd102 : knd Tryz.prog 102 = .fn := by kernel_rfl
@[go_sem] theorem Tryz.tsz102 : tsz Tryz.prog 102 = 1 := by kernel_rfl
@[go_sem] theorem Tryz.tby102 : tby Tryz.prog 102 = 8 := by kernel_rfl
@[go_sem] theorem Tryz.tagg102 : tagg Tryz.prog 102 = false := by kernel_rfl
@[go_sem] theorem Tryz.tyOk102 : tyOk Tryz.prog 102 = true := by kernel_rfl
@[go_sem] theorem Tryz.tzero102 : tzero Tryz.prog 102 = some (.nilFunc) := by kernel_rfl
@[go_sem] theorem Tryz.knd103 : knd Tryz.prog 103 = .fn := by kernel_rfl
@[go_sem] theorem Tryz.tsz103 : tsz Tryz.prog 103 = 1 := by kernel_rfl
@[go_sem] theorem Tryz.tby103 : tby Tryz.prog 103 = 8 := by kernel_rfl
@[go_sem] theorem Tryz.tagg103 : tagg Tryz.prog 103 = false := by kernel_rfl
@[go_sem] theorem Tryz.tyOk103 : tyOk Tryz.prog 103 = true := by kernel_rfl
@[go_sem] theorem Tryz.tzero103 : tzero Tryz.prog 103 = some (.nilFunc) := by kernel_rfl
@[go_sem] theorem Tryz.knd104 : knd Tryz.prog 104 = .fn := by kernel_rfl
@[go_sem] theorem Tryz.tsz104 : tsz Tryz.prog 104 = 1 := by kernel_rfl
@[go_sem] theorem Tryz.tby104 : tby Tryz.prog 104 = 8 := by kernel_rfl
@[go_sem] theorem Tryz.tagg104 : tagg Tryz.prog 104 = false := by kernel_rfl
@[go_sem] theorem Tryz.tyOk104 : tyOk Tryz.prog 104 = true := by kernel_rfl
@[go_sem] theorem Tryz.tzero104 : tzero Tryz.prog 104 = some (.nilFunc) := by kernel_rfl
@[go_sem] theorem Tryz.knd105 : knd Tryz.prog 105 = .fn := by kernel_rfl
@[go_sem] theorem Tryz.tsz105 : tsz Tryz.prog 105 = 1 := by kernel_rfl
@[go_sem] theorem Tryz.tby105 : tby Tryz.prog 105 = 8 := by kernel_rfl
@[go_sem] theorem Tryz.tagg105 : tagg Tryz.prog 105 = false := by kernel_rfl
@[go_sem] theorem Tryz.tyOk105 : tyOk Tryz.prog 105 = true := by kernel_rfl
@[go_sem] theorem Tryz.tzero105 : tzero Tryz.prog 105 = some (.nilFunc) := by kernel_rfl
@[go_sem] theorem Tryz.knd106 : knd Tryz.prog 106 = .fn := by kernel_rfl
@[go_sem] theorem Tryz.tsz106 : tsz Tryz.prog 106 = 1 := by kernel_rfl
@[go_sem] theorem Tryz.tby106 : tby Tryz.prog 106 = 8 := by kernel_rfl
@[go_sem] theorem Tryz.tagg106 : tagg Tryz.prog 106 = false := by kernel_rfl
@[go_sem] theorem Tryz.tyOk106 : tyOk Tryz.prog 106 = true := by kernel_rfl
@[go_sem] theorem Tryz.tzero106 : tzero Tryz.prog 106 = some (.nilFunc) := by kernel_rfl
@[go_sem] theorem Tryz.knd107 : knd Tryz.prog 107 = .fn := by kernel_rfl
@[go_sem] theorem Tryz.tsz107 : tsz Tryz.prog 107 = 1 := by kernel_rfl
@[go_sem] theorem Tryz.tby107 : tby Tryz.prog 107 = 8 := by kernel_rfl
@[go_sem] theorem Tryz.tagg107 : tagg Tryz.prog 107 = false := by kernel_rfl
@[go_sem] theorem Tryz.tyOk107 : tyOk Tryz.prog 107 = true := by kernel_rfl
@[go_sem] theorem Tryz.tzero107 : tzero Tryz.prog 107 = some (.nilFunc) := by kernel_rfl
@[go_sem] theorem Tryz.knd108 : knd Tryz.prog 108 = .fn := by kernel_rfl
@[go_sem] theorem Tryz.tsz108 : tsz Tryz.prog 108 = 1 := by kernel_rfl
@[go_sem] theorem Tryz.tby108 : tby Tryz.prog 108 = 8 := by kernel_rfl
@[go_sem] theorem Tryz.tagg108 : tagg Tryz.prog 108 = false := by kernel_rfl
@[go_sem] theorem Tryz.tyOk108 : tyOk Tryz.prog 108 = true := by kernel_rfl
@[go_sem] theorem Tryz.tzero108 : tzero Tryz.prog 108 = some (.nilFunc) := by kernel_rfl
@[go_sem] theorem Tryz.knd109 : knd Tryz.prog 109 = .fn := by kernel_rfl
@[go_sem] theorem Tryz.tsz109 : tsz Tryz.prog 109 = 1 := by kernel_rfl
@[go_sem] theorem Tryz.tby109 : tby Tryz.prog 109 = 8 := by kernel_rfl
@[go_sem] theorem Tryz.tagg109 : tagg Tryz.prog 109 = false := by kernel_rfl
@[go_sem] theorem Tryz.tyOk109 : tyOk Tryz.prog 109 = true := by kernel_rfl
@[go_sem] theorem Tryz.tzero109 : tzero Tryz.prog 109 = some (.nilFunc) := by kernel_rfl
@[go_sem] theorem Tryz.knd110 : knd Tryz.prog 110 = .int .u64 := by kernel_rfl
@[go_sem] theorem Tryz.tsz110 : tsz Tryz.prog 110 = 1 := by kernel_rfl
@[go_sem] theorem Tryz.tby110 : tby Tryz.prog 110 = 8 := by kernel_rfl
@[go_sem] theorem Tryz.tagg110 : tagg Tryz.prog 110 = false := by kernel_rfl
@[go_sem] theorem Tryz.tyOk110 : tyOk Tryz.prog 110 = true := by kernel_rfl
@[go_sem] theorem Tryz.tzero110 : tzero Tryz.prog 110 = some (.int .u64 0) := by kernel_rfl
@[go_sem] theorem Tryz.knd111 : knd Tryz.prog 111 = .fn := by kernel_rfl
@[go_sem] theorem Tryz.tsz111 : tsz Tryz.prog 111 = 1 := by kernel_rfl
@[go_sem] theorem Tryz.tby111 : tby Tryz.prog 111 = 8 := by kernel_rfl
@[go_sem] theorem Tryz.tagg111 : tagg Tryz.prog 111 = false := by kernel_rfl
@[go_sem] theorem Tryz.tyOk111 : tyOk Tryz.prog 111 = true := by kernel_rfl
@[go_sem] theorem Tryz.tzero111 : tzero Tryz.prog 111 = some (.nilFunc) := by kernel_rfl
@[go_sem] theorem Tryz.knd112 : knd Tryz.prog 112 = .fn := by kernel_rfl
@[go_sem] theorem Tryz.tsz112 : tsz Tryz.prog 112 = 1 := by kernel_rfl
@[go_sem] theorem Tryz.tby112 : tby Tryz.prog 112 = 8 := by kernel_rfl
@[go_sem] theorem Tryz.tagg112 : tagg Tryz.prog 112 = false := by kernel_rfl
@[go_sem] theorem Tryz.tyOk112 : tyOk Tryz.prog 112 = true := by kernel_rfl
@[go_sem] theorem Tryz.tzero112 : tzero Tryz.prog 112 = some (.nilFunc) := by kernel_rfl
@[go_sem] theorem Tryz.knd114 : knd Tryz.prog 114 = .fn := by kernel_rfl
@[go_sem] theorem Tryz.tsz114 : tsz Tryz.prog 114 = 1 := by kernel_rfl
@[go_sem] theorem Tryz.tby114 : tby Tryz.prog 114 = 8 := by kernel_rfl
@[go_sem] theorem Tryz.tagg114 : tagg Tryz.prog 114 = false := by kernel_rfl
@[go_sem] theorem Tryz.tyOk114 : tyOk Tryz.prog 114 = true := by kernel_rfl
@[go_sem] theorem Tryz.tzero114 : tzero Tryz.prog 114 = some (.nilFunc) := by kernel_rfl
@[go_sem] theorem Tryz.knd115 : knd Tryz.prog 115 = .fn := by kernel_rfl
@[go_sem] theorem Tryz.tsz115 : tsz Tryz.prog 115 = 1 := by kernel_rfl
@[go_sem] theorem Tryz.tby115 : tby Tryz.prog 115 = 8 := by kernel_rfl
@[go_sem] theorem Tryz.tagg115 : tagg Tryz.prog 115 = false := by kernel_rfl
@[go_sem] theorem Tryz.tyOk115 : tyOk Tryz.prog 115 = true := by kernel_rfl
@[go_sem] theorem Tryz.tzero115 : tzero Tryz.prog 115 = some (.nilFunc) := by kernel_rfl
@[go_sem] theorem Tryz.knd116 : knd Tryz.prog 116 = .slice 24 := by kernel_rfl
@[go_sem] theorem Tryz.tsz116 : tsz Tryz.prog 116 = 1 := by kernel_rfl
@[go_sem] theorem Tryz.tby116 : tby Tryz.prog 116 = 24 := by kernel_rfl
@[go_sem] theorem Tryz.tagg116 : tagg Tryz.prog 116 = false := by kernel_rfl
@[go_sem] theorem Tryz.tyOk116 : tyOk Tryz.prog 116 = true := by kernel_rfl
@[go_sem] theorem Tryz.tzero116 : tzero Tryz.prog 116 = some (.slice none 0 0) := by kernel_rfl
@[go_sem] theorem Tryz.knd117 : knd Tryz.prog 117 = .fn := by kernel_rfl
@[go_sem] theorem Tryz.tsz117 : tsz Tryz.prog 117 = 1 := by kernel_rfl
@[go_sem] theorem Tryz.tby117 : tby Tryz.prog 117 = 8 := by kernel_rfl
@[go_sem] theorem Tryz.tagg117 : tagg Tryz.prog 117 = false := by kernel_rfl
@[go_sem] theorem Tryz.tyOk117 : tyOk Tryz.prog 117 = true := by kernel_rfl
@[go_sem] theorem Tryz.tzero117 : tzero Tryz.prog 117 = some (.nilFunc) := by kernel_rfl
@[go_sem] theorem Tryz.knd118 : knd Tryz.prog 118 = .fn := by kernel_rfl
@[go_sem] theorem Tryz.tsz118 : tsz Tryz.prog 118 = 1 := by kernel_rfl
@[go_sem] theorem Tryz.tby118 : tby Tryz.prog 118 = 8 := by kernel_rfl
@[go_sem] theorem Tryz.tagg118 : tagg Tryz.prog 118 = false := by kernel_rfl
@[go_sem] theorem Tryz.tyOk118 : tyOk Tryz.prog 118 = true := by kernel_rfl
@[go_sem] theorem Tryz.tzero118 : tzero Tryz.prog 118 = some (.nilFunc) := by kernel_rfl
@[go_sem] theorem Tryz.knd119 : knd Tryz.prog 119 = .fn := by kernel_rfl
@[go_sem] theorem Tryz.tsz119 : tsz Tryz.prog 119 = 1 := by kernel_rfl
@[go_sem] theorem Tryz.tby119 : tby Tryz.prog 119 = 8 := by kernel_rfl
@[go_sem] theorem Tryz.tagg119 : tagg Tryz.prog 119 = false := by kernel_rfl
@[go_sem] theorem Tryz.tyOk119 : tyOk Tryz.prog 119 = true := by kernel_rfl
@[go_sem] theorem Tryz.tzero119 : tzero Tryz.prog 119 = some (.nilFunc) := by kernel_rfl
@[go_sem] theorem Tryz.knd120 : knd Tryz.prog 120 = .fn := by kernel_rfl
@[go_sem] theorem Tryz.tsz120 : tsz Tryz.prog 120 = 1 := by kernel_rfl
@[go_sem] theorem Tryz.tby120 : tby Tryz.prog 120 = 8 := by kernel_rfl
@[go_sem] theorem Tryz.tagg120 : tagg Tryz.prog 120 = false := by kernel_rfl
@[go_sem] theorem Tryz.tyOk120 : tyOk Tryz.prog 120 = true := by kernel_rfl
@[go_sem] theorem Tryz.tzero120 : tzero Tryz.prog 120 = some (.nilFunc) := by kernel_rfl
@[go_sem] theorem Tryz.knd121 : knd Tryz.prog 121 = .fn := by kernel_rfl
@[go_sem] theorem Tryz.tsz121 : tsz Tryz.prog 121 = 1 := by kernel_rfl
@[go_sem] theorem Tryz.tby121 : tby Tryz.prog 121 = 8 := by kernel_rfl
@[go_sem] theorem Tryz.tagg121 : tagg Tryz.prog 121 = false := by kernel_rfl
@[go_sem] theorem Tryz.tyOk121 : tyOk Tryz.prog 121 = true := by kernel_rfl
@[go_sem] theorem Tryz.tzero121 : tzero Tryz.prog 121 = some (.nilFunc) := by kernel_rfl
@[go_sem] theorem Tryz.knd122 : knd Tryz.prog 122 = .fn := by kernel_rfl
@[go_sem] theorem Tryz.tsz122 : tsz Tryz.prog 122 = 1 := by kernel_rfl
@[go_sem] theorem Tryz.tby122 : tby Tryz.prog 122 = 8 := by kernel_rfl
@[go_sem] theorem Tryz.tagg122 : tagg Tryz.prog 122 = false := by kernel_rfl
@[go_sem] theorem Tryz.tyOk122 : tyOk Tryz.prog 122 = true := by kernel_rfl
@[go_sem] theorem Tryz.tzero122 : tzero Tryz.prog 122 = some (.nilFunc) := by kernel_rfl
@[go_sem] theorem Tryz.knd123 : knd Tryz.prog 123 = .fn := by kernel_rfl
@[go_sem] theorem Tryz.tsz123 : tsz Tryz.prog 123 = 1 := by kernel_rfl
@[go_sem] theorem Tryz.tby123 : tby Tryz.prog 123 = 8 := by kernel_rfl
@[go_sem] theorem Tryz.tagg123 : tagg Tryz.prog 123 = false := by kernel_rfl
@[go_sem] theorem Tryz.tyOk123 : tyOk Tryz.prog 123 = true := by kernel_rfl
@[go_sem] theorem Tryz.tzero123 : tzero Tryz.prog 123 = some (.nilFunc) := by kernel_rfl
@[go_sem] theorem Tryz.knd124 : knd Tryz.prog 124 = .fn := by kernel_rfl
@[go_sem] theorem Tryz.tsz124 : tsz Tryz.prog 124 = 1 := by kernel_rfl
@[go_sem] theorem Tryz.tby124 : tby Tryz.prog 124 = 8 := by kernel_rfl
@[go_sem] theorem Tryz.tagg124 : tagg Tryz.prog 124 = false := by kernel_rfl
@[go_sem] theorem Tryz.tyOk124 : tyOk Tryz.prog 124 = true := by kernel_rfl
@[go_sem] theorem Tryz.tzero124 : tzero Tryz.prog 124 = some (.nilFunc) := by kernel_rfl
@[go_sem] theorem Tryz.knd125 : knd Tryz.prog 125 = .fn := by kernel_rfl
@[go_sem] theorem Tryz.tsz125 : tsz Tryz.prog 125 = 1 := by kernel_rfl
@[go_sem] theorem Tryz.tby125 : tby Tryz.prog 125 = 8 := by kernel_rfl
@[go_sem] theorem Tryz.tagg125 : tagg Tryz.prog 125 = false := by kernel_rfl
@[go_sem] theorem Tryz.tyOk125 : tyOk Tryz.prog 125 = true := by kernel_rfl
@[go_sem] theorem Tryz.tzero125 : tzero Tryz.prog 125 = some (.nilFunc) := by kernel_rfl
@[go_sem] theorem Tryz.knd126 : knd Tryz.prog 126 = .fn := by kernel_rfl
@[go_sem] theorem Tryz.tsz126 : tsz Tryz.prog 126 = 1 := by kernel_rfl
@[go_sem] theorem Tryz.tby126 : tby Tryz.prog 126 = 8 := by kernel_rfl
@[go_sem] theorem Tryz.tagg126 : tagg Tryz.prog 126 = false := by kernel_rfl
@[go_sem] theorem Tryz.tyOk126 : tyOk Tryz.prog 126 = true := by kernel_rfl
@[go_sem] theorem Tryz.tzero126 : tzero Tryz.prog 126 = some (.nilFunc) := by kernel_rfl
@[go_sem] theorem Tryz.knd127 : knd Tryz.prog 127 = .fn := by kernel_rfl
@[go_sem] theorem Tryz.tsz127 : tsz Tryz.prog 127 = 1 := by kernel_rfl
@[go_sem] theorem Tryz.tby127 : tby Tryz.prog 127 = 8 := by kernel_rfl
@[go_sem] theorem Tryz.tagg127 : tagg Tryz.prog 127 = false := by kernel_rfl
@[go_sem] theorem Tryz.tyOk127 : tyOk Tryz.prog 127 = true := by kernel_rfl
@[go_sem] theorem Tryz.tzero127 : tzero Tryz.prog 127 = some (.nilFunc) := by kernel_rfl
@[go_sem] theorem Tryz.knd128 : knd Tryz.prog 128 = .fn := by kernel_rfl
@[go_sem] theorem Tryz.tsz128 : tsz Tryz.prog 128 = 1 := by kernel_rfl
@[go_sem] theorem Tryz.tby128 : tby Tryz.prog 128 = 8 := by kernel_rfl
@[go_sem] theorem Tryz.tagg128 : tagg Tryz.prog 128 = false := by kernel_rfl
@[go_sem] theorem Tryz.tyOk128 : tyOk Tryz.prog 128 = true := by kernel_rfl
@[go_sem] theorem Tryz.tzero128 : tzero Tryz.prog 128 = some (.nilFunc) := by kernel_rfl
@[go_sem] theorem Tryz.knd129 : knd Tryz.prog 129 = .fn := by kernel_rfl
@[go_sem] theorem Tryz.tsz129 : tsz Tryz.prog 129 = 1 := by kernel_rfl
@[go_sem] theorem Tryz.tby129 : tby Tryz.prog 129 = 8 := by kernel_rfl
@[go_sem] theorem Tryz.tagg129 : tagg Tryz.prog 129 = false := by kernel_rfl
@[go_sem] theorem Tryz.tyOk129 : tyOk Tryz.prog 129 = true := by kernel_rfl
@[go_sem] theorem Tryz.tzero129 : tzero Tryz.prog 129 = some (.nilFunc) := by kernel_rfl
@[go_sem] theorem Tryz.knd130 : knd Tryz.prog 130 = .fn := by kernel_rfl
@[go_sem] theorem Tryz.tsz130 : tsz Tryz.prog 130 = 1 := by kernel_rfl
@[go_sem] theorem Tryz.tby130 : tby Tryz.prog 130 = 8 := by kernel_rfl
@[go_sem] theorem Tryz.tagg130 : tagg Tryz.prog 130 = false := by kernel_rfl
@[go_sem] theorem Tryz.tyOk130 : tyOk Tryz.prog 130 = true := by kernel_rfl
@[go_sem] theorem Tryz.tzero130 : tzero Tryz.prog 130 = some (.nilFunc) := by kernel_rfl
@[go_sem] theorem Tryz.knd131 : knd Tryz.prog 131 = .fn := by kernel_rfl
@[go_sem] theorem Tryz.tsz131 : tsz Tryz.prog 131 = 1 := by kernel_rfl
@[go_sem] theorem Tryz.tby131 : tby Tryz.prog 131 = 8 := by kernel_rfl
@[go_sem] theorem Tryz.tagg131 : tagg Tryz.prog 131 = false := by kernel_rfl
@[go_sem] theorem Tryz.tyOk131 : tyOk Tryz.prog 131 = true := by kernel_rfl
@[go_sem] theorem Tryz.tzero131 : tzero Tryz.prog 131 = some (.nilFunc) := by kernel_rfl
@[go_sem] theorem Tryz.knd132 : knd Tryz.prog 132 = .fn := by kernel_rfl
@[go_sem] theorem Tryz.tsz132 : tsz Tryz.prog 132 = 1 := by kernel_rfl
@[go_sem] theorem Tryz.tby132 : tby Tryz.prog 132 = 8 := by kernel_rfl
@[go_sem] theorem Tryz.tagg132 : tagg Tryz.prog 132 = false := by kernel_rfl
@[go_sem] theorem Tryz.tyOk132 : tyOk Tryz.prog 132 = true := by kernel_rfl
@[go_sem] theorem Tryz.tzero132 : tzero Tryz.prog 132 = some (.nilFunc) := by kernel_rfl
@[go_sem] theorem Tryz.knd133 : knd Tryz.prog 133 = .fn := by kernel_rfl
@[go_sem] theorem Tryz.tsz133 : tsz Tryz.prog 133 = 1 := by kernel_rfl
@[go_sem] theorem Tryz.tby133 : tby Tryz.prog 133 = 8 := by kernel_rfl
@[go_sem] theorem Tryz.tagg133 : tagg Tryz.prog 133 = false := by kernel_rfl
@[go_sem] theorem Tryz.tyOk133 : tyOk Tryz.prog 133 = true := by kernel_rfl
@[go_sem] theorem Tryz.tzero133 : tzero Tryz.prog 133 = some (.nilFunc) := by kernel_rfl
@[go_sem] theorem Tryz.knd134 : knd Tryz.prog 134 = .int .i64 := by kernel_rfl
@[go_sem] theorem Tryz.tsz134 : tsz Tryz.prog 134 = 1 := by kernel_rfl
@[go_sem] theorem Tryz.tby134 : tby Tryz.prog 134 = 8 := by kernel_rfl
@[go_sem] theorem Tryz.tagg134 : tagg Tryz.prog 134 = false := by kernel_rfl
@[go_sem] theorem Tryz.tyOk134 : tyOk Tryz.prog 134 = true := by kernel_rfl
@[go_sem] theorem Tryz.tzero134 : tzero Tryz.prog 134 = some (.int .i64 0) := by kernel_rfl
@[go_sem] theorem Tryz.knd136 : knd Tryz.prog 136 = .fn := by kernel_rfl
@[go_sem] theorem Tryz.tsz136 : tsz Tryz.prog 136 = 1 := by kernel_rfl
@[go_sem] theorem Tryz.tby136 : tby Tryz.prog 136 = 8 := by kernel_rfl
@[go_sem] theorem Tryz.tagg136 : tagg Tryz.prog 136 = false := by kernel_rfl
@[go_sem] theorem Tryz.tyOk136 : tyOk Tryz.prog 136 = true := by kernel_rfl
@[go_sem] theorem Tryz.tzero136 : tzero Tryz.prog 136 = some (.nilFunc) := by kernel_rfl
@[go_sem] theorem Tryz.knd137 : knd Tryz.prog 137 = .fn := by kernel_rfl
@[go_sem] theorem Tryz.tsz137 : tsz Tryz.prog 137 = 1 := by kernel_rfl
@[go_sem] theorem Tryz.tby137 : tby Tryz.prog 137 = 8 := by kernel_rfl
@[go_sem] theorem Tryz.tagg137 : tagg Tryz.prog 137 = false := by kernel_rfl
@[go_sem] theorem Tryz.tyOk137 : tyOk Tryz.prog 137 = true := by kernel_rfl
@[go_sem] theorem Tryz.tzero137 : tzero Tryz.prog 137 = some (.nilFunc) := by kernel_rfl
@[go_sem] theorem Tryz.knd138 : knd Tryz.prog 138 = .fn := by kernel_rfl
@[go_sem] theorem Tryz.tsz138 : tsz Tryz.prog 138 = 1 := by kernel_rfl
@[go_sem] theorem Tryz.tby138 : tby Tryz.prog 138 = 8 := by kernel_rfl
@[go_sem] theorem Tryz.tagg138 : tagg Tryz.prog 138 = false := by kernel_rfl
@[go_sem] theorem Tryz.tyOk138 : tyOk Tryz.prog 138 = true := by kernel_rfl
@[go_sem] theorem Tryz.tzero138 : tzero Tryz.prog 138 = some (.nilFunc) := by kernel_rfl
@[go_sem] theorem Tryz.knd139 : knd Tryz.prog 139 = .fn := by kernel_rfl
@[go_sem] theorem Tryz.tsz139 : tsz Tryz.prog 139 = 1 := by kernel_rfl
@[go_sem] theorem Tryz.tby139 : tby Tryz.prog 139 = 8 := by kernel_rfl
@[go_sem] theorem Tryz.tagg139 : tagg Tryz.prog 139 = false := by kernel_rfl
@[go_sem] theorem Tryz.tyOk139 : tyOk Tryz.prog 139 = true := by kernel_rfl
@[go_sem] theorem Tryz.tzero139 : tzero Tryz.prog 139 = some (.nilFunc) := by kernel_rfl
@[go_sem] theorem Tryz.knd140 : knd Tryz.prog 140 = .fn := by kernel_rfl
@[go_sem] theorem Tryz.tsz140 : tsz Tryz.prog 140 = 1 := by kernel_rfl
@[go_sem] theorem Tryz.tby140 : tby Tryz.prog 140 = 8 := by kernel_rfl
@[go_sem] theorem Tryz.tagg140 : tagg Tryz.prog 140 = false := by kernel_rfl
@[go_sem] theorem Tryz.tyOk140 : tyOk Tryz.prog 140 = true := by kernel_rfl
@[go_sem] theorem Tryz.tzero140 : tzero Tryz.prog 140 = some (.nilFunc) := by kernel_rfl
@[go_sem] theorem Tryz.knd141 : knd Tryz.prog 141 = .fn := by kernel_rfl
@[go_sem] theorem Tryz.tsz141 : tsz Tryz.prog 141 = 1 := by kernel_rfl
@[go_sem] theorem Tryz.tby141 : tby Tryz.prog 141 = 8 := by kernel_rfl
@[go_sem] theorem Tryz.tagg141 : tagg Tryz.prog 141 = false := by kernel_rfl
@[go_sem] theorem Tryz.tyOk141 : tyOk Tryz.prog 141 = true := by kernel_rfl
@[go_sem] theorem Tryz.tzero141 : tzero Tryz.prog 141 = some (.nilFunc) := by kernel_rfl
@[go_sem] theorem Tryz.knd142 : knd Tryz.prog 142 = .fn := by kernel_rfl
@[go_sem] theorem Tryz.tsz142 : tsz Tryz.prog 142 = 1 := by kernel_rfl
@[go_sem] theorem Tryz.tby142 : tby Tryz.prog 142 = 8 := by kernel_rfl
@[go_sem] theorem Tryz.tagg142 : tagg Tryz.prog 142 = false := by kernel_rfl
@[go_sem] theorem Tryz.tyOk142 : tyOk Tryz.prog 142 = true := by kernel_rfl
@[go_sem] theorem Tryz.tzero142 : tzero Tryz.prog 142 = some (.nilFunc) := by kernel_rfl
@[go_sem] theorem Tryz.knd143 : knd Tryz.prog 143 = .fn := by kernel_rfl
@[go_sem] theorem Tryz.tsz143 : tsz Tryz.prog 143 = 1 := by kernel_rfl
@[go_sem] theorem Tryz.tby143 : tby Tryz.prog 143 = 8 := by kernel_rfl
@[go_sem] theorem Tryz.tagg143 : tagg Tryz.prog 143 = false := by kernel_rfl
@[go_sem] theorem Tryz.tyOk143 : tyOk Tryz.prog 143 = true := by kernel_rfl
@[go_sem] theorem Tryz.tzero143 : tzero Tryz.prog 143 = some (.nilFunc) := by kernel_rfl
@[go_sem] theorem Tryz.knd144 : knd Tryz.prog 144 = .fn := by kernel_rfl
@[go_sem] theorem Tryz.tsz144 : tsz Tryz.prog 144 = 1 := by kernel_rfl
@[go_sem] theorem Tryz.tby144 : tby Tryz.prog 144 = 8 := by kernel_rfl
@[go_sem] theorem Tryz.tagg144 : tagg Tryz.prog 144 = false := by kernel_rfl
@[go_sem] theorem Tryz.tyOk144 : tyOk Tryz.prog 144 = true := by kernel_rfl
@[go_sem] theorem Tryz.tzero144 : tzero Tryz.prog 144 = some (.nilFunc) := by kernel_rfl
@[go_sem] theorem Tryz.knd145 : knd Tryz.prog 145 = .fn := by kernel_rfl
@[go_sem] theorem Tryz.tsz145 : tsz Tryz.prog 145 = 1 := by kernel_rfl
@[go_sem] theorem Tryz.tby145 : tby Tryz.prog 145 = 8 := by kernel_rfl
@[go_sem] theorem Tryz.tagg145 : tagg Tryz.prog 145 = false := by kernel_rfl
@[go_sem] theorem Tryz.tyOk145 : tyOk Tryz.prog 145 = true := by kernel_rfl
@[go_sem] theorem Tryz.tzero145 : tzero Tryz.prog 145 = some (.nilFunc) := by kernel_rfl
@[go_sem] theorem Tryz.knd146 : knd Tryz.prog 146 = .fn := by kernel_rfl
@[go_sem] theorem Tryz.tsz146 : tsz Tryz.prog 146 = 1 := by kernel_rfl
@[go_sem] theorem Tryz.tby146 : tby Tryz.prog 146 = 8 := by kernel_rfl
@[go_sem] theorem Tryz.tagg146 : tagg Tryz.prog 146 = false := by kernel_rfl
@[go_sem] theorem Tryz.tyOk146 : tyOk Tryz.prog 146 = true := by kernel_rfl
@[go_sem] theorem Tryz.tzero146 : tzero Tryz.prog 146 = some (.nilFunc) := by kernel_rfl
@[go_sem] theorem Tryz.knd147 : knd Tryz.prog 147 = .arr 24 5 := by kernel_rfl
@[go_sem] theorem Tryz.tsz147 : tsz Tryz.prog 147 = 24 := by kernel_rfl
@[go_sem] theorem Tryz.tby147 : tby Tryz.prog 147 = 24 := by kernel_rfl
@[go_sem] theorem Tryz.tagg147 : tagg Tryz.prog 147 = true := by kernel_rfl
@[go_sem] theorem Tryz.tyOk147 : tyOk Tryz.prog 147 = true := by kernel_rfl
@[go_sem] theorem Tryz.tzero147 : tzero Tryz.prog 147 = some (.agg #[.int .u8 0, .int .u8 0, .int .u8 0, .int .u8 0, .int .u8 0, .int .u8 0, .int .u8 0, .int .u8 0, .int .u8 0, .int .u8 0, .int .u8 0, .int .u8 0, .int .u8 0, .int .u8 0, .int .u8 0, .int .u8 0, .int .u8 0, .int .u8 0, .int .u8 0, .int .u8 0, .int .u8 0, .int .u8 0, .int .u8 0, .int .u8 0]) := by kernel_rfl
@[go_sem] theorem Tryz.bok147 : builtOk Tryz.prog 147 = true := by kernel_rfl
@[go_sem] theorem Tryz.plc147 (i : Nat) : placeV Tryz.prog 147 i = some (i * 1, 1) := by kernel_rfl
@[go_sem] theorem Tryz.knd148 : knd Tryz.prog 148 = .fn := by kernel_rfl
@[go_sem] theorem Tryz.tsz148 : tsz Tryz.prog 148 = 1 := by kernel_rfl
@[go_sem] theorem Tryz.tby148 : tby Tryz.prog 148 = 8 := by kernel_rfl
@[go_sem] theorem Tryz.tagg148 : tagg Tryz.prog 148 = false := by kernel_rfl
@[go_sem] theorem Tryz.tyOk148 : tyOk Tryz.prog 148 = true := by kernel_rfl
@[go_sem] theorem Tryz.tzero148 : tzero Tryz.prog 148 = some (.nilFunc) := by kernel_rfl
@[go_sem] theorem Tryz.knd150 : knd Tryz.prog 150 = .fn := by kernel_rfl
@[go_sem] theorem Tryz.tsz150 : tsz Tryz.prog 150 = 1 := by kernel_rfl
@[go_sem] theorem Tryz.tby150 : tby Tryz.prog 150 = 8 := by kernel_rfl
@[go_sem] theorem Tryz.tagg150 : tagg Tryz.prog 150 = false := by kernel_rfl
@[go_sem] theorem Tryz.tyOk150 : tyOk Tryz.prog 150 = true := by kernel_rfl
@[go_sem] theorem Tryz.tzero150 : tzero Tryz.prog 150 = some (.nilFunc) := by kernel_rfl
@[go_sem] theorem Tryz.knd151 : knd Tryz.prog 151 = .int .u64 := by kernel_rfl
@[go_sem] theorem Tryz.tsz151 : tsz Tryz.prog 151 = 1 := by kernel_rfl
@[go_sem] theorem Tryz.tby151 : tby Tryz.prog 151 = 8 := by kernel_rfl
@[go_sem] theorem Tryz.tagg151 : tagg Tryz.prog 151 = false := by kernel_rfl
@[go_sem] theorem Tryz.tyOk151 : tyOk Tryz.prog 151 = true := by kernel_rfl
@[go_sem] theorem Tryz.tzero151 : tzero Tryz.prog 151 = some (.int .u64 0) := by kernel_rfl
@[go_sem] theorem Tryz.knd152 : knd Tryz.prog 152 = .fn := by kernel_rfl
@[go_sem] theorem Tryz.tsz152 : tsz Tryz.prog 152 = 1 := by kernel_rfl
@[go_sem] theorem Tryz.tby152 : tby Tryz.prog 152 = 8 := by kernel_rfl
@[go_sem] theorem Tryz.tagg152 : tagg Tryz.prog 152 = false := by kernel_rfl
@[go_sem] theorem Tryz.tyOk152 : tyOk Tryz.prog 152 = true := by kernel_rfl
@[go_sem] theorem Tryz.tzero152 : tzero Tryz.prog 152 = some (.nilFunc) := by kernel_rfl
@[go_sem] theorem Tryz.knd153 : knd Tryz.prog 153 = .fn := by kernel_rfl
@[go_sem] theorem Tryz.tsz153 : tsz Tryz.prog 153 = 1 := by kernel_rfl
@[go_sem] theorem Tryz.tby153 : tby Tryz.prog 153 = 8 := by kernel_rfl
@[go_sem] theorem Tryz.tagg153 : tagg Tryz.prog 153 = false := by kernel_rfl
@[go_sem] theorem Tryz.tyOk153 : tyOk Tryz.prog 153 = true := by kernel_rfl
@[go_sem] theorem Tryz.tzero153 : tzero Tryz.prog 153 = some (.nilFunc) := by kernel_rfl
@[go_sem] theorem Tryz.knd154 : knd Tryz.prog 154 = .fn := by kernel_rfl
@[go_sem] theorem Tryz.tsz154 : tsz Tryz.prog 154 = 1 := by kernel_rfl
@[go_sem] theorem Tryz.tby154 : tby Tryz.prog 154 = 8 := by kernel_rfl
@[go_sem] theorem Tryz.tagg154 : tagg Tryz.prog 154 = false := by kernel_rfl
@[go_sem] theorem Tryz.tyOk154 : tyOk Tryz.prog 154 = true := by kernel_rfl
@[go_sem] theorem Tryz.tzero154 : tzero Tryz.prog 154 = some (.nilFunc) := by kernel_rfl
@[go_sem] theorem Tryz.knd155 : knd Tryz.prog 155 = .ptr 3 := by kernel_rfl
@[go_sem] theorem Tryz.tsz155 : tsz Tryz.prog 155 = 1 := by kernel_rfl
@[go_sem] theorem Tryz.tby155 : tby Tryz.prog 155 = 8 := by kernel_rfl
@[go_sem] theorem Tryz.tagg155 : tagg Tryz.prog 155 = false := by kernel_rfl
@[go_sem] theorem Tryz.tyOk155 : tyOk Tryz.prog 155 = true := by kernel_rfl
@[go_sem] theorem Tryz.tzero155 : tzero Tryz.prog 155 = some (.pointer none) := by kernel_rfl
@[go_sem] theorem Tryz.knd156 : knd Tryz.prog 156 = .fn := by kernel_rfl
@[go_sem] theorem Tryz.tsz156 : tsz Tryz.prog 156 = 1 := by kernel_rfl
@[go_sem] theorem Tryz.tby156 : tby Tryz.prog 156 = 8 := by kernel_rfl
@[go_sem] theorem Tryz.tagg156 : tagg Tryz.prog 156 = false := by kernel_rfl
@[go_sem] theorem Tryz.tyOk156 : tyOk Tryz.prog 156 = true := by kernel_rfl
@[go_sem] theorem Tryz.tzero156 : tzero Tryz.prog 156 = some (.nilFunc) := by kernel_rfl
@[go_sem] theorem Tryz.knd157 : knd Tryz.prog 157 = .fn := by kernel_rfl
@[go_sem] theorem Tryz.tsz157 : tsz Tryz.prog 157 = 1 := by kernel_rfl
@[go_sem] theorem Tryz.tby157 : tby Tryz.prog 157 = 8 := by kernel_rfl
@[go_sem] theorem Tryz.tagg157 : tagg Tryz.prog 157 = false := by kernel_rfl
@[go_sem] theorem Tryz.tyOk157 : tyOk Tryz.prog 157 = true := by kernel_rfl
@[go_sem] theorem Tryz.tzero157 : tzero Tryz.prog 157 = some (.nilFunc) := by kernel_rfl
@[go_sem] theorem Tryz.knd158 : knd Tryz.prog 158 = .fn := by kernel_rfl
@[go_sem] theorem Tryz.tsz158 : tsz Tryz.prog 158 = 1 := by kernel_rfl
@[go_sem] theorem Tryz.tby158 : tby Tryz.prog 158 = 8 := by kernel_rfl
@[go_sem] theorem Tryz.tagg158 : tagg Tryz.prog 158 = false := by kernel_rfl
@[go_sem] theorem Tryz.tyOk158 : tyOk Tryz.prog 158 = true := by kernel_rfl
@[go_sem] theorem Tryz.tzero158 : tzero Tryz.prog 158 = some (.nilFunc) := by kernel_rfl
@[go_sem] theorem Tryz.knd159 : knd Tryz.prog 159 = .fn := by kernel_rfl
@[go_sem] theorem Tryz.tsz159 : tsz Tryz.prog 159 = 1 := by kernel_rfl
@[go_sem] theorem Tryz.tby159 : tby Tryz.prog 159 = 8 := by kernel_rfl
@[go_sem] theorem Tryz.tagg159 : tagg Tryz.prog 159 = false := by kernel_rfl
@[go_sem] theorem Tryz.tyOk159 : tyOk Tryz.prog 159 = true := by kernel_rfl
@[go_sem] theorem Tryz.tzero159 : tzero Tryz.prog 159 = some (.nilFunc) := by kernel_rfl
@[go_sem] theorem Tryz.knd160 : knd Tryz.prog 160 = .fn := by kernel_rfl
@[go_sem] theorem Tryz.tsz160 : tsz Tryz.prog 160 = 1 := by kernel_rfl
@[go_sem] theorem Tryz.tby160 : tby Tryz.prog 160 = 8 := by kernel_rfl
@[go_sem] theorem Tryz.tagg160 : tagg Tryz.prog 160 = false := by kernel_rfl
@[go_sem] theorem Tryz.tyOk160 : tyOk Tryz.prog 160 = true := by kernel_rfl
@[go_sem] theorem Tryz.tzero160 : tzero Tryz.prog 160 = some (.nilFunc) := by kernel_rfl
@[go_sem] theorem Tryz.knd161 : knd Tryz.prog 161 = .fn := by kernel_rfl
@[go_sem] theorem Tryz.tsz161 : tsz Tryz.prog 161 = 1 := by kernel_rfl
@[go_sem] theorem Tryz.tby161 : tby Tryz.prog 161 = 8 := by kernel_rfl
@[go_sem] theorem Tryz.tagg161 : tagg Tryz.prog 161 = false := by kernel_rfl
@[go_sem] theorem Tryz.tyOk161 : tyOk Tryz.prog 161 = true := by kernel_rfl
@[go_sem] theorem Tryz.tzero161 : tzero Tryz.prog 161 = some (.nilFunc) := by kernel_rfl
@[go_sem] theorem Tryz.knd162 : knd Tryz.prog 162 = .fn := by kernel_rfl
@[go_sem] theorem Tryz.tsz162 : tsz Tryz.prog 162 = 1 := by kernel_rfl
@[go_sem] theorem Tryz.tby162 : tby Tryz.prog 162 = 8 := by kernel_rfl
@[go_sem] theorem Tryz.tagg162 : tagg Tryz.prog 162 = false := by kernel_rfl
@[go_sem] theorem Tryz.tyOk162 : tyOk Tryz.prog 162 = true := by kernel_rfl
@[go_sem] theorem Tryz.tzero162 : tzero Tryz.prog 162 = some (.nilFunc) := by kernel_rfl
@[go_sem] theorem Tryz.knd163 : knd Tryz.prog 163 = .fn := by kernel_rfl
@[go_sem] theorem Tryz.tsz163 : tsz Tryz.prog 163 = 1 := by kernel_rfl
@[go_sem] theorem Tryz.tby163 : tby Tryz.prog 163 = 8 := by kernel_rfl
@[go_sem] theorem Tryz.tagg163 : tagg Tryz.prog 163 = false := by kernel_rfl
@[go_sem] theorem Tryz.tyOk163 : tyOk Tryz.prog 163 = true := by kernel_rfl
@[go_sem] theorem Tryz.tzero163 : tzero Tryz.prog 163 = some (.nilFunc) := by kernel_rfl
@[go_sem] theorem Tryz.knd164 : knd Tryz.prog 164 = .fn := by kernel_rfl
@[go_sem] theorem Tryz.tsz164 : tsz Tryz.prog 164 = 1 := by kernel_rfl
@[go_sem] theorem Tryz.tby164 : tby Tryz.prog 164 = 8 := by kernel_rfl
@[go_sem] theorem Tryz.tagg164 : tagg Tryz.prog 164 = false := by kernel_rfl
@[go_sem] theorem Tryz.tyOk164 : tyOk Tryz.prog 164 = true := by kernel_rfl
@[go_sem] theorem Tryz.tzero164 : tzero Tryz.prog 164 = some (.nilFunc) := by kernel_rfl
@[go_sem] theorem Tryz.knd165 : knd Tryz.prog 165 = .arr 20 42 := by kernel_rfl
@[go_sem] theorem Tryz.tsz165 : tsz Tryz.prog 165 = 20 := by kernel_rfl
@[go_sem] theorem Tryz.tby165 : tby Tryz.prog 165 = 160 := by kernel_rfl
@[go_sem] theorem Tryz.tagg165 : tagg Tryz.prog 165 = true := by kernel_rfl
@[go_sem] theorem Tryz.tyOk165 : tyOk Tryz.prog 165 = true := by kernel_rfl
@[go_sem] theorem Tryz.tzero165 : tzero Tryz.prog 165 = some (.agg #[.int .u64 0, .int .u64 0, .int .u64 0, .int .u64 0, .int .u64 0, .int .u64 0, .int .u64 0, .int .u64 0, .int .u64 0, .int .u64 0, .int .u64 0, .int .u64 0, .int .u64 0, .int .u64 0, .int .u64 0, .int .u64 0, .int .u64 0, .int .u64 0, .int .u64 0, .int .u64 0]) := by kernel_rfl
@[go_sem] theorem Tryz.bok165 : builtOk Tryz.prog 165 = true := by kernel_rfl
@[go_sem] theorem Tryz.plc165 (i : Nat) : placeV Tryz.prog 165 i = some (i * 1, 1) := by kernel_rfl
@[go_sem] theorem Tryz.knd166 : knd Tryz.prog 166 = .arr 65 5 := by kernel_rfl
@[go_sem] theorem Tryz.tsz166 : tsz Tryz.prog 166 = 65 := by kernel_rfl
@[go_sem] theorem Tryz.tby166 : tby Tryz.prog 166 = 65 := by kernel_rfl
@[go_sem] theorem Tryz.tagg166 : tagg Tryz.prog 166 = true := by kernel_rfl
@[go_sem] theorem Tryz.tyOk166 : tyOk Tryz.prog 166 = true := by kernel_rfl
@[go_sem] theorem Tryz.tzero166 : tzero Tryz.prog 166 = some (.agg #[.int .u8 0, .int .u8 0, .int .u8 0, .int .u8 0, .int .u8 0, .int .u8 0, .int .u8 0, .int .u8 0, .int .u8 0, .int .u8 0, .int .u8 0, .int .u8 0, .int .u8 0, .int .u8 0, .int .u8 0, .int .u8 0, .int .u8 0, .int .u8 0, .int .u8 0, .int .u8 0, .int .u8 0, .int .u8 0, .int .u8 0, .int .u8 0, .int .u8 0, .int .u8 0, .int .u8 0, .int .u8 0, .int .u8 0, .int .u8 0, .int .u8 0, .int .u8 0, .int .u8 0, .int .u8 0, .int .u8 0, .int .u8 0, .int .u8 0, .int .u8 0, .int .u8 0, .int .u8 0, .int .u8 0, .int .u8 0, .int .u8 0, .int .u8 0, .int .u8 0, .int .u8 0, .int .u8 0, .int .u8 0, .int .u8 0, .int .u8 0, .int .u8 0, .int .u8 0, .int .u8 0, .int .u8 0, .int .u8 0, .int .u8 0, .int .u8 0, .int .u8 0, .int .u8 0, .int .u8 0, .int .u8 0, .int .u8 0, .int .u8 0, .int .u8 0, .int .u8 0]) := by kernel_rfl
@[go_sem] theorem Tryz.bok166 : builtOk Tryz.prog 166 = true := by kernel_rfl
@[go_sem] theorem Tryz.plc166 (i : Nat) : placeV Tryz.prog 166 i = some (i * 1, 1) := by kernel_rfl
@[go_sem] theorem Tryz.knd167 : knd Tryz.prog 167 = .ptr 151 := by kernel_rfl
@[go_sem] theorem Tryz.tsz167 : tsz Tryz.prog 167 = 1 := by kernel_rfl
@[go_sem] theorem Tryz.tby167 : tby Tryz.prog 167 = 8 := by kernel_rfl
@[go_sem] theorem Tryz.tagg167 : tagg Tryz.prog 167 = false := by kernel_rfl
@[go_sem] theorem Tryz.tyOk167 : tyOk Tryz.prog 167 = true := by kernel_rfl
@[go_sem] theorem Tryz.tzero167 : tzero Tryz.prog 167 = some (.pointer none) := by kernel_rfl
@[go_sem] theorem Tryz.knd169 : knd Tryz.prog 169 = .fn := by kernel_rfl
@[go_sem] theorem Tryz.tsz169 : tsz Tryz.prog 169 = 1 := by kernel_rfl
@[go_sem] theorem Tryz.tby169 : tby Tryz.prog 169 = 8 := by kernel_rfl
@[go_sem] theorem Tryz.tagg169 : tagg Tryz.prog 169 = false := by kernel_rfl
@[go_sem] theorem Tryz.tyOk169 : tyOk Tryz.prog 169 = true := by kernel_rfl
@[go_sem] theorem Tryz.tzero169 : tzero Tryz.prog 169 = some (.nilFunc) := by kernel_rfl
@[go_sem] theorem Tryz.knd170 : knd Tryz.prog 170 = .fn := by kernel_rfl
@[go_sem] theorem Tryz.tsz170 : tsz Tryz.prog 170 = 1 := by kernel_rfl
@[go_sem] theorem Tryz.tby170 : tby Tryz.prog 170 = 8 := by kernel_rfl
@[go_sem] theorem Tryz.tagg170 : tagg Tryz.prog 170 = false := by kernel_rfl
@[go_sem] theorem Tryz.tyOk170 : tyOk Tryz.prog 170 = true := by kernel_rfl
@[go_sem] theorem Tryz.tzero170 : tzero Tryz.prog 170 = some (.nilFunc) := by kernel_rfl
@[go_sem] theorem Tryz.knd171 : knd Tryz.prog 171 = .fn := by kernel_rfl
@[go_sem] theorem Tryz.tsz171 : tsz Tryz.prog 171 = 1 := by kernel_rfl
@[go_sem] theorem Tryz.tby171 : tby Tryz.prog 171 = 8 := by kernel_rfl
@[go_sem] theorem Tryz.tagg171 : tagg Tryz.prog 171 = false := by kernel_rfl
@[go_sem] theorem Tryz.tyOk171 : tyOk Tryz.prog 171 = true := by kernel_rfl
@[go_sem] theorem Tryz.tzero171 : tzero Tryz.prog 171 = some (.nilFunc) := by kernel_rfl
@[go_sem] theorem Tryz.knd172 : knd Tryz.prog 172 = .fn := by kernel_rfl
@[go_sem] theorem Tryz.tsz172 : tsz Tryz.prog 172 = 1 := by kernel_rfl
@[go_sem] theorem Tryz.tby172 : tby Tryz.prog 172 = 8 := by kernel_rfl
@[go_sem] theorem Tryz.tagg172 : tagg Tryz.prog 172 = false := by kernel_rfl
@[go_sem] theorem Tryz.tyOk172 : tyOk Tryz.prog 172 = true := by kernel_rfl
@[go_sem] theorem Tryz.tzero172 : tzero Tryz.prog 172 = some (.nilFunc) := by kernel_rfl
@[go_sem] theorem Tryz.knd173 : knd Tryz.prog 173 = .arr 32 5 := by kernel_rfl
@[go_sem] theorem Tryz.tsz173 : tsz Tryz.prog 173 = 32 := by kernel_rfl
@[go_sem] theorem Tryz.tby173 : tby Tryz.prog 173 = 32 := by kernel_rfl
@[go_sem] theorem Tryz.tagg173 : tagg Tryz.prog 173 = true := by kernel_rfl
@[go_sem] theorem Tryz.tyOk173 : tyOk Tryz.prog 173 = true := by kernel_rfl
@[go_sem] theorem Tryz.tzero173 : tzero Tryz.prog 173 = some (.agg #[.int .u8 0, .int .u8 0, .int .u8 0, .int .u8 0, .int .u8 0, .int .u8 0, .int .u8 0, .int .u8 0, .int .u8 0, .int .u8 0, .int .u8 0, .int .u8 0, .int .u8 0, .int .u8 0, .int .u8 0, .int .u8 0, .int .u8 0, .int .u8 0, .int .u8 0, .int .u8 0, .int .u8 0, .int .u8 0, .int .u8 0, .int .u8 0, .int .u8 0, .int .u8 0, .int .u8 0, .int .u8 0, .int .u8 0, .int .u8 0, .int .u8 0, .int .u8 0]) := by kernel_rfl
@[go_sem] theorem Tryz.bok173 : builtOk Tryz.prog 173 = true := by kernel_rfl
@[go_sem] theorem Tryz.plc173 (i : Nat) : placeV Tryz.prog 173 i = some (i * 1, 1) := by kernel_rfl
@[go_sem] theorem Tryz.knd174 : knd Tryz.prog 174 = .arr 64 5 := by kernel_rfl
@[go_sem] theorem Tryz.tsz174 : tsz Tryz.prog 174 = 64 := by kernel_rfl
@[go_sem] theorem Tryz.tby174 : tby Tryz.prog 174 = 64 := by kernel_rfl
@[go_sem] theorem Tryz.tagg174 : tagg Tryz.prog 174 = true := by kernel_rfl
@[go_sem] theorem Tryz.tyOk174 : tyOk Tryz.prog 174 = true := by kernel_rfl
@[go_sem] theorem Tryz.tzero174 : tzero Tryz.prog 174 = some (.agg #[.int .u8 0, .int .u8 0, .int .u8 0, .int .u8 0, .int .u8 0, .int .u8 0, .int .u8 0, .int .u8 0, .int .u8 0, .int .u8 0, .int .u8 0, .int .u8 0, .int .u8 0, .int .u8 0, .int .u8 0, .int .u8 0, .int .u8 0, .int .u8 0, .int .u8 0, .int .u8 0, .int .u8 0, .int .u8 0, .int .u8 0, .int .u8 0, .int .u8 0, .int .u8 0, .int .u8 0, .int .u8 0, .int .u8 0, .int .u8 0, .int .u8 0, .int .u8 0, .int .u8 0, .int .u8 0, .int .u8 0, .int .u8 0, .int .u8 0, .int .u8 0, .int .u8 0, .int .u8 0, .int .u8 0, .int .u8 0, .int .u8 0, .int .u8 0, .int .u8 0, .int .u8 0, .int .u8 0, .int .u8 0, .int .u8 0, .int .u8 0, .int .u8 0, .int .u8 0, .int .u8 0, .int .u8 0, .int .u8 0, .int .u8 0, .int .u8 0, .int .u8 0, .int .u8 0, .int .u8 0, .int .u8 0, .int .u8 0, .int .u8 0, .int .u8 0]) := by kernel_rfl
@[go_sem] theorem Tryz.bok174 : builtOk Tryz.prog 174 = true := by kernel_rfl
@[go_sem] theorem Tryz.plc174 (i : Nat) : placeV Tryz.prog 174 i = some (i * 1, 1) := by kernel_rfl
@[go_sem] theorem Tryz.knd175 : knd Tryz.prog 175 = .fn := by kernel_rfl
@[go_sem] theorem Tryz.tsz175 : tsz Tryz.prog 175 = 1 := by kernel_rfl
@[go_sem] theorem Tryz.tby175 : tby Tryz.prog 175 = 8 := by kernel_rfl
@[go_sem] theorem Tryz.tagg175 : tagg Tryz.prog 175 = false := by kernel_rfl
@[go_sem] theorem Tryz.tyOk175 : tyOk Tryz.prog 175 = true := by kernel_rfl
@[go_sem] theorem Tryz.tzero175 : tzero Tryz.prog 175 = some (.nilFunc) := by kernel_rfl
@[go_sem] theorem Tryz.knd178 : knd Tryz.prog 178 = .arr 0 16 := by kernel_rfl
@[go_sem] theorem Tryz.tsz178 : tsz Tryz.prog 178 = 0 := by kernel_rfl
@[go_sem] theorem Tryz.tby178 : tby Tryz.prog 178 = 0 := by kernel_rfl
@[go_sem] theorem Tryz.tagg178 : tagg Tryz.prog 178 = true := by kernel_rfl
@[go_sem] theorem Tryz.tyOk178 : tyOk Tryz.prog 178 = true := by kernel_rfl
@[go_sem] theorem Tryz.tzero178 : tzero Tryz.prog 178 = some (.agg #[]) := by kernel_rfl
@[go_sem] theorem Tryz.bok178 : builtOk Tryz.prog 178 = true := by kernel_rfl
@[go_sem] theorem Tryz.plc178 (i : Nat) : placeV Tryz.prog 178 i = some (i * 1, 1) := by kernel_rfl
@[go_sem] theorem Tryz.knd179 : knd Tryz.prog 179 = .strct := by kernel_rfl
@[go_sem] theorem Tryz.tsz179 : tsz Tryz.prog 179 = 0 := by kernel_rfl
@[go_sem] theorem Tryz.tby179 : tby Tryz.prog 179 = 0 := by kernel_rfl
@[go_sem] theorem Tryz.tagg179 : tagg Tryz.prog 179 = true := by kernel_rfl
@[go_sem] theorem Tryz.tyOk179 : tyOk Tryz.prog 179 = true := by kernel_rfl
@[go_sem] theorem Tryz.tzero179 : tzero Tryz.prog 179 = some (.agg #[]) := by kernel_rfl
@[go_sem] theorem Tryz.bok179 : builtOk Tryz.prog 179 = true := by kernel_rfl
@[go_sem] theorem Tryz.plc179_0 : placeV Tryz.prog 179 0 = some (0, 0) := by kernel_rfl
@[go_sem] theorem Tryz.fld179_0 : fld Tryz.prog 179 0 = some (0, 178) := by kernel_rfl
@[go_sem] theorem Tryz.knd181 : knd Tryz.prog 181 = .fn := by kernel_rfl
@[go_sem] theorem Tryz.tsz181 : tsz Tryz.prog 181 = 1 := by kernel_rfl
@[go_sem] theorem Tryz.tby181 : tby Tryz.prog 181 = 8 := by kernel_rfl
@[go_sem] theorem Tryz.tagg181 : tagg Tryz.prog 181 = false := by kernel_rfl
@[go_sem] theorem Tryz.tyOk181 : tyOk Tryz.prog 181 = true := by kernel_rfl
@[go_sem] theorem Tryz.tzero181 : tzero Tryz.prog 181 = some (.nilFunc) := by kernel_rfl
@[go_sem] theorem Tryz.knd184 : knd Tryz.prog 184 = .fn := by kernel_rfl
@[go_sem] theorem Tryz.tsz184 : tsz Tryz.prog 184 = 1 := by kernel_rfl
@[go_sem] theorem Tryz.tby184 : tby Tryz.prog 184 = 8 := by kernel_rfl
@[go_sem] theorem Tryz.tagg184 : tagg Tryz.prog 184 = false := by kernel_rfl
@[go_sem] theorem Tryz.tyOk184 : tyOk Tryz.prog 184 = true := by kernel_rfl
@[go_sem] theorem Tryz.tzero184 : tzero Tryz.prog 184 = some (.nilFunc) := by kernel_rfl
@[go_sem] theorem Tryz.knd185 : knd Tryz.prog 185 = .ptr 5 := by kernel_rfl
@[go_sem] theorem Tryz.tsz185 : tsz Tryz.prog 185 = 1 := by kernel_rfl
@[go_sem] theorem Tryz.tby185 : tby Tryz.prog 185 = 8 := by kernel_rfl
@[go_sem] theorem Tryz.tagg185 : tagg Tryz.prog 185 = false := by kernel_rfl
@[go_sem] theorem Tryz.tyOk185 : tyOk Tryz.prog 185 = true := by kernel_rfl
@[go_sem] theorem Tryz.tzero185 : tzero Tryz.prog 185 = some (.pointer none) := by kernel_rfl
end Go.Proofs
