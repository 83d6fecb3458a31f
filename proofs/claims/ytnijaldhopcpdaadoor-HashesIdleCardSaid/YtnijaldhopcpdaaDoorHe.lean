/- Texts of the proof, put together: Ty. -/
import Derived.Test.YtnijaldhopcpdaaDoorProg
import Derived.Test.YtnijaldhopcpdaaDoorHb

/- What the logic asks of the types: by program (gen_ty.py). -/
set_option maxRecDepth 100000
namespace Go.Proofs
open Go Go.Pl
@[go_sem] theorem Tryd.knd1 : knd Tryd.prog 1 = .fn := by kernel_rfl
@[go_sem] theorem Tryd.tsz1 : tsz Tryd.prog 1 = 1 := by kernel_rfl
@[go_sem] theorem Tryd.tby1 : tby Tryd.prog 1 = 8 := by kernel_rfl
@[go_sem] theorem Tryd.tagg1 : tagg Tryd.prog 1 = false := by kernel_rfl
@[go_sem] theorem Tryd.tyOk1 : tyOk Tryd.prog 1 = true := by kernel_rfl
@[go_sem] theorem Tryd.tzero1 : tzero Tryd.prog 1 = some (.nilFunc) := by kernel_rfl
@[go_sem] theorem Tryd.knd2 : knd Tryd.prog 2 = .int .i64 := by kernel_rfl
@[go_sem] theorem Tryd.tsz2 : tsz Tryd.prog 2 = 1 := by kernel_rfl
@[go_sem] theorem Tryd.tby2 : tby Tryd.prog 2 = 8 := by kernel_rfl
@[go_sem] theorem Tryd.tagg2 : tagg Tryd.prog 2 = false := by kernel_rfl
@[go_sem] theorem Tryd.tyOk2 : tyOk Tryd.prog 2 = true := by kernel_rfl
@[go_sem] theorem Tryd.tzero2 : tzero Tryd.prog 2 = some (.int .i64 0) := by kernel_rfl
@[go_sem] theorem Tryd.knd3 : knd Tryd.prog 3 = .int .i64 := by kernel_rfl
@[go_sem] theorem Tryd.tsz3 : tsz Tryd.prog 3 = 1 := by kernel_rfl
@[go_sem] theorem Tryd.tby3 : tby Tryd.prog 3 = 8 := by kernel_rfl
@[go_sem] theorem Tryd.tagg3 : tagg Tryd.prog 3 = false := by kernel_rfl
@[go_sem] theorem Tryd.tyOk3 : tyOk Tryd.prog 3 = true := by kernel_rfl
@[go_sem] theorem Tryd.tzero3 : tzero Tryd.prog 3 = some (.int .i64 0) := by kernel_rfl
@[go_sem] theorem Tryd.knd4 : knd Tryd.prog 4 = .bool := by kernel_rfl
@[go_sem] theorem Tryd.tsz4 : tsz Tryd.prog 4 = 1 := by kernel_rfl
@[go_sem] theorem Tryd.tby4 : tby Tryd.prog 4 = 1 := by kernel_rfl
@[go_sem] theorem Tryd.tagg4 : tagg Tryd.prog 4 = false := by kernel_rfl
@[go_sem] theorem Tryd.tyOk4 : tyOk Tryd.prog 4 = true := by kernel_rfl
@[go_sem] theorem Tryd.tzero4 : tzero Tryd.prog 4 = some (.bool false) := by kernel_rfl
@[go_sem] theorem Tryd.knd5 : knd Tryd.prog 5 = .int .u8 := by kernel_rfl
@[go_sem] theorem Tryd.tsz5 : tsz Tryd.prog 5 = 1 := by kernel_rfl
@[go_sem] theorem Tryd.tby5 : tby Tryd.prog 5 = 1 := by kernel_rfl
@[go_sem] theorem Tryd.tagg5 : tagg Tryd.prog 5 = false := by kernel_rfl
@[go_sem] theorem Tryd.tyOk5 : tyOk Tryd.prog 5 = true := by kernel_rfl
@[go_sem] theorem Tryd.tzero5 : tzero Tryd.prog 5 = some (.int .u8 0) := by kernel_rfl
@[go_sem] theorem Tryd.knd9 : knd Tryd.prog 9 = .str := by kernel_rfl
@[go_sem] theorem Tryd.tsz9 : tsz Tryd.prog 9 = 1 := by kernel_rfl
@[go_sem] theorem Tryd.tby9 : tby Tryd.prog 9 = 16 := by kernel_rfl
@[go_sem] theorem Tryd.tagg9 : tagg Tryd.prog 9 = false := by kernel_rfl
@[go_sem] theorem Tryd.tyOk9 : tyOk Tryd.prog 9 = true := by kernel_rfl
@[go_sem] theorem Tryd.tzero9 : tzero Tryd.prog 9 = some (.string ⟨#[]⟩) := by kernel_rfl
@[go_sem] theorem Tryd.knd12 : knd Tryd.prog 12 = .int .u64 := by kernel_rfl
@[go_sem] theorem Tryd.tsz12 : tsz Tryd.prog 12 = 1 := by kernel_rfl
@[go_sem] theorem Tryd.tby12 : tby Tryd.prog 12 = 8 := by kernel_rfl
@[go_sem] theorem Tryd.tagg12 : tagg Tryd.prog 12 = false := by kernel_rfl
@[go_sem] theorem Tryd.tyOk12 : tyOk Tryd.prog 12 = true := by kernel_rfl
@[go_sem] theorem Tryd.tzero12 : tzero Tryd.prog 12 = some (.int .u64 0) := by kernel_rfl
@[go_sem] theorem Tryd.knd13 : knd Tryd.prog 13 = .strct := by kernel_rfl
@[go_sem] theorem Tryd.tsz13 : tsz Tryd.prog 13 = 2 := by kernel_rfl
@[go_sem] theorem Tryd.tby13 : tby Tryd.prog 13 = 24 := by kernel_rfl
@[go_sem] theorem Tryd.tagg13 : tagg Tryd.prog 13 = true := by kernel_rfl
@[go_sem] theorem Tryd.tyOk13 : tyOk Tryd.prog 13 = true := by kernel_rfl
@[go_sem] theorem Tryd.tzero13 : tzero Tryd.prog 13 = some (.agg #[.string ⟨#[]⟩, .int .u64 0]) := by kernel_rfl
@[go_sem] theorem Tryd.bok13 : builtOk Tryd.prog 13 = true := by kernel_rfl
@[go_sem] theorem Tryd.plc13_0 : placeV Tryd.prog 13 0 = some (0, 1) := by kernel_rfl
@[go_sem] theorem Tryd.fld13_0 : fld Tryd.prog 13 0 = some (0, 9) := by kernel_rfl
@[go_sem] theorem Tryd.plc13_1 : placeV Tryd.prog 13 1 = some (1, 1) := by kernel_rfl
@[go_sem] theorem Tryd.fld13_1 : fld Tryd.prog 13 1 = some (1, 12) := by kernel_rfl
@[go_sem] theorem Tryd.knd15 : knd Tryd.prog 15 = .ptr 142 := by kernel_rfl
@[go_sem] theorem Tryd.tsz15 : tsz Tryd.prog 15 = 1 := by kernel_rfl
@[go_sem] theorem Tryd.tby15 : tby Tryd.prog 15 = 8 := by kernel_rfl
@[go_sem] theorem Tryd.tagg15 : tagg Tryd.prog 15 = false := by kernel_rfl
@[go_sem] theorem Tryd.tyOk15 : tyOk Tryd.prog 15 = true := by kernel_rfl
@[go_sem] theorem Tryd.tzero15 : tzero Tryd.prog 15 = some (.pointer none) := by kernel_rfl
@[go_sem] theorem Tryd.knd16 : knd Tryd.prog 16 = .ptr 145 := by kernel_rfl
@[go_sem] theorem Tryd.tsz16 : tsz Tryd.prog 16 = 1 := by kernel_rfl
@[go_sem] theorem Tryd.tby16 : tby Tryd.prog 16 = 8 := by kernel_rfl
@[go_sem] theorem Tryd.tagg16 : tagg Tryd.prog 16 = false := by kernel_rfl
@[go_sem] theorem Tryd.tyOk16 : tyOk Tryd.prog 16 = true := by kernel_rfl
@[go_sem] theorem Tryd.tzero16 : tzero Tryd.prog 16 = some (.pointer none) := by kernel_rfl
@[go_sem] theorem Tryd.knd20 : knd Tryd.prog 20 = .iface := by kernel_rfl
@[go_sem] theorem Tryd.tsz20 : tsz Tryd.prog 20 = 1 := by kernel_rfl
@[go_sem] theorem Tryd.tby20 : tby Tryd.prog 20 = 16 := by kernel_rfl
@[go_sem] theorem Tryd.tagg20 : tagg Tryd.prog 20 = false := by kernel_rfl
@[go_sem] theorem Tryd.tyOk20 : tyOk Tryd.prog 20 = true := by kernel_rfl
@[go_sem] theorem Tryd.tzero20 : tzero Tryd.prog 20 = some (.nilIface) := by kernel_rfl
@[go_sem] theorem Tryd.knd21 : knd Tryd.prog 21 = .int .i32 := by kernel_rfl
@[go_sem] theorem Tryd.tsz21 : tsz Tryd.prog 21 = 1 := by kernel_rfl
@[go_sem] theorem Tryd.tby21 : tby Tryd.prog 21 = 4 := by kernel_rfl
@[go_sem] theorem Tryd.tagg21 : tagg Tryd.prog 21 = false := by kernel_rfl
@[go_sem] theorem Tryd.tyOk21 : tyOk Tryd.prog 21 = true := by kernel_rfl
@[go_sem] theorem Tryd.tzero21 : tzero Tryd.prog 21 = some (.int .i32 0) := by kernel_rfl
@[go_sem] theorem Tryd.knd22 : knd Tryd.prog 22 = .slice 5 := by kernel_rfl
@[go_sem] theorem Tryd.tsz22 : tsz Tryd.prog 22 = 1 := by kernel_rfl
@[go_sem] theorem Tryd.tby22 : tby Tryd.prog 22 = 24 := by kernel_rfl
@[go_sem] theorem Tryd.tagg22 : tagg Tryd.prog 22 = false := by kernel_rfl
@[go_sem] theorem Tryd.tyOk22 : tyOk Tryd.prog 22 = true := by kernel_rfl
@[go_sem] theorem Tryd.tzero22 : tzero Tryd.prog 22 = some (.slice none 0 0) := by kernel_rfl
@[go_sem] theorem Tryd.knd23 : knd Tryd.prog 23 = .int .u64 := by kernel_rfl
@[go_sem] theorem Tryd.tsz23 : tsz Tryd.prog 23 = 1 := by kernel_rfl
@[go_sem] theorem Tryd.tby23 : tby Tryd.prog 23 = 8 := by kernel_rfl
@[go_sem] theorem Tryd.tagg23 : tagg Tryd.prog 23 = false := by kernel_rfl
@[go_sem] theorem Tryd.tyOk23 : tyOk Tryd.prog 23 = true := by kernel_rfl
@[go_sem] theorem Tryd.tzero23 : tzero Tryd.prog 23 = some (.int .u64 0) := by kernel_rfl
@[go_sem] theorem Tryd.knd24 : knd Tryd.prog 24 = .fn := by kernel_rfl
@[go_sem] theorem Tryd.tsz24 : tsz Tryd.prog 24 = 1 := by kernel_rfl
@[go_sem] theorem Tryd.tby24 : tby Tryd.prog 24 = 8 := by kernel_rfl
@[go_sem] theorem Tryd.tagg24 : tagg Tryd.prog 24 = false := by kernel_rfl
@[go_sem] theorem Tryd.tyOk24 : tyOk Tryd.prog 24 = true := by kernel_rfl
@[go_sem] theorem Tryd.tzero24 : tzero Tryd.prog 24 = some (.nilFunc) := by kernel_rfl
@[go_sem] theorem Tryd.knd25 : knd Tryd.prog 25 = .int .u32 := by kernel_rfl
@[go_sem] theorem Tryd.tsz25 : tsz Tryd.prog 25 = 1 := by kernel_rfl
@[go_sem] theorem Tryd.tby25 : tby Tryd.prog 25 = 4 := by kernel_rfl
@[go_sem] theorem Tryd.tagg25 : tagg Tryd.prog 25 = false := by kernel_rfl
@[go_sem] theorem Tryd.tyOk25 : tyOk Tryd.prog 25 = true := by kernel_rfl
@[go_sem] theorem Tryd.tzero25 : tzero Tryd.prog 25 = some (.int .u32 0) := by kernel_rfl
@[go_sem] theorem Tryd.knd26 : knd Tryd.prog 26 = .fn := by kernel_rfl
@[go_sem] theorem Tryd.tsz26 : tsz Tryd.prog 26 = 1 := by kernel_rfl
@[go_sem] theorem Tryd.tby26 : tby Tryd.prog 26 = 8 := by kernel_rfl
@[go_sem] theorem Tryd.tagg26 : tagg Tryd.prog 26 = false := by kernel_rfl
@[go_sem] theorem Tryd.tyOk26 : tyOk Tryd.prog 26 = true := by kernel_rfl
@[go_sem] theorem Tryd.tzero26 : tzero Tryd.prog 26 = some (.nilFunc) := by kernel_rfl
@[go_sem] theorem Tryd.knd27 : knd Tryd.prog 27 = .fn := by kernel_rfl
@[go_sem] theorem Tryd.tsz27 : tsz Tryd.prog 27 = 1 := by kernel_rfl
@[go_sem] theorem Tryd.tby27 : tby Tryd.prog 27 = 8 := by kernel_rfl
@[go_sem] theorem Tryd.tagg27 : tagg Tryd.prog 27 = false := by kernel_rfl
@[go_sem] theorem Tryd.tyOk27 : tyOk Tryd.prog 27 = true := by kernel_rfl
@[go_sem] theorem Tryd.tzero27 : tzero Tryd.prog 27 = some (.nilFunc) := by kernel_rfl
@[go_sem] theorem Tryd.knd28 : knd Tryd.prog 28 = .fn := by kernel_rfl
@[go_sem] theorem Tryd.tsz28 : tsz Tryd.prog 28 = 1 := by kernel_rfl
@[go_sem] theorem Tryd.tby28 : tby Tryd.prog 28 = 8 := by kernel_rfl
@[go_sem] theorem Tryd.tagg28 : tagg Tryd.prog 28 = false := by kernel_rfl
@[go_sem] theorem Tryd.tyOk28 : tyOk Tryd.prog 28 = true := by kernel_rfl
@[go_sem] theorem Tryd.tzero28 : tzero Tryd.prog 28 = some (.nilFunc) := by kernel_rfl
@[go_sem] theorem Tryd.knd29 : knd Tryd.prog 29 = .fn := by kernel_rfl
@[go_sem] theorem Tryd.tsz29 : tsz Tryd.prog 29 = 1 := by kernel_rfl
@[go_sem] theorem Tryd.tby29 : tby Tryd.prog 29 = 8 := by kernel_rfl
@[go_sem] theorem Tryd.tagg29 : tagg Tryd.prog 29 = false := by kernel_rfl
@[go_sem] theorem Tryd.tyOk29 : tyOk Tryd.prog 29 = true := by kernel_rfl
@[go_sem] theorem Tryd.tzero29 : tzero Tryd.prog 29 = some (.nilFunc) := by kernel_rfl
@[go_sem] theorem Tryd.knd30 : knd Tryd.prog 30 = .fn := by kernel_rfl
@[go_sem] theorem Tryd.tsz30 : tsz Tryd.prog 30 = 1 := by kernel_rfl
@[go_sem] theorem Tryd.tby30 : tby Tryd.prog 30 = 8 := by kernel_rfl
@[go_sem] theorem Tryd.tagg30 : tagg Tryd.prog 30 = false := by kernel_rfl
@[go_sem] theorem Tryd.tyOk30 : tyOk Tryd.prog 30 = true := by kernel_rfl
@[go_sem] theorem Tryd.tzero30 : tzero Tryd.prog 30 = some (.nilFunc) := by kernel_rfl
@[go_sem] theorem Tryd.knd31 : knd Tryd.prog 31 = .slice 9 := by kernel_rfl
@[go_sem] theorem Tryd.tsz31 : tsz Tryd.prog 31 = 1 := by kernel_rfl
@[go_sem] theorem Tryd.tby31 : tby Tryd.prog 31 = 24 := by kernel_rfl
@[go_sem] theorem Tryd.tagg31 : tagg Tryd.prog 31 = false := by kernel_rfl
@[go_sem] theorem Tryd.tyOk31 : tyOk Tryd.prog 31 = true := by kernel_rfl
@[go_sem] theorem Tryd.tzero31 : tzero Tryd.prog 31 = some (.slice none 0 0) := by kernel_rfl
@[go_sem] theorem Tryd.knd32 : knd Tryd.prog 32 = .slice 3 := by kernel_rfl
@[go_sem] theorem Tryd.tsz32 : tsz Tryd.prog 32 = 1 := by kernel_rfl
@[go_sem] theorem Tryd.tby32 : tby Tryd.prog 32 = 24 := by kernel_rfl
@[go_sem] theorem Tryd.tagg32 : tagg Tryd.prog 32 = false := by kernel_rfl
@[go_sem] theorem Tryd.tyOk32 : tyOk Tryd.prog 32 = true := by kernel_rfl
@[go_sem] theorem Tryd.tzero32 : tzero Tryd.prog 32 = some (.slice none 0 0) := by kernel_rfl
@[go_sem] theorem Tryd.knd33 : knd Tryd.prog 33 = .slice 57 := by kernel_rfl
@[go_sem] theorem Tryd.tsz33 : tsz Tryd.prog 33 = 1 := by kernel_rfl
@[go_sem] theorem Tryd.tby33 : tby Tryd.prog 33 = 24 := by kernel_rfl
@[go_sem] theorem Tryd.tagg33 : tagg Tryd.prog 33 = false := by kernel_rfl
@[go_sem] theorem Tryd.tyOk33 : tyOk Tryd.prog 33 = true := by kernel_rfl
@[go_sem] theorem Tryd.tzero33 : tzero Tryd.prog 33 = some (.slice none 0 0) := by kernel_rfl
@[go_sem] theorem Tryd.knd34 : knd Tryd.prog 34 = .strct := by kernel_rfl
@[go_sem] theorem Tryd.tsz34 : tsz Tryd.prog 34 = 4 := by kernel_rfl
@[go_sem] theorem Tryd.tby34 : tby Tryd.prog 34 = 80 := by kernel_rfl
@[go_sem] theorem Tryd.tagg34 : tagg Tryd.prog 34 = true := by kernel_rfl
@[go_sem] theorem Tryd.tyOk34 : tyOk Tryd.prog 34 = true := by kernel_rfl
@[go_sem] theorem Tryd.tzero34 : tzero Tryd.prog 34 = some (.agg #[.slice none 0 0, .slice none 0 0, .int .i64 0, .slice none 0 0]) := by kernel_rfl
@[go_sem] theorem Tryd.bok34 : builtOk Tryd.prog 34 = true := by kernel_rfl
@[go_sem] theorem Tryd.plc34_0 : placeV Tryd.prog 34 0 = some (0, 1) := by kernel_rfl
@[go_sem] theorem Tryd.fld34_0 : fld Tryd.prog 34 0 = some (0, 31) := by kernel_rfl
@[go_sem] theorem Tryd.plc34_1 : placeV Tryd.prog 34 1 = some (1, 1) := by kernel_rfl
@[go_sem] theorem Tryd.fld34_1 : fld Tryd.prog 34 1 = some (1, 32) := by kernel_rfl
@[go_sem] theorem Tryd.plc34_2 : placeV Tryd.prog 34 2 = some (2, 1) := by kernel_rfl
@[go_sem] theorem Tryd.fld34_2 : fld Tryd.prog 34 2 = some (2, 3) := by kernel_rfl
@[go_sem] theorem Tryd.plc34_3 : placeV Tryd.prog 34 3 = some (3, 1) := by kernel_rfl
@[go_sem] theorem Tryd.fld34_3 : fld Tryd.prog 34 3 = some (3, 33) := by kernel_rfl
@[go_sem] theorem Tryd.knd35 : knd Tryd.prog 35 = .strct := by kernel_rfl
@[go_sem] theorem Tryd.tsz35 : tsz Tryd.prog 35 = 4 := by kernel_rfl
@[go_sem] theorem Tryd.tby35 : tby Tryd.prog 35 = 80 := by kernel_rfl
@[go_sem] theorem Tryd.tagg35 : tagg Tryd.prog 35 = true := by kernel_rfl
@[go_sem] theorem Tryd.tyOk35 : tyOk Tryd.prog 35 = true := by kernel_rfl
@[go_sem] theorem Tryd.tzero35 : tzero Tryd.prog 35 = some (.agg #[.slice none 0 0, .slice none 0 0, .int .i64 0, .slice none 0 0]) := by kernel_rfl
@[go_sem] theorem Tryd.bok35 : builtOk Tryd.prog 35 = true := by kernel_rfl
@[go_sem] theorem Tryd.plc35_0 : placeV Tryd.prog 35 0 = some (0, 1) := by kernel_rfl
@[go_sem] theorem Tryd.fld35_0 : fld Tryd.prog 35 0 = some (0, 31) := by kernel_rfl
@[go_sem] theorem Tryd.plc35_1 : placeV Tryd.prog 35 1 = some (1, 1) := by kernel_rfl
@[go_sem] theorem Tryd.fld35_1 : fld Tryd.prog 35 1 = some (1, 32) := by kernel_rfl
@[go_sem] theorem Tryd.plc35_2 : placeV Tryd.prog 35 2 = some (2, 1) := by kernel_rfl
@[go_sem] theorem Tryd.fld35_2 : fld Tryd.prog 35 2 = some (2, 3) := by kernel_rfl
@[go_sem] theorem Tryd.plc35_3 : placeV Tryd.prog 35 3 = some (3, 1) := by kernel_rfl
@[go_sem] theorem Tryd.fld35_3 : fld Tryd.prog 35 3 = some (3, 33) := by kernel_rfl
@[go_sem] theorem Tryd.knd36 : knd Tryd.prog 36 = .arr 3 5 := by kernel_rfl
@[go_sem] theorem Tryd.tsz36 : tsz Tryd.prog 36 = 3 := by kernel_rfl
@[go_sem] theorem Tryd.tby36 : tby Tryd.prog 36 = 3 := by kernel_rfl
@[go_sem] theorem Tryd.tagg36 : tagg Tryd.prog 36 = true := by kernel_rfl
@[go_sem] theorem Tryd.tyOk36 : tyOk Tryd.prog 36 = true := by kernel_rfl
@[go_sem] theorem Tryd.tzero36 : tzero Tryd.prog 36 = some (.agg #[.int .u8 0, .int .u8 0, .int .u8 0]) := by kernel_rfl
@[go_sem] theorem Tryd.bok36 : builtOk Tryd.prog 36 = true := by kernel_rfl
@[go_sem] theorem Tryd.plc36 (i : Nat) : placeV Tryd.prog 36 i = some (i * 1, 1) := by kernel_rfl
@[go_sem] theorem Tryd.knd37 : knd Tryd.prog 37 = .fn := by kernel_rfl
@[go_sem] theorem Tryd.tsz37 : tsz Tryd.prog 37 = 1 := by kernel_rfl
@[go_sem] theorem Tryd.tby37 : tby Tryd.prog 37 = 8 := by kernel_rfl
@[go_sem] theorem Tryd.tagg37 : tagg Tryd.prog 37 = false := by kernel_rfl
@[go_sem] theorem Tryd.tyOk37 : tyOk Tryd.prog 37 = true := by kernel_rfl
@[go_sem] theorem Tryd.tzero37 : tzero Tryd.prog 37 = some (.nilFunc) := by kernel_rfl
@[go_sem] theorem Tryd.knd38 : knd Tryd.prog 38 = .int .i64 := by kernel_rfl
@[go_sem] theorem Tryd.tsz38 : tsz Tryd.prog 38 = 1 := by kernel_rfl
@[go_sem] theorem Tryd.tby38 : tby Tryd.prog 38 = 8 := by kernel_rfl
@[go_sem] theorem Tryd.tagg38 : tagg Tryd.prog 38 = false := by kernel_rfl
@[go_sem] theorem Tryd.tyOk38 : tyOk Tryd.prog 38 = true := by kernel_rfl
@[go_sem] theorem Tryd.tzero38 : tzero Tryd.prog 38 = some (.int .i64 0) := by kernel_rfl
@[go_sem] theorem Tryd.knd39 : knd Tryd.prog 39 = .fn := by kernel_rfl
@[go_sem] theorem Tryd.tsz39 : tsz Tryd.prog 39 = 1 := by kernel_rfl
@[go_sem] theorem Tryd.tby39 : tby Tryd.prog 39 = 8 := by kernel_rfl
@[go_sem] theorem Tryd.tagg39 : tagg Tryd.prog 39 = false := by kernel_rfl
@[go_sem] theorem Tryd.tyOk39 : tyOk Tryd.prog 39 = true := by kernel_rfl
@[go_sem] theorem Tryd.tzero39 : tzero Tryd.prog 39 = some (.nilFunc) := by kernel_rfl
@[go_sem] theorem Tryd.knd41 : knd Tryd.prog 41 = .fn := by kernel_rfl
@[go_sem] theorem Tryd.tsz41 : tsz Tryd.prog 41 = 1 := by kernel_rfl
@[go_sem] theorem Tryd.tby41 : tby Tryd.prog 41 = 8 := by kernel_rfl
@[go_sem] theorem Tryd.tagg41 : tagg Tryd.prog 41 = false := by kernel_rfl
@[go_sem] theorem Tryd.tyOk41 : tyOk Tryd.prog 41 = true := by kernel_rfl
@[go_sem] theorem Tryd.tzero41 : tzero Tryd.prog 41 = some (.nilFunc) := by kernel_rfl
@[go_sem] theorem Tryd.knd43 : knd Tryd.prog 43 = .fn := by kernel_rfl
@[go_sem] theorem Tryd.tsz43 : tsz Tryd.prog 43 = 1 := by kernel_rfl
@[go_sem] theorem Tryd.tby43 : tby Tryd.prog 43 = 8 := by kernel_rfl
@[go_sem] theorem Tryd.tagg43 : tagg Tryd.prog 43 = false := by kernel_rfl
@[go_sem] theorem Tryd.tyOk43 : tyOk Tryd.prog 43 = true := by kernel_rfl
@[go_sem] theorem Tryd.tzero43 : tzero Tryd.prog 43 = some (.nilFunc) := by kernel_rfl
@[go_sem] theorem Tryd.knd44 : knd Tryd.prog 44 = .fn := by kernel_rfl
@[go_sem] theorem Tryd.tsz44 : tsz Tryd.prog 44 = 1 := by kernel_rfl
@[go_sem] theorem Tryd.tby44 : tby Tryd.prog 44 = 8 := by kernel_rfl
@[go_sem] theorem Tryd.tagg44 : tagg Tryd.prog 44 = false := by kernel_rfl
@[go_sem] theorem Tryd.tyOk44 : tyOk Tryd.prog 44 = true := by kernel_rfl
@[go_sem] theorem Tryd.tzero44 : tzero Tryd.prog 44 = some (.nilFunc) := by kernel_rfl
@[go_sem] theorem Tryd.knd45 : knd Tryd.prog 45 = .arr 2 5 := by kernel_rfl
@[go_sem] theorem Tryd.tsz45 : tsz Tryd.prog 45 = 2 := by kernel_rfl
@[go_sem] theorem Tryd.tby45 : tby Tryd.prog 45 = 2 := by kernel_rfl
@[go_sem] theorem Tryd.tagg45 : tagg Tryd.prog 45 = true := by kernel_rfl
@[go_sem] theorem Tryd.tyOk45 : tyOk Tryd.prog 45 = true := by kernel_rfl
@[go_sem] theorem Tryd.tzero45 : tzero Tryd.prog 45 = some (.agg #[.int .u8 0, .int .u8 0]) := by kernel_rfl
@[go_sem] theorem Tryd.bok45 : builtOk Tryd.prog 45 = true := by kernel_rfl
@[go_sem] theorem Tryd.plc45 (i : Nat) : placeV Tryd.prog 45 i = some (i * 1, 1) := by kernel_rfl
@[go_sem] theorem Tryd.knd46 : knd Tryd.prog 46 = .fn := by kernel_rfl
@[go_sem] theorem Tryd.tsz46 : tsz Tryd.prog 46 = 1 := by kernel_rfl
@[go_sem] theorem Tryd.tby46 : tby Tryd.prog 46 = 8 := by kernel_rfl
@[go_sem] theorem Tryd.tagg46 : tagg Tryd.prog 46 = false := by kernel_rfl
@[go_sem] theorem Tryd.tyOk46 : tyOk Tryd.prog 46 = true := by kernel_rfl
@[go_sem] theorem Tryd.tzero46 : tzero Tryd.prog 46 = some (.nilFunc) := by kernel_rfl
@[go_sem] theorem Tryd.knd47 : knd Tryd.prog 47 = .slice 23 := by kernel_rfl
@[go_sem] theorem Tryd.tsz47 : tsz Tryd.prog 47 = 1 := by kernel_rfl
@[go_sem] theorem Tryd.tby47 : tby Tryd.prog 47 = 24 := by kernel_rfl
@[go_sem] theorem Tryd.tagg47 : tagg Tryd.prog 47 = false := by kernel_rfl
@[go_sem] theorem Tryd.tyOk47 : tyOk Tryd.prog 47 = true := by kernel_rfl
@[go_sem] theorem Tryd.tzero47 : tzero Tryd.prog 47 = some (.slice none 0 0) := by kernel_rfl
@[go_sem] theorem Tryd.knd49 : knd Tryd.prog 49 = .fn := by kernel_rfl
@[go_sem] theorem Tryd.tsz49 : tsz Tryd.prog 49 = 1 := by kernel_rfl
@[go_sem] theorem Tryd.tby49 : tby Tryd.prog 49 = 8 := by kernel_rfl
@[go_sem] theorem Tryd.tagg49 : tagg Tryd.prog 49 = false := by kernel_rfl
@[go_sem] theorem Tryd.tyOk49 : tyOk Tryd.prog 49 = true := by kernel_rfl
@[go_sem] theorem Tryd.tzero49 : tzero Tryd.prog 49 = some (.nilFunc) := by kernel_rfl
@[go_sem] theorem Tryd.knd51 : knd Tryd.prog 51 = .fn := by kernel_rfl
@[go_sem] theorem Tryd.tsz51 : tsz Tryd.prog 51 = 1 := by kernel_rfl
@[go_sem] theorem Tryd.tby51 : tby Tryd.prog 51 = 8 := by kernel_rfl
@[go_sem] theorem Tryd.tagg51 : tagg Tryd.prog 51 = false := by kernel_rfl
@[go_sem] theorem Tryd.tyOk51 : tyOk Tryd.prog 51 = true := by kernel_rfl
@[go_sem] theorem Tryd.tzero51 : tzero Tryd.prog 51 = some (.nilFunc) := by kernel_rfl
@[go_sem] theorem Tryd.knd52 : knd Tryd.prog 52 = .fn := by kernel_rfl
@[go_sem] theorem Tryd.tsz52 : tsz Tryd.prog 52 = 1 := by kernel_rfl
@[go_sem] theorem Tryd.tby52 : tby Tryd.prog 52 = 8 := by kernel_rfl
@[go_sem] theorem Tryd.tagg52 : tagg Tryd.prog 52 = false := by kernel_rfl
@[go_sem] theorem Tryd.tyOk52 : tyOk Tryd.prog 52 = true := by kernel_rfl
@[go_sem] theorem Tryd.tzero52 : tzero Tryd.prog 52 = some (.nilFunc) := by kernel_rfl
@[go_sem] theorem Tryd.knd53 : knd Tryd.prog 53 = .fn := by kernel_rfl
@[go_sem] theorem Tryd.tsz53 : tsz Tryd.prog 53 = 1 := by kernel_rfl
@[go_sem] theorem Tryd.tby53 : tby Tryd.prog 53 = 8 := by kernel_rfl
@[go_sem] theorem Tryd.tagg53 : tagg Tryd.prog 53 = false := by kernel_rfl
@[go_sem] theorem Tryd.tyOk53 : tyOk Tryd.prog 53 = true := by kernel_rfl
@[go_sem] theorem Tryd.tzero53 : tzero Tryd.prog 53 = some (.nilFunc) := by kernel_rfl
@[go_sem] theorem Tryd.knd54 : knd Tryd.prog 54 = .fn := by kernel_rfl
@[go_sem] theorem Tryd.tsz54 : tsz Tryd.prog 54 = 1 := by kernel_rfl
@[go_sem] theorem Tryd.tby54 : tby Tryd.prog 54 = 8 := by kernel_rfl
@[go_sem] theorem Tryd.tagg54 : tagg Tryd.prog 54 = false := by kernel_rfl
@[go_sem] theorem Tryd.tyOk54 : tyOk Tryd.prog 54 = true := by kernel_rfl
@[go_sem] theorem Tryd.tzero54 : tzero Tryd.prog 54 = some (.nilFunc) := by kernel_rfl
@[go_sem] theorem Tryd.knd55 : knd Tryd.prog 55 = .fn := by kernel_rfl
@[go_sem] theorem Tryd.tsz55 : tsz Tryd.prog 55 = 1 := by kernel_rfl
@[go_sem] theorem Tryd.tby55 : tby Tryd.prog 55 = 8 := by kernel_rfl
@[go_sem] theorem Tryd.tagg55 : tagg Tryd.prog 55 = false := by kernel_rfl
@[go_sem] theorem Tryd.tyOk55 : tyOk Tryd.prog 55 = true := by kernel_rfl
@[go_sem] theorem Tryd.tzero55 : tzero Tryd.prog 55 = some (.nilFunc) := by kernel_rfl
@[go_sem] theorem Tryd.knd56 : knd Tryd.prog 56 = .strct := by kernel_rfl
@[go_sem] theorem Tryd.tsz56 : tsz Tryd.prog 56 = 2 := by kernel_rfl
@[go_sem] theorem Tryd.tby56 : tby Tryd.prog 56 = 16 := by kernel_rfl
@[go_sem] theorem Tryd.tagg56 : tagg Tryd.prog 56 = true := by kernel_rfl
@[go_sem] theorem Tryd.tyOk56 : tyOk Tryd.prog 56 = true := by kernel_rfl
@[go_sem] theorem Tryd.tzero56 : tzero Tryd.prog 56 = some (.agg #[.int .u32 0, .int .i64 0]) := by kernel_rfl
@[go_sem] theorem Tryd.bok56 : builtOk Tryd.prog 56 = true := by kernel_rfl
@[go_sem] theorem Tryd.plc56_0 : placeV Tryd.prog 56 0 = some (0, 1) := by kernel_rfl
@[go_sem] theorem Tryd.fld56_0 : fld Tryd.prog 56 0 = some (0, 25) := by kernel_rfl
@[go_sem] theorem Tryd.plc56_1 : placeV Tryd.prog 56 1 = some (1, 1) := by kernel_rfl
@[go_sem] theorem Tryd.fld56_1 : fld Tryd.prog 56 1 = some (1, 3) := by kernel_rfl
@[go_sem] theorem Tryd.knd57 : knd Tryd.prog 57 = .strct := by kernel_rfl
@[go_sem] theorem Tryd.tsz57 : tsz Tryd.prog 57 = 2 := by kernel_rfl
@[go_sem] theorem Tryd.tby57 : tby Tryd.prog 57 = 16 := by kernel_rfl
@[go_sem] theorem Tryd.tagg57 : tagg Tryd.prog 57 = true := by kernel_rfl
@[go_sem] theorem Tryd.tyOk57 : tyOk Tryd.prog 57 = true := by kernel_rfl
@[go_sem] theorem Tryd.tzero57 : tzero Tryd.prog 57 = some (.agg #[.int .u32 0, .int .i64 0]) := by kernel_rfl
@[go_sem] theorem Tryd.bok57 : builtOk Tryd.prog 57 = true := by kernel_rfl
@[go_sem] theorem Tryd.plc57_0 : placeV Tryd.prog 57 0 = some (0, 1) := by kernel_rfl
@[go_sem] theorem Tryd.fld57_0 : fld Tryd.prog 57 0 = some (0, 25) := by kernel_rfl
@[go_sem] theorem Tryd.plc57_1 : placeV Tryd.prog 57 1 = some (1, 1) := by kernel_rfl
@[go_sem] theorem Tryd.fld57_1 : fld Tryd.prog 57 1 = some (1, 3) := by kernel_rfl
@[go_sem] theorem Tryd.eqOk57 : eqOk Tryd.prog 57 = true := by kernel_rfl
@[go_sem] theorem Tryd.fkinds57 : fkinds Tryd.prog 57 = [.int .u32, .int .i64] := by kernel_rfl
@[go_sem] theorem Tryd.knd58 : knd Tryd.prog 58 = .fn := by kernel_rfl
@[go_sem] theorem Tryd.tsz58 : tsz Tryd.prog 58 = 1 := by kernel_rfl
@[go_sem] theorem Tryd.tby58 : tby Tryd.prog 58 = 8 := by kernel_rfl
@[go_sem] theorem Tryd.tagg58 : tagg Tryd.prog 58 = false := by kernel_rfl
@[go_sem] theorem Tryd.tyOk58 : tyOk Tryd.prog 58 = true := by kernel_rfl
@[go_sem] theorem Tryd.tzero58 : tzero Tryd.prog 58 = some (.nilFunc) := by kernel_rfl
@[go_sem] theorem Tryd.knd59 : knd Tryd.prog 59 = .fn := by kernel_rfl
@[go_sem] theorem Tryd.tsz59 : tsz Tryd.prog 59 = 1 := by kernel_rfl
@[go_sem] theorem Tryd.tby59 : tby Tryd.prog 59 = 8 := by kernel_rfl
@[go_sem] theorem Tryd.tagg59 : tagg Tryd.prog 59 = false := by kernel_rfl
@[go_sem] theorem Tryd.tyOk59 : tyOk Tryd.prog 59 = true := by kernel_rfl
@[go_sem] theorem Tryd.tzero59 : tzero Tryd.prog 59 = some (.nilFunc) := by kernel_rfl
@[go_sem] theorem Tryd.knd60 : knd Tryd.prog 60 = .fn := by kernel_rfl
@[go_sem] theorem Tryd.tsz60 : tsz Tryd.prog 60 = 1 := by kernel_rfl
@[go_sem] theorem Tryd.tby60 : tby Tryd.prog 60 = 8 := by kernel_rfl
@[go_sem] theorem Tryd.tagg60 : tagg Tryd.prog 60 = false := by kernel_rfl
@[go_sem] theorem Tryd.tyOk60 : tyOk Tryd.prog 60 = true := by kernel_rfl
@[go_sem] theorem Tryd.tzero60 : tzero Tryd.prog 60 = some (.nilFunc) := by kernel_rfl
@[go_sem] theorem Tryd.knd61 : knd Tryd.prog 61 = .fn := by kernel_rfl
@[go_sem] theorem Tryd.tsz61 : tsz Tryd.prog 61 = 1 := by kernel_rfl
@[go_sem] theorem Tryd.tby61 : tby Tryd.prog 61 = 8 := by kernel_rfl
@[go_sem] theorem Tryd.tagg61 : tagg Tryd.prog 61 = false := by kernel_rfl
@[go_sem] theorem Tryd.tyOk61 : tyOk Tryd.prog 61 = true := by kernel_rfl
@[go_sem] theorem Tryd.tzero61 : tzero Tryd.prog 61 = some (.nilFunc) := by kernel_rfl
@[go_sem] theorem Tryd.knd62 : knd Tryd.prog 62 = .fn := by kernel_rfl
@[go_sem] theorem Tryd.tsz62 : tsz Tryd.prog 62 = 1 := by kernel_rfl
@[go_sem] theorem Tryd.tby62 : tby Tryd.prog 62 = 8 := by kernel_rfl
@[go_sem] theorem Tryd.tagg62 : tagg Tryd.prog 62 = false := by kernel_rfl
@[go_sem] theorem Tryd.tyOk62 : tyOk Tryd.prog 62 = true := by kernel_rfl
@[go_sem] theorem Tryd.tzero62 : tzero Tryd.prog 62 = some (.nilFunc) := by kernel_rfl
@[go_sem] theorem Tryd.knd63 : knd Tryd.prog 63 = .fn := by kernel_rfl
@[go_sem] theorem Tryd.tsz63 : tsz Tryd.prog 63 = 1 := by kernel_rfl
@[go_sem] theorem Tryd.tby63 : tby Tryd.prog 63 = 8 := by kernel_rfl
@[go_sem] theorem Tryd.tagg63 : tagg Tryd.prog 63 = false := by kernel_rfl
@[go_sem] theorem Tryd.tyOk63 : tyOk Tryd.prog 63 = true := by kernel_rfl
@[go_sem] theorem Tryd.tzero63 : tzero Tryd.prog 63 = some (.nilFunc) := by kernel_rfl
@[go_sem] theorem Tryd.knd64 : knd Tryd.prog 64 = .fn := by kernel_rfl
@[go_sem] theorem Tryd.tsz64 : tsz Tryd.prog 64 = 1 := by kernel_rfl
@[go_sem] theorem Tryd.tby64 : tby Tryd.prog 64 = 8 := by kernel_rfl
@[go_sem] theorem Tryd.tagg64 : tagg Tryd.prog 64 = false := by kernel_rfl
@[go_sem] theorem Tryd.tyOk64 : tyOk Tryd.prog 64 = true := by kernel_rfl
@[go_sem] theorem Tryd.tzero64 : tzero Tryd.prog 64 = some (.nilFunc) := by kernel_rfl
@[go_sem] theorem Tryd.knd65 : knd Tryd.prog 65 = .fn := by kernel_rfl
@[go_sem] theorem Tryd.tsz65 : tsz Tryd.prog 65 = 1 := by kernel_rfl
@[go_sem] theorem Tryd.tby65 : tby Tryd.prog 65 = 8 := by kernel_rfl
@[go_sem] theorem Tryd.tagg65 : tagg Tryd.prog 65 = false := by kernel_rfl
@[go_sem] theorem Tryd.tyOk65 : tyOk Tryd.prog 65 = true := by kernel_rfl
@[go_sem] theorem Tryd.tzero65 : tzero Tryd.prog 65 = some (.nilFunc) := by kernel_rfl
@[go_sem] theorem Tryd.knd66 : knd Tryd.prog 66 = .fn := by kernel_rfl
@[go_sem] theorem Tryd.tsz66 : tsz Tryd.prog 66 = 1 := by kernel_rfl
@[go_sem] theorem Tryd.tby66 : tby Tryd.prog 66 = 8 := by kernel_rfl
@[go_sem] theorem Tryd.tagg66 : tagg Tryd.prog 66 = false := by kernel_rfl
@[go_sem] theorem Tryd.tyOk66 : tyOk Tryd.prog 66 = true := by kernel_rfl
@[go_sem] theorem Tryd.tzero66 : tzero Tryd.prog 66 = some (.nilFunc) := by kernel_rfl
@[go_sem] theorem Tryd.knd67 : knd Tryd.prog 67 = .fn := by kernel_rfl
@[go_sem] theorem Tryd.tsz67 : tsz Tryd.prog 67 = 1 := by kernel_rfl
@[go_sem] theorem Tryd.tby67 : tby Tryd.prog 67 = 8 := by kernel_rfl
@[go_sem] theorem Tryd.tagg67 : tagg Tryd.prog 67 = false := by kernel_rfl
@[go_sem] theorem Tryd.tyOk67 : tyOk Tryd.prog 67 = true := by kernel_rfl
@[go_sem] theorem Tryd.tzero67 : tzero Tryd.prog 67 = some (.nilFunc) := by kernel_rfl
@[go_sem] theorem Tryd.knd68 : knd Tryd.prog 68 = .fn := by kernel_rfl
@[go_sem] theorem Tryd.tsz68 : tsz Tryd.prog 68 = 1 := by kernel_rfl
@[go_sem] theorem Tryd.tby68 : tby Tryd.prog 68 = 8 := by kernel_rfl
@[go_sem] theorem Tryd.tagg68 : tagg Tryd.prog 68 = false := by kernel_rfl
@[go_sem] theorem Tryd.tyOk68 : tyOk Tryd.prog 68 = true := by kernel_rfl
@[go_sem] theorem Tryd.tzero68 : tzero Tryd.prog 68 = some (.nilFunc) := by kernel_rfl
@[go_sem] theorem Tryd.knd69 : knd Tryd.prog 69 = .fn := by kernel_rfl
@[go_sem] theorem Tryd.tsz69 : tsz Tryd.prog 69 = 1 := by kernel_rfl
@[go_sem] theorem Tryd.tby69 : tby Tryd.prog 69 = 8 := by kernel_rfl
@[go_sem] theorem Tryd.tagg69 : tagg Tryd.prog 69 = false := by kernel_rfl
@[go_sem] theorem Tryd.tyOk69 : tyOk Tryd.prog 69 = true := by kernel_rfl
@[go_sem] theorem Tryd.tzero69 : tzero Tryd.prog 69 = some (.nilFunc) := by kernel_rfl
@[go_sem] theorem Tryd.knd70 : knd Tryd.prog 70 = .fn := by kernel_rfl
@[go_sem] theorem Tryd.tsz70 : tsz Tryd.prog 70 = 1 := by kernel_rfl
@[go_sem] theorem Tryd.tby70 : tby Tryd.prog 70 = 8 := by kernel_rfl
@[go_sem] theorem Tryd.tagg70 : tagg Tryd.prog 70 = false := by kernel_rfl
@[go_sem] theorem Tryd.tyOk70 : tyOk Tryd.prog 70 = true := by kernel_rfl
@[go_sem] theorem Tryd.tzero70 : tzero Tryd.prog 70 = some (.nilFunc) := by kernel_rfl
@[go_sem] theorem Tryd.knd71 : knd Tryd.prog 71 = .fn := by kernel_rfl
@[go_sem] theorem Tryd.tsz71 : tsz Tryd.prog 71 = 1 := by kernel_rfl
@[go_sem] theorem Tryd.tby71 : tby Tryd.prog 71 = 8 := by kernel_rfl
@[go_sem] theorem Tryd.tagg71 : tagg Tryd.prog 71 = false := by kernel_rfl
@[go_sem] theorem Tryd.tyOk71 : tyOk Tryd.prog 71 = true := by kernel_rfl
@[go_sem] theorem Tryd.tzero71 : tzero Tryd.prog 71 = some (.nilFunc) := by kernel_rfl
@[go_sem] theorem Tryd.knd72 : knd Tryd.prog 72 = .slice 35 := by kernel_rfl
@[go_sem] theorem Tryd.tsz72 : tsz Tryd.prog 72 = 1 := by kernel_rfl
@[go_sem] theorem Tryd.tby72 : tby Tryd.prog 72 = 24 := by kernel_rfl
@[go_sem] theorem Tryd.tagg72 : tagg Tryd.prog 72 = false := by kernel_rfl
@[go_sem] theorem Tryd.tyOk72 : tyOk Tryd.prog 72 = true := by kernel_rfl
@[go_sem] theorem Tryd.tzero72 : tzero Tryd.prog 72 = some (.slice none 0 0) := by kernel_rfl
@[go_sem] theorem Tryd.knd73 : knd Tryd.prog 73 = .fn := by kernel_rfl
@[go_sem] theorem Tryd.tsz73 : tsz Tryd.prog 73 = 1 := by kernel_rfl
@[go_sem] theorem Tryd.tby73 : tby Tryd.prog 73 = 8 := by kernel_rfl
@[go_sem] theorem Tryd.tagg73 : tagg Tryd.prog 73 = false := by kernel_rfl
@[go_sem] theorem Tryd.tyOk73 : tyOk Tryd.prog 73 = true := by kernel_rfl
@[go_sem] theorem Tryd.tzero73 : tzero Tryd.prog 73 = some (.nilFunc) := by kernel_rfl
@[go_sem] theorem Tryd.knd74 : knd Tryd.prog 74 = .fn := by kernel_rfl
@[go_sem] theorem Tryd.tsz74 : tsz Tryd.prog 74 = 1 := by kernel_rfl
@[go_sem] theorem Tryd.tby74 : tby Tryd.prog 74 = 8 := by kernel_rfl
@[go_sem] theorem Tryd.tagg74 : tagg Tryd.prog 74 = false := by kernel_rfl
@[go_sem] theorem Tryd.tyOk74 : tyOk Tryd.prog 74 = true := by kernel_rfl
@[go_sem] theorem Tryd.tzero74 : tzero Tryd.prog 74 = some (.nilFunc) := by kernel_rfl
@[go_sem] theorem Tryd.knd75 : knd Tryd.prog 75 = .fn := by kernel_rfl
@[go_sem] theorem Tryd.tsz75 : tsz Tryd.prog 75 = 1 := by kernel_rfl
@[go_sem] theorem Tryd.tby75 : tby Tryd.prog 75 = 8 := by kernel_rfl
@[go_sem] theorem Tryd.tagg75 : tagg Tryd.prog 75 = false := by kernel_rfl
@[go_sem] theorem Tryd.tyOk75 : tyOk Tryd.prog 75 = true := by kernel_rfl
@[go_sem] theorem Tryd.tzero75 : tzero Tryd.prog 75 = some (.nilFunc) := by kernel_rfl
@[go_sem] theorem Tryd.knd76 : knd Tryd.prog 76 = .fn := by kernel_rfl
@[go_sem] theorem Tryd.tsz76 : tsz Tryd.prog 76 = 1 := by kernel_rfl
@[go_sem] theorem Tryd.tby76 : tby Tryd.prog 76 = 8 := by kernel_rfl
@[go_sem] theorem Tryd.tagg76 : tagg Tryd.prog 76 = false := by kernel_rfl
@[go_sem] theorem Tryd.tyOk76 : tyOk Tryd.prog 76 = true := by kernel_rfl
@[go_sem] theorem Tryd.tzero76 : tzero Tryd.prog 76 = some (.nilFunc) := by kernel_rfl
@[go_sem] theorem Tryd.knd77 : knd Tryd.prog 77 = .fn := by kernel_rfl
@[go_sem] theorem Tryd.tsz77 : tsz Tryd.prog 77 = 1 := by kernel_rfl
@[go_sem] theorem Tryd.tby77 : tby Tryd.prog 77 = 8 := by kernel_rfl
@[go_sem] theorem Tryd.tagg77 : tagg Tryd.prog 77 = false := by kernel_rfl
@[go_sem] theorem Tryd.tyOk77 : tyOk Tryd.prog 77 = true := by kernel_rfl
@[go_sem] theorem Tryd.tzero77 : tzero Tryd.prog 77 = some (.nilFunc) := by kernel_rfl
@[go_sem] theorem Tryd.knd78 : knd Tryd.prog 78 = .fn := by kernel_rfl
@[go_sem] theorem Tryd.tsz78 : tsz Tryd.prog 78 = 1 := by kernel_rfl
@[go_sem] theorem Tryd.tby78 : tby Tryd.prog 78 = 8 := by kernel_rfl
@[go_sem] theorem Tryd.tagg78 : tagg Tryd.prog 78 = false := by kernel_rfl
@[go_sem] theorem Tryd.tyOk78 : tyOk Tryd.prog 78 = true := by kernel_rfl
@[go_sem] theorem Tryd.tzero78 : tzero Tryd.prog 78 = some (.nilFunc) := by kernel_rfl
@[go_sem] theorem Tryd.knd79 : knd Tryd.prog 79 = .fn := by kernel_rfl
@[go_sem] theorem Tryd.tsz79 : tsz Tryd.prog 79 = 1 := by kernel_rfl
@[go_sem] theorem Tryd.tby79 : tby Tryd.prog 79 = 8 := by kernel_rfl
@[go_sem] theorem Tryd.tagg79 : tagg Tryd.prog 79 = false := by kernel_rfl
@[go_sem] theorem Tryd.tyOk79 : tyOk Tryd.prog 79 = true := by kernel_rfl
@[go_sem] theorem Tryd.tzero79 : tzero Tryd.prog 79 = some (.nilFunc) := by kernel_rfl
@[go_sem] theorem Tryd.knd80 : knd Tryd.prog 80 = .fn := by kernel_rfl
@[go_sem] theorem Tryd.tsz80 : tsz Tryd.prog 80 = 1 := by kernel_rfl
@[go_sem] theorem Tryd.tby80 : tby Tryd.prog 80 = 8 := by kernel_rfl
@[go_sem] theorem Tryd.tagg80 : tagg Tryd.prog 80 = false := by kernel_rfl
@[go_sem] theorem Tryd.tyOk80 : tyOk Tryd.prog 80 = true := by kernel_rfl
@[go_sem] theorem Tryd.tzero80 : tzero Tryd.prog 80 = some (.nilFunc) := by kernel_rfl
@[go_sem] theorem Tryd.knd81 : knd Tryd.prog 81 = .fn := by kernel_rfl
@[go_sem] theorem Tryd.tsz81 : tsz Tryd.prog 81 = 1 := by kernel_rfl
@[go_sem] theorem Tryd.tby81 : tby Tryd.prog 81 = 8 := by kernel_rfl
@[go_sem] theorem Tryd.tagg81 : tagg Tryd.prog 81 = false := by kernel_rfl
@[go_sem] theorem Tryd.tyOk81 : tyOk Tryd.prog 81 = true := by kernel_rfl
@[go_sem] theorem Tryd.tzero81 : tzero Tryd.prog 81 = some (.nilFunc) := by kernel_rfl
@[go_sem] theorem Tryd.knd82 : knd Tryd.prog 82 = .fn := by kernel_rfl
@[go_sem] theorem Tryd.tsz82 : tsz Tryd.prog 82 = 1 := by kernel_rfl
@[go_sem] theorem Tryd.tby82 : tby Tryd.prog 82 = 8 := by kernel_rfl
@[go_sem] theorem Tryd.tagg82 : tagg Tryd.prog 82 = false := by kernel_rfl
@[go_sem] theorem Tryd.tyOk82 : tyOk Tryd.prog 82 = true := by kernel_rfl
@[go_sem] theorem Tryd.tzero82 : tzero Tryd.prog 82 = some (.nilFunc) := by kernel_rfl
@[go_sem] theorem Tryd.knd83 : knd Tryd.prog 83 = .fn := by kernel_rfl
@[go_sem] theorem Tryd.tsz83 : tsz Tryd.prog 83 = 1 := by kernel_rfl
@[go_sem] theorem Tryd.tby83 : tby Tryd.prog 83 = 8 := by kernel_rfl
@[go_sem] theorem Tryd.tagg83 : tagg Tryd.prog 83 = false := by kernel_rfl
@[go_sem] theorem Tryd.tyOk83 : tyOk Tryd.prog 83 = true := by kernel_rfl
@[go_sem] theorem Tryd.tzero83 : tzero Tryd.prog 83 = some (.nilFunc) := by kernel_rfl
@[go_sem] theorem Tryd.knd84 : knd Tryd.prog 84 = .fn := by kernel_rfl
@[go_sem] theorem Tryd.tsz84 : tsz Tryd.prog 84 = 1 := by kernel_rfl
@[go_sem] theorem Tryd.tby84 : tby Tryd.prog 84 = 8 := by kernel_rfl
@[go_sem] theorem Tryd.tagg84 : tagg Tryd.prog 84 = false := by kernel_rfl
@[go_sem] theorem Tryd.tyOk84 : tyOk Tryd.prog 84 = true := by kernel_rfl
@[go_sem] theorem Tryd.tzero84 : tzero Tryd.prog 84 = some (.nilFunc) := by kernel_rfl
@[go_sem] theorem Tryd.knd85 : knd Tryd.prog 85 = .fn := by kernel_rfl
@[go_sem] theorem Tryd.tsz85 : tsz Tryd.prog 85 = 1 := by kernel_rfl
@[go_sem] theorem Tryd.tby85 : tby Tryd.prog 85 = 8 := by kernel_rfl
@[go_sem] theorem Tryd.tagg85 : tagg Tryd.prog 85 = false := by kernel_rfl
@[go_sem] theorem Tryd.tyOk85 : tyOk Tryd.prog 85 = true := by kernel_rfl
@[go_sem] theorem Tryd.tzero85 : tzero Tryd.prog 85 = some (.nilFunc) := by kernel_rfl
@[go_sem] theorem Tryd.knd86 : knd Tryd.prog 86 = .fn := by kernel_rfl
@[go_sem] theorem Tryd.tsz86 : tsz Tryd.prog 86 = 1 := by kernel_rfl
@[go_sem] theorem Tryd.tby86 : tby Tryd.prog 86 = 8 := by kernel_rfl
@[go_sem] theorem Tryd.tagg86 : tagg Tryd.prog 86 = false := by kernel_rfl
@[go_sem] theorem Tryd.tyOk86 : tyOk Tryd.prog 86 = true := by kernel_rfl
@[go_sem] theorem Tryd.tzero86 : tzero Tryd.prog 86 = some (.nilFunc) := by kernel_rfl
@[go_sem] theorem Tryd.knd87 : knd Tryd.prog 87 = .int .u64 := by kernel_rfl
@[go_sem] theorem Tryd.tsz87 : tsz Tryd.prog 87 = 1 := by kernel_rfl
@[go_sem] theorem Tryd.tby87 : tby Tryd.prog 87 = 8 := by kernel_rfl
@[go_sem] theorem Tryd.tagg87 : tagg Tryd.prog 87 = false := by kernel_rfl
@[go_sem] theorem Tryd.tyOk87 : tyOk Tryd.prog 87 = true := by kernel_rfl
@[go_sem] theorem Tryd.tzero87 : tzero Tryd.prog 87 = some (.int .u64 0) := by kernel_rfl
@[go_sem] theorem Tryd.knd88 : knd Tryd.prog 88 = .fn := by kernel_rfl
@[go_sem] theorem Tryd.tsz88 : tsz Tryd.prog 88 = 1 := by kernel_rfl
@[go_sem] theorem Tryd.tby88 : tby Tryd.prog 88 = 8 := by kernel_rfl
@[go_sem] theorem Tryd.tagg88 : tagg Tryd.prog 88 = false := by kernel_rfl
@[go_sem] theorem Tryd.tyOk88 : tyOk Tryd.prog 88 = true := by kernel_rfl
@[go_sem] theorem Tryd.tzero88 : tzero Tryd.prog 88 = some (.nilFunc) := by kernel_rfl
@[go_sem] theorem Tryd.knd90 : knd Tryd.prog 90 = .fn := by kernel_rfl
@[go_sem] theorem Tryd.tsz90 : tsz Tryd.prog 90 = 1 := by kernel_rfl
@[go_sem] theorem Tryd.tby90 : tby Tryd.prog 90 = 8 := by kernel_rfl
@[go_sem] theorem Tryd.tagg90 : tagg Tryd.prog 90 = false := by kernel_rfl
@[go_sem] theorem Tryd.tyOk90 : tyOk Tryd.prog 90 = true := by kernel_rfl
@[go_sem] theorem Tryd.tzero90 : tzero Tryd.prog 90 = some (.nilFunc) := by kernel_rfl
@[go_sem] theorem Tryd.knd91 : knd Tryd.prog 91 = .fn := by kernel_rfl
@[go_sem] theorem Tryd.tsz91 : tsz Tryd.prog 91 = 1 := by kernel_rfl
@[go_sem] theorem Tryd.tby91 : tby Tryd.prog 91 = 8 := by kernel_rfl
@[go_sem] theorem Tryd.tagg91 : tagg Tryd.prog 91 = false := by kernel_rfl
@[go_sem] theorem Tryd.tyOk91 : tyOk Tryd.prog 91 = true := by kernel_rfl
@[go_sem] theorem Tryd.tzero91 : tzero Tryd.prog 91 = some (.nilFunc) := by kernel_rfl
@[go_sem] theorem Tryd.knd92 : knd Tryd.prog 92 = .slice 33 := by kernel_rfl
@[go_sem] theorem Tryd.tsz92 : tsz Tryd.prog 92 = 1 := by kernel_rfl
@[go_sem] theorem Tryd.tby92 : tby Tryd.prog 92 = 24 := by kernel_rfl
@[go_sem] theorem Tryd.tagg92 : tagg Tryd.prog 92 = false := by kernel_rfl
@[go_sem] theorem Tryd.tyOk92 : tyOk Tryd.prog 92 = true := by kernel_rfl
@[go_sem] theorem Tryd.tzero92 : tzero Tryd.prog 92 = some (.slice none 0 0) := by kernel_rfl
@[go_sem] theorem Tryd.knd93 : knd Tryd.prog 93 = .fn := by kernel_rfl
@[go_sem] theorem Tryd.tsz93 : tsz Tryd.prog 93 = 1 := by kernel_rfl
@[go_sem] theorem Tryd.tby93 : tby Tryd.prog 93 = 8 := by kernel_rfl
@[go_sem] theorem Tryd.tagg93 : tagg Tryd.prog 93 = false := by kernel_rfl
@[go_sem] theorem Tryd.tyOk93 : tyOk Tryd.prog 93 = true := by kernel_rfl
@[go_sem] theorem Tryd.tzero93 : tzero Tryd.prog 93 = some (.nilFunc) := by kernel_rfl
@[go_sem] theorem Tryd.knd94 : knd Tryd.prog 94 = .fn := by kernel_rfl
@[go_sem] theorem Tryd.tsz94 : tsz Tryd.prog 94 = 1 := by kernel_rfl
@[go_sem] theorem Tryd.tby94 : tby Tryd.prog 94 = 8 := by kernel_rfl
@[go_sem] theorem Tryd.tagg94 : tagg Tryd.prog 94 = false := by kernel_rfl
@[go_sem] theorem Tryd.tyOk94 : tyOk Tryd.prog 94 = true := by kernel_rfl
@[go_sem] theorem Tryd.tzero94 : tzero Tryd.prog 94 = some (.nilFunc) := by kernel_rfl
@[go_sem] theorem Tryd.knd95 : knd Tryd.prog 95 = .fn := by kernel_rfl
@[go_sem] theorem Tryd.tsz95 : tsz Tryd.prog 95 = 1 := by kernel_rfl
@[go_sem] theorem Tryd.tby95 : tby Tryd.prog 95 = 8 := by kernel_rfl
@[go_sem] theorem Tryd.tagg95 : tagg Tryd.prog 95 = false := by kernel_rfl
@[go_sem] theorem Tryd.tyOk95 : tyOk Tryd.prog 95 = true := by kernel_rfl
@[go_sem] theorem Tryd.tzero95 : tzero Tryd.prog 95 = some (.nilFunc) := by kernel_rfl
@[go_sem] theorem Tryd.knd96 : knd Tryd.prog 96 = .fn := by kernel_rfl
@[go_sem] theorem Tryd.tsz96 : tsz Tryd.prog 96 = 1 := by kernel_rfl
@[go_sem] theorem Tryd.tby96 : tby Tryd.prog 96 = 8 := by kernel_rfl
@[go_sem] theorem Tryd.tagg96 : tagg Tryd.prog 96 = false := by kernel_rfl
@[go_sem] theorem Tryd.tyOk96 : tyOk Tryd.prog 96 = true := by kernel_rfl
@[go_sem] theorem Tryd.tzero96 : tzero Tryd.prog 96 = some (.nilFunc) := by kernel_rfl
@[go_sem] theorem Tryd.knd97 : knd Tryd.prog 97 = .fn := by kernel_rfl
@[go_sem] theorem Tryd.tsz97 : tsz Tryd.prog 97 = 1 := by kernel_rfl
@[go_sem] theorem Tryd.tby97 : tby Tryd.prog 97 = 8 := by kernel_rfl
@[go_sem] theorem Tryd.tagg97 : tagg Tryd.prog 97 = false := by kernel_rfl
@[go_sem] theorem Tryd.tyOk97 : tyOk Tryd.prog 97 = true := by kernel_rfl
@[go_sem] theorem Tryd.tzero97 : tzero Tryd.prog 97 = some (.nilFunc) := by kernel_rfl
@[go_sem] theorem Tryd.knd98 : knd Tryd.prog 98 = .fn := by kernel_rfl
@[go_sem] theorem Tryd.tsz98 : tsz Tryd.prog 98 = 1 := by kernel_rfl
@[go_sem] theorem Tryd.tby98 : tby Tryd.prog 98 = 8 := by kernel_rfl
@[go_sem] theorem Tryd.tagg98 : tagg Tryd.prog 98 = false := by kernel_rfl
@[go_sem] theorem Tryd.tyOk98 : tyOk Tryd.prog 98 = true := by kernel_rfl
@[go_sem] theorem Tryd.tzero98 : tzero Tryd.prog 98 = some (.nilFunc) := by kernel_rfl
@[go_sem] theorem Tryd.knd99 : knd Tryd.prog 99 = .fn := by kernel_rfl
@[go_sem] theorem Tryd.tsz99 : tsz Tryd.prog 99 = 1 := by kernel_rfl
@[go_sem] theorem Tryd.tby99 : tby Tryd.prog 99 = 8 := by kernel_rfl
@[go_sem] theorem Tryd.tagg99 : tagg Tryd.prog 99 = false := by kernel_rfl
@[go_sem] theorem Tryd.tyOk99 : tyOk Tryd.prog 99 = true := by kernel_rfl
@[go_sem] theorem Tryd.tzero99 : tzero Tryd.prog 99 = some (.nilFunc) := by kernel_rfl
@[go_sem] theorem Tryd.knd100 : knd Tryd.prog 100 = .fn := by kernel_rfl
@[go_sem] theorem Tryd.tsz100 : tsz Tryd.prog 100 = 1 := by kernel_rfl
@[go_sem] theorem Tryd.tby100 : tby Tryd.prog 100 = 8 := by kernel_rfl
@[go_sem] theorem Tryd.tagg100 : tagg Tryd.prog 100 = false := by kernel_rfl
@[go_sem] theorem Tryd.tyOk100 : tyOk Tryd.prog 100 = true := by kernel_rfl
@[go_sem] theorem Tryd.tzero100 : tzero Tryd.prog 100 = some (.nilFunc) := by kernel_rfl
@[go_sem] theorem Tryd.knd101 : knd Tryd.prog 101 = .int .i64 := by kernel_rfl
@[go_sem] theorem Tryd.tsz101 : tsz Tryd.prog 101 = 1 := by kernel_rfl
@[go_sem] theorem Tryd.tby101 : tby Tryd.prog 101 = 8 := by kernel_rfl
@[go_sem] theorem Tryd.tagg101 : tagg Tryd.prog 101 = false := by kernel_rfl
@[go_sem] theorem Tryd.tyOk101 : tyOk Tryd.prog 101 = true := by kernel_rfl
@[go_sem] theorem Tryd.tzero101 : tzero Tryd.prog 101 = some (.int .i64 0) := by kernel_rfl
@[go_sem] theorem Tryd.knd103 : knd Tryd.prog 103 = .fn := by kernel_rfl
@[go_sem] theorem Tryd.tsz103 : tsz Tryd.prog 103 = 1 := by kernel_rfl
@[go_sem] theorem Tryd.tby103 : tby Tryd.prog 103 = 8 := by kernel_rfl
@[go_sem] theorem Tryd.tagg103 : tagg Tryd.prog 103 = false := by kernel_rfl
@[go_sem] theorem Tryd.tyOk103 : tyOk Tryd.prog 103 = true := by kernel_rfl
@[go_sem] theorem Tryd.tzero103 : tzero Tryd.prog 103 = some (.nilFunc) := by kernel_rfl
@[go_sem] theorem Tryd.knd104 : knd Tryd.prog 104 = .fn := by kernel_rfl
@[go_sem] theorem Tryd.tsz104 : tsz Tryd.prog 104 = 1 := by kernel_rfl
@[go_sem] theorem Tryd.tby104 : tby Tryd.prog 104 = 8 := by kernel_rfl
@[go_sem] theorem Tryd.tagg104 : tagg Tryd.prog 104 = false := by kernel_rfl
@[go_sem] theorem Tryd.tyOk104 : tyOk Tryd.prog 104 = true := by kernel_rfl
@[go_sem] theorem Tryd.tzero104 : tzero Tryd.prog 104 = some (.nilFunc) := by kernel_rfl
@[go_sem] theorem Tryd.knd105 : knd Tryd.prog 105 = .fn := by kernel_rfl
@[go_sem] theorem Tryd.tsz105 : tsz Tryd.prog 105 = 1 := by kernel_rfl
@[go_sem] theorem Tryd.tby105 : tby Tryd.prog 105 = 8 := by kernel_rfl
@[go_sem] theorem Tryd.tagg105 : tagg Tryd.prog 105 = false := by kernel_rfl
@[go_sem] theorem Tryd.tyOk105 : tyOk Tryd.prog 105 = true := by kernel_rfl
@[go_sem] theorem Tryd.tzero105 : tzero Tryd.prog 105 = some (.nilFunc) := by kernel_rfl
@[go_sem] theorem Tryd.knd106 : knd Tryd.prog 106 = .fn := by kernel_rfl
@[go_sem] theorem Tryd.tsz106 : tsz Tryd.prog 106 = 1 := by kernel_rfl
@[go_sem] theorem Tryd.tby106 : tby Tryd.prog 106 = 8 := by kernel_rfl
@[go_sem] theorem Tryd.tagg106 : tagg Tryd.prog 106 = false := by kernel_rfl
@[go_sem] theorem Tryd.tyOk106 : tyOk Tryd.prog 106 = true := by kernel_rfl
@[go_sem] theorem Tryd.tzero106 : tzero Tryd.prog 106 = some (.nilFunc) := by kernel_rfl
@[go_sem] theorem Tryd.knd107 : knd Tryd.prog 107 = .fn := by kernel_rfl
@[go_sem] theorem Tryd.tsz107 : tsz Tryd.prog 107 = 1 := by kernel_rfl
@[go_sem] theorem Tryd.tby107 : tby Tryd.prog 107 = 8 := by kernel_rfl
@[go_sem] theorem Tryd.tagg107 : tagg Tryd.prog 107 = false := by kernel_rfl
@[go_sem] theorem Tryd.tyOk107 : tyOk Tryd.prog 107 = true := by kernel_rfl
@[go_sem] theorem Tryd.tzero107 : tzero Tryd.prog 107 = some (.nilFunc) := by kernel_rfl
@[go_sem] theorem Tryd.knd108 : knd Tryd.prog 108 = .fn := by kernel_rfl
@[go_sem] theorem Tryd.tsz108 : tsz Tryd.prog 108 = 1 := by kernel_rfl
@[go_sem] theorem Tryd.tby108 : tby Tryd.prog 108 = 8 := by kernel_rfl
@[go_sem] theorem Tryd.tagg108 : tagg Tryd.prog 108 = false := by kernel_rfl
@[go_sem] theorem Tryd.tyOk108 : tyOk Tryd.prog 108 = true := by kernel_rfl
@[go_sem] theorem Tryd.tzero108 : tzero Tryd.prog 108 = some (.nilFunc) := by kernel_rfl
@[go_sem] theorem Tryd.knd109 : knd Tryd.prog 109 = .fn := by kernel_rfl
@[go_sem] theorem Tryd.tsz109 : tsz Tryd.prog 109 = 1 := by kernel_rfl
@[go_sem] theorem Tryd.tby109 : tby Tryd.prog 109 = 8 := by kernel_rfl
@[go_sem] theorem Tryd.tagg109 : tagg Tryd.prog 109 = false := by kernel_rfl
@[go_sem] theorem Tryd.tyOk109 : tyOk Tryd.prog 109 = true := by kernel_rfl
@[go_sem] theorem Tryd.tzero109 : tzero Tryd.prog 109 = some (.nilFunc) := by kernel_rfl
@[go_sem] theorem Tryd.knd110 : knd Tryd.prog 110 = .fn := by kernel_rfl
@[go_sem] theorem Tryd.tsz110 : tsz Tryd.prog 110 = 1 := by kernel_rfl
@[go_sem] theorem Tryd.tby110 : tby Tryd.prog 110 = 8 := by kernel_rfl
@[go_sem] theorem Tryd.tagg110 : tagg Tryd.prog 110 = false := by kernel_rfl
@[go_sem] theorem Tryd.tyOk110 : tyOk Tryd.prog 110 = true := by kernel_rfl
@[go_sem] theorem Tryd.tzero110 : tzero Tryd.prog 110 = some (.nilFunc) := by kernel_rfl
@[go_sem] theorem Tryd.knd111 : knd Tryd.prog 111 = .fn := by kernel_rfl
@[go_sem] theorem Tryd.tsz111 : tsz Tryd.prog 111 = 1 := by kernel_rfl
@[go_sem] theorem Tryd.tby111 : tby Tryd.prog 111 = 8 := by kernel_rfl
@[go_sem] theorem Tryd.tagg111 : tagg Tryd.prog 111 = false := by kernel_rfl
@[go_sem] theorem Tryd.tyOk111 : tyOk Tryd.prog 111 = true := by kernel_rfl
@[go_sem] theorem Tryd.tzero111 : tzero Tryd.prog 111 = some (.nilFunc) := by kernel_rfl
@[go_sem] theorem Tryd.knd112 : knd Tryd.prog 112 = .arr 24 5 := by kernel_rfl
@[go_sem] theorem Tryd.tsz112 : tsz Tryd.prog 112 = 24 := by kernel_rfl
@[go_sem] theorem Tryd.tby112 : tby Tryd.prog 112 = 24 := by kernel_rfl
@[go_sem] theorem Tryd.tagg112 : tagg Tryd.prog 112 = true := by kernel_rfl
@[go_sem] theorem Tryd.tyOk112 : tyOk Tryd.prog 112 = true := by kernel_rfl
@[go_sem] theorem Tryd.tzero112 : tzero Tryd.prog 112 = some (.agg #[.int .u8 0, .int .u8 0, .int .u8 0, .int .u8 0, .int .u8 0, .int .u8 0, .int .u8 0, .int .u8 0, .int .u8 0, .int .u8 0, .int .u8 0, .int .u8 0, .int .u8 0, .int .u8 0, .int .u8 0, .int .u8 0, .int .u8 0, .int .u8 0, .int .u8 0, .int .u8 0, .int .u8 0, .int .u8 0, .int .u8 0, .int .u8 0]) := by kernel_rfl
@[go_sem] theorem Tryd.bok112 : builtOk Tryd.prog 112 = true := by kernel_rfl
@[go_sem] theorem Tryd.plc112 (i : Nat) : placeV Tryd.prog 112 i = some (i * 1, 1) := by kernel_rfl
@[go_sem] theorem Tryd.knd113 : knd Tryd.prog 113 = .fn := by kernel_rfl
@[go_sem] theorem Tryd.tsz113 : tsz Tryd.prog 113 = 1 := by kernel_rfl
@[go_sem] theorem Tryd.tby113 : tby Tryd.prog 113 = 8 := by kernel_rfl
@[go_sem] theorem Tryd.tagg113 : tagg Tryd.prog 113 = false := by kernel_rfl
@[go_sem] theorem Tryd.tyOk113 : tyOk Tryd.prog 113 = true := by kernel_rfl
@[go_sem] theorem Tryd.tzero113 : tzero Tryd.prog 113 = some (.nilFunc) := by kernel_rfl
@[go_sem] theorem Tryd.knd115 : knd Tryd.prog 115 = .fn := by kernel_rfl
@[go_sem] theorem Tryd.tsz115 : tsz Tryd.prog 115 = 1 := by kernel_rfl
@[go_sem] theorem Tryd.tby115 : tby Tryd.prog 115 = 8 := by kernel_rfl
@[go_sem] theorem Tryd.tagg115 : tagg Tryd.prog 115 = false := by kernel_rfl
@[go_sem] theorem Tryd.tyOk115 : tyOk Tryd.prog 115 = true := by kernel_rfl
@[go_sem] theorem Tryd.tzero115 : tzero Tryd.prog 115 = some (.nilFunc) := by kernel_rfl
@[go_sem] theorem Tryd.knd116 : knd Tryd.prog 116 = .int .u64 := by kernel_rfl
@[go_sem] theorem Tryd.tsz116 : tsz Tryd.prog 116 = 1 := by kernel_rfl
@[go_sem] theorem Tryd.tby116 : tby Tryd.prog 116 = 8 := by kernel_rfl
@[go_sem] theorem Tryd.tagg116 : tagg Tryd.prog 116 = false := by kernel_rfl
@[go_sem] theorem Tryd.tyOk116 : tyOk Tryd.prog 116 = true := by kernel_rfl
@[go_sem] theorem Tryd.tzero116 : tzero Tryd.prog 116 = some (.int .u64 0) := by kernel_rfl
@[go_sem] theorem Tryd.knd117 : knd Tryd.prog 117 = .fn := by kernel_rfl
@[go_sem] theorem Tryd.tsz117 : tsz Tryd.prog 117 = 1 := by kernel_rfl
@[go_sem] theorem Tryd.tby117 : tby Tryd.prog 117 = 8 := by kernel_rfl
@[go_sem] theorem Tryd.tagg117 : tagg Tryd.prog 117 = false := by kernel_rfl
@[go_sem] theorem Tryd.tyOk117 : tyOk Tryd.prog 117 = true := by kernel_rfl
@[go_sem] theorem Tryd.tzero117 : tzero Tryd.prog 117 = some (.nilFunc) := by kernel_rfl
@[go_sem] theorem Tryd.knd118 : knd Tryd.prog 118 = .fn := by kernel_rfl
@[go_sem] theorem Tryd.tsz118 : tsz Tryd.prog 118 = 1 := by kernel_rfl
@[go_sem] theorem Tryd.tby118 : tby Tryd.prog 118 = 8 := by kernel_rfl
@[go_sem] theorem Tryd.tagg118 : tagg Tryd.prog 118 = false := by kernel_rfl
@[go_sem] theorem Tryd.tyOk118 : tyOk Tryd.prog 118 = true := by kernel_rfl
@[go_sem] theorem Tryd.tzero118 : tzero Tryd.prog 118 = some (.nilFunc) := by kernel_rfl
@[go_sem] theorem Tryd.knd119 : knd Tryd.prog 119 = .fn := by kernel_rfl
@[go_sem] theorem Tryd.tsz119 : tsz Tryd.prog 119 = 1 := by kernel_rfl
@[go_sem] theorem Tryd.tby119 : tby Tryd.prog 119 = 8 := by kernel_rfl
@[go_sem] theorem Tryd.tagg119 : tagg Tryd.prog 119 = false := by kernel_rfl
@[go_sem] theorem Tryd.tyOk119 : tyOk Tryd.prog 119 = true := by kernel_rfl
@[go_sem] theorem Tryd.tzero119 : tzero Tryd.prog 119 = some (.nilFunc) := by kernel_rfl
@[go_sem] theorem Tryd.knd120 : knd Tryd.prog 120 = .ptr 3 := by kernel_rfl
@[go_sem] theorem Tryd.tsz120 : tsz Tryd.prog 120 = 1 := by kernel_rfl
@[go_sem] theorem Tryd.tby120 : tby Tryd.prog 120 = 8 := by kernel_rfl
@[go_sem] theorem Tryd.tagg120 : tagg Tryd.prog 120 = false := by kernel_rfl
@[go_sem] theorem Tryd.tyOk120 : tyOk Tryd.prog 120 = true := by kernel_rfl
@[go_sem] theorem Tryd.tzero120 : tzero Tryd.prog 120 = some (.pointer none) := by kernel_rfl
@[go_sem] theorem Tryd.knd121 : knd Tryd.prog 121 = .fn := by kernel_rfl
@[go_sem] theorem Tryd.tsz121 : tsz Tryd.prog 121 = 1 := by kernel_rfl
@[go_sem] theorem Tryd.tby121 : tby Tryd.prog 121 = 8 := by kernel_rfl
@[go_sem] theorem Tryd.tagg121 : tagg Tryd.prog 121 = false := by kernel_rfl
@[go_sem] theorem Tryd.tyOk121 : tyOk Tryd.prog 121 = true := by kernel_rfl
@[go_sem] theorem Tryd.tzero121 : tzero Tryd.prog 121 = some (.nilFunc) := by kernel_rfl
@[go_sem] theorem Tryd.knd122 : knd Tryd.prog 122 = .fn := by kernel_rfl
@[go_sem] theorem Tryd.tsz122 : tsz Tryd.prog 122 = 1 := by kernel_rfl
@[go_sem] theorem Tryd.tby122 : tby Tryd.prog 122 = 8 := by kernel_rfl
@[go_sem] theorem Tryd.tagg122 : tagg Tryd.prog 122 = false := by kernel_rfl
@[go_sem] theorem Tryd.tyOk122 : tyOk Tryd.prog 122 = true := by kernel_rfl
@[go_sem] theorem Tryd.tzero122 : tzero Tryd.prog 122 = some (.nilFunc) := by kernel_rfl
@[go_sem] theorem Tryd.knd123 : knd Tryd.prog 123 = .fn := by kernel_rfl
@[go_sem] theorem Tryd.tsz123 : tsz Tryd.prog 123 = 1 := by kernel_rfl
@[go_sem] theorem Tryd.tby123 : tby Tryd.prog 123 = 8 := by kernel_rfl
@[go_sem] theorem Tryd.tagg123 : tagg Tryd.prog 123 = false := by kernel_rfl
@[go_sem] theorem Tryd.tyOk123 : tyOk Tryd.prog 123 = true := by kernel_rfl
@[go_sem] theorem Tryd.tzero123 : tzero Tryd.prog 123 = some (.nilFunc) := by kernel_rfl
@[go_sem] theorem Tryd.knd124 : knd Tryd.prog 124 = .fn := by kernel_rfl
@[go_sem] theorem Tryd.tsz124 : tsz Tryd.prog 124 = 1 := by kernel_rfl
@[go_sem] theorem Tryd.tby124 : tby Tryd.prog 124 = 8 := by kernel_rfl
@[go_sem] theorem Tryd.tagg124 : tagg Tryd.prog 124 = false := by kernel_rfl
@[go_sem] theorem Tryd.tyOk124 : tyOk Tryd.prog 124 = true := by kernel_rfl
@[go_sem] theorem Tryd.tzero124 : tzero Tryd.prog 124 = some (.nilFunc) := by kernel_rfl
@[go_sem] theorem Tryd.knd125 : knd Tryd.prog 125 = .fn := by kernel_rfl
@[go_sem] theorem Tryd.tsz125 : tsz Tryd.prog 125 = 1 := by kernel_rfl
@[go_sem] theorem Tryd.tby125 : tby Tryd.prog 125 = 8 := by kernel_rfl
@[go_sem] theorem Tryd.tagg125 : tagg Tryd.prog 125 = false := by kernel_rfl
@[go_sem] theorem Tryd.tyOk125 : tyOk Tryd.prog 125 = true := by kernel_rfl
@[go_sem] theorem Tryd.tzero125 : tzero Tryd.prog 125 = some (.nilFunc) := by kernel_rfl
@[go_sem] theorem Tryd.knd126 : knd Tryd.prog 126 = .fn := by kernel_rfl
@[go_sem] theorem Tryd.tsz126 : tsz Tryd.prog 126 = 1 := by kernel_rfl
@[go_sem] theorem Tryd.tby126 : tby Tryd.prog 126 = 8 := by kernel_rfl
@[go_sem] theorem Tryd.tagg126 : tagg Tryd.prog 126 = false := by kernel_rfl
@[go_sem] theorem Tryd.tyOk126 : tyOk Tryd.prog 126 = true := by kernel_rfl
@[go_sem] theorem Tryd.tzero126 : tzero Tryd.prog 126 = some (.nilFunc) := by kernel_rfl
@[go_sem] theorem Tryd.knd127 : knd Tryd.prog 127 = .fn := by kernel_rfl
@[go_sem] theorem Tryd.tsz127 : tsz Tryd.prog 127 = 1 := by kernel_rfl
@[go_sem] theorem Tryd.tby127 : tby Tryd.prog 127 = 8 := by kernel_rfl
@[go_sem] theorem Tryd.tagg127 : tagg Tryd.prog 127 = false := by kernel_rfl
@[go_sem] theorem Tryd.tyOk127 : tyOk Tryd.prog 127 = true := by kernel_rfl
@[go_sem] theorem Tryd.tzero127 : tzero Tryd.prog 127 = some (.nilFunc) := by kernel_rfl
@[go_sem] theorem Tryd.knd128 : knd Tryd.prog 128 = .fn := by kernel_rfl
@[go_sem] theorem Tryd.tsz128 : tsz Tryd.prog 128 = 1 := by kernel_rfl
@[go_sem] theorem Tryd.tby128 : tby Tryd.prog 128 = 8 := by kernel_rfl
@[go_sem] theorem Tryd.tagg128 : tagg Tryd.prog 128 = false := by kernel_rfl
@[go_sem] theorem Tryd.tyOk128 : tyOk Tryd.prog 128 = true := by kernel_rfl
@[go_sem] theorem Tryd.tzero128 : tzero Tryd.prog 128 = some (.nilFunc) := by kernel_rfl
@[go_sem] theorem Tryd.knd129 : knd Tryd.prog 129 = .fn := by kernel_rfl
@[go_sem] theorem Tryd.tsz129 : tsz Tryd.prog 129 = 1 := by kernel_rfl
@[go_sem] theorem Tryd.tby129 : tby Tryd.prog 129 = 8 := by kernel_rfl
@[go_sem] theorem Tryd.tagg129 : tagg Tryd.prog 129 = false := by kernel_rfl
@[go_sem] theorem Tryd.tyOk129 : tyOk Tryd.prog 129 = true := by kernel_rfl
@[go_sem] theorem Tryd.tzero129 : tzero Tryd.prog 129 = some (.nilFunc) := by kernel_rfl
@[go_sem] theorem Tryd.knd130 : knd Tryd.prog 130 = .arr 20 23 := by kernel_rfl
@[go_sem] theorem Tryd.tsz130 : tsz Tryd.prog 130 = 20 := by kernel_rfl
@[go_sem] theorem Tryd.tby130 : tby Tryd.prog 130 = 160 := by kernel_rfl
@[go_sem] theorem Tryd.tagg130 : tagg Tryd.prog 130 = true := by kernel_rfl
@[go_sem] theorem Tryd.tyOk130 : tyOk Tryd.prog 130 = true := by kernel_rfl
@[go_sem] theorem Tryd.tzero130 : tzero Tryd.prog 130 = some (.agg #[.int .u64 0, .int .u64 0, .int .u64 0, .int .u64 0, .int .u64 0, .int .u64 0, .int .u64 0, .int .u64 0, .int .u64 0, .int .u64 0, .int .u64 0, .int .u64 0, .int .u64 0, .int .u64 0, .int .u64 0, .int .u64 0, .int .u64 0, .int .u64 0, .int .u64 0, .int .u64 0]) := by kernel_rfl
@[go_sem] theorem Tryd.bok130 : builtOk Tryd.prog 130 = true := by kernel_rfl
@[go_sem] theorem Tryd.plc130 (i : Nat) : placeV Tryd.prog 130 i = some (i * 1, 1) := by kernel_rfl
@[go_sem] theorem Tryd.knd131 : knd Tryd.prog 131 = .arr 65 5 := by kernel_rfl
@[go_sem] theorem Tryd.tsz131 : tsz Tryd.prog 131 = 65 := by kernel_rfl
@[go_sem] theorem Tryd.tby131 : tby Tryd.prog 131 = 65 := by kernel_rfl
@[go_sem] theorem Tryd.tagg131 : tagg Tryd.prog 131 = true := by kernel_rfl
@[go_sem] theorem Tryd.tyOk131 : tyOk Tryd.prog 131 = true := by kernel_rfl
@[go_sem] theorem Tryd.tzero131 : tzero Tryd.prog 131 = some (.agg #[.int .u8 0, .int .u8 0, .int .u8 0, .int .u8 0, .int .u8 0, .int .u8 0, .int .u8 0, .int .u8 0, .int .u8 0, .int .u8 0, .int .u8 0, .int .u8 0, .int .u8 0, .int .u8 0, .int .u8 0, .int .u8 0, .int .u8 0, .int .u8 0, .int .u8 0, .int .u8 0, .int .u8 0, .int .u8 0, .int .u8 0, .int .u8 0, .int .u8 0, .int .u8 0, .int .u8 0, .int .u8 0, .int .u8 0, .int .u8 0, .int .u8 0, .int .u8 0, .int .u8 0, .int .u8 0, .int .u8 0, .int .u8 0, .int .u8 0, .int .u8 0, .int .u8 0, .int .u8 0, .int .u8 0, .int .u8 0, .int .u8 0, .int .u8 0, .int .u8 0, .int .u8 0, .int .u8 0, .int .u8 0, .int .u8 0, .int .u8 0, .int .u8 0, .int .u8 0, .int .u8 0, .int .u8 0, .int .u8 0, .int .u8 0, .int .u8 0, .int .u8 0, .int .u8 0, .int .u8 0, .int .u8 0, .int .u8 0, .int .u8 0, .int .u8 0, .int .u8 0]) := by kernel_rfl
@[go_sem] theorem Tryd.bok131 : builtOk Tryd.prog 131 = true := by kernel_rfl
@[go_sem] theorem Tryd.plc131 (i : Nat) : placeV Tryd.prog 131 i = some (i * 1, 1) := by kernel_rfl
@[go_sem] theorem Tryd.knd132 : knd Tryd.prog 132 = .ptr 116 := by kernel_rfl
@[go_sem] theorem Tryd.tsz132 : tsz Tryd.prog 132 = 1 := by kernel_rfl
@[go_sem] theorem Tryd.tby132 : tby Tryd.prog 132 = 8 := by kernel_rfl
@[go_sem] theorem Tryd.tagg132 : tagg Tryd.prog 132 = false := by kernel_rfl
@[go_sem] theorem Tryd.tyOk132 : tyOk Tryd.prog 132 = true := by kernel_rfl
@[go_sem] theorem Tryd.tzero132 : tzero Tryd.prog 132 = some (.pointer none) := by kernel_rfl
@[go_sem] theorem Tryd.knd134 : knd Tryd.prog 134 = .fn := by kernel_rfl
@[go_sem] theorem Tryd.tsz134 : tsz Tryd.prog 134 = 1 := by kernel_rfl
@[go_sem] theorem Tryd.tby134 : tby Tryd.prog 134 = 8 := by kernel_rfl
@[go_sem] theorem Tryd.tagg134 : tagg Tryd.prog 134 = false := by kernel_rfl
@[go_sem] theorem Tryd.tyOk134 : tyOk Tryd.prog 134 = true := by kernel_rfl
@[go_sem] theorem Tryd.tzero134 : tzero Tryd.prog 134 = some (.nilFunc) := by kernel_rfl
@[go_sem] theorem Tryd.knd135 : knd Tryd.prog 135 = .fn := by kernel_rfl
@[go_sem] theorem Tryd.tsz135 : tsz Tryd.prog 135 = 1 := by kernel_rfl
@[go_sem] theorem Tryd.tby135 : tby Tryd.prog 135 = 8 := by kernel_rfl
@[go_sem] theorem Tryd.tagg135 : tagg Tryd.prog 135 = false := by kernel_rfl
@[go_sem] theorem Tryd.tyOk135 : tyOk Tryd.prog 135 = true := by kernel_rfl
@[go_sem] theorem Tryd.tzero135 : tzero Tryd.prog 135 = some (.nilFunc) := by kernel_rfl
@[go_sem] theorem Tryd.knd136 : knd Tryd.prog 136 = .fn := by kernel_rfl
@[go_sem] theorem Tryd.tsz136 : tsz Tryd.prog 136 = 1 := by kernel_rfl
@[go_sem] theorem Tryd.tby136 : tby Tryd.prog 136 = 8 := by kernel_rfl
@[go_sem] theorem Tryd.tagg136 : tagg Tryd.prog 136 = false := by kernel_rfl
@[go_sem] theorem Tryd.tyOk136 : tyOk Tryd.prog 136 = true := by kernel_rfl
@[go_sem] theorem Tryd.tzero136 : tzero Tryd.prog 136 = some (.nilFunc) := by kernel_rfl
@[go_sem] theorem Tryd.knd137 : knd Tryd.prog 137 = .fn := by kernel_rfl
@[go_sem] theorem Tryd.tsz137 : tsz Tryd.prog 137 = 1 := by kernel_rfl
@[go_sem] theorem Tryd.tby137 : tby Tryd.prog 137 = 8 := by kernel_rfl
@[go_sem] theorem Tryd.tagg137 : tagg Tryd.prog 137 = false := by kernel_rfl
@[go_sem] theorem Tryd.tyOk137 : tyOk Tryd.prog 137 = true := by kernel_rfl
@[go_sem] theorem Tryd.tzero137 : tzero Tryd.prog 137 = some (.nilFunc) := by kernel_rfl
@[go_sem] theorem Tryd.knd138 : knd Tryd.prog 138 = .arr 32 5 := by kernel_rfl
@[go_sem] theorem Tryd.tsz138 : tsz Tryd.prog 138 = 32 := by kernel_rfl
@[go_sem] theorem Tryd.tby138 : tby Tryd.prog 138 = 32 := by kernel_rfl
@[go_sem] theorem Tryd.tagg138 : tagg Tryd.prog 138 = true := by kernel_rfl
@[go_sem] theorem Tryd.tyOk138 : tyOk Tryd.prog 138 = true := by kernel_rfl
@[go_sem] theorem Tryd.tzero138 : tzero Tryd.prog 138 = some (.agg #[.int .u8 0, .int .u8 0, .int .u8 0, .int .u8 0, .int .u8 0, .int .u8 0, .int .u8 0, .int .u8 0, .int .u8 0, .int .u8 0, .int .u8 0, .int .u8 0, .int .u8 0, .int .u8 0, .int .u8 0, .int .u8 0, .int .u8 0, .int .u8 0, .int .u8 0, .int .u8 0, .int .u8 0, .int .u8 0, .int .u8 0, .int .u8 0, .int .u8 0, .int .u8 0, .int .u8 0, .int .u8 0, .int .u8 0, .int .u8 0, .int .u8 0, .int .u8 0]) := by kernel_rfl
@[go_sem] theorem Tryd.bok138 : builtOk Tryd.prog 138 = true := by kernel_rfl
@[go_sem] theorem Tryd.plc138 (i : Nat) : placeV Tryd.prog 138 i = some (i * 1, 1) := by kernel_rfl
@[go_sem] theorem Tryd.knd139 : knd Tryd.prog 139 = .arr 64 5 := by kernel_rfl
@[go_sem] theorem Tryd.tsz139 : tsz Tryd.prog 139 = 64 := by kernel_rfl
@[go_sem] theorem Tryd.tby139 : tby Tryd.prog 139 = 64 := by kernel_rfl
@[go_sem] theorem Tryd.tagg139 : tagg Tryd.prog 139 = true := by kernel_rfl
@[go_sem] theorem Tryd.tyOk139 : tyOk Tryd.prog 139 = true := by kernel_rfl
@[go_sem] theorem Tryd.tzero139 : tzero Tryd.prog 139 = some (.agg #[.int .u8 0, .int .u8 0, .int .u8 0, .int .u8 0, .int .u8 0, .int .u8 0, .int .u8 0, .int .u8 0, .int .u8 0, .int .u8 0, .int .u8 0, .int .u8 0, .int .u8 0, .int .u8 0, .int .u8 0, .int .u8 0, .int .u8 0, .int .u8 0, .int .u8 0, .int .u8 0, .int .u8 0, .int .u8 0, .int .u8 0, .int .u8 0, .int .u8 0, .int .u8 0, .int .u8 0, .int .u8 0, .int .u8 0, .int .u8 0, .int .u8 0, .int .u8 0, .int .u8 0, .int .u8 0, .int .u8 0, .int .u8 0, .int .u8 0, .int .u8 0, .int .u8 0, .int .u8 0, .int .u8 0, .int .u8 0, .int .u8 0, .int .u8 0, .int .u8 0, .int .u8 0, .int .u8 0, .int .u8 0, .int .u8 0, .int .u8 0, .int .u8 0, .int .u8 0, .int .u8 0, .int .u8 0, .int .u8 0, .int .u8 0, .int .u8 0, .int .u8 0, .int .u8 0, .int .u8 0, .int .u8 0, .int .u8 0, .int .u8 0, .int .u8 0]) := by kernel_rfl
@[go_sem] theorem Tryd.bok139 : builtOk Tryd.prog 139 = true := by kernel_rfl
@[go_sem] theorem Tryd.plc139 (i : Nat) : placeV Tryd.prog 139 i = some (i * 1, 1) := by kernel_rfl
@[go_sem] theorem Tryd.knd140 : knd Tryd.prog 140 = .fn := by kernel_rfl
@[go_sem] theorem Tryd.tsz140 : tsz Tryd.prog 140 = 1 := by kernel_rfl
@[go_sem] theorem Tryd.tby140 : tby Tryd.prog 140 = 8 := by kernel_rfl
@[go_sem] theorem Tryd.tagg140 : tagg Tryd.prog 140 = false := by kernel_rfl
@[go_sem] theorem Tryd.tyOk140 : tyOk Tryd.prog 140 = true := by kernel_rfl
@[go_sem] theorem Tryd.tzero140 : tzero Tryd.prog 140 = some (.nilFunc) := by kernel_rfl
@[go_sem] theorem Tryd.knd143 : knd Tryd.prog 143 = .arr 0 16 := by kernel_rfl
@[go_sem] theorem Tryd.tsz143 : tsz Tryd.prog 143 = 0 := by kernel_rfl
@[go_sem] theorem Tryd.tby143 : tby Tryd.prog 143 = 0 := by kernel_rfl
@[go_sem] theorem Tryd.tagg143 : tagg Tryd.prog 143 = true := by kernel_rfl
@[go_sem] theorem Tryd.tyOk143 : tyOk Tryd.prog 143 = true := by kernel_rfl
@[go_sem] theorem Tryd.tzero143 : tzero Tryd.prog 143 = some (.agg #[]) := by kernel_rfl
@[go_sem] theorem Tryd.bok143 : builtOk Tryd.prog 143 = true := by kernel_rfl
@[go_sem] theorem Tryd.plc143 (i : Nat) : placeV Tryd.prog 143 i = some (i * 1, 1) := by kernel_rfl
@[go_sem] theorem Tryd.knd144 : knd Tryd.prog 144 = .strct := by kernel_rfl
@[go_sem] theorem Tryd.tsz144 : tsz Tryd.prog 144 = 0 := by kernel_rfl
@[go_sem] theorem Tryd.tby144 : tby Tryd.prog 144 = 0 := by kernel_rfl
@[go_sem] theorem Tryd.tagg144 : tagg Tryd.prog 144 = true := by kernel_rfl
@[go_sem] theorem Tryd.tyOk144 : tyOk Tryd.prog 144 = true := by kernel_rfl
@[go_sem] theorem Tryd.tzero144 : tzero Tryd.prog 144 = some (.agg #[]) := by kernel_rfl
@[go_sem] theorem Tryd.bok144 : builtOk Tryd.prog 144 = true := by kernel_rfl
@[go_sem] theorem Tryd.plc144_0 : placeV Tryd.prog 144 0 = some (0, 0) := by kernel_rfl
@[go_sem] theorem Tryd.fld144_0 : fld Tryd.prog 144 0 = some (0, 143) := by kernel_rfl
@[go_sem] theorem Tryd.knd146 : knd Tryd.prog 146 = .fn := by kernel_rfl
@[go_sem] theorem Tryd.tsz146 : tsz Tryd.prog 146 = 1 := by kernel_rfl
@[go_sem] theorem Tryd.tby146 : tby Tryd.prog 146 = 8 := by kernel_rfl
@[go_sem] theorem Tryd.tagg146 : tagg Tryd.prog 146 = false := by kernel_rfl
@[go_sem] theorem Tryd.tyOk146 : tyOk Tryd.prog 146 = true := by kernel_rfl
@[go_sem] theorem Tryd.tzero146 : tzero Tryd.prog 146 = some (.nilFunc) := by kernel_rfl
@[go_sem] theorem Tryd.knd149 : knd Tryd.prog 149 = .fn := by kernel_rfl
@[go_sem] theorem Tryd.tsz149 : tsz Tryd.prog 149 = 1 := by kernel_rfl
@[go_sem] theorem Tryd.tby149 : tby Tryd.prog 149 = 8 := by kernel_rfl
@[go_sem] theorem Tryd.tagg149 : tagg Tryd.prog 149 = false := by kernel_rfl
@[go_sem] theorem Tryd.tyOk149 : tyOk Tryd.prog 149 = true := by kernel_rfl
@[go_sem] theorem Tryd.tzero149 : tzero Tryd.prog 149 = some (.nilFunc) := by kernel_rfl
@[go_sem] theorem Tryd.knd150 : knd Tryd.prog 150 = .ptr 5 := by kernel_rfl
@[go_sem] theorem Tryd.tsz150 : tsz Tryd.prog 150 = 1 := by kernel_rfl
@[go_sem] theorem Tryd.tby150 : tby Tryd.prog 150 = 8 := by kernel_rfl
@[go_sem] theorem Tryd.tagg150 : tagg Tryd.prog 150 = false := by kernel_rfl
@[go_sem] theorem Tryd.tyOk150 : tyOk Tryd.prog 150 = true := by kernel_rfl
@[go_sem] theorem Tryd.tzero150 : tzero Tryd.prog 150 = some (.pointer none) := by kernel_rfl
end Go.Proofs
