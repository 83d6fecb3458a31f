/- Texts of the proof, put together: Ty. -/
import Derived.Test.YtbonmihbgcofpaaProg
import Derived.Test.YtbonmihbgcofpaaGb

/- What the logic asks of the types: by program (gen_ty.py). -/
set_option maxRecDepth 100000
namespace Go.Proofs
open Go Go.Pl
@[go_sem] theorem Try.knd1 : knd Try.prog 1 = .fn := by kernel_rfl
@[go_sem] theorem Try.tsz1 : tsz Try.prog 1 = 1 := by kernel_rfl
@[go_sem] theorem Try.tby1 : tby Try.prog 1 = 8 := by kernel_rfl
@[go_sem] theorem Try.tagg1 : tagg Try.prog 1 = false := by kernel_rfl
@[go_sem] theorem Try.tyOk1 : tyOk Try.prog 1 = true := by kernel_rfl
@[go_sem] theorem Try.tzero1 : tzero Try.prog 1 = some (.nilFunc) := by kernel_rfl
@[go_sem] theorem Try.knd2 : knd Try.prog 2 = .int .i64 := by kernel_rfl
@[go_sem] theorem Try.tsz2 : tsz Try.prog 2 = 1 := by kernel_rfl
@[go_sem] theorem Try.tby2 : tby Try.prog 2 = 8 := by kernel_rfl
@[go_sem] theorem Try.tagg2 : tagg Try.prog 2 = false := by kernel_rfl
@[go_sem] theorem Try.tyOk2 : tyOk Try.prog 2 = true := by kernel_rfl
@[go_sem] theorem Try.tzero2 : tzero Try.prog 2 = some (.int .i64 0) := by kernel_rfl
@[go_sem] theorem Try.knd3 : knd Try.prog 3 = .int .i64 := by kernel_rfl
@[go_sem] theorem Try.tsz3 : tsz Try.prog 3 = 1 := by kernel_rfl
@[go_sem] theorem Try.tby3 : tby Try.prog 3 = 8 := by kernel_rfl
@[go_sem] theorem Try.tagg3 : tagg Try.prog 3 = false := by kernel_rfl
@[go_sem] theorem Try.tyOk3 : tyOk Try.prog 3 = true := by kernel_rfl
@[go_sem] theorem Try.tzero3 : tzero Try.prog 3 = some (.int .i64 0) := by kernel_rfl
@[go_sem] theorem Try.knd4 : knd Try.prog 4 = .bool := by kernel_rfl
@[go_sem] theorem Try.tsz4 : tsz Try.prog 4 = 1 := by kernel_rfl
@[go_sem] theorem Try.tby4 : tby Try.prog 4 = 1 := by kernel_rfl
@[go_sem] theorem Try.tagg4 : tagg Try.prog 4 = false := by kernel_rfl
@[go_sem] theorem Try.tyOk4 : tyOk Try.prog 4 = true := by kernel_rfl
@[go_sem] theorem Try.tzero4 : tzero Try.prog 4 = some (.bool false) := by kernel_rfl
@[go_sem] theorem Try.knd5 : knd Try.prog 5 = .int .u8 := by kernel_rfl
@[go_sem] theorem Try.tsz5 : tsz Try.prog 5 = 1 := by kernel_rfl
@[go_sem] theorem Try.tby5 : tby Try.prog 5 = 1 := by kernel_rfl
@[go_sem] theorem Try.tagg5 : tagg Try.prog 5 = false := by kernel_rfl
@[go_sem] theorem Try.tyOk5 : tyOk Try.prog 5 = true := by kernel_rfl
@[go_sem] theorem Try.tzero5 : tzero Try.prog 5 = some (.int .u8 0) := by kernel_rfl
@[go_sem] theorem Try.knd9 : knd Try.prog 9 = .str := by kernel_rfl
@[go_sem] theorem Try.tsz9 : tsz Try.prog 9 = 1 := by kernel_rfl
@[go_sem] theorem Try.tby9 : tby Try.prog 9 = 16 := by kernel_rfl
@[go_sem] theorem Try.tagg9 : tagg Try.prog 9 = false := by kernel_rfl
@[go_sem] theorem Try.tyOk9 : tyOk Try.prog 9 = true := by kernel_rfl
@[go_sem] theorem Try.tzero9 : tzero Try.prog 9 = some (.string ⟨#[]⟩) := by kernel_rfl
@[go_sem] theorem Try.knd12 : knd Try.prog 12 = .int .u64 := by kernel_rfl
@[go_sem] theorem Try.tsz12 : tsz Try.prog 12 = 1 := by kernel_rfl
@[go_sem] theorem Try.tby12 : tby Try.prog 12 = 8 := by kernel_rfl
@[go_sem] theorem Try.tagg12 : tagg Try.prog 12 = false := by kernel_rfl
@[go_sem] theorem Try.tyOk12 : tyOk Try.prog 12 = true := by kernel_rfl
@[go_sem] theorem Try.tzero12 : tzero Try.prog 12 = some (.int .u64 0) := by kernel_rfl
@[go_sem] theorem Try.knd13 : knd Try.prog 13 = .strct := by kernel_rfl
@[go_sem] theorem Try.tsz13 : tsz Try.prog 13 = 2 := by kernel_rfl
@[go_sem] theorem Try.tby13 : tby Try.prog 13 = 24 := by kernel_rfl
@[go_sem] theorem Try.tagg13 : tagg Try.prog 13 = true := by kernel_rfl
@[go_sem] theorem Try.tyOk13 : tyOk Try.prog 13 = true := by kernel_rfl
@[go_sem] theorem Try.tzero13 : tzero Try.prog 13 = some (.agg #[.string ⟨#[]⟩, .int .u64 0]) := by kernel_rfl
@[go_sem] theorem Try.bok13 : builtOk Try.prog 13 = true := by kernel_rfl
@[go_sem] theorem Try.plc13_0 : placeV Try.prog 13 0 = some (0, 1) := by kernel_rfl
@[go_sem] theorem Try.fld13_0 : fld Try.prog 13 0 = some (0, 9) := by kernel_rfl
@[go_sem] theorem Try.plc13_1 : placeV Try.prog 13 1 = some (1, 1) := by kernel_rfl
@[go_sem] theorem Try.fld13_1 : fld Try.prog 13 1 = some (1, 12) := by kernel_rfl
@[go_sem] theorem Try.knd15 : knd Try.prog 15 = .ptr 156 := by kernel_rfl
@[go_sem] theorem Try.tsz15 : tsz Try.prog 15 = 1 := by kernel_rfl
@[go_sem] theorem Try.tby15 : tby Try.prog 15 = 8 := by kernel_rfl
@[go_sem] theorem Try.tagg15 : tagg Try.prog 15 = false := by kernel_rfl
@[go_sem] theorem Try.tyOk15 : tyOk Try.prog 15 = true := by kernel_rfl
@[go_sem] theorem Try.tzero15 : tzero Try.prog 15 = some (.pointer none) := by kernel_rfl
@[go_sem] theorem Try.knd16 : knd Try.prog 16 = .ptr 159 := by kernel_rfl
@[go_sem] theorem Try.tsz16 : tsz Try.prog 16 = 1 := by kernel_rfl
@[go_sem] theorem Try.tby16 : tby Try.prog 16 = 8 := by kernel_rfl
@[go_sem] theorem Try.tagg16 : tagg Try.prog 16 = false := by kernel_rfl
@[go_sem] theorem Try.tyOk16 : tyOk Try.prog 16 = true := by kernel_rfl
@[go_sem] theorem Try.tzero16 : tzero Try.prog 16 = some (.pointer none) := by kernel_rfl
@[go_sem] theorem Try.knd20 : knd Try.prog 20 = .iface := by kernel_rfl
@[go_sem] theorem Try.tsz20 : tsz Try.prog 20 = 1 := by kernel_rfl
@[go_sem] theorem Try.tby20 : tby Try.prog 20 = 16 := by kernel_rfl
@[go_sem] theorem Try.tagg20 : tagg Try.prog 20 = false := by kernel_rfl
@[go_sem] theorem Try.tyOk20 : tyOk Try.prog 20 = true := by kernel_rfl
@[go_sem] theorem Try.tzero20 : tzero Try.prog 20 = some (.nilIface) := by kernel_rfl
@[go_sem] theorem Try.knd21 : knd Try.prog 21 = .int .i32 := by kernel_rfl
@[go_sem] theorem Try.tsz21 : tsz Try.prog 21 = 1 := by kernel_rfl
@[go_sem] theorem Try.tby21 : tby Try.prog 21 = 4 := by kernel_rfl
@[go_sem] theorem Try.tagg21 : tagg Try.prog 21 = false := by kernel_rfl
@[go_sem] theorem Try.tyOk21 : tyOk Try.prog 21 = true := by kernel_rfl
@[go_sem] theorem Try.tzero21 : tzero Try.prog 21 = some (.int .i32 0) := by kernel_rfl
@[go_sem] theorem Try.knd22 : knd Try.prog 22 = .slice 3 := by kernel_rfl
@[go_sem] theorem Try.tsz22 : tsz Try.prog 22 = 1 := by kernel_rfl
@[go_sem] theorem Try.tby22 : tby Try.prog 22 = 24 := by kernel_rfl
@[go_sem] theorem Try.tagg22 : tagg Try.prog 22 = false := by kernel_rfl
@[go_sem] theorem Try.tyOk22 : tyOk Try.prog 22 = true := by kernel_rfl
@[go_sem] theorem Try.tzero22 : tzero Try.prog 22 = some (.slice none 0 0) := by kernel_rfl
@[go_sem] theorem Try.knd23 : knd Try.prog 23 = .fn := by kernel_rfl
@[go_sem] theorem Try.tsz23 : tsz Try.prog 23 = 1 := by kernel_rfl
@[go_sem] theorem Try.tby23 : tby Try.prog 23 = 8 := by kernel_rfl
@[go_sem] theorem Try.tagg23 : tagg Try.prog 23 = false := by kernel_rfl
@[go_sem] theorem Try.tyOk23 : tyOk Try.prog 23 = true := by kernel_rfl
@[go_sem] theorem Try.tzero23 : tzero Try.prog 23 = some (.nilFunc) := by kernel_rfl
@[go_sem] theorem Try.knd24 : knd Try.prog 24 = .ptr 79 := by kernel_rfl
@[go_sem] theorem Try.tsz24 : tsz Try.prog 24 = 1 := by kernel_rfl
@[go_sem] theorem Try.tby24 : tby Try.prog 24 = 8 := by kernel_rfl
@[go_sem] theorem Try.tagg24 : tagg Try.prog 24 = false := by kernel_rfl
@[go_sem] theorem Try.tyOk24 : tyOk Try.prog 24 = true := by kernel_rfl
@[go_sem] theorem Try.tzero24 : tzero Try.prog 24 = some (.pointer none) := by kernel_rfl
@[go_sem] theorem Try.knd25 : knd Try.prog 25 = .fn := by kernel_rfl
@[go_sem] theorem Try.tsz25 : tsz Try.prog 25 = 1 := by kernel_rfl
@[go_sem] theorem Try.tby25 : tby Try.prog 25 = 8 := by kernel_rfl
@[go_sem] theorem Try.tagg25 : tagg Try.prog 25 = false := by kernel_rfl
@[go_sem] theorem Try.tyOk25 : tyOk Try.prog 25 = true := by kernel_rfl
@[go_sem] theorem Try.tzero25 : tzero Try.prog 25 = some (.nilFunc) := by kernel_rfl
@[go_sem] theorem Try.knd26 : knd Try.prog 26 = .fn := by kernel_rfl
@[go_sem] theorem Try.tsz26 : tsz Try.prog 26 = 1 := by kernel_rfl
@[go_sem] theorem Try.tby26 : tby Try.prog 26 = 8 := by kernel_rfl
@[go_sem] theorem Try.tagg26 : tagg Try.prog 26 = false := by kernel_rfl
@[go_sem] theorem Try.tyOk26 : tyOk Try.prog 26 = true := by kernel_rfl
@[go_sem] theorem Try.tzero26 : tzero Try.prog 26 = some (.nilFunc) := by kernel_rfl
@[go_sem] theorem Try.knd27 : knd Try.prog 27 = .fn := by kernel_rfl
@[go_sem] theorem Try.tsz27 : tsz Try.prog 27 = 1 := by kernel_rfl
@[go_sem] theorem Try.tby27 : tby Try.prog 27 = 8 := by kernel_rfl
@[go_sem] theorem Try.tagg27 : tagg Try.prog 27 = false := by kernel_rfl
@[go_sem] theorem Try.tyOk27 : tyOk Try.prog 27 = true := by kernel_rfl
@[go_sem] theorem Try.tzero27 : tzero Try.prog 27 = some (.nilFunc) := by kernel_rfl
@[go_sem] theorem Try.knd28 : knd Try.prog 28 = .slice 4 := by kernel_rfl
@[go_sem] theorem Try.tsz28 : tsz Try.prog 28 = 1 := by kernel_rfl
@[go_sem] theorem Try.tby28 : tby Try.prog 28 = 24 := by kernel_rfl
@[go_sem] theorem Try.tagg28 : tagg Try.prog 28 = false := by kernel_rfl
@[go_sem] theorem Try.tyOk28 : tyOk Try.prog 28 = true := by kernel_rfl
@[go_sem] theorem Try.tzero28 : tzero Try.prog 28 = some (.slice none 0 0) := by kernel_rfl
@[go_sem] theorem Try.knd29 : knd Try.prog 29 = .int .i64 := by kernel_rfl
@[go_sem] theorem Try.tsz29 : tsz Try.prog 29 = 1 := by kernel_rfl
@[go_sem] theorem Try.tby29 : tby Try.prog 29 = 8 := by kernel_rfl
@[go_sem] theorem Try.tagg29 : tagg Try.prog 29 = false := by kernel_rfl
@[go_sem] theorem Try.tyOk29 : tyOk Try.prog 29 = true := by kernel_rfl
@[go_sem] theorem Try.tzero29 : tzero Try.prog 29 = some (.int .i64 0) := by kernel_rfl
@[go_sem] theorem Try.knd31 : knd Try.prog 31 = .fn := by kernel_rfl
@[go_sem] theorem Try.tsz31 : tsz Try.prog 31 = 1 := by kernel_rfl
@[go_sem] theorem Try.tby31 : tby Try.prog 31 = 8 := by kernel_rfl
@[go_sem] theorem Try.tagg31 : tagg Try.prog 31 = false := by kernel_rfl
@[go_sem] theorem Try.tyOk31 : tyOk Try.prog 31 = true := by kernel_rfl
@[go_sem] theorem Try.tzero31 : tzero Try.prog 31 = some (.nilFunc) := by kernel_rfl
@[go_sem] theorem Try.knd32 : knd Try.prog 32 = .fn := by kernel_rfl
@[go_sem] theorem Try.tsz32 : tsz Try.prog 32 = 1 := by kernel_rfl
@[go_sem] theorem Try.tby32 : tby Try.prog 32 = 8 := by kernel_rfl
@[go_sem] theorem Try.tagg32 : tagg Try.prog 32 = false := by kernel_rfl
@[go_sem] theorem Try.tyOk32 : tyOk Try.prog 32 = true := by kernel_rfl
@[go_sem] theorem Try.tzero32 : tzero Try.prog 32 = some (.nilFunc) := by kernel_rfl
@[go_sem] theorem Try.knd33 : knd Try.prog 33 = .fn := by kernel_rfl
@[go_sem] theorem Try.tsz33 : tsz Try.prog 33 = 1 := by kernel_rfl
@[go_sem] theorem Try.tby33 : tby Try.prog 33 = 8 := by kernel_rfl
@[go_sem] theorem Try.tagg33 : tagg Try.prog 33 = false := by kernel_rfl
@[go_sem] theorem Try.tyOk33 : tyOk Try.prog 33 = true := by kernel_rfl
@[go_sem] theorem Try.tzero33 : tzero Try.prog 33 = some (.nilFunc) := by kernel_rfl
@[go_sem] theorem Try.knd34 : knd Try.prog 34 = .slice 5 := by kernel_rfl
@[go_sem] theorem Try.tsz34 : tsz Try.prog 34 = 1 := by kernel_rfl
@[go_sem] theorem Try.tby34 : tby Try.prog 34 = 24 := by kernel_rfl
@[go_sem] theorem Try.tagg34 : tagg Try.prog 34 = false := by kernel_rfl
@[go_sem] theorem Try.tyOk34 : tyOk Try.prog 34 = true := by kernel_rfl
@[go_sem] theorem Try.tzero34 : tzero Try.prog 34 = some (.slice none 0 0) := by kernel_rfl
@[go_sem] theorem Try.knd35 : knd Try.prog 35 = .fn := by kernel_rfl
@[go_sem] theorem Try.tsz35 : tsz Try.prog 35 = 1 := by kernel_rfl
@[go_sem] theorem Try.tby35 : tby Try.prog 35 = 8 := by kernel_rfl
@[go_sem] theorem Try.tagg35 : tagg Try.prog 35 = false := by kernel_rfl
@[go_sem] theorem Try.tyOk35 : tyOk Try.prog 35 = true := by kernel_rfl
@[go_sem] theorem Try.tzero35 : tzero Try.prog 35 = some (.nilFunc) := by kernel_rfl
@[go_sem] theorem Try.knd36 : knd Try.prog 36 = .fn := by kernel_rfl
@[go_sem] theorem Try.tsz36 : tsz Try.prog 36 = 1 := by kernel_rfl
@[go_sem] theorem Try.tby36 : tby Try.prog 36 = 8 := by kernel_rfl
@[go_sem] theorem Try.tagg36 : tagg Try.prog 36 = false := by kernel_rfl
@[go_sem] theorem Try.tyOk36 : tyOk Try.prog 36 = true := by kernel_rfl
@[go_sem] theorem Try.tzero36 : tzero Try.prog 36 = some (.nilFunc) := by kernel_rfl
@[go_sem] theorem Try.knd37 : knd Try.prog 37 = .fn := by kernel_rfl
@[go_sem] theorem Try.tsz37 : tsz Try.prog 37 = 1 := by kernel_rfl
@[go_sem] theorem Try.tby37 : tby Try.prog 37 = 8 := by kernel_rfl
@[go_sem] theorem Try.tagg37 : tagg Try.prog 37 = false := by kernel_rfl
@[go_sem] theorem Try.tyOk37 : tyOk Try.prog 37 = true := by kernel_rfl
@[go_sem] theorem Try.tzero37 : tzero Try.prog 37 = some (.nilFunc) := by kernel_rfl
@[go_sem] theorem Try.knd39 : knd Try.prog 39 = .fn := by kernel_rfl
@[go_sem] theorem Try.tsz39 : tsz Try.prog 39 = 1 := by kernel_rfl
@[go_sem] theorem Try.tby39 : tby Try.prog 39 = 8 := by kernel_rfl
@[go_sem] theorem Try.tagg39 : tagg Try.prog 39 = false := by kernel_rfl
@[go_sem] theorem Try.tyOk39 : tyOk Try.prog 39 = true := by kernel_rfl
@[go_sem] theorem Try.tzero39 : tzero Try.prog 39 = some (.nilFunc) := by kernel_rfl
@[go_sem] theorem Try.knd41 : knd Try.prog 41 = .fn := by kernel_rfl
@[go_sem] theorem Try.tsz41 : tsz Try.prog 41 = 1 := by kernel_rfl
@[go_sem] theorem Try.tby41 : tby Try.prog 41 = 8 := by kernel_rfl
@[go_sem] theorem Try.tagg41 : tagg Try.prog 41 = false := by kernel_rfl
@[go_sem] theorem Try.tyOk41 : tyOk Try.prog 41 = true := by kernel_rfl
@[go_sem] theorem Try.tzero41 : tzero Try.prog 41 = some (.nilFunc) := by kernel_rfl
@[go_sem] theorem Try.knd42 : knd Try.prog 42 = .fn := by kernel_rfl
@[go_sem] theorem Try.tsz42 : tsz Try.prog 42 = 1 := by kernel_rfl
@[go_sem] theorem Try.tby42 : tby Try.prog 42 = 8 := by kernel_rfl
@[go_sem] theorem Try.tagg42 : tagg Try.prog 42 = false := by kernel_rfl
@[go_sem] theorem Try.tyOk42 : tyOk Try.prog 42 = true := by kernel_rfl
@[go_sem] theorem Try.tzero42 : tzero Try.prog 42 = some (.nilFunc) := by kernel_rfl
@[go_sem] theorem Try.knd43 : knd Try.prog 43 = .fn := by kernel_rfl
@[go_sem] theorem Try.tsz43 : tsz Try.prog 43 = 1 := by kernel_rfl
@[go_sem] theorem Try.tby43 : tby Try.prog 43 = 8 := by kernel_rfl
@[go_sem] theorem Try.tagg43 : tagg Try.prog 43 = false := by kernel_rfl
@[go_sem] theorem Try.tyOk43 : tyOk Try.prog 43 = true := by kernel_rfl
@[go_sem] theorem Try.tzero43 : tzero Try.prog 43 = some (.nilFunc) := by kernel_rfl
@[go_sem] theorem Try.knd44 : knd Try.prog 44 = .fn := by kernel_rfl
@[go_sem] theorem Try.tsz44 : tsz Try.prog 44 = 1 := by kernel_rfl
@[go_sem] theorem Try.tby44 : tby Try.prog 44 = 8 := by kernel_rfl
@[go_sem] theorem Try.tagg44 : tagg Try.prog 44 = false := by kernel_rfl
@[go_sem] theorem Try.tyOk44 : tyOk Try.prog 44 = true := by kernel_rfl
@[go_sem] theorem Try.tzero44 : tzero Try.prog 44 = some (.nilFunc) := by kernel_rfl
@[go_sem] theorem Try.knd45 : knd Try.prog 45 = .fn := by kernel_rfl
@[go_sem] theorem Try.tsz45 : tsz Try.prog 45 = 1 := by kernel_rfl
@[go_sem] theorem Try.tby45 : tby Try.prog 45 = 8 := by kernel_rfl
@[go_sem] theorem Try.tagg45 : tagg Try.prog 45 = false := by kernel_rfl
@[go_sem] theorem Try.tyOk45 : tyOk Try.prog 45 = true := by kernel_rfl
@[go_sem] theorem Try.tzero45 : tzero Try.prog 45 = some (.nilFunc) := by kernel_rfl
@[go_sem] theorem Try.knd46 : knd Try.prog 46 = .slice 49 := by kernel_rfl
@[go_sem] theorem Try.tsz46 : tsz Try.prog 46 = 1 := by kernel_rfl
@[go_sem] theorem Try.tby46 : tby Try.prog 46 = 24 := by kernel_rfl
@[go_sem] theorem Try.tagg46 : tagg Try.prog 46 = false := by kernel_rfl
@[go_sem] theorem Try.tyOk46 : tyOk Try.prog 46 = true := by kernel_rfl
@[go_sem] theorem Try.tzero46 : tzero Try.prog 46 = some (.slice none 0 0) := by kernel_rfl
@[go_sem] theorem Try.knd47 : knd Try.prog 47 = .fn := by kernel_rfl
@[go_sem] theorem Try.tsz47 : tsz Try.prog 47 = 1 := by kernel_rfl
@[go_sem] theorem Try.tby47 : tby Try.prog 47 = 8 := by kernel_rfl
@[go_sem] theorem Try.tagg47 : tagg Try.prog 47 = false := by kernel_rfl
@[go_sem] theorem Try.tyOk47 : tyOk Try.prog 47 = true := by kernel_rfl
@[go_sem] theorem Try.tzero47 : tzero Try.prog 47 = some (.nilFunc) := by kernel_rfl
@[go_sem] theorem Try.knd48 : knd Try.prog 48 = .strct := by kernel_rfl
@[go_sem] theorem Try.tsz48 : tsz Try.prog 48 = 2 := by kernel_rfl
@[go_sem] theorem Try.tby48 : tby Try.prog 48 = 16 := by kernel_rfl
@[go_sem] theorem Try.tagg48 : tagg Try.prog 48 = true := by kernel_rfl
@[go_sem] theorem Try.tyOk48 : tyOk Try.prog 48 = true := by kernel_rfl
@[go_sem] theorem Try.tzero48 : tzero Try.prog 48 = some (.agg #[.int .i64 0, .int .i64 0]) := by kernel_rfl
@[go_sem] theorem Try.bok48 : builtOk Try.prog 48 = true := by kernel_rfl
@[go_sem] theorem Try.plc48_0 : placeV Try.prog 48 0 = some (0, 1) := by kernel_rfl
@[go_sem] theorem Try.fld48_0 : fld Try.prog 48 0 = some (0, 2) := by kernel_rfl
@[go_sem] theorem Try.plc48_1 : placeV Try.prog 48 1 = some (1, 1) := by kernel_rfl
@[go_sem] theorem Try.fld48_1 : fld Try.prog 48 1 = some (1, 3) := by kernel_rfl
@[go_sem] theorem Try.knd49 : knd Try.prog 49 = .strct := by kernel_rfl
@[go_sem] theorem Try.tsz49 : tsz Try.prog 49 = 2 := by kernel_rfl
@[go_sem] theorem Try.tby49 : tby Try.prog 49 = 16 := by kernel_rfl
@[go_sem] theorem Try.tagg49 : tagg Try.prog 49 = true := by kernel_rfl
@[go_sem] theorem Try.tyOk49 : tyOk Try.prog 49 = true := by kernel_rfl
@[go_sem] theorem Try.tzero49 : tzero Try.prog 49 = some (.agg #[.int .i64 0, .int .i64 0]) := by kernel_rfl
@[go_sem] theorem Try.bok49 : builtOk Try.prog 49 = true := by kernel_rfl
@[go_sem] theorem Try.plc49_0 : placeV Try.prog 49 0 = some (0, 1) := by kernel_rfl
@[go_sem] theorem Try.fld49_0 : fld Try.prog 49 0 = some (0, 2) := by kernel_rfl
@[go_sem] theorem Try.plc49_1 : placeV Try.prog 49 1 = some (1, 1) := by kernel_rfl
@[go_sem] theorem Try.fld49_1 : fld Try.prog 49 1 = some (1, 3) := by kernel_rfl
@[go_sem] theorem Try.eqOk49 : eqOk Try.prog 49 = true := by kernel_rfl
@[go_sem] theorem Try.fkinds49 : fkinds Try.prog 49 = [.int .i64, .int .i64] := by kernel_rfl
@[go_sem] theorem Try.knd50 : knd Try.prog 50 = .arr 2 3 := by kernel_rfl
@[go_sem] theorem Try.tsz50 : tsz Try.prog 50 = 2 := by kernel_rfl
@[go_sem] theorem Try.tby50 : tby Try.prog 50 = 16 := by kernel_rfl
@[go_sem] theorem Try.tagg50 : tagg Try.prog 50 = true := by kernel_rfl
@[go_sem] theorem Try.tyOk50 : tyOk Try.prog 50 = true := by kernel_rfl
@[go_sem] theorem Try.tzero50 : tzero Try.prog 50 = some (.agg #[.int .i64 0, .int .i64 0]) := by kernel_rfl
@[go_sem] theorem Try.bok50 : builtOk Try.prog 50 = true := by kernel_rfl
@[go_sem] theorem Try.plc50 (i : Nat) : placeV Try.prog 50 i = some (i * 1, 1) := by kernel_rfl
@[go_sem] theorem Try.knd51 : knd Try.prog 51 = .strct := by kernel_rfl
@[go_sem] theorem Try.tsz51 : tsz Try.prog 51 = 2 := by kernel_rfl
@[go_sem] theorem Try.tby51 : tby Try.prog 51 = 32 := by kernel_rfl
@[go_sem] theorem Try.tagg51 : tagg Try.prog 51 = true := by kernel_rfl
@[go_sem] theorem Try.tyOk51 : tyOk Try.prog 51 = true := by kernel_rfl
@[go_sem] theorem Try.tzero51 : tzero Try.prog 51 = some (.agg #[.int .i64 0, .slice none 0 0]) := by kernel_rfl
@[go_sem] theorem Try.bok51 : builtOk Try.prog 51 = true := by kernel_rfl
@[go_sem] theorem Try.plc51_0 : placeV Try.prog 51 0 = some (0, 1) := by kernel_rfl
@[go_sem] theorem Try.fld51_0 : fld Try.prog 51 0 = some (0, 2) := by kernel_rfl
@[go_sem] theorem Try.plc51_1 : placeV Try.prog 51 1 = some (1, 1) := by kernel_rfl
@[go_sem] theorem Try.fld51_1 : fld Try.prog 51 1 = some (1, 46) := by kernel_rfl
@[go_sem] theorem Try.knd52 : knd Try.prog 52 = .strct := by kernel_rfl
@[go_sem] theorem Try.tsz52 : tsz Try.prog 52 = 2 := by kernel_rfl
@[go_sem] theorem Try.tby52 : tby Try.prog 52 = 32 := by kernel_rfl
@[go_sem] theorem Try.tagg52 : tagg Try.prog 52 = true := by kernel_rfl
@[go_sem] theorem Try.tyOk52 : tyOk Try.prog 52 = true := by kernel_rfl
@[go_sem] theorem Try.tzero52 : tzero Try.prog 52 = some (.agg #[.int .i64 0, .slice none 0 0]) := by kernel_rfl
@[go_sem] theorem Try.bok52 : builtOk Try.prog 52 = true := by kernel_rfl
@[go_sem] theorem Try.plc52_0 : placeV Try.prog 52 0 = some (0, 1) := by kernel_rfl
@[go_sem] theorem Try.fld52_0 : fld Try.prog 52 0 = some (0, 2) := by kernel_rfl
@[go_sem] theorem Try.plc52_1 : placeV Try.prog 52 1 = some (1, 1) := by kernel_rfl
@[go_sem] theorem Try.fld52_1 : fld Try.prog 52 1 = some (1, 46) := by kernel_rfl
@[go_sem] theorem Try.knd53 : knd Try.prog 53 = .fn := by kernel_rfl
@[go_sem] theorem Try.tsz53 : tsz Try.prog 53 = 1 := by kernel_rfl
@[go_sem] theorem Try.tby53 : tby Try.prog 53 = 8 := by kernel_rfl
@[go_sem] theorem Try.tagg53 : tagg Try.prog 53 = false := by kernel_rfl
@[go_sem] theorem Try.tyOk53 : tyOk Try.prog 53 = true := by kernel_rfl
@[go_sem] theorem Try.tzero53 : tzero Try.prog 53 = some (.nilFunc) := by kernel_rfl
@[go_sem] theorem Try.knd54 : knd Try.prog 54 = .fn := by kernel_rfl
@[go_sem] theorem Try.tsz54 : tsz Try.prog 54 = 1 := by kernel_rfl
@[go_sem] theorem Try.tby54 : tby Try.prog 54 = 8 := by kernel_rfl
@[go_sem] theorem Try.tagg54 : tagg Try.prog 54 = false := by kernel_rfl
@[go_sem] theorem Try.tyOk54 : tyOk Try.prog 54 = true := by kernel_rfl
@[go_sem] theorem Try.tzero54 : tzero Try.prog 54 = some (.nilFunc) := by kernel_rfl
@[go_sem] theorem Try.knd55 : knd Try.prog 55 = .ptr 99 := by kernel_rfl
@[go_sem] theorem Try.tsz55 : tsz Try.prog 55 = 1 := by kernel_rfl
@[go_sem] theorem Try.tby55 : tby Try.prog 55 = 8 := by kernel_rfl
@[go_sem] theorem Try.tagg55 : tagg Try.prog 55 = false := by kernel_rfl
@[go_sem] theorem Try.tyOk55 : tyOk Try.prog 55 = true := by kernel_rfl
@[go_sem] theorem Try.tzero55 : tzero Try.prog 55 = some (.pointer none) := by kernel_rfl
@[go_sem] theorem Try.knd56 : knd Try.prog 56 = .fn := by kernel_rfl
@[go_sem] theorem Try.tsz56 : tsz Try.prog 56 = 1 := by kernel_rfl
@[go_sem] theorem Try.tby56 : tby Try.prog 56 = 8 := by kernel_rfl
@[go_sem] theorem Try.tagg56 : tagg Try.prog 56 = false := by kernel_rfl
@[go_sem] theorem Try.tyOk56 : tyOk Try.prog 56 = true := by kernel_rfl
@[go_sem] theorem Try.tzero56 : tzero Try.prog 56 = some (.nilFunc) := by kernel_rfl
@[go_sem] theorem Try.knd57 : knd Try.prog 57 = .strct := by kernel_rfl
@[go_sem] theorem Try.tsz57 : tsz Try.prog 57 = 2 := by kernel_rfl
@[go_sem] theorem Try.tby57 : tby Try.prog 57 = 24 := by kernel_rfl
@[go_sem] theorem Try.tagg57 : tagg Try.prog 57 = true := by kernel_rfl
@[go_sem] theorem Try.tyOk57 : tyOk Try.prog 57 = true := by kernel_rfl
@[go_sem] theorem Try.tzero57 : tzero Try.prog 57 = some (.agg #[.string ⟨#[]⟩, .int .i64 0]) := by kernel_rfl
@[go_sem] theorem Try.bok57 : builtOk Try.prog 57 = true := by kernel_rfl
@[go_sem] theorem Try.plc57_0 : placeV Try.prog 57 0 = some (0, 1) := by kernel_rfl
@[go_sem] theorem Try.fld57_0 : fld Try.prog 57 0 = some (0, 9) := by kernel_rfl
@[go_sem] theorem Try.plc57_1 : placeV Try.prog 57 1 = some (1, 1) := by kernel_rfl
@[go_sem] theorem Try.fld57_1 : fld Try.prog 57 1 = some (1, 3) := by kernel_rfl
@[go_sem] theorem Try.knd58 : knd Try.prog 58 = .strct := by kernel_rfl
@[go_sem] theorem Try.tsz58 : tsz Try.prog 58 = 2 := by kernel_rfl
@[go_sem] theorem Try.tby58 : tby Try.prog 58 = 24 := by kernel_rfl
@[go_sem] theorem Try.tagg58 : tagg Try.prog 58 = true := by kernel_rfl
@[go_sem] theorem Try.tyOk58 : tyOk Try.prog 58 = true := by kernel_rfl
@[go_sem] theorem Try.tzero58 : tzero Try.prog 58 = some (.agg #[.string ⟨#[]⟩, .int .i64 0]) := by kernel_rfl
@[go_sem] theorem Try.bok58 : builtOk Try.prog 58 = true := by kernel_rfl
@[go_sem] theorem Try.plc58_0 : placeV Try.prog 58 0 = some (0, 1) := by kernel_rfl
@[go_sem] theorem Try.fld58_0 : fld Try.prog 58 0 = some (0, 9) := by kernel_rfl
@[go_sem] theorem Try.plc58_1 : placeV Try.prog 58 1 = some (1, 1) := by kernel_rfl
@[go_sem] theorem Try.fld58_1 : fld Try.prog 58 1 = some (1, 3) := by kernel_rfl
@[go_sem] theorem Try.eqOk58 : eqOk Try.prog 58 = true := by kernel_rfl
@[go_sem] theorem Try.fkinds58 : fkinds Try.prog 58 = [.str, .int .i64] := by kernel_rfl
@[go_sem] theorem Try.knd59 : knd Try.prog 59 = .fn := by kernel_rfl
@[go_sem] theorem Try.tsz59 : tsz Try.prog 59 = 1 := by kernel_rfl
@[go_sem] theorem Try.tby59 : tby Try.prog 59 = 8 := by kernel_rfl
@[go_sem] theorem Try.tagg59 : tagg Try.prog 59 = false := by kernel_rfl
@[go_sem] theorem Try.tyOk59 : tyOk Try.prog 59 = true := by kernel_rfl
@[go_sem] theorem Try.tzero59 : tzero Try.prog 59 = some (.nilFunc) := by kernel_rfl
@[go_sem] theorem Try.knd60 : knd Try.prog 60 = .fn := by kernel_rfl
@[go_sem] theorem Try.tsz60 : tsz Try.prog 60 = 1 := by kernel_rfl
@[go_sem] theorem Try.tby60 : tby Try.prog 60 = 8 := by kernel_rfl
@[go_sem] theorem Try.tagg60 : tagg Try.prog 60 = false := by kernel_rfl
@[go_sem] theorem Try.tyOk60 : tyOk Try.prog 60 = true := by kernel_rfl
@[go_sem] theorem Try.tzero60 : tzero Try.prog 60 = some (.nilFunc) := by kernel_rfl
@[go_sem] theorem Try.knd62 : knd Try.prog 62 = .fn := by kernel_rfl
@[go_sem] theorem Try.tsz62 : tsz Try.prog 62 = 1 := by kernel_rfl
@[go_sem] theorem Try.tby62 : tby Try.prog 62 = 8 := by kernel_rfl
@[go_sem] theorem Try.tagg62 : tagg Try.prog 62 = false := by kernel_rfl
@[go_sem] theorem Try.tyOk62 : tyOk Try.prog 62 = true := by kernel_rfl
@[go_sem] theorem Try.tzero62 : tzero Try.prog 62 = some (.nilFunc) := by kernel_rfl
@[go_sem] theorem Try.knd64 : knd Try.prog 64 = .fn := by kernel_rfl
@[go_sem] theorem Try.tsz64 : tsz Try.prog 64 = 1 := by kernel_rfl
@[go_sem] theorem Try.tby64 : tby Try.prog 64 = 8 := by kernel_rfl
@[go_sem] theorem Try.tagg64 : tagg Try.prog 64 = false := by kernel_rfl
@[go_sem] theorem Try.tyOk64 : tyOk Try.prog 64 = true := by kernel_rfl
@[go_sem] theorem Try.tzero64 : tzero Try.prog 64 = some (.nilFunc) := by kernel_rfl
@[go_sem] theorem Try.knd65 : knd Try.prog 65 = .fn := by kernel_rfl
@[go_sem] theorem Try.tsz65 : tsz Try.prog 65 = 1 := by kernel_rfl
@[go_sem] theorem Try.tby65 : tby Try.prog 65 = 8 := by kernel_rfl
@[go_sem] theorem Try.tagg65 : tagg Try.prog 65 = false := by kernel_rfl
@[go_sem] theorem Try.tyOk65 : tyOk Try.prog 65 = true := by kernel_rfl
@[go_sem] theorem Try.tzero65 : tzero Try.prog 65 = some (.nilFunc) := by kernel_rfl
@[go_sem] theorem Try.knd66 : knd Try.prog 66 = .slice 72 := by kernel_rfl
@[go_sem] theorem Try.tsz66 : tsz Try.prog 66 = 1 := by kernel_rfl
@[go_sem] theorem Try.tby66 : tby Try.prog 66 = 24 := by kernel_rfl
@[go_sem] theorem Try.tagg66 : tagg Try.prog 66 = false := by kernel_rfl
@[go_sem] theorem Try.tyOk66 : tyOk Try.prog 66 = true := by kernel_rfl
@[go_sem] theorem Try.tzero66 : tzero Try.prog 66 = some (.slice none 0 0) := by kernel_rfl
@[go_sem] theorem Try.knd67 : knd Try.prog 67 = .fn := by kernel_rfl
@[go_sem] theorem Try.tsz67 : tsz Try.prog 67 = 1 := by kernel_rfl
@[go_sem] theorem Try.tby67 : tby Try.prog 67 = 8 := by kernel_rfl
@[go_sem] theorem Try.tagg67 : tagg Try.prog 67 = false := by kernel_rfl
@[go_sem] theorem Try.tyOk67 : tyOk Try.prog 67 = true := by kernel_rfl
@[go_sem] theorem Try.tzero67 : tzero Try.prog 67 = some (.nilFunc) := by kernel_rfl
@[go_sem] theorem Try.knd68 : knd Try.prog 68 = .fn := by kernel_rfl
@[go_sem] theorem Try.tsz68 : tsz Try.prog 68 = 1 := by kernel_rfl
@[go_sem] theorem Try.tby68 : tby Try.prog 68 = 8 := by kernel_rfl
@[go_sem] theorem Try.tagg68 : tagg Try.prog 68 = false := by kernel_rfl
@[go_sem] theorem Try.tyOk68 : tyOk Try.prog 68 = true := by kernel_rfl
@[go_sem] theorem Try.tzero68 : tzero Try.prog 68 = some (.nilFunc) := by kernel_rfl
@[go_sem] theorem Try.knd69 : knd Try.prog 69 = .fn := by kernel_rfl
@[go_sem] theorem Try.tsz69 : tsz Try.prog 69 = 1 := by kernel_rfl
@[go_sem] theorem Try.tby69 : tby Try.prog 69 = 8 := by kernel_rfl
@[go_sem] theorem Try.tagg69 : tagg Try.prog 69 = false := by kernel_rfl
@[go_sem] theorem Try.tyOk69 : tyOk Try.prog 69 = true := by kernel_rfl
@[go_sem] theorem Try.tzero69 : tzero Try.prog 69 = some (.nilFunc) := by kernel_rfl
@[go_sem] theorem Try.knd70 : knd Try.prog 70 = .ptr 52 := by kernel_rfl
@[go_sem] theorem Try.tsz70 : tsz Try.prog 70 = 1 := by kernel_rfl
@[go_sem] theorem Try.tby70 : tby Try.prog 70 = 8 := by kernel_rfl
@[go_sem] theorem Try.tagg70 : tagg Try.prog 70 = false := by kernel_rfl
@[go_sem] theorem Try.tyOk70 : tyOk Try.prog 70 = true := by kernel_rfl
@[go_sem] theorem Try.tzero70 : tzero Try.prog 70 = some (.pointer none) := by kernel_rfl
@[go_sem] theorem Try.knd71 : knd Try.prog 71 = .strct := by kernel_rfl
@[go_sem] theorem Try.tsz71 : tsz Try.prog 71 = 3 := by kernel_rfl
@[go_sem] theorem Try.tby71 : tby Try.prog 71 = 24 := by kernel_rfl
@[go_sem] theorem Try.tagg71 : tagg Try.prog 71 = true := by kernel_rfl
@[go_sem] theorem Try.tyOk71 : tyOk Try.prog 71 = true := by kernel_rfl
@[go_sem] theorem Try.tzero71 : tzero Try.prog 71 = some (.agg #[.int .u8 0, .int .i64 0, .int .i64 0]) := by kernel_rfl
@[go_sem] theorem Try.bok71 : builtOk Try.prog 71 = true := by kernel_rfl
@[go_sem] theorem Try.plc71_0 : placeV Try.prog 71 0 = some (0, 1) := by kernel_rfl
@[go_sem] theorem Try.fld71_0 : fld Try.prog 71 0 = some (0, 5) := by kernel_rfl
@[go_sem] theorem Try.plc71_1 : placeV Try.prog 71 1 = some (1, 1) := by kernel_rfl
@[go_sem] theorem Try.fld71_1 : fld Try.prog 71 1 = some (1, 2) := by kernel_rfl
@[go_sem] theorem Try.plc71_2 : placeV Try.prog 71 2 = some (2, 1) := by kernel_rfl
@[go_sem] theorem Try.fld71_2 : fld Try.prog 71 2 = some (2, 3) := by kernel_rfl
@[go_sem] theorem Try.knd72 : knd Try.prog 72 = .strct := by kernel_rfl
@[go_sem] theorem Try.tsz72 : tsz Try.prog 72 = 3 := by kernel_rfl
@[go_sem] theorem Try.tby72 : tby Try.prog 72 = 24 := by kernel_rfl
@[go_sem] theorem Try.tagg72 : tagg Try.prog 72 = true := by kernel_rfl
@[go_sem] theorem Try.tyOk72 : tyOk Try.prog 72 = true := by kernel_rfl
@[go_sem] theorem Try.tzero72 : tzero Try.prog 72 = some (.agg #[.int .u8 0, .int .i64 0, .int .i64 0]) := by kernel_rfl
@[go_sem] theorem Try.bok72 : builtOk Try.prog 72 = true := by kernel_rfl
@[go_sem] theorem Try.plc72_0 : placeV Try.prog 72 0 = some (0, 1) := by kernel_rfl
@[go_sem] theorem Try.fld72_0 : fld Try.prog 72 0 = some (0, 5) := by kernel_rfl
@[go_sem] theorem Try.plc72_1 : placeV Try.prog 72 1 = some (1, 1) := by kernel_rfl
@[go_sem] theorem Try.fld72_1 : fld Try.prog 72 1 = some (1, 2) := by kernel_rfl
@[go_sem] theorem Try.plc72_2 : placeV Try.prog 72 2 = some (2, 1) := by kernel_rfl
@[go_sem] theorem Try.fld72_2 : fld Try.prog 72 2 = some (2, 3) := by kernel_rfl
@[go_sem] theorem Try.eqOk72 : eqOk Try.prog 72 = true := by kernel_rfl
@[go_sem] theorem Try.fkinds72 : fkinds Try.prog 72 = [.int .u8, .int .i64, .int .i64] := by kernel_rfl
@[go_sem] theorem Try.knd73 : knd Try.prog 73 = .fn := by kernel_rfl
@[go_sem] theorem Try.tsz73 : tsz Try.prog 73 = 1 := by kernel_rfl
@[go_sem] theorem Try.tby73 : tby Try.prog 73 = 8 := by kernel_rfl
@[go_sem] theorem Try.tagg73 : tagg Try.prog 73 = false := by kernel_rfl
@[go_sem] theorem Try.tyOk73 : tyOk Try.prog 73 = true := by kernel_rfl
@[go_sem] theorem Try.tzero73 : tzero Try.prog 73 = some (.nilFunc) := by kernel_rfl
@[go_sem] theorem Try.knd74 : knd Try.prog 74 = .slice 85 := by kernel_rfl
@[go_sem] theorem Try.tsz74 : tsz Try.prog 74 = 1 := by kernel_rfl
@[go_sem] theorem Try.tby74 : tby Try.prog 74 = 24 := by kernel_rfl
@[go_sem] theorem Try.tagg74 : tagg Try.prog 74 = false := by kernel_rfl
@[go_sem] theorem Try.tyOk74 : tyOk Try.prog 74 = true := by kernel_rfl
@[go_sem] theorem Try.tzero74 : tzero Try.prog 74 = some (.slice none 0 0) := by kernel_rfl
@[go_sem] theorem Try.knd75 : knd Try.prog 75 = .strct := by kernel_rfl
@[go_sem] theorem Try.tsz75 : tsz Try.prog 75 = 2 := by kernel_rfl
@[go_sem] theorem Try.tby75 : tby Try.prog 75 = 32 := by kernel_rfl
@[go_sem] theorem Try.tagg75 : tagg Try.prog 75 = true := by kernel_rfl
@[go_sem] theorem Try.tyOk75 : tyOk Try.prog 75 = true := by kernel_rfl
@[go_sem] theorem Try.tzero75 : tzero Try.prog 75 = some (.agg #[.slice none 0 0, .nilFunc]) := by kernel_rfl
@[go_sem] theorem Try.bok75 : builtOk Try.prog 75 = true := by kernel_rfl
@[go_sem] theorem Try.plc75_0 : placeV Try.prog 75 0 = some (0, 1) := by kernel_rfl
@[go_sem] theorem Try.fld75_0 : fld Try.prog 75 0 = some (0, 74) := by kernel_rfl
@[go_sem] theorem Try.plc75_1 : placeV Try.prog 75 1 = some (1, 1) := by kernel_rfl
@[go_sem] theorem Try.fld75_1 : fld Try.prog 75 1 = some (1, 26) := by kernel_rfl
@[go_sem] theorem Try.knd76 : knd Try.prog 76 = .strct := by kernel_rfl
@[go_sem] theorem Try.tsz76 : tsz Try.prog 76 = 2 := by kernel_rfl
@[go_sem] theorem Try.tby76 : tby Try.prog 76 = 32 := by kernel_rfl
@[go_sem] theorem Try.tagg76 : tagg Try.prog 76 = true := by kernel_rfl
@[go_sem] theorem Try.tyOk76 : tyOk Try.prog 76 = true := by kernel_rfl
@[go_sem] theorem Try.tzero76 : tzero Try.prog 76 = some (.agg #[.slice none 0 0, .nilFunc]) := by kernel_rfl
@[go_sem] theorem Try.bok76 : builtOk Try.prog 76 = true := by kernel_rfl
@[go_sem] theorem Try.plc76_0 : placeV Try.prog 76 0 = some (0, 1) := by kernel_rfl
@[go_sem] theorem Try.fld76_0 : fld Try.prog 76 0 = some (0, 74) := by kernel_rfl
@[go_sem] theorem Try.plc76_1 : placeV Try.prog 76 1 = some (1, 1) := by kernel_rfl
@[go_sem] theorem Try.fld76_1 : fld Try.prog 76 1 = some (1, 26) := by kernel_rfl
@[go_sem] theorem Try.knd77 : knd Try.prog 77 = .map 2 85 := by kernel_rfl
@[go_sem] theorem Try.tsz77 : tsz Try.prog 77 = 1 := by kernel_rfl
@[go_sem] theorem Try.tby77 : tby Try.prog 77 = 8 := by kernel_rfl
@[go_sem] theorem Try.tagg77 : tagg Try.prog 77 = false := by kernel_rfl
@[go_sem] theorem Try.tyOk77 : tyOk Try.prog 77 = true := by kernel_rfl
@[go_sem] theorem Try.tzero77 : tzero Try.prog 77 = some (.map none) := by kernel_rfl
@[go_sem] theorem Try.knd78 : knd Try.prog 78 = .strct := by kernel_rfl
@[go_sem] theorem Try.tsz78 : tsz Try.prog 78 = 4 := by kernel_rfl
@[go_sem] theorem Try.tby78 : tby Try.prog 78 = 48 := by kernel_rfl
@[go_sem] theorem Try.tagg78 : tagg Try.prog 78 = true := by kernel_rfl
@[go_sem] theorem Try.tyOk78 : tyOk Try.prog 78 = true := by kernel_rfl
@[go_sem] theorem Try.tzero78 : tzero Try.prog 78 = some (.agg #[.slice none 0 0, .nilFunc, .map none, .int .i64 0]) := by kernel_rfl
@[go_sem] theorem Try.bok78 : builtOk Try.prog 78 = true := by kernel_rfl
@[go_sem] theorem Try.plc78_0 : placeV Try.prog 78 0 = some (0, 2) := by kernel_rfl
@[go_sem] theorem Try.fld78_0 : fld Try.prog 78 0 = some (0, 76) := by kernel_rfl
@[go_sem] theorem Try.plc78_1 : placeV Try.prog 78 1 = some (2, 1) := by kernel_rfl
@[go_sem] theorem Try.fld78_1 : fld Try.prog 78 1 = some (2, 77) := by kernel_rfl
@[go_sem] theorem Try.plc78_2 : placeV Try.prog 78 2 = some (3, 1) := by kernel_rfl
@[go_sem] theorem Try.fld78_2 : fld Try.prog 78 2 = some (3, 2) := by kernel_rfl
@[go_sem] theorem Try.knd79 : knd Try.prog 79 = .strct := by kernel_rfl
@[go_sem] theorem Try.tsz79 : tsz Try.prog 79 = 4 := by kernel_rfl
@[go_sem] theorem Try.tby79 : tby Try.prog 79 = 48 := by kernel_rfl
@[go_sem] theorem Try.tagg79 : tagg Try.prog 79 = true := by kernel_rfl
@[go_sem] theorem Try.tyOk79 : tyOk Try.prog 79 = true := by kernel_rfl
@[go_sem] theorem Try.tzero79 : tzero Try.prog 79 = some (.agg #[.slice none 0 0, .nilFunc, .map none, .int .i64 0]) := by kernel_rfl
@[go_sem] theorem Try.bok79 : builtOk Try.prog 79 = true := by kernel_rfl
@[go_sem] theorem Try.plc79_0 : placeV Try.prog 79 0 = some (0, 2) := by kernel_rfl
@[go_sem] theorem Try.fld79_0 : fld Try.prog 79 0 = some (0, 76) := by kernel_rfl
@[go_sem] theorem Try.plc79_1 : placeV Try.prog 79 1 = some (2, 1) := by kernel_rfl
@[go_sem] theorem Try.fld79_1 : fld Try.prog 79 1 = some (2, 77) := by kernel_rfl
@[go_sem] theorem Try.plc79_2 : placeV Try.prog 79 2 = some (3, 1) := by kernel_rfl
@[go_sem] theorem Try.fld79_2 : fld Try.prog 79 2 = some (3, 2) := by kernel_rfl
@[go_sem] theorem Try.knd80 : knd Try.prog 80 = .arr 2 24 := by kernel_rfl
@[go_sem] theorem Try.tsz80 : tsz Try.prog 80 = 2 := by kernel_rfl
@[go_sem] theorem Try.tby80 : tby Try.prog 80 = 16 := by kernel_rfl
@[go_sem] theorem Try.tagg80 : tagg Try.prog 80 = true := by kernel_rfl
@[go_sem] theorem Try.tyOk80 : tyOk Try.prog 80 = true := by kernel_rfl
@[go_sem] theorem Try.tzero80 : tzero Try.prog 80 = some (.agg #[.pointer none, .pointer none]) := by kernel_rfl
@[go_sem] theorem Try.bok80 : builtOk Try.prog 80 = true := by kernel_rfl
@[go_sem] theorem Try.plc80 (i : Nat) : placeV Try.prog 80 i = some (i * 1, 1) := by kernel_rfl
@[go_sem] theorem Try.knd81 : knd Try.prog 81 = .fn := by kernel_rfl
@[go_sem] theorem Try.tsz81 : tsz Try.prog 81 = 1 := by kernel_rfl
@[go_sem] theorem Try.tby81 : tby Try.prog 81 = 8 := by kernel_rfl
@[go_sem] theorem Try.tagg81 : tagg Try.prog 81 = false := by kernel_rfl
@[go_sem] theorem Try.tyOk81 : tyOk Try.prog 81 = true := by kernel_rfl
@[go_sem] theorem Try.tzero81 : tzero Try.prog 81 = some (.nilFunc) := by kernel_rfl
@[go_sem] theorem Try.knd82 : knd Try.prog 82 = .fn := by kernel_rfl
@[go_sem] theorem Try.tsz82 : tsz Try.prog 82 = 1 := by kernel_rfl
@[go_sem] theorem Try.tby82 : tby Try.prog 82 = 8 := by kernel_rfl
@[go_sem] theorem Try.tagg82 : tagg Try.prog 82 = false := by kernel_rfl
@[go_sem] theorem Try.tyOk82 : tyOk Try.prog 82 = true := by kernel_rfl
@[go_sem] theorem Try.tzero82 : tzero Try.prog 82 = some (.nilFunc) := by kernel_rfl
@[go_sem] theorem Try.knd83 : knd Try.prog 83 = .ptr 76 := by kernel_rfl
@[go_sem] theorem Try.tsz83 : tsz Try.prog 83 = 1 := by kernel_rfl
@[go_sem] theorem Try.tby83 : tby Try.prog 83 = 8 := by kernel_rfl
@[go_sem] theorem Try.tagg83 : tagg Try.prog 83 = false := by kernel_rfl
@[go_sem] theorem Try.tyOk83 : tyOk Try.prog 83 = true := by kernel_rfl
@[go_sem] theorem Try.tzero83 : tzero Try.prog 83 = some (.pointer none) := by kernel_rfl
@[go_sem] theorem Try.knd84 : knd Try.prog 84 = .fn := by kernel_rfl
@[go_sem] theorem Try.tsz84 : tsz Try.prog 84 = 1 := by kernel_rfl
@[go_sem] theorem Try.tby84 : tby Try.prog 84 = 8 := by kernel_rfl
@[go_sem] theorem Try.tagg84 : tagg Try.prog 84 = false := by kernel_rfl
@[go_sem] theorem Try.tyOk84 : tyOk Try.prog 84 = true := by kernel_rfl
@[go_sem] theorem Try.tzero84 : tzero Try.prog 84 = some (.nilFunc) := by kernel_rfl
@[go_sem] theorem Try.knd85 : knd Try.prog 85 = .ptr 90 := by kernel_rfl
@[go_sem] theorem Try.tsz85 : tsz Try.prog 85 = 1 := by kernel_rfl
@[go_sem] theorem Try.tby85 : tby Try.prog 85 = 8 := by kernel_rfl
@[go_sem] theorem Try.tagg85 : tagg Try.prog 85 = false := by kernel_rfl
@[go_sem] theorem Try.tyOk85 : tyOk Try.prog 85 = true := by kernel_rfl
@[go_sem] theorem Try.tzero85 : tzero Try.prog 85 = some (.pointer none) := by kernel_rfl
@[go_sem] theorem Try.knd87 : knd Try.prog 87 = .fn := by kernel_rfl
@[go_sem] theorem Try.tsz87 : tsz Try.prog 87 = 1 := by kernel_rfl
@[go_sem] theorem Try.tby87 : tby Try.prog 87 = 8 := by kernel_rfl
@[go_sem] theorem Try.tagg87 : tagg Try.prog 87 = false := by kernel_rfl
@[go_sem] theorem Try.tyOk87 : tyOk Try.prog 87 = true := by kernel_rfl
@[go_sem] theorem Try.tzero87 : tzero Try.prog 87 = some (.nilFunc) := by kernel_rfl
@[go_sem] theorem Try.knd88 : knd Try.prog 88 = .fn := by kernel_rfl
@[go_sem] theorem Try.tsz88 : tsz Try.prog 88 = 1 := by kernel_rfl
@[go_sem] theorem Try.tby88 : tby Try.prog 88 = 8 := by kernel_rfl
@[go_sem] theorem Try.tagg88 : tagg Try.prog 88 = false := by kernel_rfl
@[go_sem] theorem Try.tyOk88 : tyOk Try.prog 88 = true := by kernel_rfl
@[go_sem] theorem Try.tzero88 : tzero Try.prog 88 = some (.nilFunc) := by kernel_rfl
@[go_sem] theorem Try.knd89 : knd Try.prog 89 = .strct := by kernel_rfl
@[go_sem] theorem Try.tsz89 : tsz Try.prog 89 = 3 := by kernel_rfl
@[go_sem] theorem Try.tby89 : tby Try.prog 89 = 24 := by kernel_rfl
@[go_sem] theorem Try.tagg89 : tagg Try.prog 89 = true := by kernel_rfl
@[go_sem] theorem Try.tyOk89 : tyOk Try.prog 89 = true := by kernel_rfl
@[go_sem] theorem Try.tzero89 : tzero Try.prog 89 = some (.agg #[.int .i64 0, .int .i64 0, .int .i64 0]) := by kernel_rfl
@[go_sem] theorem Try.bok89 : builtOk Try.prog 89 = true := by kernel_rfl
@[go_sem] theorem Try.plc89_0 : placeV Try.prog 89 0 = some (0, 1) := by kernel_rfl
@[go_sem] theorem Try.fld89_0 : fld Try.prog 89 0 = some (0, 2) := by kernel_rfl
@[go_sem] theorem Try.plc89_1 : placeV Try.prog 89 1 = some (1, 1) := by kernel_rfl
@[go_sem] theorem Try.fld89_1 : fld Try.prog 89 1 = some (1, 3) := by kernel_rfl
@[go_sem] theorem Try.plc89_2 : placeV Try.prog 89 2 = some (2, 1) := by kernel_rfl
@[go_sem] theorem Try.fld89_2 : fld Try.prog 89 2 = some (2, 3) := by kernel_rfl
@[go_sem] theorem Try.knd90 : knd Try.prog 90 = .strct := by kernel_rfl
@[go_sem] theorem Try.tsz90 : tsz Try.prog 90 = 3 := by kernel_rfl
@[go_sem] theorem Try.tby90 : tby Try.prog 90 = 24 := by kernel_rfl
@[go_sem] theorem Try.tagg90 : tagg Try.prog 90 = true := by kernel_rfl
@[go_sem] theorem Try.tyOk90 : tyOk Try.prog 90 = true := by kernel_rfl
@[go_sem] theorem Try.tzero90 : tzero Try.prog 90 = some (.agg #[.int .i64 0, .int .i64 0, .int .i64 0]) := by kernel_rfl
@[go_sem] theorem Try.bok90 : builtOk Try.prog 90 = true := by kernel_rfl
@[go_sem] theorem Try.plc90_0 : placeV Try.prog 90 0 = some (0, 1) := by kernel_rfl
@[go_sem] theorem Try.fld90_0 : fld Try.prog 90 0 = some (0, 2) := by kernel_rfl
@[go_sem] theorem Try.plc90_1 : placeV Try.prog 90 1 = some (1, 1) := by kernel_rfl
@[go_sem] theorem Try.fld90_1 : fld Try.prog 90 1 = some (1, 3) := by kernel_rfl
@[go_sem] theorem Try.plc90_2 : placeV Try.prog 90 2 = some (2, 1) := by kernel_rfl
@[go_sem] theorem Try.fld90_2 : fld Try.prog 90 2 = some (2, 3) := by kernel_rfl
@[go_sem] theorem Try.eqOk90 : eqOk Try.prog 90 = true := by kernel_rfl
@[go_sem] theorem Try.fkinds90 : fkinds Try.prog 90 = [.int .i64, .int .i64, .int .i64] := by kernel_rfl
@[go_sem] theorem Try.knd91 : knd Try.prog 91 = .fn := by kernel_rfl
@[go_sem] theorem Try.tsz91 : tsz Try.prog 91 = 1 := by kernel_rfl
@[go_sem] theorem Try.tby91 : tby Try.prog 91 = 8 := by kernel_rfl
@[go_sem] theorem Try.tagg91 : tagg Try.prog 91 = false := by kernel_rfl
@[go_sem] theorem Try.tyOk91 : tyOk Try.prog 91 = true := by kernel_rfl
@[go_sem] theorem Try.tzero91 : tzero Try.prog 91 = some (.nilFunc) := by kernel_rfl
@[go_sem] theorem Try.knd92 : knd Try.prog 92 = .fn := by kernel_rfl
@[go_sem] theorem Try.tsz92 : tsz Try.prog 92 = 1 := by kernel_rfl
@[go_sem] theorem Try.tby92 : tby Try.prog 92 = 8 := by kernel_rfl
@[go_sem] theorem Try.tagg92 : tagg Try.prog 92 = false := by kernel_rfl
@[go_sem] theorem Try.tyOk92 : tyOk Try.prog 92 = true := by kernel_rfl
@[go_sem] theorem Try.tzero92 : tzero Try.prog 92 = some (.nilFunc) := by kernel_rfl
@[go_sem] theorem Try.knd93 : knd Try.prog 93 = .arr 3 3 := by kernel_rfl
@[go_sem] theorem Try.tsz93 : tsz Try.prog 93 = 3 := by kernel_rfl
@[go_sem] theorem Try.tby93 : tby Try.prog 93 = 24 := by kernel_rfl
@[go_sem] theorem Try.tagg93 : tagg Try.prog 93 = true := by kernel_rfl
@[go_sem] theorem Try.tyOk93 : tyOk Try.prog 93 = true := by kernel_rfl
@[go_sem] theorem Try.tzero93 : tzero Try.prog 93 = some (.agg #[.int .i64 0, .int .i64 0, .int .i64 0]) := by kernel_rfl
@[go_sem] theorem Try.bok93 : builtOk Try.prog 93 = true := by kernel_rfl
@[go_sem] theorem Try.plc93 (i : Nat) : placeV Try.prog 93 i = some (i * 1, 1) := by kernel_rfl
@[go_sem] theorem Try.knd94 : knd Try.prog 94 = .slice 100 := by kernel_rfl
@[go_sem] theorem Try.tsz94 : tsz Try.prog 94 = 1 := by kernel_rfl
@[go_sem] theorem Try.tby94 : tby Try.prog 94 = 24 := by kernel_rfl
@[go_sem] theorem Try.tagg94 : tagg Try.prog 94 = false := by kernel_rfl
@[go_sem] theorem Try.tyOk94 : tyOk Try.prog 94 = true := by kernel_rfl
@[go_sem] theorem Try.tzero94 : tzero Try.prog 94 = some (.slice none 0 0) := by kernel_rfl
@[go_sem] theorem Try.knd95 : knd Try.prog 95 = .strct := by kernel_rfl
@[go_sem] theorem Try.tsz95 : tsz Try.prog 95 = 2 := by kernel_rfl
@[go_sem] theorem Try.tby95 : tby Try.prog 95 = 32 := by kernel_rfl
@[go_sem] theorem Try.tagg95 : tagg Try.prog 95 = true := by kernel_rfl
@[go_sem] theorem Try.tyOk95 : tyOk Try.prog 95 = true := by kernel_rfl
@[go_sem] theorem Try.tzero95 : tzero Try.prog 95 = some (.agg #[.slice none 0 0, .nilFunc]) := by kernel_rfl
@[go_sem] theorem Try.bok95 : builtOk Try.prog 95 = true := by kernel_rfl
@[go_sem] theorem Try.plc95_0 : placeV Try.prog 95 0 = some (0, 1) := by kernel_rfl
@[go_sem] theorem Try.fld95_0 : fld Try.prog 95 0 = some (0, 94) := by kernel_rfl
@[go_sem] theorem Try.plc95_1 : placeV Try.prog 95 1 = some (1, 1) := by kernel_rfl
@[go_sem] theorem Try.fld95_1 : fld Try.prog 95 1 = some (1, 59) := by kernel_rfl
@[go_sem] theorem Try.knd96 : knd Try.prog 96 = .strct := by kernel_rfl
@[go_sem] theorem Try.tsz96 : tsz Try.prog 96 = 2 := by kernel_rfl
@[go_sem] theorem Try.tby96 : tby Try.prog 96 = 32 := by kernel_rfl
@[go_sem] theorem Try.tagg96 : tagg Try.prog 96 = true := by kernel_rfl
@[go_sem] theorem Try.tyOk96 : tyOk Try.prog 96 = true := by kernel_rfl
@[go_sem] theorem Try.tzero96 : tzero Try.prog 96 = some (.agg #[.slice none 0 0, .nilFunc]) := by kernel_rfl
@[go_sem] theorem Try.bok96 : builtOk Try.prog 96 = true := by kernel_rfl
@[go_sem] theorem Try.plc96_0 : placeV Try.prog 96 0 = some (0, 1) := by kernel_rfl
@[go_sem] theorem Try.fld96_0 : fld Try.prog 96 0 = some (0, 94) := by kernel_rfl
@[go_sem] theorem Try.plc96_1 : placeV Try.prog 96 1 = some (1, 1) := by kernel_rfl
@[go_sem] theorem Try.fld96_1 : fld Try.prog 96 1 = some (1, 59) := by kernel_rfl
@[go_sem] theorem Try.knd97 : knd Try.prog 97 = .map 2 100 := by kernel_rfl
@[go_sem] theorem Try.tsz97 : tsz Try.prog 97 = 1 := by kernel_rfl
@[go_sem] theorem Try.tby97 : tby Try.prog 97 = 8 := by kernel_rfl
@[go_sem] theorem Try.tagg97 : tagg Try.prog 97 = false := by kernel_rfl
@[go_sem] theorem Try.tyOk97 : tyOk Try.prog 97 = true := by kernel_rfl
@[go_sem] theorem Try.tzero97 : tzero Try.prog 97 = some (.map none) := by kernel_rfl
@[go_sem] theorem Try.knd98 : knd Try.prog 98 = .strct := by kernel_rfl
@[go_sem] theorem Try.tsz98 : tsz Try.prog 98 = 4 := by kernel_rfl
@[go_sem] theorem Try.tby98 : tby Try.prog 98 = 48 := by kernel_rfl
@[go_sem] theorem Try.tagg98 : tagg Try.prog 98 = true := by kernel_rfl
@[go_sem] theorem Try.tyOk98 : tyOk Try.prog 98 = true := by kernel_rfl
@[go_sem] theorem Try.tzero98 : tzero Try.prog 98 = some (.agg #[.slice none 0 0, .nilFunc, .map none, .int .i64 0]) := by kernel_rfl
@[go_sem] theorem Try.bok98 : builtOk Try.prog 98 = true := by kernel_rfl
@[go_sem] theorem Try.plc98_0 : placeV Try.prog 98 0 = some (0, 2) := by kernel_rfl
@[go_sem] theorem Try.fld98_0 : fld Try.prog 98 0 = some (0, 96) := by kernel_rfl
@[go_sem] theorem Try.plc98_1 : placeV Try.prog 98 1 = some (2, 1) := by kernel_rfl
@[go_sem] theorem Try.fld98_1 : fld Try.prog 98 1 = some (2, 97) := by kernel_rfl
@[go_sem] theorem Try.plc98_2 : placeV Try.prog 98 2 = some (3, 1) := by kernel_rfl
@[go_sem] theorem Try.fld98_2 : fld Try.prog 98 2 = some (3, 2) := by kernel_rfl
@[go_sem] theorem Try.knd99 : knd Try.prog 99 = .strct := by kernel_rfl
@[go_sem] theorem Try.tsz99 : tsz Try.prog 99 = 4 := by kernel_rfl
@[go_sem] theorem Try.tby99 : tby Try.prog 99 = 48 := by kernel_rfl
@[go_sem] theorem Try.tagg99 : tagg Try.prog 99 = true := by kernel_rfl
@[go_sem] theorem Try.tyOk99 : tyOk Try.prog 99 = true := by kernel_rfl
@[go_sem] theorem Try.tzero99 : tzero Try.prog 99 = some (.agg #[.slice none 0 0, .nilFunc, .map none, .int .i64 0]) := by kernel_rfl
@[go_sem] theorem Try.bok99 : builtOk Try.prog 99 = true := by kernel_rfl
@[go_sem] theorem Try.plc99_0 : placeV Try.prog 99 0 = some (0, 2) := by kernel_rfl
@[go_sem] theorem Try.fld99_0 : fld Try.prog 99 0 = some (0, 96) := by kernel_rfl
@[go_sem] theorem Try.plc99_1 : placeV Try.prog 99 1 = some (2, 1) := by kernel_rfl
@[go_sem] theorem Try.fld99_1 : fld Try.prog 99 1 = some (2, 97) := by kernel_rfl
@[go_sem] theorem Try.plc99_2 : placeV Try.prog 99 2 = some (3, 1) := by kernel_rfl
@[go_sem] theorem Try.fld99_2 : fld Try.prog 99 2 = some (3, 2) := by kernel_rfl
@[go_sem] theorem Try.knd100 : knd Try.prog 100 = .ptr 102 := by kernel_rfl
@[go_sem] theorem Try.tsz100 : tsz Try.prog 100 = 1 := by kernel_rfl
@[go_sem] theorem Try.tby100 : tby Try.prog 100 = 8 := by kernel_rfl
@[go_sem] theorem Try.tagg100 : tagg Try.prog 100 = false := by kernel_rfl
@[go_sem] theorem Try.tyOk100 : tyOk Try.prog 100 = true := by kernel_rfl
@[go_sem] theorem Try.tzero100 : tzero Try.prog 100 = some (.pointer none) := by kernel_rfl
@[go_sem] theorem Try.knd101 : knd Try.prog 101 = .strct := by kernel_rfl
@[go_sem] theorem Try.tsz101 : tsz Try.prog 101 = 4 := by kernel_rfl
@[go_sem] theorem Try.tby101 : tby Try.prog 101 = 40 := by kernel_rfl
@[go_sem] theorem Try.tagg101 : tagg Try.prog 101 = true := by kernel_rfl
@[go_sem] theorem Try.tyOk101 : tyOk Try.prog 101 = true := by kernel_rfl
@[go_sem] theorem Try.tzero101 : tzero Try.prog 101 = some (.agg #[.int .i64 0, .string ⟨#[]⟩, .int .i64 0, .int .i64 0]) := by kernel_rfl
@[go_sem] theorem Try.bok101 : builtOk Try.prog 101 = true := by kernel_rfl
@[go_sem] theorem Try.plc101_0 : placeV Try.prog 101 0 = some (0, 1) := by kernel_rfl
@[go_sem] theorem Try.fld101_0 : fld Try.prog 101 0 = some (0, 2) := by kernel_rfl
@[go_sem] theorem Try.plc101_1 : placeV Try.prog 101 1 = some (1, 2) := by kernel_rfl
@[go_sem] theorem Try.fld101_1 : fld Try.prog 101 1 = some (1, 58) := by kernel_rfl
@[go_sem] theorem Try.plc101_2 : placeV Try.prog 101 2 = some (3, 1) := by kernel_rfl
@[go_sem] theorem Try.fld101_2 : fld Try.prog 101 2 = some (3, 3) := by kernel_rfl
@[go_sem] theorem Try.knd102 : knd Try.prog 102 = .strct := by kernel_rfl
@[go_sem] theorem Try.tsz102 : tsz Try.prog 102 = 4 := by kernel_rfl
@[go_sem] theorem Try.tby102 : tby Try.prog 102 = 40 := by kernel_rfl
@[go_sem] theorem Try.tagg102 : tagg Try.prog 102 = true := by kernel_rfl
@[go_sem] theorem Try.tyOk102 : tyOk Try.prog 102 = true := by kernel_rfl
@[go_sem] theorem Try.tzero102 : tzero Try.prog 102 = some (.agg #[.int .i64 0, .string ⟨#[]⟩, .int .i64 0, .int .i64 0]) := by kernel_rfl
@[go_sem] theorem Try.bok102 : builtOk Try.prog 102 = true := by kernel_rfl
@[go_sem] theorem Try.plc102_0 : placeV Try.prog 102 0 = some (0, 1) := by kernel_rfl
@[go_sem] theorem Try.fld102_0 : fld Try.prog 102 0 = some (0, 2) := by kernel_rfl
@[go_sem] theorem Try.plc102_1 : placeV Try.prog 102 1 = some (1, 2) := by kernel_rfl
@[go_sem] theorem Try.fld102_1 : fld Try.prog 102 1 = some (1, 58) := by kernel_rfl
@[go_sem] theorem Try.plc102_2 : placeV Try.prog 102 2 = some (3, 1) := by kernel_rfl
@[go_sem] theorem Try.fld102_2 : fld Try.prog 102 2 = some (3, 3) := by kernel_rfl
@[go_sem] theorem Try.knd103 : knd Try.prog 103 = .ptr 96 := by kernel_rfl
@[go_sem] theorem Try.tsz103 : tsz Try.prog 103 = 1 := by kernel_rfl
@[go_sem] theorem Try.tby103 : tby Try.prog 103 = 8 := by kernel_rfl
@[go_sem] theorem Try.tagg103 : tagg Try.prog 103 = false := by kernel_rfl
@[go_sem] theorem Try.tyOk103 : tyOk Try.prog 103 = true := by kernel_rfl
@[go_sem] theorem Try.tzero103 : tzero Try.prog 103 = some (.pointer none) := by kernel_rfl
@[go_sem] theorem Try.knd105 : knd Try.prog 105 = .fn := by kernel_rfl
@[go_sem] theorem Try.tsz105 : tsz Try.prog 105 = 1 := by kernel_rfl
@[go_sem] theorem Try.tby105 : tby Try.prog 105 = 8 := by kernel_rfl
@[go_sem] theorem Try.tagg105 : tagg Try.prog 105 = false := by kernel_rfl
@[go_sem] theorem Try.tyOk105 : tyOk Try.prog 105 = true := by kernel_rfl
@[go_sem] theorem Try.tzero105 : tzero Try.prog 105 = some (.nilFunc) := by kernel_rfl
@[go_sem] theorem Try.knd107 : knd Try.prog 107 = .fn := by kernel_rfl
@[go_sem] theorem Try.tsz107 : tsz Try.prog 107 = 1 := by kernel_rfl
@[go_sem] theorem Try.tby107 : tby Try.prog 107 = 8 := by kernel_rfl
@[go_sem] theorem Try.tagg107 : tagg Try.prog 107 = false := by kernel_rfl
@[go_sem] theorem Try.tyOk107 : tyOk Try.prog 107 = true := by kernel_rfl
@[go_sem] theorem Try.tzero107 : tzero Try.prog 107 = some (.nilFunc) := by kernel_rfl
@[go_sem] theorem Try.knd109 : knd Try.prog 109 = .fn := by kernel_rfl
@[go_sem] theorem Try.tsz109 : tsz Try.prog 109 = 1 := by kernel_rfl
@[go_sem] theorem Try.tby109 : tby Try.prog 109 = 8 := by kernel_rfl
@[go_sem] theorem Try.tagg109 : tagg Try.prog 109 = false := by kernel_rfl
@[go_sem] theorem Try.tyOk109 : tyOk Try.prog 109 = true := by kernel_rfl
@[go_sem] theorem Try.tzero109 : tzero Try.prog 109 = some (.nilFunc) := by kernel_rfl
@[go_sem] theorem Try.knd111 : knd Try.prog 111 = .fn := by kernel_rfl
@[go_sem] theorem Try.tsz111 : tsz Try.prog 111 = 1 := by kernel_rfl
@[go_sem] theorem Try.tby111 : tby Try.prog 111 = 8 := by kernel_rfl
@[go_sem] theorem Try.tagg111 : tagg Try.prog 111 = false := by kernel_rfl
@[go_sem] theorem Try.tyOk111 : tyOk Try.prog 111 = true := by kernel_rfl
@[go_sem] theorem Try.tzero111 : tzero Try.prog 111 = some (.nilFunc) := by kernel_rfl
@[go_sem] theorem Try.knd112 : knd Try.prog 112 = .fn := by kernel_rfl
@[go_sem] theorem Try.tsz112 : tsz Try.prog 112 = 1 := by kernel_rfl
@[go_sem] theorem Try.tby112 : tby Try.prog 112 = 8 := by kernel_rfl
@[go_sem] theorem Try.tagg112 : tagg Try.prog 112 = false := by kernel_rfl
@[go_sem] theorem Try.tyOk112 : tyOk Try.prog 112 = true := by kernel_rfl
@[go_sem] theorem Try.tzero112 : tzero Try.prog 112 = some (.nilFunc) := by kernel_rfl
@[go_sem] theorem Try.knd113 : knd Try.prog 113 = .fn := by kernel_rfl
@[go_sem] theorem Try.tsz113 : tsz Try.prog 113 = 1 := by kernel_rfl
@[go_sem] theorem Try.tby113 : tby Try.prog 113 = 8 := by kernel_rfl
@[go_sem] theorem Try.tagg113 : tagg Try.prog 113 = false := by kernel_rfl
@[go_sem] theorem Try.tyOk113 : tyOk Try.prog 113 = true := by kernel_rfl
@[go_sem] theorem Try.tzero113 : tzero Try.prog 113 = some (.nilFunc) := by kernel_rfl
@[go_sem] theorem Try.knd115 : knd Try.prog 115 = .fn := by kernel_rfl
@[go_sem] theorem Try.tsz115 : tsz Try.prog 115 = 1 := by kernel_rfl
@[go_sem] theorem Try.tby115 : tby Try.prog 115 = 8 := by kernel_rfl
@[go_sem] theorem Try.tagg115 : tagg Try.prog 115 = false := by kernel_rfl
@[go_sem] theorem Try.tyOk115 : tyOk Try.prog 115 = true := by kernel_rfl
@[go_sem] theorem Try.tzero115 : tzero Try.prog 115 = some (.nilFunc) := by kernel_rfl
@[go_sem] theorem Try.knd116 : knd Try.prog 116 = .iface := by kernel_rfl
@[go_sem] theorem Try.tsz116 : tsz Try.prog 116 = 1 := by kernel_rfl
@[go_sem] theorem Try.tby116 : tby Try.prog 116 = 16 := by kernel_rfl
@[go_sem] theorem Try.tagg116 : tagg Try.prog 116 = false := by kernel_rfl
@[go_sem] theorem Try.tyOk116 : tyOk Try.prog 116 = true := by kernel_rfl
@[go_sem] theorem Try.tzero116 : tzero Try.prog 116 = some (.nilIface) := by kernel_rfl
@[go_sem] theorem Try.knd117 : knd Try.prog 117 = .iface := by kernel_rfl
@[go_sem] theorem Try.tsz117 : tsz Try.prog 117 = 1 := by kernel_rfl
@[go_sem] theorem Try.tby117 : tby Try.prog 117 = 16 := by kernel_rfl
@[go_sem] theorem Try.tagg117 : tagg Try.prog 117 = false := by kernel_rfl
@[go_sem] theorem Try.tyOk117 : tyOk Try.prog 117 = true := by kernel_rfl
@[go_sem] theorem Try.tzero117 : tzero Try.prog 117 = some (.nilIface) := by kernel_rfl
@[go_sem] theorem Try.knd118 : knd Try.prog 118 = .fn := by kernel_rfl
@[go_sem] theorem Try.tsz118 : tsz Try.prog 118 = 1 := by kernel_rfl
@[go_sem] theorem Try.tby118 : tby Try.prog 118 = 8 := by kernel_rfl
@[go_sem] theorem Try.tagg118 : tagg Try.prog 118 = false := by kernel_rfl
@[go_sem] theorem Try.tyOk118 : tyOk Try.prog 118 = true := by kernel_rfl
@[go_sem] theorem Try.tzero118 : tzero Try.prog 118 = some (.nilFunc) := by kernel_rfl
@[go_sem] theorem Try.knd119 : knd Try.prog 119 = .fn := by kernel_rfl
@[go_sem] theorem Try.tsz119 : tsz Try.prog 119 = 1 := by kernel_rfl
@[go_sem] theorem Try.tby119 : tby Try.prog 119 = 8 := by kernel_rfl
@[go_sem] theorem Try.tagg119 : tagg Try.prog 119 = false := by kernel_rfl
@[go_sem] theorem Try.tyOk119 : tyOk Try.prog 119 = true := by kernel_rfl
@[go_sem] theorem Try.tzero119 : tzero Try.prog 119 = some (.nilFunc) := by kernel_rfl
@[go_sem] theorem Try.knd120 : knd Try.prog 120 = .fn := by kernel_rfl
@[go_sem] theorem Try.tsz120 : tsz Try.prog 120 = 1 := by kernel_rfl
@[go_sem] theorem Try.tby120 : tby Try.prog 120 = 8 := by kernel_rfl
@[go_sem] theorem Try.tagg120 : tagg Try.prog 120 = false := by kernel_rfl
@[go_sem] theorem Try.tyOk120 : tyOk Try.prog 120 = true := by kernel_rfl
@[go_sem] theorem Try.tzero120 : tzero Try.prog 120 = some (.nilFunc) := by kernel_rfl
@[go_sem] theorem Try.knd121 : knd Try.prog 121 = .fn := by kernel_rfl
@[go_sem] theorem Try.tsz121 : tsz Try.prog 121 = 1 := by kernel_rfl
@[go_sem] theorem Try.tby121 : tby Try.prog 121 = 8 := by kernel_rfl
@[go_sem] theorem Try.tagg121 : tagg Try.prog 121 = false := by kernel_rfl
@[go_sem] theorem Try.tyOk121 : tyOk Try.prog 121 = true := by kernel_rfl
@[go_sem] theorem Try.tzero121 : tzero Try.prog 121 = some (.nilFunc) := by kernel_rfl
@[go_sem] theorem Try.knd122 : knd Try.prog 122 = .fn := by kernel_rfl
@[go_sem] theorem Try.tsz122 : tsz Try.prog 122 = 1 := by kernel_rfl
@[go_sem] theorem Try.tby122 : tby Try.prog 122 = 8 := by kernel_rfl
@[go_sem] theorem Try.tagg122 : tagg Try.prog 122 = false := by kernel_rfl
@[go_sem] theorem Try.tyOk122 : tyOk Try.prog 122 = true := by kernel_rfl
@[go_sem] theorem Try.tzero122 : tzero Try.prog 122 = some (.nilFunc) := by kernel_rfl
@[go_sem] theorem Try.knd123 : knd Try.prog 123 = .fn := by kernel_rfl
@[go_sem] theorem Try.tsz123 : tsz Try.prog 123 = 1 := by kernel_rfl
@[go_sem] theorem Try.tby123 : tby Try.prog 123 = 8 := by kernel_rfl
@[go_sem] theorem Try.tagg123 : tagg Try.prog 123 = false := by kernel_rfl
@[go_sem] theorem Try.tyOk123 : tyOk Try.prog 123 = true := by kernel_rfl
@[go_sem] theorem Try.tzero123 : tzero Try.prog 123 = some (.nilFunc) := by kernel_rfl
@[go_sem] theorem Try.knd124 : knd Try.prog 124 = .fn := by kernel_rfl
@[go_sem] theorem Try.tsz124 : tsz Try.prog 124 = 1 := by kernel_rfl
@[go_sem] theorem Try.tby124 : tby Try.prog 124 = 8 := by kernel_rfl
@[go_sem] theorem Try.tagg124 : tagg Try.prog 124 = false := by kernel_rfl
@[go_sem] theorem Try.tyOk124 : tyOk Try.prog 124 = true := by kernel_rfl
@[go_sem] theorem Try.tzero124 : tzero Try.prog 124 = some (.nilFunc) := by kernel_rfl
@[go_sem] theorem Try.knd125 : knd Try.prog 125 = .fn := by kernel_rfl
@[go_sem] theorem Try.tsz125 : tsz Try.prog 125 = 1 := by kernel_rfl
@[go_sem] theorem Try.tby125 : tby Try.prog 125 = 8 := by kernel_rfl
@[go_sem] theorem Try.tagg125 : tagg Try.prog 125 = false := by kernel_rfl
@[go_sem] theorem Try.tyOk125 : tyOk Try.prog 125 = true := by kernel_rfl
@[go_sem] theorem Try.tzero125 : tzero Try.prog 125 = some (.nilFunc) := by kernel_rfl
@[go_sem] theorem Try.knd126 : knd Try.prog 126 = .fn := by kernel_rfl
@[go_sem] theorem Try.tsz126 : tsz Try.prog 126 = 1 := by kernel_rfl
@[go_sem] theorem Try.tby126 : tby Try.prog 126 = 8 := by kernel_rfl
@[go_sem] theorem Try.tagg126 : tagg Try.prog 126 = false := by kernel_rfl
@[go_sem] theorem Try.tyOk126 : tyOk Try.prog 126 = true := by kernel_rfl
@[go_sem] theorem Try.tzero126 : tzero Try.prog 126 = some (.nilFunc) := by kernel_rfl
@[go_sem] theorem Try.knd127 : knd Try.prog 127 = .fn := by kernel_rfl
@[go_sem] theorem Try.tsz127 : tsz Try.prog 127 = 1 := by kernel_rfl
@[go_sem] theorem Try.tby127 : tby Try.prog 127 = 8 := by kernel_rfl
@[go_sem] theorem Try.tagg127 : tagg Try.prog 127 = false := by kernel_rfl
@[go_sem] theorem Try.tyOk127 : tyOk Try.prog 127 = true := by kernel_rfl
@[go_sem] theorem Try.tzero127 : tzero Try.prog 127 = some (.nilFunc) := by kernel_rfl
@[go_sem] theorem Try.knd128 : knd Try.prog 128 = .fn := by kernel_rfl
@[go_sem] theorem Try.tsz128 : tsz Try.prog 128 = 1 := by kernel_rfl
@[go_sem] theorem Try.tby128 : tby Try.prog 128 = 8 := by kernel_rfl
@[go_sem] theorem Try.tagg128 : tagg Try.prog 128 = false := by kernel_rfl
@[go_sem] theorem Try.tyOk128 : tyOk Try.prog 128 = true := by kernel_rfl
@[go_sem] theorem Try.tzero128 : tzero Try.prog 128 = some (.nilFunc) := by kernel_rfl
@[go_sem] theorem Try.knd129 : knd Try.prog 129 = .fn := by kernel_rfl
@[go_sem] theorem Try.tsz129 : tsz Try.prog 129 = 1 := by kernel_rfl
@[go_sem] theorem Try.tby129 : tby Try.prog 129 = 8 := by kernel_rfl
@[go_sem] theorem Try.tagg129 : tagg Try.prog 129 = false := by kernel_rfl
@[go_sem] theorem Try.tyOk129 : tyOk Try.prog 129 = true := by kernel_rfl
@[go_sem] theorem Try.tzero129 : tzero Try.prog 129 = some (.nilFunc) := by kernel_rfl
@[go_sem] theorem Try.knd130 : knd Try.prog 130 = .fn := by kernel_rfl
@[go_sem] theorem Try.tsz130 : tsz Try.prog 130 = 1 := by kernel_rfl
@[go_sem] theorem Try.tby130 : tby Try.prog 130 = 8 := by kernel_rfl
@[go_sem] theorem Try.tagg130 : tagg Try.prog 130 = false := by kernel_rfl
@[go_sem] theorem Try.tyOk130 : tyOk Try.prog 130 = true := by kernel_rfl
@[go_sem] theorem Try.tzero130 : tzero Try.prog 130 = some (.nilFunc) := by kernel_rfl
@[go_sem] theorem Try.knd131 : knd Try.prog 131 = .fn := by kernel_rfl
@[go_sem] theorem Try.tsz131 : tsz Try.prog 131 = 1 := by kernel_rfl
@[go_sem] theorem Try.tby131 : tby Try.prog 131 = 8 := by kernel_rfl
@[go_sem] theorem Try.tagg131 : tagg Try.prog 131 = false := by kernel_rfl
@[go_sem] theorem Try.tyOk131 : tyOk Try.prog 131 = true := by kernel_rfl
@[go_sem] theorem Try.tzero131 : tzero Try.prog 131 = some (.nilFunc) := by kernel_rfl
@[go_sem] theorem Try.knd132 : knd Try.prog 132 = .int .u64 := by kernel_rfl
@[go_sem] theorem Try.tsz132 : tsz Try.prog 132 = 1 := by kernel_rfl
@[go_sem] theorem Try.tby132 : tby Try.prog 132 = 8 := by kernel_rfl
@[go_sem] theorem Try.tagg132 : tagg Try.prog 132 = false := by kernel_rfl
@[go_sem] theorem Try.tyOk132 : tyOk Try.prog 132 = true := by kernel_rfl
@[go_sem] theorem Try.tzero132 : tzero Try.prog 132 = some (.int .u64 0) := by kernel_rfl
@[go_sem] theorem Try.knd133 : knd Try.prog 133 = .fn := by kernel_rfl
@[go_sem] theorem Try.tsz133 : tsz Try.prog 133 = 1 := by kernel_rfl
@[go_sem] theorem Try.tby133 : tby Try.prog 133 = 8 := by kernel_rfl
@[go_sem] theorem Try.tagg133 : tagg Try.prog 133 = false := by kernel_rfl
@[go_sem] theorem Try.tyOk133 : tyOk Try.prog 133 = true := by kernel_rfl
@[go_sem] theorem Try.tzero133 : tzero Try.prog 133 = some (.nilFunc) := by kernel_rfl
@[go_sem] theorem Try.knd134 : knd Try.prog 134 = .int .i64 := by kernel_rfl
@[go_sem] theorem Try.tsz134 : tsz Try.prog 134 = 1 := by kernel_rfl
@[go_sem] theorem Try.tby134 : tby Try.prog 134 = 8 := by kernel_rfl
@[go_sem] theorem Try.tagg134 : tagg Try.prog 134 = false := by kernel_rfl
@[go_sem] theorem Try.tyOk134 : tyOk Try.prog 134 = true := by kernel_rfl
@[go_sem] theorem Try.tzero134 : tzero Try.prog 134 = some (.int .i64 0) := by kernel_rfl
@[go_sem] theorem Try.knd136 : knd Try.prog 136 = .fn := by kernel_rfl
@[go_sem] theorem Try.tsz136 : tsz Try.prog 136 = 1 := by kernel_rfl
@[go_sem] theorem Try.tby136 : tby Try.prog 136 = 8 := by kernel_rfl
@[go_sem] theorem Try.tagg136 : tagg Try.prog 136 = false := by kernel_rfl
@[go_sem] theorem Try.tyOk136 : tyOk Try.prog 136 = true := by kernel_rfl
@[go_sem] theorem Try.tzero136 : tzero Try.prog 136 = some (.nilFunc) := by kernel_rfl
@[go_sem] theorem Try.knd137 : knd Try.prog 137 = .fn := by kernel_rfl
@[go_sem] theorem Try.tsz137 : tsz Try.prog 137 = 1 := by kernel_rfl
@[go_sem] theorem Try.tby137 : tby Try.prog 137 = 8 := by kernel_rfl
@[go_sem] theorem Try.tagg137 : tagg Try.prog 137 = false := by kernel_rfl
@[go_sem] theorem Try.tyOk137 : tyOk Try.prog 137 = true := by kernel_rfl
@[go_sem] theorem Try.tzero137 : tzero Try.prog 137 = some (.nilFunc) := by kernel_rfl
@[go_sem] theorem Try.knd138 : knd Try.prog 138 = .fn := by kernel_rfl
@[go_sem] theorem Try.tsz138 : tsz Try.prog 138 = 1 := by kernel_rfl
@[go_sem] theorem Try.tby138 : tby Try.prog 138 = 8 := by kernel_rfl
@[go_sem] theorem Try.tagg138 : tagg Try.prog 138 = false := by kernel_rfl
@[go_sem] theorem Try.tyOk138 : tyOk Try.prog 138 = true := by kernel_rfl
@[go_sem] theorem Try.tzero138 : tzero Try.prog 138 = some (.nilFunc) := by kernel_rfl
@[go_sem] theorem Try.knd140 : knd Try.prog 140 = .fn := by kernel_rfl
@[go_sem] theorem Try.tsz140 : tsz Try.prog 140 = 1 := by kernel_rfl
@[go_sem] theorem Try.tby140 : tby Try.prog 140 = 8 := by kernel_rfl
@[go_sem] theorem Try.tagg140 : tagg Try.prog 140 = false := by kernel_rfl
@[go_sem] theorem Try.tyOk140 : tyOk Try.prog 140 = true := by kernel_rfl
@[go_sem] theorem Try.tzero140 : tzero Try.prog 140 = some (.nilFunc) := by kernel_rfl
@[go_sem] theorem Try.knd141 : knd Try.prog 141 = .fn := by kernel_rfl
@[go_sem] theorem Try.tsz141 : tsz Try.prog 141 = 1 := by kernel_rfl
@[go_sem] theorem Try.tby141 : tby Try.prog 141 = 8 := by kernel_rfl
@[go_sem] theorem Try.tagg141 : tagg Try.prog 141 = false := by kernel_rfl
@[go_sem] theorem Try.tyOk141 : tyOk Try.prog 141 = true := by kernel_rfl
@[go_sem] theorem Try.tzero141 : tzero Try.prog 141 = some (.nilFunc) := by kernel_rfl
@[go_sem] theorem Try.knd142 : knd Try.prog 142 = .int .u32 := by kernel_rfl
@[go_sem] theorem Try.tsz142 : tsz Try.prog 142 = 1 := by kernel_rfl
@[go_sem] theorem Try.tby142 : tby Try.prog 142 = 4 := by kernel_rfl
@[go_sem] theorem Try.tagg142 : tagg Try.prog 142 = false := by kernel_rfl
@[go_sem] theorem Try.tyOk142 : tyOk Try.prog 142 = true := by kernel_rfl
@[go_sem] theorem Try.tzero142 : tzero Try.prog 142 = some (.int .u32 0) := by kernel_rfl
@[go_sem] theorem Try.knd143 : knd Try.prog 143 = .fn := by kernel_rfl
@[go_sem] theorem Try.tsz143 : tsz Try.prog 143 = 1 := by kernel_rfl
@[go_sem] theorem Try.tby143 : tby Try.prog 143 = 8 := by kernel_rfl
@[go_sem] theorem Try.tagg143 : tagg Try.prog 143 = false := by kernel_rfl
@[go_sem] theorem Try.tyOk143 : tyOk Try.prog 143 = true := by kernel_rfl
@[go_sem] theorem Try.tzero143 : tzero Try.prog 143 = some (.nilFunc) := by kernel_rfl
@[go_sem] theorem Try.knd144 : knd Try.prog 144 = .int .u64 := by kernel_rfl
@[go_sem] theorem Try.tsz144 : tsz Try.prog 144 = 1 := by kernel_rfl
@[go_sem] theorem Try.tby144 : tby Try.prog 144 = 8 := by kernel_rfl
@[go_sem] theorem Try.tagg144 : tagg Try.prog 144 = false := by kernel_rfl
@[go_sem] theorem Try.tyOk144 : tyOk Try.prog 144 = true := by kernel_rfl
@[go_sem] theorem Try.tzero144 : tzero Try.prog 144 = some (.int .u64 0) := by kernel_rfl
@[go_sem] theorem Try.knd145 : knd Try.prog 145 = .int .u64 := by kernel_rfl
@[go_sem] theorem Try.tsz145 : tsz Try.prog 145 = 1 := by kernel_rfl
@[go_sem] theorem Try.tby145 : tby Try.prog 145 = 8 := by kernel_rfl
@[go_sem] theorem Try.tagg145 : tagg Try.prog 145 = false := by kernel_rfl
@[go_sem] theorem Try.tyOk145 : tyOk Try.prog 145 = true := by kernel_rfl
@[go_sem] theorem Try.tzero145 : tzero Try.prog 145 = some (.int .u64 0) := by kernel_rfl
@[go_sem] theorem Try.knd146 : knd Try.prog 146 = .fn := by kernel_rfl
@[go_sem] theorem Try.tsz146 : tsz Try.prog 146 = 1 := by kernel_rfl
@[go_sem] theorem Try.tby146 : tby Try.prog 146 = 8 := by kernel_rfl
@[go_sem] theorem Try.tagg146 : tagg Try.prog 146 = false := by kernel_rfl
@[go_sem] theorem Try.tyOk146 : tyOk Try.prog 146 = true := by kernel_rfl
@[go_sem] theorem Try.tzero146 : tzero Try.prog 146 = some (.nilFunc) := by kernel_rfl
@[go_sem] theorem Try.knd147 : knd Try.prog 147 = .fn := by kernel_rfl
@[go_sem] theorem Try.tsz147 : tsz Try.prog 147 = 1 := by kernel_rfl
@[go_sem] theorem Try.tby147 : tby Try.prog 147 = 8 := by kernel_rfl
@[go_sem] theorem Try.tagg147 : tagg Try.prog 147 = false := by kernel_rfl
@[go_sem] theorem Try.tyOk147 : tyOk Try.prog 147 = true := by kernel_rfl
@[go_sem] theorem Try.tzero147 : tzero Try.prog 147 = some (.nilFunc) := by kernel_rfl
@[go_sem] theorem Try.knd148 : knd Try.prog 148 = .fn := by kernel_rfl
@[go_sem] theorem Try.tsz148 : tsz Try.prog 148 = 1 := by kernel_rfl
@[go_sem] theorem Try.tby148 : tby Try.prog 148 = 8 := by kernel_rfl
@[go_sem] theorem Try.tagg148 : tagg Try.prog 148 = false := by kernel_rfl
@[go_sem] theorem Try.tyOk148 : tyOk Try.prog 148 = true := by kernel_rfl
@[go_sem] theorem Try.tzero148 : tzero Try.prog 148 = some (.nilFunc) := by kernel_rfl
@[go_sem] theorem Try.knd149 : knd Try.prog 149 = .ptr 3 := by kernel_rfl
@[go_sem] theorem Try.tsz149 : tsz Try.prog 149 = 1 := by kernel_rfl
@[go_sem] theorem Try.tby149 : tby Try.prog 149 = 8 := by kernel_rfl
@[go_sem] theorem Try.tagg149 : tagg Try.prog 149 = false := by kernel_rfl
@[go_sem] theorem Try.tyOk149 : tyOk Try.prog 149 = true := by kernel_rfl
@[go_sem] theorem Try.tzero149 : tzero Try.prog 149 = some (.pointer none) := by kernel_rfl
@[go_sem] theorem Try.knd150 : knd Try.prog 150 = .fn := by kernel_rfl
@[go_sem] theorem Try.tsz150 : tsz Try.prog 150 = 1 := by kernel_rfl
@[go_sem] theorem Try.tby150 : tby Try.prog 150 = 8 := by kernel_rfl
@[go_sem] theorem Try.tagg150 : tagg Try.prog 150 = false := by kernel_rfl
@[go_sem] theorem Try.tyOk150 : tyOk Try.prog 150 = true := by kernel_rfl
@[go_sem] theorem Try.tzero150 : tzero Try.prog 150 = some (.nilFunc) := by kernel_rfl
@[go_sem] theorem Try.knd151 : knd Try.prog 151 = .ptr 145 := by kernel_rfl
@[go_sem] theorem Try.tsz151 : tsz Try.prog 151 = 1 := by kernel_rfl
@[go_sem] theorem Try.tby151 : tby Try.prog 151 = 8 := by kernel_rfl
@[go_sem] theorem Try.tagg151 : tagg Try.prog 151 = false := by kernel_rfl
@[go_sem] theorem Try.tyOk151 : tyOk Try.prog 151 = true := by kernel_rfl
@[go_sem] theorem Try.tzero151 : tzero Try.prog 151 = some (.pointer none) := by kernel_rfl
@[go_sem] theorem Try.knd153 : knd Try.prog 153 = .fn := by kernel_rfl
@[go_sem] theorem Try.tsz153 : tsz Try.prog 153 = 1 := by kernel_rfl
@[go_sem] theorem Try.tby153 : tby Try.prog 153 = 8 := by kernel_rfl
@[go_sem] theorem Try.tagg153 : tagg Try.prog 153 = false := by kernel_rfl
@[go_sem] theorem Try.tyOk153 : tyOk Try.prog 153 = true := by kernel_rfl
@[go_sem] theorem Try.tzero153 : tzero Try.prog 153 = some (.nilFunc) := by kernel_rfl
@[go_sem] theorem Try.knd154 : knd Try.prog 154 = .fn := by kernel_rfl
@[go_sem] theorem Try.tsz154 : tsz Try.prog 154 = 1 := by kernel_rfl
@[go_sem] theorem Try.tby154 : tby Try.prog 154 = 8 := by kernel_rfl
@[go_sem] theorem Try.tagg154 : tagg Try.prog 154 = false := by kernel_rfl
@[go_sem] theorem Try.tyOk154 : tyOk Try.prog 154 = true := by kernel_rfl
@[go_sem] theorem Try.tzero154 : tzero Try.prog 154 = some (.nilFunc) := by kernel_rfl
@[go_sem] theorem Try.knd157 : knd Try.prog 157 = .arr 0 16 := by kernel_rfl
@[go_sem] theorem Try.tsz157 : tsz Try.prog 157 = 0 := by kernel_rfl
@[go_sem] theorem Try.tby157 : tby Try.prog 157 = 0 := by kernel_rfl
@[go_sem] theorem Try.tagg157 : tagg Try.prog 157 = true := by kernel_rfl
@[go_sem] theorem Try.tyOk157 : tyOk Try.prog 157 = true := by kernel_rfl
@[go_sem] theorem Try.tzero157 : tzero Try.prog 157 = some (.agg #[]) := by kernel_rfl
@[go_sem] theorem Try.bok157 : builtOk Try.prog 157 = true := by kernel_rfl
@[go_sem] theorem Try.plc157 (i : Nat) : placeV Try.prog 157 i = some (i * 1, 1) := by kernel_rfl
@[go_sem] theorem Try.knd158 : knd Try.prog 158 = .strct := by kernel_rfl
@[go_sem] theorem Try.tsz158 : tsz Try.prog 158 = 0 := by kernel_rfl
@[go_sem] theorem Try.tby158 : tby Try.prog 158 = 0 := by kernel_rfl
@[go_sem] theorem Try.tagg158 : tagg Try.prog 158 = true := by kernel_rfl
@[go_sem] theorem Try.tyOk158 : tyOk Try.prog 158 = true := by kernel_rfl
@[go_sem] theorem Try.tzero158 : tzero Try.prog 158 = some (.agg #[]) := by kernel_rfl
@[go_sem] theorem Try.bok158 : builtOk Try.prog 158 = true := by kernel_rfl
@[go_sem] theorem Try.plc158_0 : placeV Try.prog 158 0 = some (0, 0) := by kernel_rfl
@[go_sem] theorem Try.fld158_0 : fld Try.prog 158 0 = some (0, 157) := by kernel_rfl
@[go_sem] theorem Try.knd162 : knd Try.prog 162 = .fn := by kernel_rfl
@[go_sem] theorem Try.tsz162 : tsz Try.prog 162 = 1 := by kernel_rfl
@[go_sem] theorem Try.tby162 : tby Try.prog 162 = 8 := by kernel_rfl
@[go_sem] theorem Try.tagg162 : tagg Try.prog 162 = false := by kernel_rfl
@[go_sem] theorem Try.tyOk162 : tyOk Try.prog 162 = true := by kernel_rfl
@[go_sem] theorem Try.tzero162 : tzero Try.prog 162 = some (.nilFunc) := by kernel_rfl
@[go_sem] theorem Try.knd163 : knd Try.prog 163 = .ptr 5 := by kernel_rfl
@[go_sem] theorem Try.tsz163 : tsz Try.prog 163 = 1 := by kernel_rfl
@[go_sem] theorem Try.tby163 : tby Try.prog 163 = 8 := by kernel_rfl
@[go_sem] theorem Try.tagg163 : tagg Try.prog 163 = false := by kernel_rfl
@[go_sem] theorem Try.tyOk163 : tyOk Try.prog 163 = true := by kernel_rfl
@[go_sem] theorem Try.tzero163 : tzero Try.prog 163 = some (.pointer none) := by kernel_rfl
@[go_sem] theorem Try.knd168 : knd Try.prog 168 = .fn := by kernel_rfl
@[go_sem] theorem Try.tsz168 : tsz Try.prog 168 = 1 := by kernel_rfl
@[go_sem] theorem Try.tby168 : tby Try.prog 168 = 8 := by kernel_rfl
@[go_sem] theorem Try.tagg168 : tagg Try.prog 168 = false := by kernel_rfl
@[go_sem] theorem Try.tyOk168 : tyOk Try.prog 168 = true := by kernel_rfl
@[go_sem] theorem Try.tzero168 : tzero Try.prog 168 = some (.nilFunc) := by kernel_rfl
@[go_sem] theorem Try.knd169 : knd Try.prog 169 = .fn := by kernel_rfl
@[go_sem] theorem Try.tsz169 : tsz Try.prog 169 = 1 := by kernel_rfl
@[go_sem] theorem Try.tby169 : tby Try.prog 169 = 8 := by kernel_rfl
@[go_sem] theorem Try.tagg169 : tagg Try.prog 169 = false := by kernel_rfl
@[go_sem] theorem Try.tyOk169 : tyOk Try.prog 169 = true := by kernel_rfl
@[go_sem] theorem Try.tzero169 : tzero Try.prog 169 = some (.nilFunc) := by kernel_rfl
@[go_sem] theorem Try.knd170 : knd Try.prog 170 = .fn := by kernel_rfl
@[go_sem] theorem Try.tsz170 : tsz Try.prog 170 = 1 := by kernel_rfl
@[go_sem] theorem Try.tby170 : tby Try.prog 170 = 8 := by kernel_rfl
@[go_sem] theorem Try.tagg170 : tagg Try.prog 170 = false := by kernel_rfl
@[go_sem] theorem Try.tyOk170 : tyOk Try.prog 170 = true := by kernel_rfl
@[go_sem] theorem Try.tzero170 : tzero Try.prog 170 = some (.nilFunc) := by kernel_rfl
@[go_sem] theorem Try.knd171 : knd Try.prog 171 = .fn := by kernel_rfl
@[go_sem] theorem Try.tsz171 : tsz Try.prog 171 = 1 := by kernel_rfl
@[go_sem] theorem Try.tby171 : tby Try.prog 171 = 8 := by kernel_rfl
@[go_sem] theorem Try.tagg171 : tagg Try.prog 171 = false := by kernel_rfl
@[go_sem] theorem Try.tyOk171 : tyOk Try.prog 171 = true := by kernel_rfl
@[go_sem] theorem Try.tzero171 : tzero Try.prog 171 = some (.nilFunc) := by kernel_rfl
@[go_sem] theorem Try.knd172 : knd Try.prog 172 = .fn := by kernel_rfl
@[go_sem] theorem Try.tsz172 : tsz Try.prog 172 = 1 := by kernel_rfl
@[go_sem] theorem Try.tby172 : tby Try.prog 172 = 8 := by kernel_rfl
@[go_sem] theorem Try.tagg172 : tagg Try.prog 172 = false := by kernel_rfl
@[go_sem] theorem Try.tyOk172 : tyOk Try.prog 172 = true := by kernel_rfl
@[go_sem] theorem Try.tzero172 : tzero Try.prog 172 = some (.nilFunc) := by kernel_rfl
@[go_sem] theorem Try.knd173 : knd Try.prog 173 = .fn := by kernel_rfl
@[go_sem] theorem Try.tsz173 : tsz Try.prog 173 = 1 := by kernel_rfl
@[go_sem] theorem Try.tby173 : tby Try.prog 173 = 8 := by kernel_rfl
@[go_sem] theorem Try.tagg173 : tagg Try.prog 173 = false := by kernel_rfl
@[go_sem] theorem Try.tyOk173 : tyOk Try.prog 173 = true := by kernel_rfl
@[go_sem] theorem Try.tzero173 : tzero Try.prog 173 = some (.nilFunc) := by kernel_rfl
@[go_sem] theorem Try.knd174 : knd Try.prog 174 = .fn := by kernel_rfl
@[go_sem] theorem Try.tsz174 : tsz Try.prog 174 = 1 := by kernel_rfl
@[go_sem] theorem Try.tby174 : tby Try.prog 174 = 8 := by kernel_rfl
@[go_sem] theorem Try.tagg174 : tagg Try.prog 174 = false := by kernel_rfl
@[go_sem] theorem Try.tyOk174 : tyOk Try.prog 174 = true := by kernel_rfl
@[go_sem] theorem Try.tzero174 : tzero Try.prog 174 = some (.nilFunc) := by kernel_rfl
@[go_sem] theorem Try.knd176 : knd Try.prog 176 = .fn := by kernel_rfl
@[go_sem] theorem Try.tsz176 : tsz Try.prog 176 = 1 := by kernel_rfl
@[go_sem] theorem Try.tby176 : tby Try.prog 176 = 8 := by kernel_rfl
@[go_sem] theorem Try.tagg176 : tagg Try.prog 176 = false := by kernel_rfl
@[go_sem] theorem Try.tyOk176 : tyOk Try.prog 176 = true := by kernel_rfl
@[go_sem] theorem Try.tzero176 : tzero Try.prog 176 = some (.nilFunc) := by kernel_rfl
@[go_sem] theorem Try.knd177 : knd Try.prog 177 = .fn := by kernel_rfl
@[go_sem] theorem Try.tsz177 : tsz Try.prog 177 = 1 := by kernel_rfl
@[go_sem] theorem Try.tby177 : tby Try.prog 177 = 8 := by kernel_rfl
@[go_sem] theorem Try.tagg177 : tagg Try.prog 177 = false := by kernel_rfl
@[go_sem] theorem Try.tyOk177 : tyOk Try.prog 177 = true := by kernel_rfl
@[go_sem] theorem Try.tzero177 : tzero Try.prog 177 = some (.nilFunc) := by kernel_rfl
@[go_sem] theorem Try.knd178 : knd Try.prog 178 = .slice 183 := by kernel_rfl
@[go_sem] theorem Try.tsz178 : tsz Try.prog 178 = 1 := by kernel_rfl
@[go_sem] theorem Try.tby178 : tby Try.prog 178 = 24 := by kernel_rfl
@[go_sem] theorem Try.tagg178 : tagg Try.prog 178 = false := by kernel_rfl
@[go_sem] theorem Try.tyOk178 : tyOk Try.prog 178 = true := by kernel_rfl
@[go_sem] theorem Try.tzero178 : tzero Try.prog 178 = some (.slice none 0 0) := by kernel_rfl
@[go_sem] theorem Try.knd179 : knd Try.prog 179 = .strct := by kernel_rfl
@[go_sem] theorem Try.tsz179 : tsz Try.prog 179 = 2 := by kernel_rfl
@[go_sem] theorem Try.tby179 : tby Try.prog 179 = 32 := by kernel_rfl
@[go_sem] theorem Try.tagg179 : tagg Try.prog 179 = true := by kernel_rfl
@[go_sem] theorem Try.tyOk179 : tyOk Try.prog 179 = true := by kernel_rfl
@[go_sem] theorem Try.tzero179 : tzero Try.prog 179 = some (.agg #[.int .i64 0, .slice none 0 0]) := by kernel_rfl
@[go_sem] theorem Try.bok179 : builtOk Try.prog 179 = true := by kernel_rfl
@[go_sem] theorem Try.plc179_0 : placeV Try.prog 179 0 = some (0, 1) := by kernel_rfl
@[go_sem] theorem Try.fld179_0 : fld Try.prog 179 0 = some (0, 2) := by kernel_rfl
@[go_sem] theorem Try.plc179_1 : placeV Try.prog 179 1 = some (1, 1) := by kernel_rfl
@[go_sem] theorem Try.fld179_1 : fld Try.prog 179 1 = some (1, 178) := by kernel_rfl
@[go_sem] theorem Try.knd180 : knd Try.prog 180 = .strct := by kernel_rfl
@[go_sem] theorem Try.tsz180 : tsz Try.prog 180 = 2 := by kernel_rfl
@[go_sem] theorem Try.tby180 : tby Try.prog 180 = 32 := by kernel_rfl
@[go_sem] theorem Try.tagg180 : tagg Try.prog 180 = true := by kernel_rfl
@[go_sem] theorem Try.tyOk180 : tyOk Try.prog 180 = true := by kernel_rfl
@[go_sem] theorem Try.tzero180 : tzero Try.prog 180 = some (.agg #[.int .i64 0, .slice none 0 0]) := by kernel_rfl
@[go_sem] theorem Try.bok180 : builtOk Try.prog 180 = true := by kernel_rfl
@[go_sem] theorem Try.plc180_0 : placeV Try.prog 180 0 = some (0, 1) := by kernel_rfl
@[go_sem] theorem Try.fld180_0 : fld Try.prog 180 0 = some (0, 2) := by kernel_rfl
@[go_sem] theorem Try.plc180_1 : placeV Try.prog 180 1 = some (1, 1) := by kernel_rfl
@[go_sem] theorem Try.fld180_1 : fld Try.prog 180 1 = some (1, 178) := by kernel_rfl
@[go_sem] theorem Try.knd181 : knd Try.prog 181 = .fn := by kernel_rfl
@[go_sem] theorem Try.tsz181 : tsz Try.prog 181 = 1 := by kernel_rfl
@[go_sem] theorem Try.tby181 : tby Try.prog 181 = 8 := by kernel_rfl
@[go_sem] theorem Try.tagg181 : tagg Try.prog 181 = false := by kernel_rfl
@[go_sem] theorem Try.tyOk181 : tyOk Try.prog 181 = true := by kernel_rfl
@[go_sem] theorem Try.tzero181 : tzero Try.prog 181 = some (.nilFunc) := by kernel_rfl
@[go_sem] theorem Try.knd182 : knd Try.prog 182 = .strct := by kernel_rfl
@[go_sem] theorem Try.tsz182 : tsz Try.prog 182 = 3 := by kernel_rfl
@[go_sem] theorem Try.tby182 : tby Try.prog 182 = 32 := by kernel_rfl
@[go_sem] theorem Try.tagg182 : tagg Try.prog 182 = true := by kernel_rfl
@[go_sem] theorem Try.tyOk182 : tyOk Try.prog 182 = true := by kernel_rfl
@[go_sem] theorem Try.tzero182 : tzero Try.prog 182 = some (.agg #[.int .i64 0, .string ⟨#[]⟩, .int .i64 0]) := by kernel_rfl
@[go_sem] theorem Try.bok182 : builtOk Try.prog 182 = true := by kernel_rfl
@[go_sem] theorem Try.plc182_0 : placeV Try.prog 182 0 = some (0, 1) := by kernel_rfl
@[go_sem] theorem Try.fld182_0 : fld Try.prog 182 0 = some (0, 2) := by kernel_rfl
@[go_sem] theorem Try.plc182_1 : placeV Try.prog 182 1 = some (1, 2) := by kernel_rfl
@[go_sem] theorem Try.fld182_1 : fld Try.prog 182 1 = some (1, 58) := by kernel_rfl
@[go_sem] theorem Try.knd183 : knd Try.prog 183 = .strct := by kernel_rfl
@[go_sem] theorem Try.tsz183 : tsz Try.prog 183 = 3 := by kernel_rfl
@[go_sem] theorem Try.tby183 : tby Try.prog 183 = 32 := by kernel_rfl
@[go_sem] theorem Try.tagg183 : tagg Try.prog 183 = true := by kernel_rfl
@[go_sem] theorem Try.tyOk183 : tyOk Try.prog 183 = true := by kernel_rfl
@[go_sem] theorem Try.tzero183 : tzero Try.prog 183 = some (.agg #[.int .i64 0, .string ⟨#[]⟩, .int .i64 0]) := by kernel_rfl
@[go_sem] theorem Try.bok183 : builtOk Try.prog 183 = true := by kernel_rfl
@[go_sem] theorem Try.plc183_0 : placeV Try.prog 183 0 = some (0, 1) := by kernel_rfl
@[go_sem] theorem Try.fld183_0 : fld Try.prog 183 0 = some (0, 2) := by kernel_rfl
@[go_sem] theorem Try.plc183_1 : placeV Try.prog 183 1 = some (1, 2) := by kernel_rfl
@[go_sem] theorem Try.fld183_1 : fld Try.prog 183 1 = some (1, 58) := by kernel_rfl
end Go.Proofs
