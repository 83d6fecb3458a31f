/- Texts of the proof, put together: Ty. -/
import Derived.Test.YtiogeggilnhajaaGreatDoorProg
import Derived.Test.YtiogeggilnhajaaGreatDoorGb

set_option maxRecDepth 100000
namespace Go.Proofs
open Go Go.Pl
@[go_sem] theorem Tryz.knd2 : knd Tryz.prog 2 = .int .i64 := by kernel_rfl
@[go_sem] theorem Tryz.tsz2 : tsz Tryz.prog 2 = 1 := by kernel_rfl
@[go_sem] theorem Tryz.tby2 : tby Tryz.prog 2 = 8 := by kernel_rfl
@[go_sem] theorem Tryz.tagg2 : tagg Tryz.prog 2 = false := by kernel_rfl
@[go_sem] theorem Tryz.tyOk2 : tyOk Tryz.prog 2 = true := by kernel_rfl
@[go_sem] theorem Tryz.tzero2 : tzero Tryz.prog 2 = some (.int .i64 0) := by kernel_rfl
@[go_sem] theorem Tryz.knd3 : knd Tryz.prog 3 = .int .i64 := by kernel_rfl
@[go_sem] theorem Tryz.tsz3 : tsz Tryz.prog 3 = 1 := by kernel_rfl
@[go_sem] theorem Tryz.tby3 : tby Tryz.prog 3 = 8 := by kernel_rfl
@[go_sem] theorem Tryz.tagg3 : tagg Tryz.prog 3 = false := by kernel_rfl
@[go_sem] theorem Tryz.tyOk3 : tyOk Tryz.prog 3 = true := by kernel_rfl
@[go_sem] theorem Tryz.tzero3 : tzero Tryz.prog 3 = some (.int .i64 0) := by kernel_rfl
@[go_sem] theorem Tryz.knd4 : knd Tryz.prog 4 = .bool := by kernel_rfl
@[go_sem] theorem Tryz.tsz4 : tsz Tryz.prog 4 = 1 := by kernel_rfl
@[go_sem] theorem Tryz.tagg4 : tagg Tryz.prog 4 = false := by kernel_rfl
@[go_sem] theorem Tryz.tyOk4 : tyOk Tryz.prog 4 = true := by kernel_rfl
@[go_sem] theorem Tryz.knd5 : knd Tryz.prog 5 = .int .u8 := by kernel_rfl
@[go_sem] theorem Tryz.tsz5 : tsz Tryz.prog 5 = 1 := by kernel_rfl
@[go_sem] theorem Tryz.tby5 : tby Tryz.prog 5 = 1 := by kernel_rfl
@[go_sem] theorem Tryz.tyOk5 : tyOk Tryz.prog 5 = true := by kernel_rfl
@[go_sem] theorem Tryz.tzero5 : tzero Tryz.prog 5 = some (.int .u8 0) := by kernel_rfl
@[go_sem] theorem Tryz.knd9 : knd Tryz.prog 9 = .str := by kernel_rfl
@[go_sem] theorem Tryz.tsz9 : tsz Tryz.prog 9 = 1 := by kernel_rfl
@[go_sem] theorem Tryz.tagg9 : tagg Tryz.prog 9 = false := by kernel_rfl
@[go_sem] theorem Tryz.tyOk9 : tyOk Tryz.prog 9 = true := by kernel_rfl
@[go_sem] theorem Tryz.tzero9 : tzero Tryz.prog 9 = some (.string ⟨#[]⟩) := by kernel_rfl
@[go_sem] theorem Tryz.knd22 : knd Tryz.prog 22 = .slice 111 := by kernel_rfl
@[go_sem] theorem Tryz.tsz22 : tsz Tryz.prog 22 = 1 := by kernel_rfl
@[go_sem] theorem Tryz.tagg22 : tagg Tryz.prog 22 = false := by kernel_rfl
@[go_sem] theorem Tryz.tyOk22 : tyOk Tryz.prog 22 = true := by kernel_rfl
@[go_sem] theorem Tryz.knd23 : knd Tryz.prog 23 = .slice 69 := by kernel_rfl
@[go_sem] theorem Tryz.tsz23 : tsz Tryz.prog 23 = 1 := by kernel_rfl
@[go_sem] theorem Tryz.tagg23 : tagg Tryz.prog 23 = false := by kernel_rfl
@[go_sem] theorem Tryz.tyOk23 : tyOk Tryz.prog 23 = true := by kernel_rfl
@[go_sem] theorem Tryz.knd25 : knd Tryz.prog 25 = .strct := by kernel_rfl
@[go_sem] theorem Tryz.tsz25 : tsz Tryz.prog 25 = 3 := by kernel_rfl
@[go_sem] theorem Tryz.tagg25 : tagg Tryz.prog 25 = true := by kernel_rfl
@[go_sem] theorem Tryz.tyOk25 : tyOk Tryz.prog 25 = true := by kernel_rfl
@[go_sem] theorem Tryz.tzero25 : tzero Tryz.prog 25 = some (.agg #[.slice none 0 0, .int .i64 0, .slice none 0 0]) := by kernel_rfl
@[go_sem] theorem Tryz.bok25 : builtOk Tryz.prog 25 = true := by kernel_rfl
@[go_sem] theorem Tryz.plc25_0 : placeV Tryz.prog 25 0 = some (0, 1) := by kernel_rfl
@[go_sem] theorem Tryz.fld25_0 : fld Tryz.prog 25 0 = some (0, 22) := by kernel_rfl
@[go_sem] theorem Tryz.plc25_1 : placeV Tryz.prog 25 1 = some (1, 1) := by kernel_rfl
@[go_sem] theorem Tryz.fld25_1 : fld Tryz.prog 25 1 = some (1, 3) := by kernel_rfl
@[go_sem] theorem Tryz.plc25_2 : placeV Tryz.prog 25 2 = some (2, 1) := by kernel_rfl
@[go_sem] theorem Tryz.fld25_2 : fld Tryz.prog 25 2 = some (2, 23) := by kernel_rfl
@[go_sem] theorem Tryz.knd31 : knd Tryz.prog 31 = .slice 66 := by kernel_rfl
@[go_sem] theorem Tryz.tsz31 : tsz Tryz.prog 31 = 1 := by kernel_rfl
@[go_sem] theorem Tryz.tagg31 : tagg Tryz.prog 31 = false := by kernel_rfl
@[go_sem] theorem Tryz.tyOk31 : tyOk Tryz.prog 31 = true := by kernel_rfl
@[go_sem] theorem Tryz.knd36 : knd Tryz.prog 36 = .slice 77 := by kernel_rfl
@[go_sem] theorem Tryz.knd55 : knd Tryz.prog 55 = .slice 154 := by kernel_rfl
@[go_sem] theorem Tryz.tsz55 : tsz Tryz.prog 55 = 1 := by kernel_rfl
@[go_sem] theorem Tryz.tagg55 : tagg Tryz.prog 55 = false := by kernel_rfl
@[go_sem] theorem Tryz.tyOk55 : tyOk Tryz.prog 55 = true := by kernel_rfl
@[go_sem] theorem Tryz.tsz57 : tsz Tryz.prog 57 = 3 := by kernel_rfl
@[go_sem] theorem Tryz.tagg57 : tagg Tryz.prog 57 = true := by kernel_rfl
@[go_sem] theorem Tryz.tyOk57 : tyOk Tryz.prog 57 = true := by kernel_rfl
@[go_sem] theorem Tryz.tzero57 : tzero Tryz.prog 57 = some (.agg #[.int .i64 0, .bool false, .slice none 0 0]) := by kernel_rfl
@[go_sem] theorem Tryz.fld57_2 : fld Tryz.prog 57 2 = some (2, 55) := by kernel_rfl
@[go_sem] theorem Tryz.knd60 : knd Tryz.prog 60 = .slice 2 := by kernel_rfl
@[go_sem] theorem Tryz.tsz60 : tsz Tryz.prog 60 = 1 := by kernel_rfl
@[go_sem] theorem Tryz.tagg60 : tagg Tryz.prog 60 = false := by kernel_rfl
@[go_sem] theorem Tryz.tyOk60 : tyOk Tryz.prog 60 = true := by kernel_rfl
@[go_sem] theorem Tryz.knd64 : knd Tryz.prog 64 = .int .u16 := by kernel_rfl
@[go_sem] theorem Tryz.tagg64 : tagg Tryz.prog 64 = false := by kernel_rfl
@[go_sem] theorem Tryz.knd66 : knd Tryz.prog 66 = .strct := by kernel_rfl
@[go_sem] theorem Tryz.tsz66 : tsz Tryz.prog 66 = 2 := by kernel_rfl
@[go_sem] theorem Tryz.tby66 : tby Tryz.prog 66 = 16 := by kernel_rfl
@[go_sem] theorem Tryz.tagg66 : tagg Tryz.prog 66 = true := by kernel_rfl
@[go_sem] theorem Tryz.tyOk66 : tyOk Tryz.prog 66 = true := by kernel_rfl
@[go_sem] theorem Tryz.tzero66 : tzero Tryz.prog 66 = some (.agg #[.int .i64 0, .int .i64 0]) := by kernel_rfl
@[go_sem] theorem Tryz.bok66 : builtOk Tryz.prog 66 = true := by kernel_rfl
@[go_sem] theorem Tryz.plc66_0 : placeV Tryz.prog 66 0 = some (0, 1) := by kernel_rfl
@[go_sem] theorem Tryz.fld66_0 : fld Tryz.prog 66 0 = some (0, 3) := by kernel_rfl
@[go_sem] theorem Tryz.plc66_1 : placeV Tryz.prog 66 1 = some (1, 1) := by kernel_rfl
@[go_sem] theorem Tryz.fld66_1 : fld Tryz.prog 66 1 = some (1, 3) := by kernel_rfl
@[go_sem] theorem Tryz.eqOk66 : eqOk Tryz.prog 66 = true := by kernel_rfl
@[go_sem] theorem Tryz.fkinds66 : fkinds Tryz.prog 66 = [.int .i64, .int .i64] := by kernel_rfl
@[go_sem] theorem Tryz.knd69 : knd Tryz.prog 69 = .strct := by kernel_rfl
@[go_sem] theorem Tryz.tsz69 : tsz Tryz.prog 69 = 8 := by kernel_rfl
@[go_sem] theorem Tryz.tby69 : tby Tryz.prog 69 = 64 := by kernel_rfl
@[go_sem] theorem Tryz.tagg69 : tagg Tryz.prog 69 = true := by kernel_rfl
@[go_sem] theorem Tryz.tyOk69 : tyOk Tryz.prog 69 = true := by kernel_rfl
@[go_sem] theorem Tryz.tzero69 : tzero Tryz.prog 69 = some (.agg #[.int .i64 0, .int .i64 0, .int .i64 0, .int .i64 0, .int .i64 0, .int .i64 0, .int .i64 0, .bool false]) := by kernel_rfl
@[go_sem] theorem Tryz.bok69 : builtOk Tryz.prog 69 = true := by kernel_rfl
@[go_sem] theorem Tryz.plc69_0 : placeV Tryz.prog 69 0 = some (0, 1) := by kernel_rfl
@[go_sem] theorem Tryz.fld69_0 : fld Tryz.prog 69 0 = some (0, 3) := by kernel_rfl
@[go_sem] theorem Tryz.fld69_1 : fld Tryz.prog 69 1 = some (1, 3) := by kernel_rfl
@[go_sem] theorem Tryz.plc69_2 : placeV Tryz.prog 69 2 = some (2, 1) := by kernel_rfl
@[go_sem] theorem Tryz.fld69_2 : fld Tryz.prog 69 2 = some (2, 2) := by kernel_rfl
@[go_sem] theorem Tryz.plc69_3 : placeV Tryz.prog 69 3 = some (3, 1) := by kernel_rfl
@[go_sem] theorem Tryz.fld69_3 : fld Tryz.prog 69 3 = some (3, 2) := by kernel_rfl
@[go_sem] theorem Tryz.plc69_4 : placeV Tryz.prog 69 4 = some (4, 1) := by kernel_rfl
@[go_sem] theorem Tryz.fld69_4 : fld Tryz.prog 69 4 = some (4, 2) := by kernel_rfl
@[go_sem] theorem Tryz.plc69_5 : placeV Tryz.prog 69 5 = some (5, 1) := by kernel_rfl
@[go_sem] theorem Tryz.fld69_5 : fld Tryz.prog 69 5 = some (5, 2) := by kernel_rfl
@[go_sem] theorem Tryz.plc69_6 : placeV Tryz.prog 69 6 = some (6, 1) := by kernel_rfl
@[go_sem] theorem Tryz.fld69_6 : fld Tryz.prog 69 6 = some (6, 2) := by kernel_rfl
@[go_sem] theorem Tryz.plc69_7 : placeV Tryz.prog 69 7 = some (7, 1) := by kernel_rfl
@[go_sem] theorem Tryz.fld69_7 : fld Tryz.prog 69 7 = some (7, 4) := by kernel_rfl
@[go_sem] theorem Tryz.eqOk69 : eqOk Tryz.prog 69 = true := by kernel_rfl
@[go_sem] theorem Tryz.fkinds69 : fkinds Tryz.prog 69 = [.int .i64, .int .i64, .int .i64, .int .i64, .int .i64, .int .i64, .int .i64, .bool] := by kernel_rfl
@[go_sem] theorem Tryz.tsz77 : tsz Tryz.prog 77 = 7 := by kernel_rfl
@[go_sem] theorem Tryz.tby77 : tby Tryz.prog 77 = 56 := by kernel_rfl
@[go_sem] theorem Tryz.tagg77 : tagg Tryz.prog 77 = true := by kernel_rfl
@[go_sem] theorem Tryz.tyOk77 : tyOk Tryz.prog 77 = true := by kernel_rfl
@[go_sem] theorem Tryz.tzero77 : tzero Tryz.prog 77 = some (.agg #[.int .i64 0, .int .i64 0, .int .i64 0, .int .i64 0, .int .i64 0, .int .i64 0, .int .i64 0]) := by kernel_rfl
@[go_sem] theorem Tryz.bok77 : builtOk Tryz.prog 77 = true := by kernel_rfl
@[go_sem] theorem Tryz.plc77_0 : placeV Tryz.prog 77 0 = some (0, 1) := by kernel_rfl
@[go_sem] theorem Tryz.plc77_1 : placeV Tryz.prog 77 1 = some (1, 1) := by kernel_rfl
@[go_sem] theorem Tryz.fld77_1 : fld Tryz.prog 77 1 = some (1, 3) := by kernel_rfl
@[go_sem] theorem Tryz.plc77_2 : placeV Tryz.prog 77 2 = some (2, 1) := by kernel_rfl
@[go_sem] theorem Tryz.fld77_2 : fld Tryz.prog 77 2 = some (2, 3) := by kernel_rfl
@[go_sem] theorem Tryz.plc77_3 : placeV Tryz.prog 77 3 = some (3, 1) := by kernel_rfl
@[go_sem] theorem Tryz.fld77_3 : fld Tryz.prog 77 3 = some (3, 2) := by kernel_rfl
@[go_sem] theorem Tryz.plc77_4 : placeV Tryz.prog 77 4 = some (4, 1) := by kernel_rfl
@[go_sem] theorem Tryz.fld77_4 : fld Tryz.prog 77 4 = some (4, 2) := by kernel_rfl
@[go_sem] theorem Tryz.plc77_5 : placeV Tryz.prog 77 5 = some (5, 1) := by kernel_rfl
@[go_sem] theorem Tryz.fld77_5 : fld Tryz.prog 77 5 = some (5, 2) := by kernel_rfl
@[go_sem] theorem Tryz.plc77_6 : placeV Tryz.prog 77 6 = some (6, 1) := by kernel_rfl
@[go_sem] theorem Tryz.fld77_6 : fld Tryz.prog 77 6 = some (6, 2) := by kernel_rfl
@[go_sem] theorem Tryz.eqOk77 : eqOk Tryz.prog 77 = true := by kernel_rfl
@[go_sem] theorem Tryz.fkinds77 : fkinds Tryz.prog 77 = [.int .i64, .int .i64, .int .i64, .int .i64, .int .i64, .int .i64, .int .i64] := by kernel_rfl
@[go_sem] theorem Tryz.knd80 : knd Tryz.prog 80 = .slice 86 := by kernel_rfl
@[go_sem] theorem Tryz.tsz83 : tsz Tryz.prog 83 = 6 := by kernel_rfl
@[go_sem] theorem Tryz.tagg83 : tagg Tryz.prog 83 = true := by kernel_rfl
@[go_sem] theorem Tryz.tyOk83 : tyOk Tryz.prog 83 = true := by kernel_rfl
@[go_sem] theorem Tryz.tzero83 : tzero Tryz.prog 83 = some (.agg #[.bool false, .bool false, .bool false, .bool false, .int .i64 0, .int .i64 0]) := by kernel_rfl
@[go_sem] theorem Tryz.bok83 : builtOk Tryz.prog 83 = true := by kernel_rfl
@[go_sem] theorem Tryz.plc83_0 : placeV Tryz.prog 83 0 = some (0, 1) := by kernel_rfl
@[go_sem] theorem Tryz.fld83_0 : fld Tryz.prog 83 0 = some (0, 4) := by kernel_rfl
@[go_sem] theorem Tryz.plc83_1 : placeV Tryz.prog 83 1 = some (1, 1) := by kernel_rfl
@[go_sem] theorem Tryz.fld83_1 : fld Tryz.prog 83 1 = some (1, 4) := by kernel_rfl
@[go_sem] theorem Tryz.plc83_2 : placeV Tryz.prog 83 2 = some (2, 1) := by kernel_rfl
@[go_sem] theorem Tryz.fld83_2 : fld Tryz.prog 83 2 = some (2, 4) := by kernel_rfl
@[go_sem] theorem Tryz.plc83_3 : placeV Tryz.prog 83 3 = some (3, 1) := by kernel_rfl
@[go_sem] theorem Tryz.fld83_3 : fld Tryz.prog 83 3 = some (3, 4) := by kernel_rfl
@[go_sem] theorem Tryz.plc83_4 : placeV Tryz.prog 83 4 = some (4, 1) := by kernel_rfl
@[go_sem] theorem Tryz.fld83_4 : fld Tryz.prog 83 4 = some (4, 2) := by kernel_rfl
@[go_sem] theorem Tryz.plc83_5 : placeV Tryz.prog 83 5 = some (5, 1) := by kernel_rfl
@[go_sem] theorem Tryz.fld83_5 : fld Tryz.prog 83 5 = some (5, 2) := by kernel_rfl
@[go_sem] theorem Tryz.tsz84 : tsz Tryz.prog 84 = 1 := by kernel_rfl
@[go_sem] theorem Tryz.tagg84 : tagg Tryz.prog 84 = false := by kernel_rfl
@[go_sem] theorem Tryz.tyOk84 : tyOk Tryz.prog 84 = true := by kernel_rfl
@[go_sem] theorem Tryz.tsz86 : tsz Tryz.prog 86 = 7 := by kernel_rfl
@[go_sem] theorem Tryz.tagg86 : tagg Tryz.prog 86 = true := by kernel_rfl
@[go_sem] theorem Tryz.tyOk86 : tyOk Tryz.prog 86 = true := by kernel_rfl
@[go_sem] theorem Tryz.tzero86 : tzero Tryz.prog 86 = some (.agg #[.bool false, .bool false, .bool false, .bool false, .int .i64 0, .int .i64 0, .nilFunc]) := by kernel_rfl
@[go_sem] theorem Tryz.bok86 : builtOk Tryz.prog 86 = true := by kernel_rfl
@[go_sem] theorem Tryz.plc86_0 : placeV Tryz.prog 86 0 = some (0, 6) := by kernel_rfl
@[go_sem] theorem Tryz.fld86_0 : fld Tryz.prog 86 0 = some (0, 83) := by kernel_rfl
@[go_sem] theorem Tryz.plc86_1 : placeV Tryz.prog 86 1 = some (6, 1) := by kernel_rfl
@[go_sem] theorem Tryz.fld86_1 : fld Tryz.prog 86 1 = some (6, 84) := by kernel_rfl
@[go_sem] theorem Tryz.knd88 : knd Tryz.prog 88 = .slice 194 := by kernel_rfl
@[go_sem] theorem Tryz.tsz88 : tsz Tryz.prog 88 = 1 := by kernel_rfl
@[go_sem] theorem Tryz.tagg88 : tagg Tryz.prog 88 = false := by kernel_rfl
@[go_sem] theorem Tryz.tyOk88 : tyOk Tryz.prog 88 = true := by kernel_rfl
@[go_sem] theorem Tryz.knd89 : knd Tryz.prog 89 = .map 2 106 := by kernel_rfl
@[go_sem] theorem Tryz.tsz89 : tsz Tryz.prog 89 = 1 := by kernel_rfl
@[go_sem] theorem Tryz.tagg89 : tagg Tryz.prog 89 = false := by kernel_rfl
@[go_sem] theorem Tryz.tyOk89 : tyOk Tryz.prog 89 = true := by kernel_rfl
@[go_sem] theorem Tryz.knd90 : knd Tryz.prog 90 = .map 2 188 := by kernel_rfl
@[go_sem] theorem Tryz.tsz90 : tsz Tryz.prog 90 = 1 := by kernel_rfl
@[go_sem] theorem Tryz.tagg90 : tagg Tryz.prog 90 = false := by kernel_rfl
@[go_sem] theorem Tryz.tyOk90 : tyOk Tryz.prog 90 = true := by kernel_rfl
@[go_sem] theorem Tryz.knd91 : knd Tryz.prog 91 = .map 2 197 := by kernel_rfl
@[go_sem] theorem Tryz.tsz91 : tsz Tryz.prog 91 = 1 := by kernel_rfl
@[go_sem] theorem Tryz.tagg91 : tagg Tryz.prog 91 = false := by kernel_rfl
@[go_sem] theorem Tryz.tyOk91 : tyOk Tryz.prog 91 = true := by kernel_rfl
@[go_sem] theorem Tryz.knd92 : knd Tryz.prog 92 = .map 2 3 := by kernel_rfl
@[go_sem] theorem Tryz.tsz92 : tsz Tryz.prog 92 = 1 := by kernel_rfl
@[go_sem] theorem Tryz.tagg92 : tagg Tryz.prog 92 = false := by kernel_rfl
@[go_sem] theorem Tryz.tyOk92 : tyOk Tryz.prog 92 = true := by kernel_rfl
@[go_sem] theorem Tryz.tsz94 : tsz Tryz.prog 94 = 13 := by kernel_rfl
@[go_sem] theorem Tryz.tyOk94 : tyOk Tryz.prog 94 = true := by kernel_rfl
@[go_sem] theorem Tryz.tzero94 : tzero Tryz.prog 94 = some (.agg #[.slice none 0 0, .int .i64 0, .slice none 0 0, .int .i64 0, .int .i64 0, .slice none 0 0, .map none, .slice none 0 0, .map none, .map none, .map none, .bool false, .slice none 0 0]) := by kernel_rfl
@[go_sem] theorem Tryz.bok94 : builtOk Tryz.prog 94 = true := by kernel_rfl
@[go_sem] theorem Tryz.plc94_0 : placeV Tryz.prog 94 0 = some (0, 3) := by kernel_rfl
@[go_sem] theorem Tryz.fld94_0 : fld Tryz.prog 94 0 = some (0, 25) := by kernel_rfl
@[go_sem] theorem Tryz.fld94_1 : fld Tryz.prog 94 1 = some (3, 2) := by kernel_rfl
@[go_sem] theorem Tryz.fld94_2 : fld Tryz.prog 94 2 = some (4, 3) := by kernel_rfl
@[go_sem] theorem Tryz.plc94_3 : placeV Tryz.prog 94 3 = some (5, 1) := by kernel_rfl
@[go_sem] theorem Tryz.fld94_3 : fld Tryz.prog 94 3 = some (5, 88) := by kernel_rfl
@[go_sem] theorem Tryz.plc94_4 : placeV Tryz.prog 94 4 = some (6, 1) := by kernel_rfl
@[go_sem] theorem Tryz.fld94_4 : fld Tryz.prog 94 4 = some (6, 89) := by kernel_rfl
@[go_sem] theorem Tryz.fld94_5 : fld Tryz.prog 94 5 = some (7, 60) := by kernel_rfl
@[go_sem] theorem Tryz.plc94_6 : placeV Tryz.prog 94 6 = some (8, 1) := by kernel_rfl
@[go_sem] theorem Tryz.fld94_6 : fld Tryz.prog 94 6 = some (8, 90) := by kernel_rfl
@[go_sem] theorem Tryz.plc94_7 : placeV Tryz.prog 94 7 = some (9, 1) := by kernel_rfl
@[go_sem] theorem Tryz.fld94_7 : fld Tryz.prog 94 7 = some (9, 91) := by kernel_rfl
@[go_sem] theorem Tryz.plc94_8 : placeV Tryz.prog 94 8 = some (10, 1) := by kernel_rfl
@[go_sem] theorem Tryz.fld94_8 : fld Tryz.prog 94 8 = some (10, 92) := by kernel_rfl
@[go_sem] theorem Tryz.fld94_9 : fld Tryz.prog 94 9 = some (11, 4) := by kernel_rfl
@[go_sem] theorem Tryz.fld94_10 : fld Tryz.prog 94 10 = some (12, 31) := by kernel_rfl
@[go_sem] theorem Tryz.tsz95 : tsz Tryz.prog 95 = 1 := by kernel_rfl
@[go_sem] theorem Tryz.tagg95 : tagg Tryz.prog 95 = false := by kernel_rfl
@[go_sem] theorem Tryz.tyOk95 : tyOk Tryz.prog 95 = true := by kernel_rfl
@[go_sem] theorem Tryz.tsz105 : tsz Tryz.prog 105 = 10 := by kernel_rfl
@[go_sem] theorem Tryz.tyOk105 : tyOk Tryz.prog 105 = true := by kernel_rfl
@[go_sem] theorem Tryz.tzero105 : tzero Tryz.prog 105 = some (.agg #[.int .i64 0, .int .i64 0, .int .i64 0, .int .i64 0, .int .i64 0, .int .i64 0, .int .i64 0, .int .i64 0, .int .i64 0, .int .i64 0]) := by kernel_rfl
@[go_sem] theorem Tryz.bok105 : builtOk Tryz.prog 105 = true := by kernel_rfl
@[go_sem] theorem Tryz.plc105_0 : placeV Tryz.prog 105 0 = some (0, 7) := by kernel_rfl
@[go_sem] theorem Tryz.fld105_0 : fld Tryz.prog 105 0 = some (0, 77) := by kernel_rfl
@[go_sem] theorem Tryz.plc105_1 : placeV Tryz.prog 105 1 = some (7, 1) := by kernel_rfl
@[go_sem] theorem Tryz.fld105_1 : fld Tryz.prog 105 1 = some (7, 3) := by kernel_rfl
@[go_sem] theorem Tryz.fld105_2 : fld Tryz.prog 105 2 = some (8, 2) := by kernel_rfl
@[go_sem] theorem Tryz.fld105_3 : fld Tryz.prog 105 3 = some (9, 2) := by kernel_rfl
@[go_sem] theorem Tryz.knd106 : knd Tryz.prog 106 = .ptr 105 := by kernel_rfl
@[go_sem] theorem Tryz.tzero106 : tzero Tryz.prog 106 = some (.pointer none) := by kernel_rfl
@[go_sem] theorem Tryz.knd111 : knd Tryz.prog 111 = .strct := by kernel_rfl
@[go_sem] theorem Tryz.tsz111 : tsz Tryz.prog 111 = 4 := by kernel_rfl
@[go_sem] theorem Tryz.tby111 : tby Tryz.prog 111 = 32 := by kernel_rfl
@[go_sem] theorem Tryz.tagg111 : tagg Tryz.prog 111 = true := by kernel_rfl
@[go_sem] theorem Tryz.tyOk111 : tyOk Tryz.prog 111 = true := by kernel_rfl
@[go_sem] theorem Tryz.tzero111 : tzero Tryz.prog 111 = some (.agg #[.int .i64 0, .int .i64 0, .int .i64 0, .int .i64 0]) := by kernel_rfl
@[go_sem] theorem Tryz.bok111 : builtOk Tryz.prog 111 = true := by kernel_rfl
@[go_sem] theorem Tryz.plc111_0 : placeV Tryz.prog 111 0 = some (0, 1) := by kernel_rfl
@[go_sem] theorem Tryz.fld111_0 : fld Tryz.prog 111 0 = some (0, 3) := by kernel_rfl
@[go_sem] theorem Tryz.plc111_1 : placeV Tryz.prog 111 1 = some (1, 1) := by kernel_rfl
@[go_sem] theorem Tryz.fld111_1 : fld Tryz.prog 111 1 = some (1, 3) := by kernel_rfl
@[go_sem] theorem Tryz.plc111_2 : placeV Tryz.prog 111 2 = some (2, 1) := by kernel_rfl
@[go_sem] theorem Tryz.fld111_2 : fld Tryz.prog 111 2 = some (2, 2) := by kernel_rfl
@[go_sem] theorem Tryz.plc111_3 : placeV Tryz.prog 111 3 = some (3, 1) := by kernel_rfl
@[go_sem] theorem Tryz.fld111_3 : fld Tryz.prog 111 3 = some (3, 2) := by kernel_rfl
@[go_sem] theorem Tryz.knd113 : knd Tryz.prog 113 = .slice 3 := by kernel_rfl
@[go_sem] theorem Tryz.knd120 : knd Tryz.prog 120 = .slice 5 := by kernel_rfl
@[go_sem] theorem Tryz.tsz120 : tsz Tryz.prog 120 = 1 := by kernel_rfl
@[go_sem] theorem Tryz.tagg120 : tagg Tryz.prog 120 = false := by kernel_rfl
@[go_sem] theorem Tryz.tyOk120 : tyOk Tryz.prog 120 = true := by kernel_rfl
@[go_sem] theorem Tryz.tsz122 : tsz Tryz.prog 122 = 2 := by kernel_rfl
@[go_sem] theorem Tryz.tyOk122 : tyOk Tryz.prog 122 = true := by kernel_rfl
@[go_sem] theorem Tryz.tzero122 : tzero Tryz.prog 122 = some (.agg #[.pointer none, .slice none 0 0]) := by kernel_rfl
@[go_sem] theorem Tryz.fld122_1 : fld Tryz.prog 122 1 = some (1, 120) := by kernel_rfl
@[go_sem] theorem Tryz.knd123 : knd Tryz.prog 123 = .slice 9 := by kernel_rfl
@[go_sem] theorem Tryz.tsz154 : tsz Tryz.prog 154 = 11 := by kernel_rfl
@[go_sem] theorem Tryz.tby154 : tby Tryz.prog 154 = 152 := by kernel_rfl
@[go_sem] theorem Tryz.tyOk154 : tyOk Tryz.prog 154 = true := by kernel_rfl
@[go_sem] theorem Tryz.tzero154 : tzero Tryz.prog 154 = some (.agg #[.int .i64 0, .int .i64 0, .int .i64 0, .int .i64 0, .slice none 0 0, .slice none 0 0, .slice none 0 0, .slice none 0 0, .bool false, .int .i64 0, .int .i64 0]) := by kernel_rfl
@[go_sem] theorem Tryz.bok154 : builtOk Tryz.prog 154 = true := by kernel_rfl
@[go_sem] theorem Tryz.plc154_0 : placeV Tryz.prog 154 0 = some (0, 4) := by kernel_rfl
@[go_sem] theorem Tryz.plc154_5 : placeV Tryz.prog 154 5 = some (8, 1) := by kernel_rfl
@[go_sem] theorem Tryz.knd188 : knd Tryz.prog 188 = .ptr 190 := by kernel_rfl
@[go_sem] theorem Tryz.tzero188 : tzero Tryz.prog 188 = some (.pointer none) := by kernel_rfl
@[go_sem] theorem Tryz.tsz190 : tsz Tryz.prog 190 = 5 := by kernel_rfl
@[go_sem] theorem Tryz.tyOk190 : tyOk Tryz.prog 190 = true := by kernel_rfl
@[go_sem] theorem Tryz.tzero190 : tzero Tryz.prog 190 = some (.agg #[.bool false, .bool false, .int .i64 0, .int .i64 0, .int .i64 0]) := by kernel_rfl
@[go_sem] theorem Tryz.bok190 : builtOk Tryz.prog 190 = true := by kernel_rfl
@[go_sem] theorem Tryz.plc190_0 : placeV Tryz.prog 190 0 = some (0, 1) := by kernel_rfl
@[go_sem] theorem Tryz.fld190_0 : fld Tryz.prog 190 0 = some (0, 4) := by kernel_rfl
@[go_sem] theorem Tryz.fld190_1 : fld Tryz.prog 190 1 = some (1, 4) := by kernel_rfl
@[go_sem] theorem Tryz.fld190_2 : fld Tryz.prog 190 2 = some (2, 3) := by kernel_rfl
@[go_sem] theorem Tryz.plc190_3 : placeV Tryz.prog 190 3 = some (3, 1) := by kernel_rfl
@[go_sem] theorem Tryz.fld190_3 : fld Tryz.prog 190 3 = some (3, 3) := by kernel_rfl
@[go_sem] theorem Tryz.fld190_4 : fld Tryz.prog 190 4 = some (4, 3) := by kernel_rfl
@[go_sem] theorem Tryz.tsz194 : tsz Tryz.prog 194 = 6 := by kernel_rfl
@[go_sem] theorem Tryz.tby194 : tby Tryz.prog 194 = 64 := by kernel_rfl
@[go_sem] theorem Tryz.tagg194 : tagg Tryz.prog 194 = true := by kernel_rfl
@[go_sem] theorem Tryz.tyOk194 : tyOk Tryz.prog 194 = true := by kernel_rfl
@[go_sem] theorem Tryz.tzero194 : tzero Tryz.prog 194 = some (.agg #[.bool false, .int .i64 0, .int .i64 0, .int .i64 0, .int .i64 0, .slice none 0 0]) := by kernel_rfl
@[go_sem] theorem Tryz.fld194_0 : fld Tryz.prog 194 0 = some (0, 4) := by kernel_rfl
@[go_sem] theorem Tryz.fld194_1 : fld Tryz.prog 194 1 = some (1, 3) := by kernel_rfl
@[go_sem] theorem Tryz.fld194_2 : fld Tryz.prog 194 2 = some (2, 2) := by kernel_rfl
@[go_sem] theorem Tryz.fld194_3 : fld Tryz.prog 194 3 = some (3, 3) := by kernel_rfl
@[go_sem] theorem Tryz.fld194_4 : fld Tryz.prog 194 4 = some (4, 3) := by kernel_rfl
@[go_sem] theorem Tryz.fld194_5 : fld Tryz.prog 194 5 = some (5, 60) := by kernel_rfl
@[go_sem] theorem Tryz.tsz197 : tsz Tryz.prog 197 = 3 := by kernel_rfl
@[go_sem] theorem Tryz.tagg197 : tagg Tryz.prog 197 = true := by kernel_rfl
@[go_sem] theorem Tryz.tyOk197 : tyOk Tryz.prog 197 = true := by kernel_rfl
@[go_sem] theorem Tryz.tzero197 : tzero Tryz.prog 197 = some (.agg #[.bool false, .bool false, .bool false]) := by kernel_rfl
@[go_sem] theorem Tryz.bok197 : builtOk Tryz.prog 197 = true := by kernel_rfl
@[go_sem] theorem Tryz.plc197_0 : placeV Tryz.prog 197 0 = some (0, 1) := by kernel_rfl
@[go_sem] theorem Tryz.fld197_0 : fld Tryz.prog 197 0 = some (0, 4) := by kernel_rfl
@[go_sem] theorem Tryz.plc197_1 : placeV Tryz.prog 197 1 = some (1, 1) := by kernel_rfl
@[go_sem] theorem Tryz.fld197_1 : fld Tryz.prog 197 1 = some (1, 4) := by kernel_rfl
@[go_sem] theorem Tryz.plc197_2 : placeV Tryz.prog 197 2 = some (2, 1) := by kernel_rfl
@[go_sem] theorem Tryz.eqOk197 : eqOk Tryz.prog 197 = true := by kernel_rfl
@[go_sem] theorem Tryz.fkinds197 : fkinds Tryz.prog 197 = [.bool, .bool, .bool] := by kernel_rfl
@[go_sem] theorem Tryz.knd213 : knd Tryz.prog 213 = .int .u32 := by kernel_rfl
@[go_sem] theorem Tryz.knd236 : knd Tryz.prog 236 = .int .u64 := by kernel_rfl
@[go_sem] theorem Tryz.knd255 : knd Tryz.prog 255 = .int .u64 := by kernel_rfl
end Go.Proofs
